/- Contracts of the functions that the law reaches, and the rules by which they are walked. They say what a call hands back for every input within the bounds that each names; no other condition. -/
import Derived.Test.YtjiffehkemeloaaDoorBv2
section
namespace Go.Proofs.YtjiffehkemeloaaDoor
open Go Go.RowKit Go.Pg
set_option linter.unusedSimpArgs false
set_option linter.unusedVariables false
set_option maxRecDepth 20000
attribute [local go_sem] Tryd.underlying3 Tryd.underlying4 Tryd.underlying41 Tryd.underlying38 Tryd.underlying72 Tryd.underlying71 Tryd.underlying27 Tryd.underlying9 sz3 by3 z3 szQuant zQuant szCor zCor szC3 zC3 szErr zErr eqQuant Bool.and_self

set_option maxHeartbeats 2000000 in
theorem quNorm (k a b c : Int) : Pure Tryd.prog 17 [Qt.av ⟨k, a, b, c⟩] (.tup [(Qt.norm ⟨k, a, b, c⟩).1.av, iv (Qt.norm ⟨k, a, b, c⟩).2]) := by
  have c1 := quRight k a b c
  have c2 := quOf k a b c
  have c3 := quNormArea a b c
  have c4 := quNormPyth a b c
  unfold Qt.norm
  generalize Qt.ok ⟨k, a, b, c⟩ = v at *
  generalize nArea a b c = r1 at *
  generalize nPyth a b c = r2 at *
  obtain ⟨⟨k1, a1, b1, d1⟩, s1⟩ := r1
  obtain ⟨⟨k2, a2, b2, d2⟩, s2⟩ := r2
  cases v
  · refine pure_intro (tok := 0) Tryd.func17 rfl Tryd.ntmps17 Tryd.results17 Tryd.call17 (by rfl) (by simp) ?_
    (repeat' (first | (with_reducible first | refine stp ?_ | apply gx1 | apply gx2 | apply gx3 | apply gx4 | apply gx5 | apply gx6 | apply gx7 | apply gy8 | apply gz2 | apply gz3 | refine gw0 (c1) ?_ ?_ | refine gw3 (c1) ?_ ?_ ?_) | (with_reducible refine all_v ?_; intro _) | ((with_reducible refine gE ?_); (try simp (disch := omega) only [go_sem, ↓reduceIte, Nat.reduceAdd, Nat.reduceSub, Nat.reduceMul, Nat.reduceEqDiff, Nat.reduceLT, Nat.reduceLeDiff, Nat.reduceBEq, Int.reduceNeg, Int.reduceLT, Int.reduceLE, Int.reduceEq, reduceCtorEq, decide_eq_true, decide_eq_false, if_pos, if_neg, Int.reduceAdd, Int.reduceSub, Int.reduceToNat, Int.zero_add]) <;> first | rfl | omega) | with_reducible refine t_in_other (by decide) ?_ | ((with_reducible apply gy1); iterate 3 focus rfl) | ((with_reducible apply gy2); iterate 3 focus rfl) | ((with_reducible apply gy3); iterate 2 focus rfl) | ((with_reducible apply gy4); iterate 1 focus rfl) | ((with_reducible apply gy5); iterate 4 focus rfl) | ((with_reducible apply gy6); iterate 4 focus rfl) | ((with_reducible apply d_bar); iterate 3 focus rfl) | ((with_reducible apply q_pub); iterate 1 focus rfl) | ((with_reducible apply gy7); iterate 1 focus rfl) | ((with_reducible apply gy9); (focus ((with_reducible refine gE ?_); (try simp (disch := omega) only [go_sem, ↓reduceIte, Nat.reduceAdd, Nat.reduceSub, Nat.reduceMul, Nat.reduceEqDiff, Nat.reduceLT, Nat.reduceLeDiff, Nat.reduceBEq, Int.reduceNeg, Int.reduceLT, Int.reduceLE, Int.reduceEq, reduceCtorEq, decide_eq_true, decide_eq_false, if_pos, if_neg, Int.reduceAdd, Int.reduceSub, Int.reduceToNat, Int.zero_add]) <;> rfl))) | ((with_reducible apply gz1); (focus first | rfl | (simp (disch := omega) only [go_sem, ↓reduceIte, Nat.reduceAdd, Nat.reduceSub, Nat.reduceMul, Nat.reduceEqDiff, Nat.reduceLT, Nat.reduceLeDiff, Nat.reduceBEq, Int.reduceNeg, Int.reduceLT, Int.reduceLE, Int.reduceEq, reduceCtorEq, decide_eq_true, decide_eq_false, if_pos, if_neg, Int.reduceAdd, Int.reduceSub, Int.reduceToNat, Int.zero_add]; done))) | ((with_reducible apply r_drawD (pickR []) [] []); (focus kernel_rfl); (focus rfl); (focus kernel_rfl); (focus (simp only [List.length_cons, List.length_nil, Nat.reduceAdd]; rfl))) | ((with_reducible first | apply og_split | apply dg_split | apply cg_split); all_goals (intro hc; (try simp only [Bool.if_false_right, Bool.if_true_left, Bool.if_false_left, Bool.if_true_right, Bool.and_eq_true, Bool.or_eq_true, Bool.and_eq_false_imp, Bool.or_eq_false_iff, decide_eq_true_eq, decide_eq_false_iff_not, beq_iff_eq, bne_iff_ne, beq_eq_false_iff_ne, bne_eq_false_iff_eq, Bool.not_eq_true', Bool.not_eq_false', ne_eq, Decidable.not_not, Int.not_lt, Int.not_le] at hc); try (exfalso; omega)))))
    (all_goals (try simp (disch := omega) only [go_sem, ↓reduceIte, Nat.reduceAdd, Nat.reduceSub, Nat.reduceMul, Nat.reduceEqDiff, Nat.reduceLT, Nat.reduceLeDiff, Nat.reduceBEq, Int.reduceNeg, Int.reduceLT, Int.reduceLE, Int.reduceEq, reduceCtorEq, Qt.av, Qt.zero, decide_eq_true, decide_eq_false, if_pos, if_neg, Int.reduceAdd, Int.reduceSub, Int.reduceToNat, Int.zero_add])); (all_goals first | done | rfl | (congr 2; first | done | omega | (rw [Bool.eq_iff_iff]; simp only [Bool.if_false_right, Bool.if_true_left, Bool.if_false_left, Bool.if_true_right, Bool.and_eq_true, Bool.or_eq_true, Bool.and_eq_false_imp, Bool.or_eq_false_iff, decide_eq_true_eq, decide_eq_false_iff_not, beq_iff_eq, bne_iff_ne, beq_eq_false_iff_ne, bne_eq_false_iff_eq, Bool.not_eq_true', Bool.not_eq_false', ne_eq, Decidable.not_not, Int.not_lt, Int.not_le, Bool.false_eq_true, iff_true, true_iff, iff_false, false_iff]; omega)) | skip)
  · refine pure_intro (tok := 0) Tryd.func17 rfl Tryd.ntmps17 Tryd.results17 Tryd.call17 (by rfl) (by simp) ?_
    (repeat' (first | (with_reducible first | refine stp ?_ | apply gx1 | apply gx2 | apply gx3 | apply gx4 | apply gx5 | apply gx6 | apply gx7 | apply gy8 | apply gz2 | apply gz3 | refine gw0 (c1) ?_ ?_ | refine gw3 (c1) ?_ ?_ ?_ | refine gw0 (c2) ?_ ?_ | refine gw3 (c2) ?_ ?_ ?_ | refine gw0 (c3) ?_ ?_ | refine gw3 (c3) ?_ ?_ ?_ | refine gw0 (c4) ?_ ?_ | refine gw3 (c4) ?_ ?_ ?_) | (with_reducible refine all_v ?_; intro _) | ((with_reducible refine gE ?_); (try simp (disch := omega) only [go_sem, ↓reduceIte, Nat.reduceAdd, Nat.reduceSub, Nat.reduceMul, Nat.reduceEqDiff, Nat.reduceLT, Nat.reduceLeDiff, Nat.reduceBEq, Int.reduceNeg, Int.reduceLT, Int.reduceLE, Int.reduceEq, reduceCtorEq, decide_eq_true, decide_eq_false, if_pos, if_neg, Int.reduceAdd, Int.reduceSub, Int.reduceToNat, Int.zero_add]) <;> first | rfl | omega) | with_reducible refine t_in_other (by decide) ?_ | ((with_reducible apply gy1); iterate 3 focus rfl) | ((with_reducible apply gy2); iterate 3 focus rfl) | ((with_reducible apply gy3); iterate 2 focus rfl) | ((with_reducible apply gy4); iterate 1 focus rfl) | ((with_reducible apply gy5); iterate 4 focus rfl) | ((with_reducible apply gy6); iterate 4 focus rfl) | ((with_reducible apply d_bar); iterate 3 focus rfl) | ((with_reducible apply q_pub); iterate 1 focus rfl) | ((with_reducible apply gy7); iterate 1 focus rfl) | ((with_reducible apply gy9); (focus ((with_reducible refine gE ?_); (try simp (disch := omega) only [go_sem, ↓reduceIte, Nat.reduceAdd, Nat.reduceSub, Nat.reduceMul, Nat.reduceEqDiff, Nat.reduceLT, Nat.reduceLeDiff, Nat.reduceBEq, Int.reduceNeg, Int.reduceLT, Int.reduceLE, Int.reduceEq, reduceCtorEq, decide_eq_true, decide_eq_false, if_pos, if_neg, Int.reduceAdd, Int.reduceSub, Int.reduceToNat, Int.zero_add]) <;> rfl))) | ((with_reducible apply gz1); (focus first | rfl | (simp (disch := omega) only [go_sem, ↓reduceIte, Nat.reduceAdd, Nat.reduceSub, Nat.reduceMul, Nat.reduceEqDiff, Nat.reduceLT, Nat.reduceLeDiff, Nat.reduceBEq, Int.reduceNeg, Int.reduceLT, Int.reduceLE, Int.reduceEq, reduceCtorEq, decide_eq_true, decide_eq_false, if_pos, if_neg, Int.reduceAdd, Int.reduceSub, Int.reduceToNat, Int.zero_add]; done))) | ((with_reducible apply r_drawD (pickR []) [] []); (focus kernel_rfl); (focus rfl); (focus kernel_rfl); (focus (simp only [List.length_cons, List.length_nil, Nat.reduceAdd]; rfl))) | ((with_reducible first | apply og_split | apply dg_split | apply cg_split); all_goals (intro hc; (try simp only [Bool.if_false_right, Bool.if_true_left, Bool.if_false_left, Bool.if_true_right, Bool.and_eq_true, Bool.or_eq_true, Bool.and_eq_false_imp, Bool.or_eq_false_iff, decide_eq_true_eq, decide_eq_false_iff_not, beq_iff_eq, bne_iff_ne, beq_eq_false_iff_ne, bne_eq_false_iff_eq, Bool.not_eq_true', Bool.not_eq_false', ne_eq, Decidable.not_not, Int.not_lt, Int.not_le] at hc); try (exfalso; omega)))))
    (all_goals (try simp (disch := omega) only [go_sem, ↓reduceIte, Nat.reduceAdd, Nat.reduceSub, Nat.reduceMul, Nat.reduceEqDiff, Nat.reduceLT, Nat.reduceLeDiff, Nat.reduceBEq, Int.reduceNeg, Int.reduceLT, Int.reduceLE, Int.reduceEq, reduceCtorEq, Qt.av, Qt.zero, decide_eq_true, decide_eq_false, if_pos, if_neg, Int.reduceAdd, Int.reduceSub, Int.reduceToNat, Int.zero_add])); (all_goals first | done | rfl | (congr 2; first | done | omega | (rw [Bool.eq_iff_iff]; simp only [Bool.if_false_right, Bool.if_true_left, Bool.if_false_left, Bool.if_true_right, Bool.and_eq_true, Bool.or_eq_true, Bool.and_eq_false_imp, Bool.or_eq_false_iff, decide_eq_true_eq, decide_eq_false_iff_not, beq_iff_eq, bne_iff_ne, beq_eq_false_iff_ne, bne_eq_false_iff_eq, Bool.not_eq_true', Bool.not_eq_false', ne_eq, Decidable.not_not, Int.not_lt, Int.not_le, Bool.false_eq_true, iff_true, true_iff, iff_false, false_iff]; omega)) | skip)
set_option maxHeartbeats 2000000 in
theorem rqNorm (k a b c : Int) : Pure Tryd.prog 18 [Qt.av ⟨k, a, b, c⟩] (.tup [(Qt.norm ⟨k, a, b, c⟩).1.av, iv (Qt.norm ⟨k, a, b, c⟩).2]) := by
  have c1 := rqRight k a b c
  have c3 := rqArea a b c
  have c4 := rqPyth a b c
  unfold Qt.norm
  generalize Qt.ok ⟨k, a, b, c⟩ = v at *
  generalize nArea a b c = r1 at *
  generalize nPyth a b c = r2 at *
  obtain ⟨⟨k1, a1, b1, d1⟩, s1⟩ := r1
  obtain ⟨⟨k2, a2, b2, d2⟩, s2⟩ := r2
  cases v
  · refine pure_intro (tok := 0) Tryd.func18 rfl Tryd.ntmps18 Tryd.results18 Tryd.call18 (by rfl) (by simp) ?_
    (repeat' (first | (with_reducible first | refine stp ?_ | apply gx1 | apply gx2 | apply gx3 | apply gx4 | apply gx5 | apply gx6 | apply gx7 | apply gy8 | apply gz2 | apply gz3 | refine gw0 (c1) ?_ ?_ | refine gw3 (c1) ?_ ?_ ?_) | (with_reducible refine all_v ?_; intro _) | ((with_reducible refine gE ?_); (try simp (disch := omega) only [go_sem, ↓reduceIte, Nat.reduceAdd, Nat.reduceSub, Nat.reduceMul, Nat.reduceEqDiff, Nat.reduceLT, Nat.reduceLeDiff, Nat.reduceBEq, Int.reduceNeg, Int.reduceLT, Int.reduceLE, Int.reduceEq, reduceCtorEq, decide_eq_true, decide_eq_false, if_pos, if_neg, Int.reduceAdd, Int.reduceSub, Int.reduceToNat, Int.zero_add]) <;> first | rfl | omega) | with_reducible refine t_in_other (by decide) ?_ | ((with_reducible apply gy1); iterate 3 focus rfl) | ((with_reducible apply gy2); iterate 3 focus rfl) | ((with_reducible apply gy3); iterate 2 focus rfl) | ((with_reducible apply gy4); iterate 1 focus rfl) | ((with_reducible apply gy5); iterate 4 focus rfl) | ((with_reducible apply gy6); iterate 4 focus rfl) | ((with_reducible apply d_bar); iterate 3 focus rfl) | ((with_reducible apply q_pub); iterate 1 focus rfl) | ((with_reducible apply gy7); iterate 1 focus rfl) | ((with_reducible apply gy9); (focus ((with_reducible refine gE ?_); (try simp (disch := omega) only [go_sem, ↓reduceIte, Nat.reduceAdd, Nat.reduceSub, Nat.reduceMul, Nat.reduceEqDiff, Nat.reduceLT, Nat.reduceLeDiff, Nat.reduceBEq, Int.reduceNeg, Int.reduceLT, Int.reduceLE, Int.reduceEq, reduceCtorEq, decide_eq_true, decide_eq_false, if_pos, if_neg, Int.reduceAdd, Int.reduceSub, Int.reduceToNat, Int.zero_add]) <;> rfl))) | ((with_reducible apply gz1); (focus first | rfl | (simp (disch := omega) only [go_sem, ↓reduceIte, Nat.reduceAdd, Nat.reduceSub, Nat.reduceMul, Nat.reduceEqDiff, Nat.reduceLT, Nat.reduceLeDiff, Nat.reduceBEq, Int.reduceNeg, Int.reduceLT, Int.reduceLE, Int.reduceEq, reduceCtorEq, decide_eq_true, decide_eq_false, if_pos, if_neg, Int.reduceAdd, Int.reduceSub, Int.reduceToNat, Int.zero_add]; done))) | ((with_reducible apply r_drawD (pickR []) [] []); (focus kernel_rfl); (focus rfl); (focus kernel_rfl); (focus (simp only [List.length_cons, List.length_nil, Nat.reduceAdd]; rfl))) | ((with_reducible first | apply og_split | apply dg_split | apply cg_split); all_goals (intro hc; (try simp only [Bool.if_false_right, Bool.if_true_left, Bool.if_false_left, Bool.if_true_right, Bool.and_eq_true, Bool.or_eq_true, Bool.and_eq_false_imp, Bool.or_eq_false_iff, decide_eq_true_eq, decide_eq_false_iff_not, beq_iff_eq, bne_iff_ne, beq_eq_false_iff_ne, bne_eq_false_iff_eq, Bool.not_eq_true', Bool.not_eq_false', ne_eq, Decidable.not_not, Int.not_lt, Int.not_le] at hc); try (exfalso; omega)))))
    (all_goals (try simp (disch := omega) only [go_sem, ↓reduceIte, Nat.reduceAdd, Nat.reduceSub, Nat.reduceMul, Nat.reduceEqDiff, Nat.reduceLT, Nat.reduceLeDiff, Nat.reduceBEq, Int.reduceNeg, Int.reduceLT, Int.reduceLE, Int.reduceEq, reduceCtorEq, Qt.av, Qt.zero, decide_eq_true, decide_eq_false, if_pos, if_neg, Int.reduceAdd, Int.reduceSub, Int.reduceToNat, Int.zero_add])); (all_goals first | done | rfl | (congr 2; first | done | omega | (rw [Bool.eq_iff_iff]; simp only [Bool.if_false_right, Bool.if_true_left, Bool.if_false_left, Bool.if_true_right, Bool.and_eq_true, Bool.or_eq_true, Bool.and_eq_false_imp, Bool.or_eq_false_iff, decide_eq_true_eq, decide_eq_false_iff_not, beq_iff_eq, bne_iff_ne, beq_eq_false_iff_ne, bne_eq_false_iff_eq, Bool.not_eq_true', Bool.not_eq_false', ne_eq, Decidable.not_not, Int.not_lt, Int.not_le, Bool.false_eq_true, iff_true, true_iff, iff_false, false_iff]; omega)) | skip)
  · refine pure_intro (tok := 0) Tryd.func18 rfl Tryd.ntmps18 Tryd.results18 Tryd.call18 (by rfl) (by simp) ?_
    (repeat' (first | (with_reducible first | refine stp ?_ | apply gx1 | apply gx2 | apply gx3 | apply gx4 | apply gx5 | apply gx6 | apply gx7 | apply gy8 | apply gz2 | apply gz3 | refine gw0 (c1) ?_ ?_ | refine gw3 (c1) ?_ ?_ ?_ | refine gw0 (c3) ?_ ?_ | refine gw3 (c3) ?_ ?_ ?_ | refine gw0 (c4) ?_ ?_ | refine gw3 (c4) ?_ ?_ ?_) | (with_reducible refine all_v ?_; intro _) | ((with_reducible refine gE ?_); (try simp (disch := omega) only [go_sem, ↓reduceIte, Nat.reduceAdd, Nat.reduceSub, Nat.reduceMul, Nat.reduceEqDiff, Nat.reduceLT, Nat.reduceLeDiff, Nat.reduceBEq, Int.reduceNeg, Int.reduceLT, Int.reduceLE, Int.reduceEq, reduceCtorEq, decide_eq_true, decide_eq_false, if_pos, if_neg, Int.reduceAdd, Int.reduceSub, Int.reduceToNat, Int.zero_add]) <;> first | rfl | omega) | with_reducible refine t_in_other (by decide) ?_ | ((with_reducible apply gy1); iterate 3 focus rfl) | ((with_reducible apply gy2); iterate 3 focus rfl) | ((with_reducible apply gy3); iterate 2 focus rfl) | ((with_reducible apply gy4); iterate 1 focus rfl) | ((with_reducible apply gy5); iterate 4 focus rfl) | ((with_reducible apply gy6); iterate 4 focus rfl) | ((with_reducible apply d_bar); iterate 3 focus rfl) | ((with_reducible apply q_pub); iterate 1 focus rfl) | ((with_reducible apply gy7); iterate 1 focus rfl) | ((with_reducible apply gy9); (focus ((with_reducible refine gE ?_); (try simp (disch := omega) only [go_sem, ↓reduceIte, Nat.reduceAdd, Nat.reduceSub, Nat.reduceMul, Nat.reduceEqDiff, Nat.reduceLT, Nat.reduceLeDiff, Nat.reduceBEq, Int.reduceNeg, Int.reduceLT, Int.reduceLE, Int.reduceEq, reduceCtorEq, decide_eq_true, decide_eq_false, if_pos, if_neg, Int.reduceAdd, Int.reduceSub, Int.reduceToNat, Int.zero_add]) <;> rfl))) | ((with_reducible apply gz1); (focus first | rfl | (simp (disch := omega) only [go_sem, ↓reduceIte, Nat.reduceAdd, Nat.reduceSub, Nat.reduceMul, Nat.reduceEqDiff, Nat.reduceLT, Nat.reduceLeDiff, Nat.reduceBEq, Int.reduceNeg, Int.reduceLT, Int.reduceLE, Int.reduceEq, reduceCtorEq, decide_eq_true, decide_eq_false, if_pos, if_neg, Int.reduceAdd, Int.reduceSub, Int.reduceToNat, Int.zero_add]; done))) | ((with_reducible apply r_drawD (pickR []) [] []); (focus kernel_rfl); (focus rfl); (focus kernel_rfl); (focus (simp only [List.length_cons, List.length_nil, Nat.reduceAdd]; rfl))) | ((with_reducible first | apply og_split | apply dg_split | apply cg_split); all_goals (intro hc; (try simp only [Bool.if_false_right, Bool.if_true_left, Bool.if_false_left, Bool.if_true_right, Bool.and_eq_true, Bool.or_eq_true, Bool.and_eq_false_imp, Bool.or_eq_false_iff, decide_eq_true_eq, decide_eq_false_iff_not, beq_iff_eq, bne_iff_ne, beq_eq_false_iff_ne, bne_eq_false_iff_eq, Bool.not_eq_true', Bool.not_eq_false', ne_eq, Decidable.not_not, Int.not_lt, Int.not_le] at hc); try (exfalso; omega)))))
    (all_goals (try simp (disch := omega) only [go_sem, ↓reduceIte, Nat.reduceAdd, Nat.reduceSub, Nat.reduceMul, Nat.reduceEqDiff, Nat.reduceLT, Nat.reduceLeDiff, Nat.reduceBEq, Int.reduceNeg, Int.reduceLT, Int.reduceLE, Int.reduceEq, reduceCtorEq, Qt.av, Qt.zero, decide_eq_true, decide_eq_false, if_pos, if_neg, Int.reduceAdd, Int.reduceSub, Int.reduceToNat, Int.zero_add])); (all_goals first | done | rfl | (congr 2; first | done | omega | (rw [Bool.eq_iff_iff]; simp only [Bool.if_false_right, Bool.if_true_left, Bool.if_false_left, Bool.if_true_right, Bool.and_eq_true, Bool.or_eq_true, Bool.and_eq_false_imp, Bool.or_eq_false_iff, decide_eq_true_eq, decide_eq_false_iff_not, beq_iff_eq, bne_iff_ne, beq_eq_false_iff_ne, bne_eq_false_iff_eq, Bool.not_eq_true', Bool.not_eq_false', ne_eq, Decidable.not_not, Int.not_lt, Int.not_le, Bool.false_eq_true, iff_true, true_iff, iff_false, false_iff]; omega)) | skip)

/-- The order of two numbers, and of two quantities. -/
def ordI (x y : Int) : Int := if x < y then -1 else if y < x then 1 else 0
def or4 (w x y z : Int) : Int := if w = 0 then (if x = 0 then (if y = 0 then z else y) else x) else w
def Qt.cmp (p q : Qt) : Int := or4 (ordI p.k q.k) (ordI p.a q.a) (ordI p.b q.b) (ordI p.c q.c)
theorem isNaN (x : Int) : Pure Tryd.prog 57 [iv x] (.v (.bool false)) := by
  refine pure_intro (tok := 0) Tryd.func57 rfl Tryd.ntmps57 Tryd.results57 Tryd.call57 (by rfl) (by simp) ?_
  (repeat' (first | (with_reducible first | refine stp ?_ | apply gx1 | apply gx2 | apply gx3 | apply gx4 | apply gx5 | apply gx6 | apply gx7 | apply gy8 | apply gz2 | apply gz3) | (with_reducible refine all_v ?_; intro _) | ((with_reducible refine gE ?_); (try simp (disch := omega) only [go_sem, ↓reduceIte, Nat.reduceAdd, Nat.reduceSub, Nat.reduceMul, Nat.reduceEqDiff, Nat.reduceLT, Nat.reduceLeDiff, Nat.reduceBEq, Int.reduceNeg, Int.reduceLT, Int.reduceLE, Int.reduceEq, reduceCtorEq, decide_eq_true, decide_eq_false, if_pos, if_neg, Int.reduceAdd, Int.reduceSub, Int.reduceToNat, Int.zero_add]) <;> first | rfl | omega) | with_reducible refine t_in_other (by decide) ?_ | ((with_reducible apply gy1); iterate 3 focus rfl) | ((with_reducible apply gy2); iterate 3 focus rfl) | ((with_reducible apply gy3); iterate 2 focus rfl) | ((with_reducible apply gy4); iterate 1 focus rfl) | ((with_reducible apply gy5); iterate 4 focus rfl) | ((with_reducible apply gy6); iterate 4 focus rfl) | ((with_reducible apply d_bar); iterate 3 focus rfl) | ((with_reducible apply q_pub); iterate 1 focus rfl) | ((with_reducible apply gy7); iterate 1 focus rfl) | ((with_reducible apply gy9); (focus ((with_reducible refine gE ?_); (try simp (disch := omega) only [go_sem, ↓reduceIte, Nat.reduceAdd, Nat.reduceSub, Nat.reduceMul, Nat.reduceEqDiff, Nat.reduceLT, Nat.reduceLeDiff, Nat.reduceBEq, Int.reduceNeg, Int.reduceLT, Int.reduceLE, Int.reduceEq, reduceCtorEq, decide_eq_true, decide_eq_false, if_pos, if_neg, Int.reduceAdd, Int.reduceSub, Int.reduceToNat, Int.zero_add]) <;> rfl))) | ((with_reducible apply gz1); (focus first | rfl | (simp (disch := omega) only [go_sem, ↓reduceIte, Nat.reduceAdd, Nat.reduceSub, Nat.reduceMul, Nat.reduceEqDiff, Nat.reduceLT, Nat.reduceLeDiff, Nat.reduceBEq, Int.reduceNeg, Int.reduceLT, Int.reduceLE, Int.reduceEq, reduceCtorEq, decide_eq_true, decide_eq_false, if_pos, if_neg, Int.reduceAdd, Int.reduceSub, Int.reduceToNat, Int.zero_add]; done))) | ((with_reducible apply r_drawD (pickR []) [] []); (focus kernel_rfl); (focus rfl); (focus kernel_rfl); (focus (simp only [List.length_cons, List.length_nil, Nat.reduceAdd]; rfl))) | ((with_reducible first | apply og_split | apply dg_split | apply cg_split); all_goals (intro hc; (try simp only [Bool.if_false_right, Bool.if_true_left, Bool.if_false_left, Bool.if_true_right, Bool.and_eq_true, Bool.or_eq_true, Bool.and_eq_false_imp, Bool.or_eq_false_iff, decide_eq_true_eq, decide_eq_false_iff_not, beq_iff_eq, bne_iff_ne, beq_eq_false_iff_ne, bne_eq_false_iff_eq, Bool.not_eq_true', Bool.not_eq_false', ne_eq, Decidable.not_not, Int.not_lt, Int.not_le] at hc); try (exfalso; omega)))))
  (all_goals (try simp (disch := omega) only [go_sem, ↓reduceIte, Nat.reduceAdd, Nat.reduceSub, Nat.reduceMul, Nat.reduceEqDiff, Nat.reduceLT, Nat.reduceLeDiff, Nat.reduceBEq, Int.reduceNeg, Int.reduceLT, Int.reduceLE, Int.reduceEq, reduceCtorEq, bne_self_eq_false, decide_eq_true, decide_eq_false, if_pos, if_neg, Int.reduceAdd, Int.reduceSub, Int.reduceToNat, Int.zero_add])); (all_goals first | done | rfl | (congr 2; first | done | omega | (rw [Bool.eq_iff_iff]; simp only [Bool.if_false_right, Bool.if_true_left, Bool.if_false_left, Bool.if_true_right, Bool.and_eq_true, Bool.or_eq_true, Bool.and_eq_false_imp, Bool.or_eq_false_iff, decide_eq_true_eq, decide_eq_false_iff_not, beq_iff_eq, bne_iff_ne, beq_eq_false_iff_ne, bne_eq_false_iff_eq, Bool.not_eq_true', Bool.not_eq_false', ne_eq, Decidable.not_not, Int.not_lt, Int.not_le, Bool.false_eq_true, iff_true, true_iff, iff_false, false_iff]; omega)) | skip)
theorem cmpInt (x y : Int) : Pure Tryd.prog 42 [iv x, iv y] (iv (ordI x y)) := by
  have c1 := isNaN x
  have c2 := isNaN y
  refine pure_intro (tok := 0) Tryd.func42 rfl Tryd.ntmps42 Tryd.results42 Tryd.call42 (by rfl) (by simp) ?_
  (repeat' (first | (with_reducible first | refine stp ?_ | apply gx1 | apply gx2 | apply gx3 | apply gx4 | apply gx5 | apply gx6 | apply gx7 | apply gy8 | apply gz2 | apply gz3 | refine gw0 (c1) ?_ ?_ | refine gw3 (c1) ?_ ?_ ?_ | refine gw0 (c2) ?_ ?_ | refine gw3 (c2) ?_ ?_ ?_) | (with_reducible refine all_v ?_; intro _) | ((with_reducible refine gE ?_); (try simp (disch := omega) only [go_sem, ↓reduceIte, Nat.reduceAdd, Nat.reduceSub, Nat.reduceMul, Nat.reduceEqDiff, Nat.reduceLT, Nat.reduceLeDiff, Nat.reduceBEq, Int.reduceNeg, Int.reduceLT, Int.reduceLE, Int.reduceEq, reduceCtorEq, decide_eq_true, decide_eq_false, if_pos, if_neg, Int.reduceAdd, Int.reduceSub, Int.reduceToNat, Int.zero_add]) <;> first | rfl | omega) | with_reducible refine t_in_other (by decide) ?_ | ((with_reducible apply gy1); iterate 3 focus rfl) | ((with_reducible apply gy2); iterate 3 focus rfl) | ((with_reducible apply gy3); iterate 2 focus rfl) | ((with_reducible apply gy4); iterate 1 focus rfl) | ((with_reducible apply gy5); iterate 4 focus rfl) | ((with_reducible apply gy6); iterate 4 focus rfl) | ((with_reducible apply d_bar); iterate 3 focus rfl) | ((with_reducible apply q_pub); iterate 1 focus rfl) | ((with_reducible apply gy7); iterate 1 focus rfl) | ((with_reducible apply gy9); (focus ((with_reducible refine gE ?_); (try simp (disch := omega) only [go_sem, ↓reduceIte, Nat.reduceAdd, Nat.reduceSub, Nat.reduceMul, Nat.reduceEqDiff, Nat.reduceLT, Nat.reduceLeDiff, Nat.reduceBEq, Int.reduceNeg, Int.reduceLT, Int.reduceLE, Int.reduceEq, reduceCtorEq, decide_eq_true, decide_eq_false, if_pos, if_neg, Int.reduceAdd, Int.reduceSub, Int.reduceToNat, Int.zero_add]) <;> rfl))) | ((with_reducible apply gz1); (focus first | rfl | (simp (disch := omega) only [go_sem, ↓reduceIte, Nat.reduceAdd, Nat.reduceSub, Nat.reduceMul, Nat.reduceEqDiff, Nat.reduceLT, Nat.reduceLeDiff, Nat.reduceBEq, Int.reduceNeg, Int.reduceLT, Int.reduceLE, Int.reduceEq, reduceCtorEq, decide_eq_true, decide_eq_false, if_pos, if_neg, Int.reduceAdd, Int.reduceSub, Int.reduceToNat, Int.zero_add]; done))) | ((with_reducible apply r_drawD (pickR []) [] []); (focus kernel_rfl); (focus rfl); (focus kernel_rfl); (focus (simp only [List.length_cons, List.length_nil, Nat.reduceAdd]; rfl))) | ((with_reducible first | apply og_split | apply dg_split | apply cg_split); all_goals (intro hc; (try simp only [Bool.if_false_right, Bool.if_true_left, Bool.if_false_left, Bool.if_true_right, Bool.and_eq_true, Bool.or_eq_true, Bool.and_eq_false_imp, Bool.or_eq_false_iff, decide_eq_true_eq, decide_eq_false_iff_not, beq_iff_eq, bne_iff_ne, beq_eq_false_iff_ne, bne_eq_false_iff_eq, Bool.not_eq_true', Bool.not_eq_false', ne_eq, Decidable.not_not, Int.not_lt, Int.not_le] at hc); try (exfalso; omega)))))
  (all_goals (try simp (disch := omega) only [go_sem, ↓reduceIte, Nat.reduceAdd, Nat.reduceSub, Nat.reduceMul, Nat.reduceEqDiff, Nat.reduceLT, Nat.reduceLeDiff, Nat.reduceBEq, Int.reduceNeg, Int.reduceLT, Int.reduceLE, Int.reduceEq, reduceCtorEq, ordI, decide_eq_true, decide_eq_false, if_pos, if_neg, Int.reduceAdd, Int.reduceSub, Int.reduceToNat, Int.zero_add])); (all_goals first | done | rfl | (congr 2; first | done | omega | (rw [Bool.eq_iff_iff]; simp only [Bool.if_false_right, Bool.if_true_left, Bool.if_false_left, Bool.if_true_right, Bool.and_eq_true, Bool.or_eq_true, Bool.and_eq_false_imp, Bool.or_eq_false_iff, decide_eq_true_eq, decide_eq_false_iff_not, beq_iff_eq, bne_iff_ne, beq_eq_false_iff_ne, bne_eq_false_iff_eq, Bool.not_eq_true', Bool.not_eq_false', ne_eq, Decidable.not_not, Int.not_lt, Int.not_le, Bool.false_eq_true, iff_true, true_iff, iff_false, false_iff]; omega)) | skip)
theorem rqOrder (x y : Int) : Pure Tryd.prog 43 [iv x, iv y] (iv (ordI x y)) := by
  refine pure_intro (tok := 0) Tryd.func43 rfl Tryd.ntmps43 Tryd.results43 Tryd.call43 (by rfl) (by simp) ?_
  (repeat' (first | (with_reducible first | refine stp ?_ | apply gx1 | apply gx2 | apply gx3 | apply gx4 | apply gx5 | apply gx6 | apply gx7 | apply gy8 | apply gz2 | apply gz3) | (with_reducible refine all_v ?_; intro _) | ((with_reducible refine gE ?_); (try simp (disch := omega) only [go_sem, ↓reduceIte, Nat.reduceAdd, Nat.reduceSub, Nat.reduceMul, Nat.reduceEqDiff, Nat.reduceLT, Nat.reduceLeDiff, Nat.reduceBEq, Int.reduceNeg, Int.reduceLT, Int.reduceLE, Int.reduceEq, reduceCtorEq, decide_eq_true, decide_eq_false, if_pos, if_neg, Int.reduceAdd, Int.reduceSub, Int.reduceToNat, Int.zero_add]) <;> first | rfl | omega) | with_reducible refine t_in_other (by decide) ?_ | ((with_reducible apply gy1); iterate 3 focus rfl) | ((with_reducible apply gy2); iterate 3 focus rfl) | ((with_reducible apply gy3); iterate 2 focus rfl) | ((with_reducible apply gy4); iterate 1 focus rfl) | ((with_reducible apply gy5); iterate 4 focus rfl) | ((with_reducible apply gy6); iterate 4 focus rfl) | ((with_reducible apply d_bar); iterate 3 focus rfl) | ((with_reducible apply q_pub); iterate 1 focus rfl) | ((with_reducible apply gy7); iterate 1 focus rfl) | ((with_reducible apply gy9); (focus ((with_reducible refine gE ?_); (try simp (disch := omega) only [go_sem, ↓reduceIte, Nat.reduceAdd, Nat.reduceSub, Nat.reduceMul, Nat.reduceEqDiff, Nat.reduceLT, Nat.reduceLeDiff, Nat.reduceBEq, Int.reduceNeg, Int.reduceLT, Int.reduceLE, Int.reduceEq, reduceCtorEq, decide_eq_true, decide_eq_false, if_pos, if_neg, Int.reduceAdd, Int.reduceSub, Int.reduceToNat, Int.zero_add]) <;> rfl))) | ((with_reducible apply gz1); (focus first | rfl | (simp (disch := omega) only [go_sem, ↓reduceIte, Nat.reduceAdd, Nat.reduceSub, Nat.reduceMul, Nat.reduceEqDiff, Nat.reduceLT, Nat.reduceLeDiff, Nat.reduceBEq, Int.reduceNeg, Int.reduceLT, Int.reduceLE, Int.reduceEq, reduceCtorEq, decide_eq_true, decide_eq_false, if_pos, if_neg, Int.reduceAdd, Int.reduceSub, Int.reduceToNat, Int.zero_add]; done))) | ((with_reducible apply r_drawD (pickR []) [] []); (focus kernel_rfl); (focus rfl); (focus kernel_rfl); (focus (simp only [List.length_cons, List.length_nil, Nat.reduceAdd]; rfl))) | ((with_reducible first | apply og_split | apply dg_split | apply cg_split); all_goals (intro hc; (try simp only [Bool.if_false_right, Bool.if_true_left, Bool.if_false_left, Bool.if_true_right, Bool.and_eq_true, Bool.or_eq_true, Bool.and_eq_false_imp, Bool.or_eq_false_iff, decide_eq_true_eq, decide_eq_false_iff_not, beq_iff_eq, bne_iff_ne, beq_eq_false_iff_ne, bne_eq_false_iff_eq, Bool.not_eq_true', Bool.not_eq_false', ne_eq, Decidable.not_not, Int.not_lt, Int.not_le] at hc); try (exfalso; omega)))))
  (all_goals (try simp (disch := omega) only [go_sem, ↓reduceIte, Nat.reduceAdd, Nat.reduceSub, Nat.reduceMul, Nat.reduceEqDiff, Nat.reduceLT, Nat.reduceLeDiff, Nat.reduceBEq, Int.reduceNeg, Int.reduceLT, Int.reduceLE, Int.reduceEq, reduceCtorEq, ordI, decide_eq_true, decide_eq_false, if_pos, if_neg, Int.reduceAdd, Int.reduceSub, Int.reduceToNat, Int.zero_add])); (all_goals first | done | rfl | (congr 2; first | done | omega | (rw [Bool.eq_iff_iff]; simp only [Bool.if_false_right, Bool.if_true_left, Bool.if_false_left, Bool.if_true_right, Bool.and_eq_true, Bool.or_eq_true, Bool.and_eq_false_imp, Bool.or_eq_false_iff, decide_eq_true_eq, decide_eq_false_iff_not, beq_iff_eq, bne_iff_ne, beq_eq_false_iff_ne, bne_eq_false_iff_eq, Bool.not_eq_true', Bool.not_eq_false', ne_eq, Decidable.not_not, Int.not_lt, Int.not_le, Bool.false_eq_true, iff_true, true_iff, iff_false, false_iff]; omega)) | skip)
theorem cmpOr (w x y z : Int) : Pure Tryd.prog 41 [.sl 1 [iv w, iv x, iv y, iv z]] (iv (or4 w x y z)) := by
  refine pure_intro (tok := 0) Tryd.func41 rfl Tryd.ntmps41 Tryd.results41 Tryd.call41 (by rfl) (by simp) ?_
  (repeat' (first | (with_reducible first | refine stp ?_ | apply gx1 | apply gx2 | apply gx3 | apply gx4 | apply gx5 | apply gx6 | apply gx7 | apply gy8 | apply gz2 | apply gz3) | (with_reducible refine all_v ?_; intro _) | ((with_reducible refine gE ?_); (try simp (disch := omega) only [go_sem, ↓reduceIte, Nat.reduceAdd, Nat.reduceSub, Nat.reduceMul, Nat.reduceEqDiff, Nat.reduceLT, Nat.reduceLeDiff, Nat.reduceBEq, Int.reduceNeg, Int.reduceLT, Int.reduceLE, Int.reduceEq, reduceCtorEq, decide_eq_true, decide_eq_false, if_pos, if_neg, Int.reduceAdd, Int.reduceSub, Int.reduceToNat, Int.zero_add]) <;> first | rfl | omega) | with_reducible refine t_in_other (by decide) ?_ | ((with_reducible apply gy1); iterate 3 focus rfl) | ((with_reducible apply gy2); iterate 3 focus rfl) | ((with_reducible apply gy3); iterate 2 focus rfl) | ((with_reducible apply gy4); iterate 1 focus rfl) | ((with_reducible apply gy5); iterate 4 focus rfl) | ((with_reducible apply gy6); iterate 4 focus rfl) | ((with_reducible apply d_bar); iterate 3 focus rfl) | ((with_reducible apply q_pub); iterate 1 focus rfl) | ((with_reducible apply gy7); iterate 1 focus rfl) | ((with_reducible apply gy9); (focus ((with_reducible refine gE ?_); (try simp (disch := omega) only [go_sem, ↓reduceIte, Nat.reduceAdd, Nat.reduceSub, Nat.reduceMul, Nat.reduceEqDiff, Nat.reduceLT, Nat.reduceLeDiff, Nat.reduceBEq, Int.reduceNeg, Int.reduceLT, Int.reduceLE, Int.reduceEq, reduceCtorEq, decide_eq_true, decide_eq_false, if_pos, if_neg, Int.reduceAdd, Int.reduceSub, Int.reduceToNat, Int.zero_add]) <;> rfl))) | ((with_reducible apply gz1); (focus first | rfl | (simp (disch := omega) only [go_sem, ↓reduceIte, Nat.reduceAdd, Nat.reduceSub, Nat.reduceMul, Nat.reduceEqDiff, Nat.reduceLT, Nat.reduceLeDiff, Nat.reduceBEq, Int.reduceNeg, Int.reduceLT, Int.reduceLE, Int.reduceEq, reduceCtorEq, decide_eq_true, decide_eq_false, if_pos, if_neg, Int.reduceAdd, Int.reduceSub, Int.reduceToNat, Int.zero_add]; done))) | ((with_reducible apply r_drawD (pickR []) [] []); (focus kernel_rfl); (focus rfl); (focus kernel_rfl); (focus (simp only [List.length_cons, List.length_nil, Nat.reduceAdd]; rfl))) | ((with_reducible first | apply og_split | apply dg_split | apply cg_split); all_goals (intro hc; (try simp only [Bool.if_false_right, Bool.if_true_left, Bool.if_false_left, Bool.if_true_right, Bool.and_eq_true, Bool.or_eq_true, Bool.and_eq_false_imp, Bool.or_eq_false_iff, decide_eq_true_eq, decide_eq_false_iff_not, beq_iff_eq, bne_iff_ne, beq_eq_false_iff_ne, bne_eq_false_iff_eq, Bool.not_eq_true', Bool.not_eq_false', ne_eq, Decidable.not_not, Int.not_lt, Int.not_le] at hc); try (exfalso; omega))) | ((with_reducible apply r_rounds 6); (focus rfl))))
  (all_goals (try simp (disch := omega) only [go_sem, ↓reduceIte, Nat.reduceAdd, Nat.reduceSub, Nat.reduceMul, Nat.reduceEqDiff, Nat.reduceLT, Nat.reduceLeDiff, Nat.reduceBEq, Int.reduceNeg, Int.reduceLT, Int.reduceLE, Int.reduceEq, reduceCtorEq, or4, decide_eq_true, decide_eq_false, if_pos, if_neg, Int.reduceAdd, Int.reduceSub, Int.reduceToNat, Int.zero_add])); (all_goals first | done | rfl | (congr 2; first | done | omega | (rw [Bool.eq_iff_iff]; simp only [Bool.if_false_right, Bool.if_true_left, Bool.if_false_left, Bool.if_true_right, Bool.and_eq_true, Bool.or_eq_true, Bool.and_eq_false_imp, Bool.or_eq_false_iff, decide_eq_true_eq, decide_eq_false_iff_not, beq_iff_eq, bne_iff_ne, beq_eq_false_iff_ne, bne_eq_false_iff_eq, Bool.not_eq_true', Bool.not_eq_false', ne_eq, Decidable.not_not, Int.not_lt, Int.not_le, Bool.false_eq_true, iff_true, true_iff, iff_false, false_iff]; omega)) | skip)
theorem ordI_eq (x : Int) : ordI x x = 0 := by unfold ordI; simp
theorem ordI_ne {x y : Int} (h : x ≠ y) : ordI x y ≠ 0 := by unfold ordI; split <;> (try split) <;> omega
set_option maxHeartbeats 2000000 in
theorem quCmp (k a b c k' a' b' c' : Int) : Pure Tryd.prog 24 [Qt.av ⟨k, a, b, c⟩, Qt.av ⟨k', a', b', c'⟩] (iv (Qt.cmp ⟨k, a, b, c⟩ ⟨k', a', b', c'⟩)) := by
  have h1 := cmpInt k k'
  have h2 := cmpInt a a'
  have h3 := cmpInt b b'
  have h4 := cmpInt c c'
  have h5 := cmpOr (ordI k k') (ordI a a') (ordI b b') (ordI c c')
  refine pure_intro (tok := 0) Tryd.func24 rfl Tryd.ntmps24 Tryd.results24 Tryd.call24 (by rfl) (by simp) ?_
  (repeat' (first | (with_reducible first | refine stp ?_ | apply gx1 | apply gx2 | apply gx3 | apply gx4 | apply gx5 | apply gx6 | apply gx7 | apply gy8 | apply gz2 | apply gz3 | refine gw0 (h1) ?_ ?_ | refine gw3 (h1) ?_ ?_ ?_ | refine gw0 (h2) ?_ ?_ | refine gw3 (h2) ?_ ?_ ?_ | refine gw0 (h3) ?_ ?_ | refine gw3 (h3) ?_ ?_ ?_ | refine gw0 (h4) ?_ ?_ | refine gw3 (h4) ?_ ?_ ?_ | refine gw0 (h5) ?_ ?_ | refine gw3 (h5) ?_ ?_ ?_) | (with_reducible refine all_v ?_; intro _) | ((with_reducible refine gE ?_); (try simp (disch := omega) only [go_sem, ↓reduceIte, Nat.reduceAdd, Nat.reduceSub, Nat.reduceMul, Nat.reduceEqDiff, Nat.reduceLT, Nat.reduceLeDiff, Nat.reduceBEq, Int.reduceNeg, Int.reduceLT, Int.reduceLE, Int.reduceEq, reduceCtorEq, decide_eq_true, decide_eq_false, if_pos, if_neg, Int.reduceAdd, Int.reduceSub, Int.reduceToNat, Int.zero_add]) <;> first | rfl | omega) | with_reducible refine t_in_other (by decide) ?_ | ((with_reducible apply gy1); iterate 3 focus rfl) | ((with_reducible apply gy2); iterate 3 focus rfl) | ((with_reducible apply gy3); iterate 2 focus rfl) | ((with_reducible apply gy4); iterate 1 focus rfl) | ((with_reducible apply gy5); iterate 4 focus rfl) | ((with_reducible apply gy6); iterate 4 focus rfl) | ((with_reducible apply d_bar); iterate 3 focus rfl) | ((with_reducible apply q_pub); iterate 1 focus rfl) | ((with_reducible apply gy7); iterate 1 focus rfl) | ((with_reducible apply gy9); (focus ((with_reducible refine gE ?_); (try simp (disch := omega) only [go_sem, ↓reduceIte, Nat.reduceAdd, Nat.reduceSub, Nat.reduceMul, Nat.reduceEqDiff, Nat.reduceLT, Nat.reduceLeDiff, Nat.reduceBEq, Int.reduceNeg, Int.reduceLT, Int.reduceLE, Int.reduceEq, reduceCtorEq, decide_eq_true, decide_eq_false, if_pos, if_neg, Int.reduceAdd, Int.reduceSub, Int.reduceToNat, Int.zero_add]) <;> rfl))) | ((with_reducible apply gz1); (focus first | rfl | (simp (disch := omega) only [go_sem, ↓reduceIte, Nat.reduceAdd, Nat.reduceSub, Nat.reduceMul, Nat.reduceEqDiff, Nat.reduceLT, Nat.reduceLeDiff, Nat.reduceBEq, Int.reduceNeg, Int.reduceLT, Int.reduceLE, Int.reduceEq, reduceCtorEq, decide_eq_true, decide_eq_false, if_pos, if_neg, Int.reduceAdd, Int.reduceSub, Int.reduceToNat, Int.zero_add]; done))) | ((with_reducible apply r_drawD (pickR [(4, iv (ordI k k')), (9, iv (ordI a a')), (14, iv (ordI b b')), (19, iv (ordI c c')), (20, .sl 1 [iv (ordI k k'), iv (ordI a a'), iv (ordI b b'), iv (ordI c c')]), (21, iv (or4 (ordI k k') (ordI a a') (ordI b b') (ordI c c')))]) [] []); (focus kernel_rfl); (focus rfl); (focus kernel_rfl); (focus (simp only [List.length_cons, List.length_nil, Nat.reduceAdd]; rfl))) | ((with_reducible first | apply og_split | apply dg_split | apply cg_split); all_goals (intro hc; (try simp only [Bool.if_false_right, Bool.if_true_left, Bool.if_false_left, Bool.if_true_right, Bool.and_eq_true, Bool.or_eq_true, Bool.and_eq_false_imp, Bool.or_eq_false_iff, decide_eq_true_eq, decide_eq_false_iff_not, beq_iff_eq, bne_iff_ne, beq_eq_false_iff_ne, bne_eq_false_iff_eq, Bool.not_eq_true', Bool.not_eq_false', ne_eq, Decidable.not_not, Int.not_lt, Int.not_le] at hc); try (exfalso; omega)))))
  (all_goals (try simp (disch := omega) only [go_sem, ↓reduceIte, Nat.reduceAdd, Nat.reduceSub, Nat.reduceMul, Nat.reduceEqDiff, Nat.reduceLT, Nat.reduceLeDiff, Nat.reduceBEq, Int.reduceNeg, Int.reduceLT, Int.reduceLE, Int.reduceEq, reduceCtorEq, Qt.cmp, decide_eq_true, decide_eq_false, if_pos, if_neg, Int.reduceAdd, Int.reduceSub, Int.reduceToNat, Int.zero_add])); (all_goals first | done | rfl | (congr 2; first | done | omega | (rw [Bool.eq_iff_iff]; simp only [Bool.if_false_right, Bool.if_true_left, Bool.if_false_left, Bool.if_true_right, Bool.and_eq_true, Bool.or_eq_true, Bool.and_eq_false_imp, Bool.or_eq_false_iff, decide_eq_true_eq, decide_eq_false_iff_not, beq_iff_eq, bne_iff_ne, beq_eq_false_iff_ne, bne_eq_false_iff_eq, Bool.not_eq_true', Bool.not_eq_false', ne_eq, Decidable.not_not, Int.not_lt, Int.not_le, Bool.false_eq_true, iff_true, true_iff, iff_false, false_iff]; omega)) | skip)
  all_goals (rename_i hc; obtain ⟨rfl, rfl, rfl, rfl⟩ := hc; simp only [ordI_eq, or4, if_true])
set_option maxHeartbeats 2000000 in
theorem rqCmp (k a b c k' a' b' c' : Int) : Pure Tryd.prog 25 [Qt.av ⟨k, a, b, c⟩, Qt.av ⟨k', a', b', c'⟩] (iv (Qt.cmp ⟨k, a, b, c⟩ ⟨k', a', b', c'⟩)) := by
  have h1 := rqOrder k k'
  have h2 := rqOrder a a'
  have h3 := rqOrder b b'
  have h4 := rqOrder c c'
  refine pure_intro (tok := 0) Tryd.func25 rfl Tryd.ntmps25 Tryd.results25 Tryd.call25 (by rfl) (by simp) ?_
  (repeat' (first | (with_reducible first | refine stp ?_ | apply gx1 | apply gx2 | apply gx3 | apply gx4 | apply gx5 | apply gx6 | apply gx7 | apply gy8 | apply gz2 | apply gz3 | refine gw0 (h1) ?_ ?_ | refine gw3 (h1) ?_ ?_ ?_ | refine gw0 (h2) ?_ ?_ | refine gw3 (h2) ?_ ?_ ?_ | refine gw0 (h3) ?_ ?_ | refine gw3 (h3) ?_ ?_ ?_ | refine gw0 (h4) ?_ ?_ | refine gw3 (h4) ?_ ?_ ?_) | (with_reducible refine all_v ?_; intro _) | ((with_reducible refine gE ?_); (try simp (disch := omega) only [go_sem, ↓reduceIte, Nat.reduceAdd, Nat.reduceSub, Nat.reduceMul, Nat.reduceEqDiff, Nat.reduceLT, Nat.reduceLeDiff, Nat.reduceBEq, Int.reduceNeg, Int.reduceLT, Int.reduceLE, Int.reduceEq, reduceCtorEq, decide_eq_true, decide_eq_false, if_pos, if_neg, Int.reduceAdd, Int.reduceSub, Int.reduceToNat, Int.zero_add]) <;> first | rfl | omega) | with_reducible refine t_in_other (by decide) ?_ | ((with_reducible apply gy1); iterate 3 focus rfl) | ((with_reducible apply gy2); iterate 3 focus rfl) | ((with_reducible apply gy3); iterate 2 focus rfl) | ((with_reducible apply gy4); iterate 1 focus rfl) | ((with_reducible apply gy5); iterate 4 focus rfl) | ((with_reducible apply gy6); iterate 4 focus rfl) | ((with_reducible apply d_bar); iterate 3 focus rfl) | ((with_reducible apply q_pub); iterate 1 focus rfl) | ((with_reducible apply gy7); iterate 1 focus rfl) | ((with_reducible apply gy9); (focus ((with_reducible refine gE ?_); (try simp (disch := omega) only [go_sem, ↓reduceIte, Nat.reduceAdd, Nat.reduceSub, Nat.reduceMul, Nat.reduceEqDiff, Nat.reduceLT, Nat.reduceLeDiff, Nat.reduceBEq, Int.reduceNeg, Int.reduceLT, Int.reduceLE, Int.reduceEq, reduceCtorEq, decide_eq_true, decide_eq_false, if_pos, if_neg, Int.reduceAdd, Int.reduceSub, Int.reduceToNat, Int.zero_add]) <;> rfl))) | ((with_reducible apply gz1); (focus first | rfl | (simp (disch := omega) only [go_sem, ↓reduceIte, Nat.reduceAdd, Nat.reduceSub, Nat.reduceMul, Nat.reduceEqDiff, Nat.reduceLT, Nat.reduceLeDiff, Nat.reduceBEq, Int.reduceNeg, Int.reduceLT, Int.reduceLE, Int.reduceEq, reduceCtorEq, decide_eq_true, decide_eq_false, if_pos, if_neg, Int.reduceAdd, Int.reduceSub, Int.reduceToNat, Int.zero_add]; done))) | ((with_reducible apply r_drawD (pickR []) [] []); (focus kernel_rfl); (focus rfl); (focus kernel_rfl); (focus (simp only [List.length_cons, List.length_nil, Nat.reduceAdd]; rfl))) | ((with_reducible first | apply og_split | apply dg_split | apply cg_split); all_goals (intro hc; (try simp only [Bool.if_false_right, Bool.if_true_left, Bool.if_false_left, Bool.if_true_right, Bool.and_eq_true, Bool.or_eq_true, Bool.and_eq_false_imp, Bool.or_eq_false_iff, decide_eq_true_eq, decide_eq_false_iff_not, beq_iff_eq, bne_iff_ne, beq_eq_false_iff_ne, bne_eq_false_iff_eq, Bool.not_eq_true', Bool.not_eq_false', ne_eq, Decidable.not_not, Int.not_lt, Int.not_le] at hc); try (exfalso; omega)))))
  all_goals (try simp (disch := omega) only [go_sem, ↓reduceIte, Nat.reduceAdd, Nat.reduceSub, Nat.reduceMul, Nat.reduceEqDiff, Nat.reduceLT, Nat.reduceLeDiff, Nat.reduceBEq, Int.reduceNeg, Int.reduceLT, Int.reduceLE, Int.reduceEq, reduceCtorEq, Qt.cmp, or4])
  all_goals (try subst_vars)
  all_goals first | rfl | (simp only [ordI_eq, if_true]; done) | ((try simp only [ordI_eq, if_true]); have hn := ordI_ne (by assumption); rw [if_neg hn]) | simp [*, ordI_eq, ordI_ne]

/-- The error of a quantity for numbers of points and parameters. -/
def Qt.chk (q : Qt) (n m : Int) : Int := if q.ok = true then (if q.k = 3 then (if m ≤ q.a then 2 else 0) else if n ≤ q.a ∨ n ≤ q.b ∨ n ≤ q.c then 2 else 0) else 1
set_option maxHeartbeats 2000000 in
theorem quCheck (k a b c n m : Int) : Pure Tryd.prog 33 [Qt.av ⟨k, a, b, c⟩, iv n, iv m] (iv (Qt.chk ⟨k, a, b, c⟩ n m)) := by
  have c1 := quRight k a b c
  have c2 := quOf k a b c
  unfold Qt.chk
  generalize Qt.ok ⟨k, a, b, c⟩ = v at *
  cases v
  · refine pure_intro (tok := 0) Tryd.func33 rfl Tryd.ntmps33 Tryd.results33 Tryd.call33 (by rfl) (by simp) ?_
    (repeat' (first | (with_reducible first | refine stp ?_ | apply gx1 | apply gx2 | apply gx3 | apply gx4 | apply gx5 | apply gx6 | apply gx7 | apply gy8 | apply gz2 | apply gz3 | refine gw0 (c1) ?_ ?_ | refine gw3 (c1) ?_ ?_ ?_) | (with_reducible refine all_v ?_; intro _) | ((with_reducible refine gE ?_); (try simp (disch := omega) only [go_sem, ↓reduceIte, Nat.reduceAdd, Nat.reduceSub, Nat.reduceMul, Nat.reduceEqDiff, Nat.reduceLT, Nat.reduceLeDiff, Nat.reduceBEq, Int.reduceNeg, Int.reduceLT, Int.reduceLE, Int.reduceEq, reduceCtorEq, decide_eq_true, decide_eq_false, if_pos, if_neg, Int.reduceAdd, Int.reduceSub, Int.reduceToNat, Int.zero_add]) <;> first | rfl | omega) | with_reducible refine t_in_other (by decide) ?_ | ((with_reducible apply gy1); iterate 3 focus rfl) | ((with_reducible apply gy2); iterate 3 focus rfl) | ((with_reducible apply gy3); iterate 2 focus rfl) | ((with_reducible apply gy4); iterate 1 focus rfl) | ((with_reducible apply gy5); iterate 4 focus rfl) | ((with_reducible apply gy6); iterate 4 focus rfl) | ((with_reducible apply d_bar); iterate 3 focus rfl) | ((with_reducible apply q_pub); iterate 1 focus rfl) | ((with_reducible apply gy7); iterate 1 focus rfl) | ((with_reducible apply gy9); (focus ((with_reducible refine gE ?_); (try simp (disch := omega) only [go_sem, ↓reduceIte, Nat.reduceAdd, Nat.reduceSub, Nat.reduceMul, Nat.reduceEqDiff, Nat.reduceLT, Nat.reduceLeDiff, Nat.reduceBEq, Int.reduceNeg, Int.reduceLT, Int.reduceLE, Int.reduceEq, reduceCtorEq, decide_eq_true, decide_eq_false, if_pos, if_neg, Int.reduceAdd, Int.reduceSub, Int.reduceToNat, Int.zero_add]) <;> rfl))) | ((with_reducible apply gz1); (focus first | rfl | (simp (disch := omega) only [go_sem, ↓reduceIte, Nat.reduceAdd, Nat.reduceSub, Nat.reduceMul, Nat.reduceEqDiff, Nat.reduceLT, Nat.reduceLeDiff, Nat.reduceBEq, Int.reduceNeg, Int.reduceLT, Int.reduceLE, Int.reduceEq, reduceCtorEq, decide_eq_true, decide_eq_false, if_pos, if_neg, Int.reduceAdd, Int.reduceSub, Int.reduceToNat, Int.zero_add]; done))) | ((with_reducible apply r_drawD (pickR []) [] []); (focus kernel_rfl); (focus rfl); (focus kernel_rfl); (focus (simp only [List.length_cons, List.length_nil, Nat.reduceAdd]; rfl))) | ((with_reducible first | apply og_split | apply dg_split | apply cg_split); all_goals (intro hc; (try simp only [Bool.if_false_right, Bool.if_true_left, Bool.if_false_left, Bool.if_true_right, Bool.and_eq_true, Bool.or_eq_true, Bool.and_eq_false_imp, Bool.or_eq_false_iff, decide_eq_true_eq, decide_eq_false_iff_not, beq_iff_eq, bne_iff_ne, beq_eq_false_iff_ne, bne_eq_false_iff_eq, Bool.not_eq_true', Bool.not_eq_false', ne_eq, Decidable.not_not, Int.not_lt, Int.not_le] at hc); try (exfalso; omega)))))
    (all_goals (try simp (disch := omega) only [go_sem, ↓reduceIte, Nat.reduceAdd, Nat.reduceSub, Nat.reduceMul, Nat.reduceEqDiff, Nat.reduceLT, Nat.reduceLeDiff, Nat.reduceBEq, Int.reduceNeg, Int.reduceLT, Int.reduceLE, Int.reduceEq, reduceCtorEq, decide_eq_true, decide_eq_false, if_pos, if_neg, Int.reduceAdd, Int.reduceSub, Int.reduceToNat, Int.zero_add])); (all_goals first | done | rfl | (congr 2; first | done | omega | (rw [Bool.eq_iff_iff]; simp only [Bool.if_false_right, Bool.if_true_left, Bool.if_false_left, Bool.if_true_right, Bool.and_eq_true, Bool.or_eq_true, Bool.and_eq_false_imp, Bool.or_eq_false_iff, decide_eq_true_eq, decide_eq_false_iff_not, beq_iff_eq, bne_iff_ne, beq_eq_false_iff_ne, bne_eq_false_iff_eq, Bool.not_eq_true', Bool.not_eq_false', ne_eq, Decidable.not_not, Int.not_lt, Int.not_le, Bool.false_eq_true, iff_true, true_iff, iff_false, false_iff]; omega)) | skip)
  · refine pure_intro (tok := 0) Tryd.func33 rfl Tryd.ntmps33 Tryd.results33 Tryd.call33 (by rfl) (by simp) ?_
    (repeat' (first | (with_reducible first | refine stp ?_ | apply gx1 | apply gx2 | apply gx3 | apply gx4 | apply gx5 | apply gx6 | apply gx7 | apply gy8 | apply gz2 | apply gz3 | refine gw0 (c1) ?_ ?_ | refine gw3 (c1) ?_ ?_ ?_ | refine gw0 (c2) ?_ ?_ | refine gw3 (c2) ?_ ?_ ?_) | (with_reducible refine all_v ?_; intro _) | ((with_reducible refine gE ?_); (try simp (disch := omega) only [go_sem, ↓reduceIte, Nat.reduceAdd, Nat.reduceSub, Nat.reduceMul, Nat.reduceEqDiff, Nat.reduceLT, Nat.reduceLeDiff, Nat.reduceBEq, Int.reduceNeg, Int.reduceLT, Int.reduceLE, Int.reduceEq, reduceCtorEq, decide_eq_true, decide_eq_false, if_pos, if_neg, Int.reduceAdd, Int.reduceSub, Int.reduceToNat, Int.zero_add]) <;> first | rfl | omega) | with_reducible refine t_in_other (by decide) ?_ | ((with_reducible apply gy1); iterate 3 focus rfl) | ((with_reducible apply gy2); iterate 3 focus rfl) | ((with_reducible apply gy3); iterate 2 focus rfl) | ((with_reducible apply gy4); iterate 1 focus rfl) | ((with_reducible apply gy5); iterate 4 focus rfl) | ((with_reducible apply gy6); iterate 4 focus rfl) | ((with_reducible apply d_bar); iterate 3 focus rfl) | ((with_reducible apply q_pub); iterate 1 focus rfl) | ((with_reducible apply gy7); iterate 1 focus rfl) | ((with_reducible apply gy9); (focus ((with_reducible refine gE ?_); (try simp (disch := omega) only [go_sem, ↓reduceIte, Nat.reduceAdd, Nat.reduceSub, Nat.reduceMul, Nat.reduceEqDiff, Nat.reduceLT, Nat.reduceLeDiff, Nat.reduceBEq, Int.reduceNeg, Int.reduceLT, Int.reduceLE, Int.reduceEq, reduceCtorEq, decide_eq_true, decide_eq_false, if_pos, if_neg, Int.reduceAdd, Int.reduceSub, Int.reduceToNat, Int.zero_add]) <;> rfl))) | ((with_reducible apply gz1); (focus first | rfl | (simp (disch := omega) only [go_sem, ↓reduceIte, Nat.reduceAdd, Nat.reduceSub, Nat.reduceMul, Nat.reduceEqDiff, Nat.reduceLT, Nat.reduceLeDiff, Nat.reduceBEq, Int.reduceNeg, Int.reduceLT, Int.reduceLE, Int.reduceEq, reduceCtorEq, decide_eq_true, decide_eq_false, if_pos, if_neg, Int.reduceAdd, Int.reduceSub, Int.reduceToNat, Int.zero_add]; done))) | ((with_reducible apply r_drawD (pickR []) [] []); (focus kernel_rfl); (focus rfl); (focus kernel_rfl); (focus (simp only [List.length_cons, List.length_nil, Nat.reduceAdd]; rfl))) | ((with_reducible first | apply og_split | apply dg_split | apply cg_split); all_goals (intro hc; (try simp only [Bool.if_false_right, Bool.if_true_left, Bool.if_false_left, Bool.if_true_right, Bool.and_eq_true, Bool.or_eq_true, Bool.and_eq_false_imp, Bool.or_eq_false_iff, decide_eq_true_eq, decide_eq_false_iff_not, beq_iff_eq, bne_iff_ne, beq_eq_false_iff_ne, bne_eq_false_iff_eq, Bool.not_eq_true', Bool.not_eq_false', ne_eq, Decidable.not_not, Int.not_lt, Int.not_le] at hc); try (exfalso; omega))) | ((with_reducible apply r_rounds 5); (focus rfl))))
    (all_goals (try simp (disch := omega) only [go_sem, ↓reduceIte, Nat.reduceAdd, Nat.reduceSub, Nat.reduceMul, Nat.reduceEqDiff, Nat.reduceLT, Nat.reduceLeDiff, Nat.reduceBEq, Int.reduceNeg, Int.reduceLT, Int.reduceLE, Int.reduceEq, reduceCtorEq, decide_eq_true, decide_eq_false, if_pos, if_neg, Int.reduceAdd, Int.reduceSub, Int.reduceToNat, Int.zero_add])); (all_goals first | done | rfl | (congr 2; first | done | omega | (rw [Bool.eq_iff_iff]; simp only [Bool.if_false_right, Bool.if_true_left, Bool.if_false_left, Bool.if_true_right, Bool.and_eq_true, Bool.or_eq_true, Bool.and_eq_false_imp, Bool.or_eq_false_iff, decide_eq_true_eq, decide_eq_false_iff_not, beq_iff_eq, bne_iff_ne, beq_eq_false_iff_ne, bne_eq_false_iff_eq, Bool.not_eq_true', Bool.not_eq_false', ne_eq, Decidable.not_not, Int.not_lt, Int.not_le, Bool.false_eq_true, iff_true, true_iff, iff_false, false_iff]; omega)) | skip)
set_option maxHeartbeats 2000000 in
theorem rqCheck (k a b c n m : Int) : Pure Tryd.prog 34 [Qt.av ⟨k, a, b, c⟩, iv n, iv m] (iv (Qt.chk ⟨k, a, b, c⟩ n m)) := by
  have c1 := rqRight k a b c
  unfold Qt.chk
  generalize Qt.ok ⟨k, a, b, c⟩ = v at *
  cases v
  · refine pure_intro (tok := 0) Tryd.func34 rfl Tryd.ntmps34 Tryd.results34 Tryd.call34 (by rfl) (by simp) ?_
    (repeat' (first | (with_reducible first | refine stp ?_ | apply gx1 | apply gx2 | apply gx3 | apply gx4 | apply gx5 | apply gx6 | apply gx7 | apply gy8 | apply gz2 | apply gz3 | refine gw0 (c1) ?_ ?_ | refine gw3 (c1) ?_ ?_ ?_) | (with_reducible refine all_v ?_; intro _) | ((with_reducible refine gE ?_); (try simp (disch := omega) only [go_sem, ↓reduceIte, Nat.reduceAdd, Nat.reduceSub, Nat.reduceMul, Nat.reduceEqDiff, Nat.reduceLT, Nat.reduceLeDiff, Nat.reduceBEq, Int.reduceNeg, Int.reduceLT, Int.reduceLE, Int.reduceEq, reduceCtorEq, decide_eq_true, decide_eq_false, if_pos, if_neg, Int.reduceAdd, Int.reduceSub, Int.reduceToNat, Int.zero_add]) <;> first | rfl | omega) | with_reducible refine t_in_other (by decide) ?_ | ((with_reducible apply gy1); iterate 3 focus rfl) | ((with_reducible apply gy2); iterate 3 focus rfl) | ((with_reducible apply gy3); iterate 2 focus rfl) | ((with_reducible apply gy4); iterate 1 focus rfl) | ((with_reducible apply gy5); iterate 4 focus rfl) | ((with_reducible apply gy6); iterate 4 focus rfl) | ((with_reducible apply d_bar); iterate 3 focus rfl) | ((with_reducible apply q_pub); iterate 1 focus rfl) | ((with_reducible apply gy7); iterate 1 focus rfl) | ((with_reducible apply gy9); (focus ((with_reducible refine gE ?_); (try simp (disch := omega) only [go_sem, ↓reduceIte, Nat.reduceAdd, Nat.reduceSub, Nat.reduceMul, Nat.reduceEqDiff, Nat.reduceLT, Nat.reduceLeDiff, Nat.reduceBEq, Int.reduceNeg, Int.reduceLT, Int.reduceLE, Int.reduceEq, reduceCtorEq, decide_eq_true, decide_eq_false, if_pos, if_neg, Int.reduceAdd, Int.reduceSub, Int.reduceToNat, Int.zero_add]) <;> rfl))) | ((with_reducible apply gz1); (focus first | rfl | (simp (disch := omega) only [go_sem, ↓reduceIte, Nat.reduceAdd, Nat.reduceSub, Nat.reduceMul, Nat.reduceEqDiff, Nat.reduceLT, Nat.reduceLeDiff, Nat.reduceBEq, Int.reduceNeg, Int.reduceLT, Int.reduceLE, Int.reduceEq, reduceCtorEq, decide_eq_true, decide_eq_false, if_pos, if_neg, Int.reduceAdd, Int.reduceSub, Int.reduceToNat, Int.zero_add]; done))) | ((with_reducible apply r_drawD (pickR []) [] []); (focus kernel_rfl); (focus rfl); (focus kernel_rfl); (focus (simp only [List.length_cons, List.length_nil, Nat.reduceAdd]; rfl))) | ((with_reducible first | apply og_split | apply dg_split | apply cg_split); all_goals (intro hc; (try simp only [Bool.if_false_right, Bool.if_true_left, Bool.if_false_left, Bool.if_true_right, Bool.and_eq_true, Bool.or_eq_true, Bool.and_eq_false_imp, Bool.or_eq_false_iff, decide_eq_true_eq, decide_eq_false_iff_not, beq_iff_eq, bne_iff_ne, beq_eq_false_iff_ne, bne_eq_false_iff_eq, Bool.not_eq_true', Bool.not_eq_false', ne_eq, Decidable.not_not, Int.not_lt, Int.not_le] at hc); try (exfalso; omega)))))
    (all_goals (try simp (disch := omega) only [go_sem, ↓reduceIte, Nat.reduceAdd, Nat.reduceSub, Nat.reduceMul, Nat.reduceEqDiff, Nat.reduceLT, Nat.reduceLeDiff, Nat.reduceBEq, Int.reduceNeg, Int.reduceLT, Int.reduceLE, Int.reduceEq, reduceCtorEq, decide_eq_true, decide_eq_false, if_pos, if_neg, Int.reduceAdd, Int.reduceSub, Int.reduceToNat, Int.zero_add])); (all_goals first | done | rfl | (congr 2; first | done | omega | (rw [Bool.eq_iff_iff]; simp only [Bool.if_false_right, Bool.if_true_left, Bool.if_false_left, Bool.if_true_right, Bool.and_eq_true, Bool.or_eq_true, Bool.and_eq_false_imp, Bool.or_eq_false_iff, decide_eq_true_eq, decide_eq_false_iff_not, beq_iff_eq, bne_iff_ne, beq_eq_false_iff_ne, bne_eq_false_iff_eq, Bool.not_eq_true', Bool.not_eq_false', ne_eq, Decidable.not_not, Int.not_lt, Int.not_le, Bool.false_eq_true, iff_true, true_iff, iff_false, false_iff]; omega)) | skip)
  · refine pure_intro (tok := 0) Tryd.func34 rfl Tryd.ntmps34 Tryd.results34 Tryd.call34 (by rfl) (by simp) ?_
    (repeat' (first | (with_reducible first | refine stp ?_ | apply gx1 | apply gx2 | apply gx3 | apply gx4 | apply gx5 | apply gx6 | apply gx7 | apply gy8 | apply gz2 | apply gz3 | refine gw0 (c1) ?_ ?_ | refine gw3 (c1) ?_ ?_ ?_) | (with_reducible refine all_v ?_; intro _) | ((with_reducible refine gE ?_); (try simp (disch := omega) only [go_sem, ↓reduceIte, Nat.reduceAdd, Nat.reduceSub, Nat.reduceMul, Nat.reduceEqDiff, Nat.reduceLT, Nat.reduceLeDiff, Nat.reduceBEq, Int.reduceNeg, Int.reduceLT, Int.reduceLE, Int.reduceEq, reduceCtorEq, decide_eq_true, decide_eq_false, if_pos, if_neg, Int.reduceAdd, Int.reduceSub, Int.reduceToNat, Int.zero_add]) <;> first | rfl | omega) | with_reducible refine t_in_other (by decide) ?_ | ((with_reducible apply gy1); iterate 3 focus rfl) | ((with_reducible apply gy2); iterate 3 focus rfl) | ((with_reducible apply gy3); iterate 2 focus rfl) | ((with_reducible apply gy4); iterate 1 focus rfl) | ((with_reducible apply gy5); iterate 4 focus rfl) | ((with_reducible apply gy6); iterate 4 focus rfl) | ((with_reducible apply d_bar); iterate 3 focus rfl) | ((with_reducible apply q_pub); iterate 1 focus rfl) | ((with_reducible apply gy7); iterate 1 focus rfl) | ((with_reducible apply gy9); (focus ((with_reducible refine gE ?_); (try simp (disch := omega) only [go_sem, ↓reduceIte, Nat.reduceAdd, Nat.reduceSub, Nat.reduceMul, Nat.reduceEqDiff, Nat.reduceLT, Nat.reduceLeDiff, Nat.reduceBEq, Int.reduceNeg, Int.reduceLT, Int.reduceLE, Int.reduceEq, reduceCtorEq, decide_eq_true, decide_eq_false, if_pos, if_neg, Int.reduceAdd, Int.reduceSub, Int.reduceToNat, Int.zero_add]) <;> rfl))) | ((with_reducible apply gz1); (focus first | rfl | (simp (disch := omega) only [go_sem, ↓reduceIte, Nat.reduceAdd, Nat.reduceSub, Nat.reduceMul, Nat.reduceEqDiff, Nat.reduceLT, Nat.reduceLeDiff, Nat.reduceBEq, Int.reduceNeg, Int.reduceLT, Int.reduceLE, Int.reduceEq, reduceCtorEq, decide_eq_true, decide_eq_false, if_pos, if_neg, Int.reduceAdd, Int.reduceSub, Int.reduceToNat, Int.zero_add]; done))) | ((with_reducible apply r_drawD (pickR []) [] []); (focus kernel_rfl); (focus rfl); (focus kernel_rfl); (focus (simp only [List.length_cons, List.length_nil, Nat.reduceAdd]; rfl))) | ((with_reducible first | apply og_split | apply dg_split | apply cg_split); all_goals (intro hc; (try simp only [Bool.if_false_right, Bool.if_true_left, Bool.if_false_left, Bool.if_true_right, Bool.and_eq_true, Bool.or_eq_true, Bool.and_eq_false_imp, Bool.or_eq_false_iff, decide_eq_true_eq, decide_eq_false_iff_not, beq_iff_eq, bne_iff_ne, beq_eq_false_iff_ne, bne_eq_false_iff_eq, Bool.not_eq_true', Bool.not_eq_false', ne_eq, Decidable.not_not, Int.not_lt, Int.not_le] at hc); try (exfalso; omega)))))
    (all_goals (try simp (disch := omega) only [go_sem, ↓reduceIte, Nat.reduceAdd, Nat.reduceSub, Nat.reduceMul, Nat.reduceEqDiff, Nat.reduceLT, Nat.reduceLeDiff, Nat.reduceBEq, Int.reduceNeg, Int.reduceLT, Int.reduceLE, Int.reduceEq, reduceCtorEq, decide_eq_true, decide_eq_false, if_pos, if_neg, Int.reduceAdd, Int.reduceSub, Int.reduceToNat, Int.zero_add])); (all_goals first | done | rfl | (congr 2; first | done | omega | (rw [Bool.eq_iff_iff]; simp only [Bool.if_false_right, Bool.if_true_left, Bool.if_false_left, Bool.if_true_right, Bool.and_eq_true, Bool.or_eq_true, Bool.and_eq_false_imp, Bool.or_eq_false_iff, decide_eq_true_eq, decide_eq_false_iff_not, beq_iff_eq, bne_iff_ne, beq_eq_false_iff_ne, bne_eq_false_iff_eq, Bool.not_eq_true', Bool.not_eq_false', ne_eq, Decidable.not_not, Int.not_lt, Int.not_le, Bool.false_eq_true, iff_true, true_iff, iff_false, false_iff]; omega)) | skip)
end Go.Proofs.YtjiffehkemeloaaDoor
end

section
namespace Go.Proofs.YtjiffehkemeloaaDoor
open Go Go.RowKit Go.Pg
set_option linter.unusedSimpArgs false
set_option linter.unusedVariables false
set_option maxRecDepth 20000
attribute [local go_sem] Tryd.underlying56 Tryd.underlying3 Tryd.underlying91 Tryd.underlying121 Tryd.underlying81 Tryd.underlying21 sz3 by3 z3 szL byL zL

theorem natTrim (l : List Nat) (hs : l.length ≤ 1000000000) (hl : Lm l) : Pure Tryd.prog 94 [lim l] (lim (toL (nv l))) := by
  refine pure_intro (tok := 0) (rs := [.tmp 2]) Tryd.func94 rfl Tryd.ntmps94 Tryd.results94 Tryd.call94 (by rfl) (by simp) ?_
  (repeat' (first | (with_reducible first | refine stp ?_ | apply gx1 | apply gx2 | apply gx3 | apply gx4 | apply gx5 | apply gx6 | apply gx7) | (with_reducible refine all_v ?_; intro _) | ((with_reducible refine gE ?_); (try simp (disch := omega) only [go_sem, ↓reduceIte, Nat.reduceAdd, Nat.reduceSub, Nat.reduceMul, Nat.reduceEqDiff, Nat.reduceLT, Nat.reduceLeDiff, Nat.reduceBEq, Int.reduceNeg, Int.reduceLT, Int.reduceLE, Int.reduceEq, reduceCtorEq]) <;> first | rfl | omega) | with_reducible refine t_in_other (by decide) ?_))
  refine r_loopE (ι := Nat) (fun k e m => k ≤ l.length ∧ e 0 = lim l ∧ e 3 = .v (.int .i64 (k : Int)) ∧ ∀ j, k ≤ j → gN l j = 0) (fun k => k) l.length (by rfl) ?_ ?_
  · rintro k e m ⟨hk, e0, e3, hz⟩
    have gl := gN_lt hl (k - 1)
    by_cases h0 : k = 0
    · subst h0
      (repeat' (first | (with_reducible first | refine stp ?_ | apply gx1 | apply gx2 | apply gx3 | apply gx4 | apply gx5 | apply gx6 | apply gx7) | (with_reducible refine all_v ?_; intro _) | ((with_reducible refine gE ?_); (try simp (disch := omega) only [go_sem, ↓reduceIte, Nat.reduceAdd, Nat.reduceSub, Nat.reduceMul, Nat.reduceEqDiff, Nat.reduceLT, Nat.reduceLeDiff, Nat.reduceBEq, Int.reduceNeg, Int.reduceLT, Int.reduceLE, Int.reduceEq, reduceCtorEq, e0, e3]) <;> first | rfl | omega) | with_reducible refine t_in_other (by decide) ?_))
      have := nv_trim hl hk hz (.inl rfl)
      simp (disch := omega) only [go_sem, ↓reduceIte, Nat.reduceAdd, Nat.reduceSub, Nat.reduceMul, Nat.reduceEqDiff, Nat.reduceLT, Nat.reduceLeDiff, Nat.reduceBEq, Int.reduceNeg, Int.reduceLT, Int.reduceLE, Int.reduceEq, reduceCtorEq]
      rw [← this]; rfl
    · by_cases h1 : gN l (k - 1) = 0
      · (repeat' (first | (with_reducible first | refine stp ?_ | apply gx1 | apply gx2 | apply gx3 | apply gx4 | apply gx5 | apply gx6 | apply gx7) | (with_reducible refine all_v ?_; intro _) | ((with_reducible refine gE ?_); (try simp (disch := omega) only [go_sem, ↓reduceIte, Nat.reduceAdd, Nat.reduceSub, Nat.reduceMul, Nat.reduceEqDiff, Nat.reduceLT, Nat.reduceLeDiff, Nat.reduceBEq, Int.reduceNeg, Int.reduceLT, Int.reduceLE, Int.reduceEq, reduceCtorEq, e0, e3]) <;> first | rfl | omega) | with_reducible refine t_in_other (by decide) ?_))
        exact ⟨k - 1, ⟨by omega, by exact gW e0, by simp (disch := omega) only [go_sem, ↓reduceIte, Nat.reduceAdd, Nat.reduceSub, Nat.reduceMul, Nat.reduceEqDiff, Nat.reduceLT, Nat.reduceLeDiff, Nat.reduceBEq, Int.reduceNeg, Int.reduceLT, Int.reduceLE, Int.reduceEq, reduceCtorEq, e3]; congr 2; omega, fun j hj => by
          rcases Nat.lt_or_ge j k with h2 | h2
          · rw [show j = k - 1 by omega]; exact h1
          · exact hz j h2⟩, by omega⟩
      · (repeat' (first | (with_reducible first | refine stp ?_ | apply gx1 | apply gx2 | apply gx3 | apply gx4 | apply gx5 | apply gx6 | apply gx7) | (with_reducible refine all_v ?_; intro _) | ((with_reducible refine gE ?_); (try simp (disch := omega) only [go_sem, ↓reduceIte, Nat.reduceAdd, Nat.reduceSub, Nat.reduceMul, Nat.reduceEqDiff, Nat.reduceLT, Nat.reduceLeDiff, Nat.reduceBEq, Int.reduceNeg, Int.reduceLT, Int.reduceLE, Int.reduceEq, reduceCtorEq, e0, e3]) <;> first | rfl | omega) | with_reducible refine t_in_other (by decide) ?_))
        have := nv_trim hl hk hz (.inr (by omega))
        simp (disch := omega) only [go_sem, ↓reduceIte, Nat.reduceAdd, Nat.reduceSub, Nat.reduceMul, Nat.reduceEqDiff, Nat.reduceLT, Nat.reduceLeDiff, Nat.reduceBEq, Int.reduceNeg, Int.reduceLT, Int.reduceLE, Int.reduceEq, reduceCtorEq, this]
  · exact ⟨Nat.le_refl _, by exact gC, by exact gC, fun j hj => gN_out hj⟩

theorem slN {l : List Nat} (h : l = []) : lim l = .sl 1 [] := by subst h; rfl

theorem natNorm (l : List Nat) (hs : l.length ≤ 1000000000) (hl : Lm l) : Pure Tryd.prog 88 [lim l] (lim (toL (nv l))) := by
  have h1 := toL_len_le hl
  by_cases h0 : toL (nv l) = []
  · rw [slN h0]
    refine Pure.wk (r := .v (.slice none 0 0)) ?_ (.nil 1)
    have h2 : (toL (nv l)).length = 0 := by rw [h0]; rfl
    refine pure_intro (tok := 0) (rs := [.tmp 2]) Tryd.func88 rfl Tryd.ntmps88 Tryd.results88 Tryd.call88 (by rfl) (by simp) ?_
    (repeat' (first | (with_reducible first | refine stp ?_ | apply gx1 | apply gx2 | apply gx3 | apply gx4 | apply gx5 | apply gx6 | apply gx7 | refine gw0 (natTrim l hs hl) ?_ ?_) | (with_reducible refine all_v ?_; intro _) | ((with_reducible refine gE ?_); (try simp (disch := omega) only [go_sem, ↓reduceIte, Nat.reduceAdd, Nat.reduceSub, Nat.reduceMul, Nat.reduceEqDiff, Nat.reduceLT, Nat.reduceLeDiff, Nat.reduceBEq, Int.reduceNeg, Int.reduceLT, Int.reduceLE, Int.reduceEq, reduceCtorEq, h2]) <;> first | rfl | omega) | with_reducible refine t_in_other (by decide) ?_))
    simp (disch := omega) only [go_sem, ↓reduceIte, Nat.reduceAdd, Nat.reduceSub, Nat.reduceMul, Nat.reduceEqDiff, Nat.reduceLT, Nat.reduceLeDiff, Nat.reduceBEq, Int.reduceNeg, Int.reduceLT, Int.reduceLE, Int.reduceEq, reduceCtorEq]
  · have h2 : 0 < (toL (nv l)).length := List.length_pos_iff.2 h0
    refine pure_intro (tok := 0) (rs := [.tmp 2]) Tryd.func88 rfl Tryd.ntmps88 Tryd.results88 Tryd.call88 (by rfl) (by simp) ?_
    (repeat' (first | (with_reducible first | refine stp ?_ | apply gx1 | apply gx2 | apply gx3 | apply gx4 | apply gx5 | apply gx6 | apply gx7 | refine gw0 (natTrim l hs hl) ?_ ?_) | (with_reducible refine all_v ?_; intro _) | ((with_reducible refine gE ?_); (try simp (disch := omega) only [go_sem, ↓reduceIte, Nat.reduceAdd, Nat.reduceSub, Nat.reduceMul, Nat.reduceEqDiff, Nat.reduceLT, Nat.reduceLeDiff, Nat.reduceBEq, Int.reduceNeg, Int.reduceLT, Int.reduceLE, Int.reduceEq, reduceCtorEq]) <;> first | rfl | omega) | with_reducible refine t_in_other (by decide) ?_))
    simp (disch := omega) only [go_sem, ↓reduceIte, Nat.reduceAdd, Nat.reduceSub, Nat.reduceMul, Nat.reduceEqDiff, Nat.reduceLT, Nat.reduceLeDiff, Nat.reduceBEq, Int.reduceNeg, Int.reduceLT, Int.reduceLE, Int.reduceEq, reduceCtorEq, List.take_of_length_le, List.drop_replicate, Nat.sub_self, Nat.le_refl]

theorem natOf (n : Nat) (hn : n < 18446744073709551616) : Pure Tryd.prog 95 [.v (.int .u64 (n : Int))] (lim (toL n)) := by
  by_cases h0 : n = 0
  · subst h0
    rw [slN toL_zero]
    refine Pure.wk (r := .v (.slice none 0 0)) ?_ (.nil 1)
    refine pure_intro (tok := 0) (rs := [.tmp 2]) Tryd.func95 rfl Tryd.ntmps95 Tryd.results95 Tryd.call95 (by rfl) (by simp) ?_
    (repeat' (first | (with_reducible first | refine stp ?_ | apply gx1 | apply gx2 | apply gx3 | apply gx4 | apply gx5 | apply gx6 | apply gx7) | (with_reducible refine all_v ?_; intro _) | ((with_reducible refine gE ?_); (try simp (disch := omega) only [go_sem, ↓reduceIte, Nat.reduceAdd, Nat.reduceSub, Nat.reduceMul, Nat.reduceEqDiff, Nat.reduceLT, Nat.reduceLeDiff, Nat.reduceBEq, Int.reduceNeg, Int.reduceLT, Int.reduceLE, Int.reduceEq, reduceCtorEq]) <;> first | rfl | omega) | with_reducible refine t_in_other (by decide) ?_))
    refine r_loopE (ι := Nat) (fun k e m => e 0 = .v (.int .u64 0) ∧ e 3 = .v (.slice none 0 0)) (fun k => k) 0 (by rfl) ?_ ?_
    · rintro k e m ⟨e0, e3⟩
      (repeat' (first | (with_reducible first | refine stp ?_ | apply gx1 | apply gx2 | apply gx3 | apply gx4 | apply gx5 | apply gx6 | apply gx7) | (with_reducible refine all_v ?_; intro _) | ((with_reducible refine gE ?_); (try simp (disch := omega) only [go_sem, ↓reduceIte, Nat.reduceAdd, Nat.reduceSub, Nat.reduceMul, Nat.reduceEqDiff, Nat.reduceLT, Nat.reduceLeDiff, Nat.reduceBEq, Int.reduceNeg, Int.reduceLT, Int.reduceLE, Int.reduceEq, reduceCtorEq, e0, e3]) <;> first | rfl | omega) | with_reducible refine t_in_other (by decide) ?_))
      simp (disch := omega) only [go_sem, ↓reduceIte, Nat.reduceAdd, Nat.reduceSub, Nat.reduceMul, Nat.reduceEqDiff, Nat.reduceLT, Nat.reduceLeDiff, Nat.reduceBEq, Int.reduceNeg, Int.reduceLT, Int.reduceLE, Int.reduceEq, reduceCtorEq]
    · exact ⟨by simp (disch := omega) only [go_sem, ↓reduceIte, Nat.reduceAdd, Nat.reduceSub, Nat.reduceMul, Nat.reduceEqDiff, Nat.reduceLT, Nat.reduceLeDiff, Nat.reduceBEq, Int.reduceNeg, Int.reduceLT, Int.reduceLE, Int.reduceEq, reduceCtorEq]; rfl, by exact gC⟩
  · refine pure_intro (tok := 0) (rs := [.tmp 2]) Tryd.func95 rfl Tryd.ntmps95 Tryd.results95 Tryd.call95 (by rfl) (by simp) ?_
    (repeat' (first | (with_reducible first | refine stp ?_ | apply gx1 | apply gx2 | apply gx3 | apply gx4 | apply gx5 | apply gx6 | apply gx7) | (with_reducible refine all_v ?_; intro _) | ((with_reducible refine gE ?_); (try simp (disch := omega) only [go_sem, ↓reduceIte, Nat.reduceAdd, Nat.reduceSub, Nat.reduceMul, Nat.reduceEqDiff, Nat.reduceLT, Nat.reduceLeDiff, Nat.reduceBEq, Int.reduceNeg, Int.reduceLT, Int.reduceLE, Int.reduceEq, reduceCtorEq]) <;> first | rfl | omega) | with_reducible refine t_in_other (by decide) ?_))
    refine r_loopE (ι := Nat) (fun k e m => k ≤ n ∧ e 0 = .v (.int .u64 (k : Int)) ∧ ((k = n ∧ e 3 = .v (.slice none 0 0)) ∨ (k < n ∧ ∃ sv l, e 3 = .own 12 sv ∧ m 12 = some (.row sv 91 1 (u16s l) 0) ∧ l ++ toL k = toL n))) (fun k => k) n (by rfl) ?_ ?_
    · rintro k e m ⟨hk, e0, hor⟩
      by_cases hk0 : k = 0
      · subst hk0
        rcases hor with ⟨h1, _⟩ | ⟨_, sv, l, e3, em, hl⟩
        · omega
        · (repeat' (first | (with_reducible first | refine stp ?_ | apply gx1 | apply gx2 | apply gx3 | apply gx4 | apply gx5 | apply gx6 | apply gx7) | (with_reducible refine all_v ?_; intro _) | ((with_reducible refine gE ?_); (try simp (disch := omega) only [go_sem, ↓reduceIte, Nat.reduceAdd, Nat.reduceSub, Nat.reduceMul, Nat.reduceEqDiff, Nat.reduceLT, Nat.reduceLeDiff, Nat.reduceBEq, Int.reduceNeg, Int.reduceLT, Int.reduceLE, Int.reduceEq, reduceCtorEq, e0, e3]) <;> first | rfl | omega) | with_reducible refine t_in_other (by decide) ?_))
          simp (disch := omega) only [go_sem, ↓reduceIte, Nat.reduceAdd, Nat.reduceSub, Nat.reduceMul, Nat.reduceEqDiff, Nat.reduceLT, Nat.reduceLeDiff, Nat.reduceBEq, Int.reduceNeg, Int.reduceLT, Int.reduceLE, Int.reduceEq, reduceCtorEq, em]
          rw [toL_zero, List.append_nil] at hl
          rw [hl]
      · rcases hor with ⟨rfl, e3⟩ | ⟨_, sv, l, e3, em, hl⟩
        · (repeat' (first | (with_reducible first | refine stp ?_ | apply gx1 | apply gx2 | apply gx3 | apply gx4 | apply gx5 | apply gx6 | apply gx7) | (with_reducible refine all_v ?_; intro _) | ((with_reducible refine gE ?_); (try simp (disch := omega) only [go_sem, ↓reduceIte, Nat.reduceAdd, Nat.reduceSub, Nat.reduceMul, Nat.reduceEqDiff, Nat.reduceLT, Nat.reduceLeDiff, Nat.reduceBEq, Int.reduceNeg, Int.reduceLT, Int.reduceLE, Int.reduceEq, reduceCtorEq, e0, e3, cut_nat]) <;> first | rfl | omega) | with_reducible refine t_in_other (by decide) ?_))
          refine ⟨k / 65536, ⟨by omega, by exact gW e0, .inr ⟨by omega, _, [k % 65536], by exact gC, by exact gC, ?_⟩⟩, by omega⟩
          rw [toL_pos hk0]; rfl
        · have b1 := (toL_len_lt (n := n) (k := 4)).2 hn
          have b2 : l.length ≤ (toL n).length := by rw [← hl]; simp
          (repeat' (first | (with_reducible first | refine stp ?_ | apply gx1 | apply gx2 | apply gx3 | apply gx4 | apply gx5 | apply gx6 | apply gx7) | (with_reducible refine all_v ?_; intro _) | ((with_reducible refine gE ?_); (try simp (disch := omega) only [go_sem, ↓reduceIte, Nat.reduceAdd, Nat.reduceSub, Nat.reduceMul, Nat.reduceEqDiff, Nat.reduceLT, Nat.reduceLeDiff, Nat.reduceBEq, Int.reduceNeg, Int.reduceLT, Int.reduceLE, Int.reduceEq, reduceCtorEq, e0, e3, em, cut_nat]) <;> first | rfl | omega) | with_reducible refine t_in_other (by decide) ?_))
          refine ⟨k / 65536, ⟨by omega, by exact gW e0, .inr ⟨by omega, _, l ++ [k % 65536], by exact gC, by exact gC, ?_⟩⟩, by omega⟩
          rw [← hl, toL_pos hk0]; simp
    · exact ⟨Nat.le_refl _, by exact gC, .inl ⟨rfl, by exact gC⟩⟩

/-- The order of two numbers, as an int. -/
def cmpN (a b : Nat) : Int := if a < b then -1 else if b < a then 1 else 0

theorem natCmp (a b : List Nat) (ha : a.length ≤ 1000000000) (hb : b.length ≤ 1000000000) (la : Lm a) (lb : Lm b) : Pure Tryd.prog 106 [lim a, lim b] (.v (.int .i64 (cmpN (nv a) (nv b)))) := by
  have h1 := toL_len_le la
  have h2 := toL_len_le lb
  have va := nv_toL (nv a)
  have vb := nv_toL (nv b)
  have ma := lm_toL (nv a)
  have mb := lm_toL (nv b)
  refine pure_intro (tok := 0) (rs := [.tmp 4]) Tryd.func106 rfl Tryd.ntmps106 Tryd.results106 Tryd.call106 (by rfl) (by simp) ?_
  by_cases hlt : (toL (nv a)).length < (toL (nv b)).length
  · have : nv a < nv b := by
      rcases Nat.lt_or_ge (nv a) (nv b) with h | h
      · exact h
      · have := toL_len_mono h; omega
    (repeat' (first | (with_reducible first | refine stp ?_ | apply gx1 | apply gx2 | apply gx3 | apply gx4 | apply gx5 | apply gx6 | apply gx7 | refine gw0 (natTrim a ha la) ?_ ?_ | refine gw0 (natTrim b hb lb) ?_ ?_) | (with_reducible refine all_v ?_; intro _) | ((with_reducible refine gE ?_); (try simp (disch := omega) only [go_sem, ↓reduceIte, Nat.reduceAdd, Nat.reduceSub, Nat.reduceMul, Nat.reduceEqDiff, Nat.reduceLT, Nat.reduceLeDiff, Nat.reduceBEq, Int.reduceNeg, Int.reduceLT, Int.reduceLE, Int.reduceEq, reduceCtorEq]) <;> first | rfl | omega) | with_reducible refine t_in_other (by decide) ?_))
    simp (disch := omega) only [go_sem, ↓reduceIte, Nat.reduceAdd, Nat.reduceSub, Nat.reduceMul, Nat.reduceEqDiff, Nat.reduceLT, Nat.reduceLeDiff, Nat.reduceBEq, Int.reduceNeg, Int.reduceLT, Int.reduceLE, Int.reduceEq, reduceCtorEq, cmpN, if_pos this]
  · by_cases hgt : (toL (nv b)).length < (toL (nv a)).length
    · have : nv b < nv a := by
        rcases Nat.lt_or_ge (nv b) (nv a) with h | h
        · exact h
        · have := toL_len_mono h; omega
      have this2 : ¬ nv a < nv b := by omega
      (repeat' (first | (with_reducible first | refine stp ?_ | apply gx1 | apply gx2 | apply gx3 | apply gx4 | apply gx5 | apply gx6 | apply gx7 | refine gw0 (natTrim a ha la) ?_ ?_ | refine gw0 (natTrim b hb lb) ?_ ?_) | (with_reducible refine all_v ?_; intro _) | ((with_reducible refine gE ?_); (try simp (disch := omega) only [go_sem, ↓reduceIte, Nat.reduceAdd, Nat.reduceSub, Nat.reduceMul, Nat.reduceEqDiff, Nat.reduceLT, Nat.reduceLeDiff, Nat.reduceBEq, Int.reduceNeg, Int.reduceLT, Int.reduceLE, Int.reduceEq, reduceCtorEq]) <;> first | rfl | omega) | with_reducible refine t_in_other (by decide) ?_))
      simp (disch := omega) only [go_sem, ↓reduceIte, Nat.reduceAdd, Nat.reduceSub, Nat.reduceMul, Nat.reduceEqDiff, Nat.reduceLT, Nat.reduceLeDiff, Nat.reduceBEq, Int.reduceNeg, Int.reduceLT, Int.reduceLE, Int.reduceEq, reduceCtorEq, cmpN, if_pos this, if_neg this2]
    · (repeat' (first | (with_reducible first | refine stp ?_ | apply gx1 | apply gx2 | apply gx3 | apply gx4 | apply gx5 | apply gx6 | apply gx7 | refine gw0 (natTrim a ha la) ?_ ?_ | refine gw0 (natTrim b hb lb) ?_ ?_) | (with_reducible refine all_v ?_; intro _) | ((with_reducible refine gE ?_); (try simp (disch := omega) only [go_sem, ↓reduceIte, Nat.reduceAdd, Nat.reduceSub, Nat.reduceMul, Nat.reduceEqDiff, Nat.reduceLT, Nat.reduceLeDiff, Nat.reduceBEq, Int.reduceNeg, Int.reduceLT, Int.reduceLE, Int.reduceEq, reduceCtorEq]) <;> first | rfl | omega) | with_reducible refine t_in_other (by decide) ?_))
      refine r_loopE (ι := Nat) (fun k e m => k ≤ (toL (nv a)).length ∧ e 0 = lim (toL (nv a)) ∧ e 1 = lim (toL (nv b)) ∧ e 5 = .v (.int .i64 ((k : Int) - 1)) ∧ nv ((toL (nv a)).drop k) = nv ((toL (nv b)).drop k)) (fun k => k) (toL (nv a)).length (by rfl) ?_ ?_
      · rintro k e m ⟨hk, e0, e1, e5, hz⟩
        by_cases h0 : k = 0
        · subst h0
          rw [List.drop_zero, List.drop_zero, va, vb] at hz
          (repeat' (first | (with_reducible first | refine stp ?_ | apply gx1 | apply gx2 | apply gx3 | apply gx4 | apply gx5 | apply gx6 | apply gx7) | (with_reducible refine all_v ?_; intro _) | ((with_reducible refine gE ?_); (try simp (disch := omega) only [go_sem, ↓reduceIte, Nat.reduceAdd, Nat.reduceSub, Nat.reduceMul, Nat.reduceEqDiff, Nat.reduceLT, Nat.reduceLeDiff, Nat.reduceBEq, Int.reduceNeg, Int.reduceLT, Int.reduceLE, Int.reduceEq, reduceCtorEq, e0, e1, e5]) <;> first | rfl | omega) | with_reducible refine t_in_other (by decide) ?_))
          simp (disch := omega) only [go_sem, ↓reduceIte, Nat.reduceAdd, Nat.reduceSub, Nat.reduceMul, Nat.reduceEqDiff, Nat.reduceLT, Nat.reduceLeDiff, Nat.reduceBEq, Int.reduceNeg, Int.reduceLT, Int.reduceLE, Int.reduceEq, reduceCtorEq, cmpN, hz, Nat.lt_irrefl, if_false]
        · have hk1 : k - 1 + 1 = k := by omega
          have ga := gN_lt ma (k - 1)
          have gb := gN_lt mb (k - 1)
          by_cases p1 : gN (toL (nv a)) (k - 1) < gN (toL (nv b)) (k - 1)
          · have := nv_cmp (k := k - 1) ma mb (by rw [hk1]; exact hz) p1
            rw [va, vb] at this
            (repeat' (first | (with_reducible first | refine stp ?_ | apply gx1 | apply gx2 | apply gx3 | apply gx4 | apply gx5 | apply gx6 | apply gx7 | apply gy8 | apply gz2 | apply gz3) | (with_reducible refine all_v ?_; intro _) | ((with_reducible refine gE ?_); (try simp (disch := omega) only [go_sem, ↓reduceIte, Nat.reduceAdd, Nat.reduceSub, Nat.reduceMul, Nat.reduceEqDiff, Nat.reduceLT, Nat.reduceLeDiff, Nat.reduceBEq, Int.reduceNeg, Int.reduceLT, Int.reduceLE, Int.reduceEq, reduceCtorEq, e0, e1, e5]) <;> first | rfl | omega) | with_reducible refine t_in_other (by decide) ?_ | ((with_reducible apply gy1); iterate 3 focus rfl) | ((with_reducible apply gy2); iterate 3 focus rfl) | ((with_reducible apply gy3); iterate 2 focus rfl) | ((with_reducible apply gy4); iterate 1 focus rfl) | ((with_reducible apply gy5); iterate 4 focus rfl) | ((with_reducible apply gy6); iterate 4 focus rfl) | ((with_reducible apply d_bar); iterate 3 focus rfl) | ((with_reducible apply q_pub); iterate 1 focus rfl) | ((with_reducible apply gy7); iterate 1 focus rfl) | ((with_reducible apply gy9); (focus ((with_reducible refine gE ?_); (try simp (disch := omega) only [go_sem, ↓reduceIte, Nat.reduceAdd, Nat.reduceSub, Nat.reduceMul, Nat.reduceEqDiff, Nat.reduceLT, Nat.reduceLeDiff, Nat.reduceBEq, Int.reduceNeg, Int.reduceLT, Int.reduceLE, Int.reduceEq, reduceCtorEq, e0, e1, e5]) <;> rfl))) | ((with_reducible apply gz1); (focus first | rfl | (simp (disch := omega) only [go_sem, ↓reduceIte, Nat.reduceAdd, Nat.reduceSub, Nat.reduceMul, Nat.reduceEqDiff, Nat.reduceLT, Nat.reduceLeDiff, Nat.reduceBEq, Int.reduceNeg, Int.reduceLT, Int.reduceLE, Int.reduceEq, reduceCtorEq, e0, e1, e5]; done))) | ((with_reducible apply r_drawD (pickR []) [] []); (focus kernel_rfl); (focus rfl); (focus kernel_rfl); (focus (simp only [List.length_cons, List.length_nil, Nat.reduceAdd]; rfl)))))
            simp (disch := omega) only [go_sem, ↓reduceIte, Nat.reduceAdd, Nat.reduceSub, Nat.reduceMul, Nat.reduceEqDiff, Nat.reduceLT, Nat.reduceLeDiff, Nat.reduceBEq, Int.reduceNeg, Int.reduceLT, Int.reduceLE, Int.reduceEq, reduceCtorEq, cmpN, if_pos this]
          · by_cases p2 : gN (toL (nv b)) (k - 1) < gN (toL (nv a)) (k - 1)
            · have := nv_cmp (k := k - 1) mb ma (by rw [hk1]; exact hz.symm) p2
              rw [va, vb] at this
              have this2 : ¬ nv a < nv b := by omega
              (repeat' (first | (with_reducible first | refine stp ?_ | apply gx1 | apply gx2 | apply gx3 | apply gx4 | apply gx5 | apply gx6 | apply gx7 | apply gy8 | apply gz2 | apply gz3) | (with_reducible refine all_v ?_; intro _) | ((with_reducible refine gE ?_); (try simp (disch := omega) only [go_sem, ↓reduceIte, Nat.reduceAdd, Nat.reduceSub, Nat.reduceMul, Nat.reduceEqDiff, Nat.reduceLT, Nat.reduceLeDiff, Nat.reduceBEq, Int.reduceNeg, Int.reduceLT, Int.reduceLE, Int.reduceEq, reduceCtorEq, e0, e1, e5]) <;> first | rfl | omega) | with_reducible refine t_in_other (by decide) ?_ | ((with_reducible apply gy1); iterate 3 focus rfl) | ((with_reducible apply gy2); iterate 3 focus rfl) | ((with_reducible apply gy3); iterate 2 focus rfl) | ((with_reducible apply gy4); iterate 1 focus rfl) | ((with_reducible apply gy5); iterate 4 focus rfl) | ((with_reducible apply gy6); iterate 4 focus rfl) | ((with_reducible apply d_bar); iterate 3 focus rfl) | ((with_reducible apply q_pub); iterate 1 focus rfl) | ((with_reducible apply gy7); iterate 1 focus rfl) | ((with_reducible apply gy9); (focus ((with_reducible refine gE ?_); (try simp (disch := omega) only [go_sem, ↓reduceIte, Nat.reduceAdd, Nat.reduceSub, Nat.reduceMul, Nat.reduceEqDiff, Nat.reduceLT, Nat.reduceLeDiff, Nat.reduceBEq, Int.reduceNeg, Int.reduceLT, Int.reduceLE, Int.reduceEq, reduceCtorEq, e0, e1, e5]) <;> rfl))) | ((with_reducible apply gz1); (focus first | rfl | (simp (disch := omega) only [go_sem, ↓reduceIte, Nat.reduceAdd, Nat.reduceSub, Nat.reduceMul, Nat.reduceEqDiff, Nat.reduceLT, Nat.reduceLeDiff, Nat.reduceBEq, Int.reduceNeg, Int.reduceLT, Int.reduceLE, Int.reduceEq, reduceCtorEq, e0, e1, e5]; done))) | ((with_reducible apply r_drawD (pickR []) [] []); (focus kernel_rfl); (focus rfl); (focus kernel_rfl); (focus (simp only [List.length_cons, List.length_nil, Nat.reduceAdd]; rfl)))))
              simp (disch := omega) only [go_sem, ↓reduceIte, Nat.reduceAdd, Nat.reduceSub, Nat.reduceMul, Nat.reduceEqDiff, Nat.reduceLT, Nat.reduceLeDiff, Nat.reduceBEq, Int.reduceNeg, Int.reduceLT, Int.reduceLE, Int.reduceEq, reduceCtorEq, cmpN, if_pos this, if_neg this2]
            · (repeat' (first | (with_reducible first | refine stp ?_ | apply gx1 | apply gx2 | apply gx3 | apply gx4 | apply gx5 | apply gx6 | apply gx7 | apply gy8 | apply gz2 | apply gz3) | (with_reducible refine all_v ?_; intro _) | ((with_reducible refine gE ?_); (try simp (disch := omega) only [go_sem, ↓reduceIte, Nat.reduceAdd, Nat.reduceSub, Nat.reduceMul, Nat.reduceEqDiff, Nat.reduceLT, Nat.reduceLeDiff, Nat.reduceBEq, Int.reduceNeg, Int.reduceLT, Int.reduceLE, Int.reduceEq, reduceCtorEq, e0, e1, e5]) <;> first | rfl | omega) | with_reducible refine t_in_other (by decide) ?_ | ((with_reducible apply gy1); iterate 3 focus rfl) | ((with_reducible apply gy2); iterate 3 focus rfl) | ((with_reducible apply gy3); iterate 2 focus rfl) | ((with_reducible apply gy4); iterate 1 focus rfl) | ((with_reducible apply gy5); iterate 4 focus rfl) | ((with_reducible apply gy6); iterate 4 focus rfl) | ((with_reducible apply d_bar); iterate 3 focus rfl) | ((with_reducible apply q_pub); iterate 1 focus rfl) | ((with_reducible apply gy7); iterate 1 focus rfl) | ((with_reducible apply gy9); (focus ((with_reducible refine gE ?_); (try simp (disch := omega) only [go_sem, ↓reduceIte, Nat.reduceAdd, Nat.reduceSub, Nat.reduceMul, Nat.reduceEqDiff, Nat.reduceLT, Nat.reduceLeDiff, Nat.reduceBEq, Int.reduceNeg, Int.reduceLT, Int.reduceLE, Int.reduceEq, reduceCtorEq, e0, e1, e5]) <;> rfl))) | ((with_reducible apply gz1); (focus first | rfl | (simp (disch := omega) only [go_sem, ↓reduceIte, Nat.reduceAdd, Nat.reduceSub, Nat.reduceMul, Nat.reduceEqDiff, Nat.reduceLT, Nat.reduceLeDiff, Nat.reduceBEq, Int.reduceNeg, Int.reduceLT, Int.reduceLE, Int.reduceEq, reduceCtorEq, e0, e1, e5]; done))) | ((with_reducible apply r_drawD (pickR []) [] []); (focus kernel_rfl); (focus rfl); (focus kernel_rfl); (focus (simp only [List.length_cons, List.length_nil, Nat.reduceAdd]; rfl)))))
              refine ⟨k - 1, ⟨by omega, by exact gW e0, by exact gW e1, by simp (disch := omega) only [go_sem, ↓reduceIte, Nat.reduceAdd, Nat.reduceSub, Nat.reduceMul, Nat.reduceEqDiff, Nat.reduceLT, Nat.reduceLeDiff, Nat.reduceBEq, Int.reduceNeg, Int.reduceLT, Int.reduceLE, Int.reduceEq, reduceCtorEq, e5]; congr 2; omega, ?_⟩, by omega⟩
              rw [nv_drop, nv_drop (toL (nv b)), hk1, hz]
              omega
      · refine ⟨Nat.le_refl _, by exact gC, by exact gC, by exact gC, ?_⟩
        rw [List.drop_eq_nil_of_le (Nat.le_refl _), List.drop_eq_nil_of_le (by omega)]
end Go.Proofs.YtjiffehkemeloaaDoor
end

section
namespace Go.Proofs.YtjiffehkemeloaaDoor
open Go Go.RowKit Go.Pg
set_option linter.unusedSimpArgs false
set_option linter.unusedVariables false
set_option maxRecDepth 20000
attribute [local go_sem] Tryd.underlying56 Tryd.underlying3 Tryd.underlying91 Tryd.underlying121 Tryd.underlying81 Tryd.underlying21 sz3 by3 z3 szL byL zL

set_option maxHeartbeats 1000000 in
theorem natAdd (a b : List Nat) (ha : a.length ≤ 1000000000) (hb : b.length ≤ 1000000000) (la : Lm a) (lb : Lm b) : Pure Tryd.prog 120 [lim a, lim b] (lim (toL (nv a + nv b))) := by
  have h1 := toL_len_le la
  have h2 := toL_len_le lb
  have va := nv_toL (nv a)
  have vb := nv_toL (nv b)
  have ma := lm_toL (nv a)
  have mb := lm_toL (nv b)
  obtain ⟨A, B, hA, hB, hle, hAl, hLA, hLB, hAB, hm⟩ : ∃ A B, A = (if (toL (nv a)).length < (toL (nv b)).length then toL (nv b) else toL (nv a)) ∧ B = (if (toL (nv a)).length < (toL (nv b)).length then toL (nv a) else toL (nv b)) ∧ B.length ≤ A.length ∧ A.length ≤ 1000000000 ∧ Lm A ∧ Lm B ∧ nv A + nv B = nv a + nv b ∧ A.length ≤ (toL (nv a + nv b)).length := by
    by_cases hlt : (toL (nv a)).length < (toL (nv b)).length
    · exact ⟨_, _, (if_pos hlt).symm, (if_pos hlt).symm, by omega, by omega, mb, ma, by omega, toL_len_mono (by omega)⟩
    · exact ⟨_, _, (if_neg hlt).symm, (if_neg hlt).symm, by omega, by omega, ma, mb, by omega, toL_len_mono (by omega)⟩
  refine pure_intro (tok := 0) (rs := [.tmp 4]) Tryd.func120 rfl Tryd.ntmps120 Tryd.results120 Tryd.call120 (by rfl) (by simp) ?_
  rcases Nat.lt_or_ge (toL (nv a)).length (toL (nv b)).length with hlt | hge
  rotate_left
  have hlt : ¬ (toL (nv a)).length < (toL (nv b)).length := by omega
  all_goals
    (first | rw [if_pos hlt] at hA hB | rw [if_neg hlt] at hA hB)
    (repeat' (first | (with_reducible first | refine stp ?_ | apply gx1 | apply gx2 | apply gx3 | apply gx4 | apply gx5 | apply gx6 | apply gx7 | refine gw0 (natTrim a ha la) ?_ ?_ | refine gw0 (natTrim b hb lb) ?_ ?_) | (with_reducible refine all_v ?_; intro _) | ((with_reducible refine gE ?_); (try simp (disch := omega) only [go_sem, ↓reduceIte, Nat.reduceAdd, Nat.reduceSub, Nat.reduceMul, Nat.reduceEqDiff, Nat.reduceLT, Nat.reduceLeDiff, Nat.reduceBEq, Int.reduceNeg, Int.reduceLT, Int.reduceLE, Int.reduceEq, reduceCtorEq]) <;> first | rfl | omega) | with_reducible refine t_in_other (by decide) ?_))
    rw [← hA]
    try rw [← hB]
    refine r_loopE (ι := Nat) (fun k e m => k ≤ A.length ∧ e 0 = lim A ∧ e 1 = lim B ∧ e 26 = lim A ∧ e 27 = .v (.int .i64 A.length) ∧ e 28 = .v (.int .i64 k) ∧ ∃ sv o c, e 5 = .own 25 sv ∧ e 6 = .v (.int .u32 (c : Nat)) ∧ m 25 = some (.row sv 91 1 (u16s o) 0) ∧ o.length = A.length ∧ Lm o ∧ c ≤ 1 ∧ nv (o.take k) + 65536 ^ k * c = nv (A.take k) + nv (B.take k)) (fun k => A.length - k) 0 (by rfl) ?_ ?_
    · rintro k e m ⟨hk, e0, e1, e26, e27, e28, sv, o, c, e5, e6, em, hol, hLo, hc, hv⟩
      have ga := gN_lt hLA k
      have gb := gN_lt hLB k
      have hs := add_step (x := gN A k) (y := gN B k) hv
      have w1 : (c + gN A k + gN B k) / 65536 ≤ 1 := by omega
      have w2 : (c + gN A k + gN B k) % 65536 < 65536 := by omega
      by_cases hlt2 : k < A.length
      · rw [← nv_set_take (o := o) (by omega), ← Nat.pow_succ, ← nv_take_succ, ← nv_take_succ] at hs
        by_cases hkb : k < B.length
        · (repeat' (first | (with_reducible first | refine stp ?_ | apply gx1 | apply gx2 | apply gx3 | apply gx4 | apply gx5 | apply gx6 | apply gx7) | (with_reducible refine all_v ?_; intro _) | ((with_reducible refine gE ?_); (try simp (disch := omega) only [go_sem, ↓reduceIte, Nat.reduceAdd, Nat.reduceSub, Nat.reduceMul, Nat.reduceEqDiff, Nat.reduceLT, Nat.reduceLeDiff, Nat.reduceBEq, Int.reduceNeg, Int.reduceLT, Int.reduceLE, Int.reduceEq, reduceCtorEq, e0, e1, e26, e27, e28, e5, e6, em, hol, add_nat, cut_nat]) <;> first | rfl | omega) | with_reducible refine t_in_other (by decide) ?_))
          exact ⟨k + 1, ⟨by omega, by exact gW e0, by exact gW e1, by exact gW e26, by exact gW e27, by exact gV e28, _, _, _, by exact gW e5, by exact gC, by exact gC, by simpa using hol, hLo.set k w2, w1, hs⟩, by omega⟩
        · have g0 : gN B k = 0 := gN_out (by omega)
          simp only [g0, Nat.add_zero] at hs w1 w2
          (repeat' (first | (with_reducible first | refine stp ?_ | apply gx1 | apply gx2 | apply gx3 | apply gx4 | apply gx5 | apply gx6 | apply gx7) | (with_reducible refine all_v ?_; intro _) | ((with_reducible refine gE ?_); (try simp (disch := omega) only [go_sem, ↓reduceIte, Nat.reduceAdd, Nat.reduceSub, Nat.reduceMul, Nat.reduceEqDiff, Nat.reduceLT, Nat.reduceLeDiff, Nat.reduceBEq, Int.reduceNeg, Int.reduceLT, Int.reduceLE, Int.reduceEq, reduceCtorEq, e0, e1, e26, e27, e28, e5, e6, em, hol, add_nat, cut_nat]) <;> first | rfl | omega) | with_reducible refine t_in_other (by decide) ?_))
          exact ⟨k + 1, ⟨by omega, by exact gW e0, by exact gW e1, by exact gW e26, by exact gW e27, by exact gV e28, _, _, _, by exact gW e5, by exact gC, by exact gC, by simpa using hol, hLo.set k w2, w1, hs⟩, by omega⟩
      · have hkA : k = A.length := by omega
        subst hkA
        rw [take_all (Nat.le_refl _), take_all hle, take_all (by omega), hAB] at hv
        by_cases hc0 : c = 0
        · subst hc0
          rw [Nat.mul_zero, Nat.add_zero] at hv
          (repeat' (first | (with_reducible first | refine stp ?_ | apply gx1 | apply gx2 | apply gx3 | apply gx4 | apply gx5 | apply gx6 | apply gx7) | (with_reducible refine all_v ?_; intro _) | ((with_reducible refine gE ?_); (try simp (disch := omega) only [go_sem, ↓reduceIte, Nat.reduceAdd, Nat.reduceSub, Nat.reduceMul, Nat.reduceEqDiff, Nat.reduceLT, Nat.reduceLeDiff, Nat.reduceBEq, Int.reduceNeg, Int.reduceLT, Int.reduceLE, Int.reduceEq, reduceCtorEq, e0, e1, e26, e27, e28, e5, e6, em, hol]) <;> first | rfl | omega) | with_reducible refine t_in_other (by decide) ?_))
          simp (disch := omega) only [go_sem, ↓reduceIte, Nat.reduceAdd, Nat.reduceSub, Nat.reduceMul, Nat.reduceEqDiff, Nat.reduceLT, Nat.reduceLeDiff, Nat.reduceBEq, Int.reduceNeg, Int.reduceLT, Int.reduceLE, Int.reduceEq, reduceCtorEq, em]
          rw [canon' hLo (by rw [hv]; omega), hv]
        · have hc1 : c = 1 := by omega
          subst hc1
          (repeat' (first | (with_reducible first | refine stp ?_ | apply gx1 | apply gx2 | apply gx3 | apply gx4 | apply gx5 | apply gx6 | apply gx7) | (with_reducible refine all_v ?_; intro _) | ((with_reducible refine gE ?_); (try simp (disch := omega) only [go_sem, ↓reduceIte, Nat.reduceAdd, Nat.reduceSub, Nat.reduceMul, Nat.reduceEqDiff, Nat.reduceLT, Nat.reduceLeDiff, Nat.reduceBEq, Int.reduceNeg, Int.reduceLT, Int.reduceLE, Int.reduceEq, reduceCtorEq, e0, e1, e26, e27, e28, e5, e6, em, hol, cut_nat]) <;> first | rfl | omega) | with_reducible refine t_in_other (by decide) ?_))
          simp (disch := omega) only [go_sem, ↓reduceIte, Nat.reduceAdd, Nat.reduceSub, Nat.reduceMul, Nat.reduceEqDiff, Nat.reduceLT, Nat.reduceLeDiff, Nat.reduceBEq, Int.reduceNeg, Int.reduceLT, Int.reduceLE, Int.reduceEq, reduceCtorEq]
          have h3 : nv (o ++ [1]) = nv a + nv b := by rw [nv_append, hol]; simpa [nv] using hv
          rw [← h3, ← canon (hLo.append (Lm.one (by omega))) (.inr (by simp [gN]))]
    · refine ⟨Nat.zero_le _, by exact gC, by exact gC, by exact gC, by exact gC, by exact gC, _, List.replicate A.length 0, 0, by exact gC, by exact gC, by exact gC, by simp, Lm.zeros _, by omega, by simp [nv]⟩

theorem okTup {a : AV} {n : Int} (h : a = .v (.slice none 0 0)) : Wk (.tup [a, .v (.int .i64 n)]) (.tup [lim [], .v (.int .i64 n)]) := by
  subst h; exact Wk.pair (.nil 1)

set_option maxHeartbeats 1000000 in
theorem natSub (a b : List Nat) (ha : a.length ≤ 1000000000) (hb : b.length ≤ 1000000000) (la : Lm a) (lb : Lm b) :
    Pure Tryd.prog 121 [lim a, lim b] (.tup [lim (if nv a < nv b then [] else toL (nv a - nv b)), .v (.int .i64 (if nv a < nv b then 2 else 0))]) := by
  by_cases hlt : nv a < nv b
  · rw [if_pos hlt, if_pos hlt]
    refine Pure.wk ?_ (okTup rfl)
    refine pure_intro (tok := 0) (rs := [.tmp 4, .tmp 5]) Tryd.func121 rfl Tryd.ntmps121 Tryd.results121 Tryd.call121 (by rfl) (by simp) ?_
    have hc : cmpN (nv a) (nv b) = -1 := by unfold cmpN; rw [if_pos hlt]
    (repeat' (first | (with_reducible first | refine stp ?_ | apply gx1 | apply gx2 | apply gx3 | apply gx4 | apply gx5 | apply gx6 | apply gx7 | refine gw0 (natCmp a b ha hb la lb) ?_ ?_) | (with_reducible refine all_v ?_; intro _) | ((with_reducible refine gE ?_); (try simp (disch := omega) only [go_sem, ↓reduceIte, Nat.reduceAdd, Nat.reduceSub, Nat.reduceMul, Nat.reduceEqDiff, Nat.reduceLT, Nat.reduceLeDiff, Nat.reduceBEq, Int.reduceNeg, Int.reduceLT, Int.reduceLE, Int.reduceEq, reduceCtorEq, hc]) <;> first | rfl | omega) | with_reducible refine t_in_other (by decide) ?_))
    simp (disch := omega) only [go_sem, ↓reduceIte, Nat.reduceAdd, Nat.reduceSub, Nat.reduceMul, Nat.reduceEqDiff, Nat.reduceLT, Nat.reduceLeDiff, Nat.reduceBEq, Int.reduceNeg, Int.reduceLT, Int.reduceLE, Int.reduceEq, reduceCtorEq]
  · rw [if_neg hlt, if_neg hlt]
    have h1 := toL_len_le la
    have va := nv_toL (nv a)
    have vb := nv_toL (nv b)
    have ma := lm_toL (nv a)
    have mb := lm_toL (nv b)
    have h2 : (toL (nv b)).length ≤ (toL (nv a)).length := toL_len_mono (by omega)
    have hc : 0 ≤ cmpN (nv a) (nv b) := by unfold cmpN; rw [if_neg hlt]; split <;> omega
    generalize hA : toL (nv a) = A at *
    generalize hB : toL (nv b) = B at *
    refine pure_intro (tok := 0) (rs := [.tmp 4, .tmp 5]) Tryd.func121 rfl Tryd.ntmps121 Tryd.results121 Tryd.call121 (by rfl) (by simp) ?_
    (repeat' (first | (with_reducible first | refine stp ?_ | apply gx1 | apply gx2 | apply gx3 | apply gx4 | apply gx5 | apply gx6 | apply gx7 | refine gw0 (natCmp a b ha hb la lb) ?_ ?_ | refine gw0 (natTrim a ha la) ?_ ?_ | refine gw0 (natTrim b hb lb) ?_ ?_) | (with_reducible refine all_v ?_; intro _) | ((with_reducible refine gE ?_); (try simp (disch := omega) only [go_sem, ↓reduceIte, Nat.reduceAdd, Nat.reduceSub, Nat.reduceMul, Nat.reduceEqDiff, Nat.reduceLT, Nat.reduceLeDiff, Nat.reduceBEq, Int.reduceNeg, Int.reduceLT, Int.reduceLE, Int.reduceEq, reduceCtorEq, hA, hB]) <;> first | rfl | omega) | with_reducible refine t_in_other (by decide) ?_))
    rw [hA, hB]
    refine r_loopE (ι := Nat) (fun k e m => k ≤ A.length ∧ (e 1 = lim B ∧ e 22 = lim A ∧ e 23 = .v (.int .i64 A.length) ∧ e 24 = .v (.int .i64 k)) ∧ ∃ sv o r, (e 6 = .own 21 sv ∧ e 7 = .v (.int .i32 (r : Nat)) ∧ m 21 = some (.row sv 91 1 (u16s o) 0)) ∧ o.length = A.length ∧ Lm o ∧ r ≤ 1 ∧ nv (o.take k) + nv (B.take k) = nv (A.take k) + 65536 ^ k * r) (fun k => A.length - k) 0 (by rfl) ?_ ?_
    · rintro k e m ⟨hk, ⟨e1, e22, e23, e24⟩, sv, o, r, ⟨e6, e7, em⟩, hol, hLo, hr, hv⟩
      have ga := gN_lt ma k
      have gb := gN_lt mb k
      by_cases hlt2 : k < A.length
      · have step : ∀ (d r' : Nat), d + r + gN B k = gN A k + 65536 * r' → d < 65536 → r' ≤ 1 → (o.set k d).length = A.length ∧ Lm (o.set k d) ∧ r' ≤ 1 ∧ nv ((o.set k d).take (k + 1)) + nv (B.take (k + 1)) = nv (A.take (k + 1)) + 65536 ^ (k + 1) * r' := by
          intro d r' hd h3 h4
          have := sub_step hv hd
          rw [nv_set_take (by omega), nv_take_succ, nv_take_succ, Nat.pow_succ]
          exact ⟨by simpa using hol, hLo.set k h3, h4, this⟩
        by_cases hneg : gN A k < r + gN B k
        · have hs := step (gN A k + 65536 - r - gN B k) 1 (by omega) (by omega) (by omega)
          have w : (gN A k : Int) - r - gN B k + 65536 = ((gN A k + 65536 - r - gN B k : Nat) : Int) := by omega
          by_cases hkb : k < B.length
          · (repeat' (first | (with_reducible first | refine stp ?_ | apply gx1 | apply gx2 | apply gx3 | apply gx4 | apply gx5 | apply gx6 | apply gx7) | (with_reducible refine all_v ?_; intro _) | ((with_reducible refine gE ?_); (try simp (disch := omega) only [go_sem, ↓reduceIte, Nat.reduceAdd, Nat.reduceSub, Nat.reduceMul, Nat.reduceEqDiff, Nat.reduceLT, Nat.reduceLeDiff, Nat.reduceBEq, Int.reduceNeg, Int.reduceLT, Int.reduceLE, Int.reduceEq, reduceCtorEq, e1, e22, e23, e24, e6, e7, em, hol, w]) <;> first | rfl | omega) | with_reducible refine t_in_other (by decide) ?_))
            exact ⟨k + 1, ⟨by omega, by exact gV (And.intro e1 (And.intro e22 (And.intro e23 e24))), sv, _, 1, by exact gW e6, hs⟩, by omega⟩
          · have g0 : gN B k = 0 := gN_out (by omega)
            simp only [g0, Nat.sub_zero, Nat.add_zero] at hs w hneg
            have w : (gN A k : Int) - r + 65536 = ((gN A k + 65536 - r : Nat) : Int) := by omega
            (repeat' (first | (with_reducible first | refine stp ?_ | apply gx1 | apply gx2 | apply gx3 | apply gx4 | apply gx5 | apply gx6 | apply gx7) | (with_reducible refine all_v ?_; intro _) | ((with_reducible refine gE ?_); (try simp (disch := omega) only [go_sem, ↓reduceIte, Nat.reduceAdd, Nat.reduceSub, Nat.reduceMul, Nat.reduceEqDiff, Nat.reduceLT, Nat.reduceLeDiff, Nat.reduceBEq, Int.reduceNeg, Int.reduceLT, Int.reduceLE, Int.reduceEq, reduceCtorEq, e1, e22, e23, e24, e6, e7, em, hol, w]) <;> first | rfl | omega) | with_reducible refine t_in_other (by decide) ?_))
            exact ⟨k + 1, ⟨by omega, by exact gV (And.intro e1 (And.intro e22 (And.intro e23 e24))), sv, _, 1, by exact gW e6, hs⟩, by omega⟩
        · have hs := step (gN A k - r - gN B k) 0 (by omega) (by omega) (by omega)
          have w : (gN A k : Int) - r - gN B k = ((gN A k - r - gN B k : Nat) : Int) := by omega
          by_cases hkb : k < B.length
          · (repeat' (first | (with_reducible first | refine stp ?_ | apply gx1 | apply gx2 | apply gx3 | apply gx4 | apply gx5 | apply gx6 | apply gx7) | (with_reducible refine all_v ?_; intro _) | ((with_reducible refine gE ?_); (try simp (disch := omega) only [go_sem, ↓reduceIte, Nat.reduceAdd, Nat.reduceSub, Nat.reduceMul, Nat.reduceEqDiff, Nat.reduceLT, Nat.reduceLeDiff, Nat.reduceBEq, Int.reduceNeg, Int.reduceLT, Int.reduceLE, Int.reduceEq, reduceCtorEq, e1, e22, e23, e24, e6, e7, em, hol, w]) <;> first | rfl | omega) | with_reducible refine t_in_other (by decide) ?_))
            exact ⟨k + 1, ⟨by omega, by exact gV (And.intro e1 (And.intro e22 (And.intro e23 e24))), sv, _, 0, by (simp (disch := omega) only [go_sem, ↓reduceIte, Nat.reduceAdd, Nat.reduceSub, Nat.reduceMul, Nat.reduceEqDiff, Nat.reduceLT, Nat.reduceLeDiff, Nat.reduceBEq, Int.reduceNeg, Int.reduceLT, Int.reduceLE, Int.reduceEq, reduceCtorEq, e6, Int.natCast_zero] <;> repeat' first | rfl | refine ⟨?_, ?_⟩), hs⟩, by omega⟩
          · have g0 : gN B k = 0 := gN_out (by omega)
            simp only [g0, Nat.sub_zero, Nat.add_zero] at hs hneg
            have w : (gN A k : Int) - r = ((gN A k - r : Nat) : Int) := by omega
            (repeat' (first | (with_reducible first | refine stp ?_ | apply gx1 | apply gx2 | apply gx3 | apply gx4 | apply gx5 | apply gx6 | apply gx7) | (with_reducible refine all_v ?_; intro _) | ((with_reducible refine gE ?_); (try simp (disch := omega) only [go_sem, ↓reduceIte, Nat.reduceAdd, Nat.reduceSub, Nat.reduceMul, Nat.reduceEqDiff, Nat.reduceLT, Nat.reduceLeDiff, Nat.reduceBEq, Int.reduceNeg, Int.reduceLT, Int.reduceLE, Int.reduceEq, reduceCtorEq, e1, e22, e23, e24, e6, e7, em, hol, w]) <;> first | rfl | omega) | with_reducible refine t_in_other (by decide) ?_))
            exact ⟨k + 1, ⟨by omega, by exact gV (And.intro e1 (And.intro e22 (And.intro e23 e24))), sv, _, 0, by (simp (disch := omega) only [go_sem, ↓reduceIte, Nat.reduceAdd, Nat.reduceSub, Nat.reduceMul, Nat.reduceEqDiff, Nat.reduceLT, Nat.reduceLeDiff, Nat.reduceBEq, Int.reduceNeg, Int.reduceLT, Int.reduceLE, Int.reduceEq, reduceCtorEq, e6, Int.natCast_zero] <;> repeat' first | rfl | refine ⟨?_, ?_⟩), hs⟩, by omega⟩
      · have hkA : k = A.length := by omega
        subst hkA
        rw [take_all (by omega), take_all (Nat.le_refl _), take_all h2, va, vb] at hv
        have hno := nv_lt hLo
        rw [hol] at hno
        have hr0 : r = 0 := by
          rcases Nat.eq_zero_or_pos r with h3 | h3
          · exact h3
          · have : r = 1 := by omega
            subst this
            omega
        subst hr0
        have hno2 : nv o = nv a - nv b := by omega
        (repeat' (first | (with_reducible first | refine stp ?_ | apply gx1 | apply gx2 | apply gx3 | apply gx4 | apply gx5 | apply gx6 | apply gx7 | apply gw1 (natTrim o (by omega) hLo)) | (with_reducible refine all_v ?_; intro _) | ((with_reducible refine gE ?_); (try simp (disch := omega) only [go_sem, ↓reduceIte, Nat.reduceAdd, Nat.reduceSub, Nat.reduceMul, Nat.reduceEqDiff, Nat.reduceLT, Nat.reduceLeDiff, Nat.reduceBEq, Int.reduceNeg, Int.reduceLT, Int.reduceLE, Int.reduceEq, reduceCtorEq, e1, e22, e23, e24, e6, e7, em, hol]) <;> first | rfl | omega) | with_reducible refine t_in_other (by decide) ?_))
        simp (disch := omega) only [go_sem, ↓reduceIte, Nat.reduceAdd, Nat.reduceSub, Nat.reduceMul, Nat.reduceEqDiff, Nat.reduceLT, Nat.reduceLeDiff, Nat.reduceBEq, Int.reduceNeg, Int.reduceLT, Int.reduceLE, Int.reduceEq, reduceCtorEq, hno2]
    · exact ⟨Nat.zero_le _, by exact gC, _, List.replicate A.length 0, 0, ⟨by exact gC, by exact gC, by exact gC⟩, by simp, Lm.zeros _, by omega, by simp [nv]⟩
end Go.Proofs.YtjiffehkemeloaaDoor
end

section
namespace Go.Proofs.YtjiffehkemeloaaDoor
open Go Go.RowKit Go.Pg
set_option linter.unusedSimpArgs false
set_option linter.unusedVariables false
set_option maxRecDepth 20000
attribute [local go_sem] Tryd.underlying56 Tryd.underlying3 Tryd.underlying91 Tryd.underlying121 Tryd.underlying81 Tryd.underlying21 sz3 by3 z3 szL byL zL

set_option maxHeartbeats 1000000 in
theorem natMul (a b : List Nat) (ha : a.length ≤ 400000000) (hb : b.length ≤ 400000000) (la : Lm a) (lb : Lm b) : Pure Tryd.prog 71 [lim a, lim b] (lim (toL (nv a * nv b))) := by
  have h1 := toL_len_le la
  have h2 := toL_len_le lb
  have va := nv_toL (nv a)
  have vb := nv_toL (nv b)
  have ma := lm_toL (nv a)
  have mb := lm_toL (nv b)
  by_cases h0 : nv a = 0 ∨ nv b = 0
  · have hz : nv a * nv b = 0 := Nat.mul_eq_zero.2 h0
    rw [slN (show toL (nv a * nv b) = [] by rw [hz, toL_zero])]
    refine Pure.wk (r := .v (.slice none 0 0)) ?_ (.nil 1)
    refine pure_intro (tok := 0) (rs := [.tmp 4]) Tryd.func71 rfl Tryd.ntmps71 Tryd.results71 Tryd.call71 (by rfl) (by simp) ?_
    by_cases h3 : nv a = 0
    · have h4 := toL_len_zero.2 h3
      (repeat' (first | (with_reducible first | refine stp ?_ | apply gx1 | apply gx2 | apply gx3 | apply gx4 | apply gx5 | apply gx6 | apply gx7 | refine gw0 (natTrim a (by omega) la) ?_ ?_ | refine gw0 (natTrim b (by omega) lb) ?_ ?_) | (with_reducible refine all_v ?_; intro _) | ((with_reducible refine gE ?_); (try simp (disch := omega) only [go_sem, ↓reduceIte, Nat.reduceAdd, Nat.reduceSub, Nat.reduceMul, Nat.reduceEqDiff, Nat.reduceLT, Nat.reduceLeDiff, Nat.reduceBEq, Int.reduceNeg, Int.reduceLT, Int.reduceLE, Int.reduceEq, reduceCtorEq, h4]) <;> first | rfl | omega) | with_reducible refine t_in_other (by decide) ?_))
      simp (disch := omega) only [go_sem, ↓reduceIte, Nat.reduceAdd, Nat.reduceSub, Nat.reduceMul, Nat.reduceEqDiff, Nat.reduceLT, Nat.reduceLeDiff, Nat.reduceBEq, Int.reduceNeg, Int.reduceLT, Int.reduceLE, Int.reduceEq, reduceCtorEq]
    · have h4 : (toL (nv a)).length ≠ 0 := fun h => h3 (toL_len_zero.1 h)
      have h5 := toL_len_zero.2 (h0.resolve_left h3)
      (repeat' (first | (with_reducible first | refine stp ?_ | apply gx1 | apply gx2 | apply gx3 | apply gx4 | apply gx5 | apply gx6 | apply gx7 | refine gw0 (natTrim a (by omega) la) ?_ ?_ | refine gw0 (natTrim b (by omega) lb) ?_ ?_) | (with_reducible refine all_v ?_; intro _) | ((with_reducible refine gE ?_); (try simp (disch := omega) only [go_sem, ↓reduceIte, Nat.reduceAdd, Nat.reduceSub, Nat.reduceMul, Nat.reduceEqDiff, Nat.reduceLT, Nat.reduceLeDiff, Nat.reduceBEq, Int.reduceNeg, Int.reduceLT, Int.reduceLE, Int.reduceEq, reduceCtorEq, h5]) <;> first | rfl | omega) | with_reducible refine t_in_other (by decide) ?_))
      simp (disch := omega) only [go_sem, ↓reduceIte, Nat.reduceAdd, Nat.reduceSub, Nat.reduceMul, Nat.reduceEqDiff, Nat.reduceLT, Nat.reduceLeDiff, Nat.reduceBEq, Int.reduceNeg, Int.reduceLT, Int.reduceLE, Int.reduceEq, reduceCtorEq]
  · have h3 : (toL (nv a)).length ≠ 0 := fun h => h0 (.inl (toL_len_zero.1 h))
    have h4 : (toL (nv b)).length ≠ 0 := fun h => h0 (.inr (toL_len_zero.1 h))
    generalize hA : toL (nv a) = A at *
    generalize hB : toL (nv b) = B at *
    refine pure_intro (tok := 0) (rs := [.tmp 4]) Tryd.func71 rfl Tryd.ntmps71 Tryd.results71 Tryd.call71 (by rfl) (by simp) ?_
    (repeat' (first | (with_reducible first | refine stp ?_ | apply gx1 | apply gx2 | apply gx3 | apply gx4 | apply gx5 | apply gx6 | apply gx7 | refine gw0 (natTrim a (by omega) la) ?_ ?_ | refine gw0 (natTrim b (by omega) lb) ?_ ?_) | (with_reducible refine all_v ?_; intro _) | ((with_reducible refine gE ?_); (try simp (disch := omega) only [go_sem, ↓reduceIte, Nat.reduceAdd, Nat.reduceSub, Nat.reduceMul, Nat.reduceEqDiff, Nat.reduceLT, Nat.reduceLeDiff, Nat.reduceBEq, Int.reduceNeg, Int.reduceLT, Int.reduceLE, Int.reduceEq, reduceCtorEq, hA, hB, add_nat]) <;> first | rfl | omega) | with_reducible refine t_in_other (by decide) ?_))
    rw [hA, hB]
    refine r_loopE (ι := Nat) (fun i e m => i ≤ A.length ∧ (e 1 = lim B ∧ e 29 = lim A ∧ e 30 = .v (.int .i64 A.length) ∧ e 31 = .v (.int .i64 i)) ∧ ∃ sv o, (e 5 = .own 28 sv ∧ m 28 = some (.row sv 91 1 (u16s o) 0)) ∧ o.length = A.length + B.length ∧ Lm o ∧ (∀ j, i + B.length ≤ j → gN o j = 0) ∧ nv o = nv (A.take i) * nv B) (fun i => A.length - i) 0 (by rfl) ?_ ?_
    · rintro i e m ⟨hi, ⟨e1, e29, e30, e31⟩, sv, o, ⟨e5, em⟩, hol, hLo, hz, hv⟩
      by_cases hlt : i < A.length
      · have gx := gN_lt ma i
        (repeat' (first | (with_reducible first | refine stp ?_ | apply gx1 | apply gx2 | apply gx3 | apply gx4 | apply gx5 | apply gx6 | apply gx7) | (with_reducible refine all_v ?_; intro _) | ((with_reducible refine gE ?_); (try simp (disch := omega) only [go_sem, ↓reduceIte, Nat.reduceAdd, Nat.reduceSub, Nat.reduceMul, Nat.reduceEqDiff, Nat.reduceLT, Nat.reduceLeDiff, Nat.reduceBEq, Int.reduceNeg, Int.reduceLT, Int.reduceLE, Int.reduceEq, reduceCtorEq, e1, e29, e30, e31, e5, em, hol, add_nat]) <;> first | rfl | omega) | with_reducible refine t_in_other (by decide) ?_))
        refine r_loopE (ι := Nat) (fun k e' m' => k ≤ B.length ∧ (e' 1 = lim B ∧ e' 29 = lim A ∧ e' 30 = .v (.int .i64 A.length) ∧ e' 31 = .v (.int .i64 i) ∧ e' 36 = lim B ∧ e' 37 = .v (.int .i64 B.length) ∧ e' 38 = .v (.int .i64 k) ∧ e' 6 = .v (.int .i64 i) ∧ e' 7 = .v (.int .u16 (gN A i : Nat)) ∧ e' 5 = .own 28 sv) ∧ ∃ o' c, (e' 8 = .v (.int .u32 (c : Nat)) ∧ m' 28 = some (.row sv 91 1 (u16s o') 0)) ∧ o'.length = A.length + B.length ∧ Lm o' ∧ c < 65536 ∧ (∀ j, i + B.length ≤ j → gN o' j = 0) ∧ nv o' + 65536 ^ (i + k) * c = nv o + 65536 ^ i * nv (B.take k) * gN A i) (fun k => B.length - k) 0 (by rfl) ?_ ?_
        · rintro k e m ⟨hk, ⟨e1, e29, e30, e31, e36, e37, e38, e6, e7, e5⟩, o', c, ⟨e8, em⟩, hol', hLo', hc, hz', hv'⟩
          have gy := gN_lt mb k
          have go := gN_lt hLo' (i + k)
          have bd := mul_bd gx gy
          by_cases hkb : k < B.length
          · have hs := mul_step (x := gN A i) (y := gN B k) rfl (nv_set (o := o') (j := i + k) (by omega) _) hv'
            rw [← mul_part, ← nv_take_succ, ← Nat.pow_succ, Nat.succ_eq_add_one, Nat.add_assoc i] at hs
            have w1 : (c + (gN o' (i + k) + gN A i * gN B k)) / 65536 < 65536 := by omega
            have w2 : (c + (gN o' (i + k) + gN A i * gN B k)) % 65536 < 65536 := by omega
            generalize hxy : gN A i * gN B k = xy at *
            (repeat' (first | (with_reducible first | refine stp ?_ | apply gx1 | apply gx2 | apply gx3 | apply gx4 | apply gx5 | apply gx6 | apply gx7) | (with_reducible refine all_v ?_; intro _) | ((with_reducible refine gE ?_); (try simp (disch := omega) only [go_sem, ↓reduceIte, Nat.reduceAdd, Nat.reduceSub, Nat.reduceMul, Nat.reduceEqDiff, Nat.reduceLT, Nat.reduceLeDiff, Nat.reduceBEq, Int.reduceNeg, Int.reduceLT, Int.reduceLE, Int.reduceEq, reduceCtorEq, e1, e29, e30, e31, e36, e37, e38, e6, e7, e5, e8, em, hol', add_nat, mul_nat, cut_nat, hxy]) <;> first | rfl | omega) | with_reducible refine t_in_other (by decide) ?_))
            refine ⟨k + 1, ⟨by omega, by exact gV (And.intro e1 (And.intro e29 (And.intro e30 (And.intro e31 (And.intro e36 (And.intro e37 (And.intro e38 (And.intro e6 (And.intro e7 e5))))))))), _, _, ⟨by exact gC, by exact gC⟩, by simpa using hol', hLo'.set _ w2, w1, fun j hj => ?_, hs⟩, by omega⟩
            rw [gN_set (by omega), if_neg (by omega)]; exact hz' j hj
          · have hkB : k = B.length := by omega
            subst hkB
            rw [take_all (Nat.le_refl _)] at hv'
            have g0 := hz' (i + B.length) (Nat.le_refl _)
            have h5 := nv_set (o := o') (j := i + B.length) (by omega) c
            rw [g0, Nat.mul_zero, Nat.add_zero] at h5
            have hcc : c % 65536 = c := Nat.mod_eq_of_lt hc
            (repeat' (first | (with_reducible first | refine stp ?_ | apply gx1 | apply gx2 | apply gx3 | apply gx4 | apply gx5 | apply gx6 | apply gx7) | (with_reducible refine all_v ?_; intro _) | ((with_reducible refine gE ?_); (try simp (disch := omega) only [go_sem, ↓reduceIte, Nat.reduceAdd, Nat.reduceSub, Nat.reduceMul, Nat.reduceEqDiff, Nat.reduceLT, Nat.reduceLeDiff, Nat.reduceBEq, Int.reduceNeg, Int.reduceLT, Int.reduceLE, Int.reduceEq, reduceCtorEq, e1, e29, e30, e31, e36, e37, e38, e6, e7, e5, e8, em, hol', add_nat, cut_nat, hcc]) <;> first | rfl | omega) | with_reducible refine t_in_other (by decide) ?_))
            refine ⟨i + 1, ⟨by omega, by exact gV (And.intro e1 (And.intro e29 (And.intro e30 e31))), sv, _, ⟨by exact gW e5, by exact gC⟩, by simpa using hol', hLo'.set _ hc, fun j hj => ?_, ?_⟩, by omega⟩
            · rw [gN_set (by omega), if_neg (by omega)]; exact hz' j (by omega)
            · rw [h5, hv', hv, nv_take_succ, Nat.add_mul]
              congr 1
              simp only [Nat.mul_assoc, Nat.mul_comm, Nat.mul_left_comm]
        · exact ⟨Nat.zero_le _, by exact gW (And.intro e1 (And.intro e29 (And.intro e30 (And.intro e31 e5)))), _, 0, ⟨by exact gC, by exact gW em⟩, hol, hLo, by omega, hz, by simp [nv]⟩
      · have hiA : i = A.length := by omega
        subst hiA
        rw [take_all (Nat.le_refl _), va, vb] at hv
        (repeat' (first | (with_reducible first | refine stp ?_ | apply gx1 | apply gx2 | apply gx3 | apply gx4 | apply gx5 | apply gx6 | apply gx7 | apply gw1 (natTrim o (by omega) hLo)) | (with_reducible refine all_v ?_; intro _) | ((with_reducible refine gE ?_); (try simp (disch := omega) only [go_sem, ↓reduceIte, Nat.reduceAdd, Nat.reduceSub, Nat.reduceMul, Nat.reduceEqDiff, Nat.reduceLT, Nat.reduceLeDiff, Nat.reduceBEq, Int.reduceNeg, Int.reduceLT, Int.reduceLE, Int.reduceEq, reduceCtorEq, e1, e29, e30, e31, e5, em, hol]) <;> first | rfl | omega) | with_reducible refine t_in_other (by decide) ?_))
        simp (disch := omega) only [go_sem, ↓reduceIte, Nat.reduceAdd, Nat.reduceSub, Nat.reduceMul, Nat.reduceEqDiff, Nat.reduceLT, Nat.reduceLeDiff, Nat.reduceBEq, Int.reduceNeg, Int.reduceLT, Int.reduceLE, Int.reduceEq, reduceCtorEq, hv]
    · exact ⟨Nat.zero_le _, by exact gC, _, List.replicate (A.length + B.length) 0, ⟨by exact gC, by exact gC⟩, by simp, Lm.zeros _, fun j hj => gN_zeros _ _, by simp [nv, nv_zeros]⟩
end Go.Proofs.YtjiffehkemeloaaDoor
end

section
namespace Go.Proofs.YtjiffehkemeloaaDoor
open Go Go.RowKit Go.Pg
set_option linter.unusedSimpArgs false
set_option linter.unusedVariables false
set_option maxRecDepth 20000
attribute [local go_sem] Tryd.underlying56 Tryd.underlying3 Tryd.underlying91 Tryd.underlying121 Tryd.underlying81 Tryd.underlying21 Tryd.underlying9 Tryd.underlying5 Tryd.underlying122 sz3 by3 z3 szL byL zL

theorem bitsLen16 (x : Nat) (hx : x < 65536) : Pure Tryd.prog 103 [.v (.int .u16 (x : Int))] (.v (.int .i64 (len16 x : Nat))) := by
  refine pure_intro (tok := 0) (rs := [.tmp 2]) Tryd.func103 rfl Tryd.ntmps103 Tryd.results103 Tryd.call103 (by rfl) (by simp) ?_
  by_cases h : 256 ≤ x
  · have b := len8_bd (i := x / 256) (by omega)
    have e : len16 x = 8 + len8 (x / 256) := if_pos h
    (repeat' (first | (apply o_tab (g := len8) (n := 256) (by kernel_rfl) (by kernel_rfl) (by omega)) | (with_reducible first | refine stp ?_ | apply gx1 | apply gx2 | apply gx3 | apply gx4 | apply gx5 | apply gx6 | apply gx7) | (with_reducible refine all_v ?_; intro _) | ((with_reducible refine gE ?_); (try simp (disch := omega) only [go_sem, ↓reduceIte, Nat.reduceAdd, Nat.reduceSub, Nat.reduceMul, Nat.reduceEqDiff, Nat.reduceLT, Nat.reduceLeDiff, Nat.reduceBEq, Int.reduceNeg, Int.reduceLT, Int.reduceLE, Int.reduceEq, reduceCtorEq]) <;> first | rfl | omega) | with_reducible refine t_in_other (by decide) ?_))
    simp (disch := omega) only [go_sem, ↓reduceIte, Nat.reduceAdd, Nat.reduceSub, Nat.reduceMul, Nat.reduceEqDiff, Nat.reduceLT, Nat.reduceLeDiff, Nat.reduceBEq, Int.reduceNeg, Int.reduceLT, Int.reduceLE, Int.reduceEq, reduceCtorEq, e, Int.natCast_add, Int.cast_ofNat_Int]
  · have b := len8_bd (i := x) (by omega)
    have e : len16 x = len8 x := if_neg h
    (repeat' (first | (apply o_tab (g := len8) (n := 256) (by kernel_rfl) (by kernel_rfl) (by omega)) | (with_reducible first | refine stp ?_ | apply gx1 | apply gx2 | apply gx3 | apply gx4 | apply gx5 | apply gx6 | apply gx7) | (with_reducible refine all_v ?_; intro _) | ((with_reducible refine gE ?_); (try simp (disch := omega) only [go_sem, ↓reduceIte, Nat.reduceAdd, Nat.reduceSub, Nat.reduceMul, Nat.reduceEqDiff, Nat.reduceLT, Nat.reduceLeDiff, Nat.reduceBEq, Int.reduceNeg, Int.reduceLT, Int.reduceLE, Int.reduceEq, reduceCtorEq]) <;> first | rfl | omega) | with_reducible refine t_in_other (by decide) ?_))
    simp (disch := omega) only [go_sem, ↓reduceIte, Nat.reduceAdd, Nat.reduceSub, Nat.reduceMul, Nat.reduceEqDiff, Nat.reduceLT, Nat.reduceLeDiff, Nat.reduceBEq, Int.reduceNeg, Int.reduceLT, Int.reduceLE, Int.reduceEq, reduceCtorEq, e, Int.zero_add]
theorem bitsLz16 (x : Nat) (hx : x < 65536) : Pure Tryd.prog 108 [.v (.int .u16 (x : Int))] (.v (.int .i64 ((16 - len16 x : Nat) : Int))) := by
  refine pure_intro (tok := 0) (rs := [.tmp 2]) Tryd.func108 rfl Tryd.ntmps108 Tryd.results108 Tryd.call108 (by rfl) (by simp) ?_
  have b := len16_bd hx
  have w : (16 : Int) - (len16 x : Int) = ((16 - len16 x : Nat) : Int) := by omega
  (repeat' (first | (with_reducible first | refine stp ?_ | apply gx1 | apply gx2 | apply gx3 | apply gx4 | apply gx5 | apply gx6 | apply gx7 | refine gw0 (bitsLen16 x hx) ?_ ?_) | (with_reducible refine all_v ?_; intro _) | ((with_reducible refine gE ?_); (try simp (disch := omega) only [go_sem, ↓reduceIte, Nat.reduceAdd, Nat.reduceSub, Nat.reduceMul, Nat.reduceEqDiff, Nat.reduceLT, Nat.reduceLeDiff, Nat.reduceBEq, Int.reduceNeg, Int.reduceLT, Int.reduceLE, Int.reduceEq, reduceCtorEq, w]) <;> first | rfl | omega) | with_reducible refine t_in_other (by decide) ?_))
  simp (disch := omega) only [go_sem, ↓reduceIte, Nat.reduceAdd, Nat.reduceSub, Nat.reduceMul, Nat.reduceEqDiff, Nat.reduceLT, Nat.reduceLeDiff, Nat.reduceBEq, Int.reduceNeg, Int.reduceLT, Int.reduceLE, Int.reduceEq, reduceCtorEq]

/-- The number of binary digits, as the program finds it. -/
def bitsN (n : Nat) : Nat := if n = 0 then 0 else 16 * ((toL n).length - 1) + len16 (gN (toL n) ((toL n).length - 1))
theorem bitsN_zero {n : Nat} : bitsN n = 0 ↔ n = 0 := by
  constructor
  · intro h
    unfold bitsN at h
    split at h
    · assumption
    · rename_i h0
      have h1 := toL_top h0
      have := (len16_bd (gN_lt (lm_toL n) ((toL n).length - 1))).2 h1.2
      omega
  · rintro rfl; rfl

theorem natBits (l : List Nat) (hs : l.length ≤ 1000000000) (hl : Lm l) : Pure Tryd.prog 87 [lim l] (.v (.int .i64 (bitsN (nv l) : Nat))) := by
  have h1 := toL_len_le hl
  refine pure_intro (tok := 0) (rs := [.tmp 2]) Tryd.func87 rfl Tryd.ntmps87 Tryd.results87 Tryd.call87 (by rfl) (by simp) ?_
  by_cases h0 : nv l = 0
  · have h2 := toL_len_zero.2 h0
    have h3 := bitsN_zero.2 h0
    (repeat' (first | (with_reducible first | refine stp ?_ | apply gx1 | apply gx2 | apply gx3 | apply gx4 | apply gx5 | apply gx6 | apply gx7 | refine gw0 (natTrim l hs hl) ?_ ?_) | (with_reducible refine all_v ?_; intro _) | ((with_reducible refine gE ?_); (try simp (disch := omega) only [go_sem, ↓reduceIte, Nat.reduceAdd, Nat.reduceSub, Nat.reduceMul, Nat.reduceEqDiff, Nat.reduceLT, Nat.reduceLeDiff, Nat.reduceBEq, Int.reduceNeg, Int.reduceLT, Int.reduceLE, Int.reduceEq, reduceCtorEq, h2]) <;> first | rfl | omega) | with_reducible refine t_in_other (by decide) ?_))
    simp (disch := omega) only [go_sem, ↓reduceIte, Nat.reduceAdd, Nat.reduceSub, Nat.reduceMul, Nat.reduceEqDiff, Nat.reduceLT, Nat.reduceLeDiff, Nat.reduceBEq, Int.reduceNeg, Int.reduceLT, Int.reduceLE, Int.reduceEq, reduceCtorEq, h3]; rfl
  · obtain ⟨h2, h3⟩ := toL_top h0
    have hb : bitsN (nv l) = 16 * ((toL (nv l)).length - 1) + len16 (gN (toL (nv l)) ((toL (nv l)).length - 1)) := if_neg h0
    have b := len16_bd (gN_lt (lm_toL (nv l)) ((toL (nv l)).length - 1))
    have w : (16 : Int) * (((toL (nv l)).length : Int) - 1) + (len16 (gN (toL (nv l)) ((toL (nv l)).length - 1)) : Nat) = (bitsN (nv l) : Nat) := by omega
    (repeat' (first | (with_reducible first | refine stp ?_ | apply gx1 | apply gx2 | apply gx3 | apply gx4 | apply gx5 | apply gx6 | apply gx7 | refine gw0 (natTrim l hs hl) ?_ ?_ | refine gw0 (bitsLen16 (gN (toL (nv l)) ((toL (nv l)).length - 1)) (gN_lt (lm_toL (nv l)) _)) ?_ ?_) | (with_reducible refine all_v ?_; intro _) | ((with_reducible refine gE ?_); (try simp (disch := omega) only [go_sem, ↓reduceIte, Nat.reduceAdd, Nat.reduceSub, Nat.reduceMul, Nat.reduceEqDiff, Nat.reduceLT, Nat.reduceLeDiff, Nat.reduceBEq, Int.reduceNeg, Int.reduceLT, Int.reduceLE, Int.reduceEq, reduceCtorEq, w]) <;> first | rfl | omega) | with_reducible refine t_in_other (by decide) ?_))
    simp (disch := omega) only [go_sem, ↓reduceIte, Nat.reduceAdd, Nat.reduceSub, Nat.reduceMul, Nat.reduceEqDiff, Nat.reduceLT, Nat.reduceLeDiff, Nat.reduceBEq, Int.reduceNeg, Int.reduceLT, Int.reduceLE, Int.reduceEq, reduceCtorEq, w]

set_option maxHeartbeats 1000000 in
theorem natByLimb (a : List Nat) (d : Nat) (ha : a.length ≤ 1000000000) (la : Lm a) (hd0 : 0 < d) (hd : d < 65536) : Pure Tryd.prog 107 [lim a, .v (.int .u16 (d : Int))] (.tup [lim (toL (nv a / d)), .v (.int .u16 ((nv a % d : Nat) : Int))]) := by
  refine pure_intro (tok := 0) (rs := [.tmp 4, .tmp 5]) Tryd.func107 rfl Tryd.ntmps107 Tryd.results107 Tryd.call107 (by rfl) (by simp) ?_
  (repeat' (first | (with_reducible first | refine stp ?_ | apply gx1 | apply gx2 | apply gx3 | apply gx4 | apply gx5 | apply gx6 | apply gx7) | (with_reducible refine all_v ?_; intro _) | ((with_reducible refine gE ?_); (try simp (disch := omega) only [go_sem, ↓reduceIte, Nat.reduceAdd, Nat.reduceSub, Nat.reduceMul, Nat.reduceEqDiff, Nat.reduceLT, Nat.reduceLeDiff, Nat.reduceBEq, Int.reduceNeg, Int.reduceLT, Int.reduceLE, Int.reduceEq, reduceCtorEq]) <;> first | rfl | omega) | with_reducible refine t_in_other (by decide) ?_))
  refine r_loopE (ι := Nat) (fun k e m => k ≤ a.length ∧ (e 0 = lim a ∧ e 1 = .v (.int .u16 (d : Int)) ∧ e 8 = .v (.int .i64 ((k : Int) - 1))) ∧ ∃ sv q r, (e 6 = .own 11 sv ∧ e 7 = .v (.int .u32 (r : Nat)) ∧ m 11 = some (.row sv 91 1 (u16s q) 0)) ∧ q.length = a.length ∧ Lm q ∧ r < d ∧ (∀ j, j < k → gN q j = 0) ∧ nv (a.drop k) = d * nv (q.drop k) + r) (fun k => k) a.length (by rfl) ?_ ?_
  · rintro k e m ⟨hk, ⟨e0, e1, e8⟩, sv, q, r, ⟨e6, e7, em⟩, hql, hLq, hr, hz, hv⟩
    by_cases h0 : k = 0
    · subst h0
      rw [List.drop_zero, List.drop_zero] at hv
      have h2 : nv a / d = nv q := by rw [hv, Nat.mul_add_div hd0, Nat.div_eq_of_lt hr, Nat.add_zero]
      have h3 : nv a % d = r := by rw [hv, Nat.mul_add_mod, Nat.mod_eq_of_lt hr]
      (repeat' (first | (with_reducible first | refine stp ?_ | apply gx1 | apply gx2 | apply gx3 | apply gx4 | apply gx5 | apply gx6 | apply gx7 | apply gw1 (natTrim q (by omega) hLq)) | (with_reducible refine all_v ?_; intro _) | ((with_reducible refine gE ?_); (try simp (disch := omega) only [go_sem, ↓reduceIte, Nat.reduceAdd, Nat.reduceSub, Nat.reduceMul, Nat.reduceEqDiff, Nat.reduceLT, Nat.reduceLeDiff, Nat.reduceBEq, Int.reduceNeg, Int.reduceLT, Int.reduceLE, Int.reduceEq, reduceCtorEq, e0, e1, e8, e6, e7, em, hql]) <;> first | rfl | omega) | with_reducible refine t_in_other (by decide) ?_))
      simp (disch := omega) only [go_sem, ↓reduceIte, Nat.reduceAdd, Nat.reduceSub, Nat.reduceMul, Nat.reduceEqDiff, Nat.reduceLT, Nat.reduceLeDiff, Nat.reduceBEq, Int.reduceNeg, Int.reduceLT, Int.reduceLE, Int.reduceEq, reduceCtorEq, h2, h3]
    · have ga := gN_lt la (k - 1)
      have hd1 := div_step (x := gN a (k - 1)) rfl hv
      have w1 : (r * 65536 + gN a (k - 1)) / d < 65536 := by
        rw [Nat.div_lt_iff_lt_mul hd0]
        have : (r + 1) * 65536 ≤ d * 65536 := Nat.mul_le_mul_right _ hr
        rw [Nat.mul_comm 65536 d]
        omega
      have w2 : (r * 65536 + gN a (k - 1)) % d < d := Nat.mod_lt _ hd0
      have hk1 : k - 1 + 1 = k := by omega
      have hrr : r < 65536 := by omega
      have w3 : ((r * 65536 + gN a (k - 1)) / d) % 65536 = (r * 65536 + gN a (k - 1)) / d := Nat.mod_eq_of_lt w1
      (repeat' (first | (with_reducible first | refine stp ?_ | apply gx1 | apply gx2 | apply gx3 | apply gx4 | apply gx5 | apply gx6 | apply gx7) | (with_reducible refine all_v ?_; intro _) | ((with_reducible refine gE ?_); (try simp (disch := omega) only [go_sem, ↓reduceIte, Nat.reduceAdd, Nat.reduceSub, Nat.reduceMul, Nat.reduceEqDiff, Nat.reduceLT, Nat.reduceLeDiff, Nat.reduceBEq, Int.reduceNeg, Int.reduceLT, Int.reduceLE, Int.reduceEq, reduceCtorEq, e0, e1, e8, e6, e7, em, hql, quo_nat, rem_nat, cut_nat, w3]) <;> first | rfl | omega) | with_reducible refine t_in_other (by decide) ?_))
      refine ⟨k - 1, ⟨by omega, ⟨by exact gW e0, by exact gW e1, by (simp (disch := omega) only [go_sem, ↓reduceIte, Nat.reduceAdd, Nat.reduceSub, Nat.reduceMul, Nat.reduceEqDiff, Nat.reduceLT, Nat.reduceLeDiff, Nat.reduceBEq, Int.reduceNeg, Int.reduceLT, Int.reduceLE, Int.reduceEq, reduceCtorEq, e8]; congr 2; omega)⟩, sv, _, _, ⟨by exact gW e6, by exact gC, by exact gC⟩, by simpa using hql, hLq.set _ w1, w2, fun j hj => ?_, ?_⟩, by omega⟩
      · rw [gN_set (by omega), if_neg (by omega)]; exact hz j (by omega)
      · rw [nv_drop, hk1, hd1, nv_drop (q.set _ _), hk1, gN_set (by omega), if_pos rfl, List.drop_set_of_lt (by omega)]
  · exact ⟨Nat.le_refl _, by exact gC, _, List.replicate a.length 0, 0, ⟨by exact gC, by exact gC, by exact gC⟩, by simp, Lm.zeros _, hd0, fun j hj => gN_zeros _ _, by rw [List.drop_eq_nil_of_le (Nat.le_refl _), List.drop_eq_nil_of_le (by simp)]; simp [nv]⟩

theorem natUint (l : List Nat) (hs : l.length ≤ 1000000000) (hl : Lm l) : Pure Tryd.prog 105 [lim l] (.tup [.v (.int .u64 (if nv l < 18446744073709551616 then (nv l : Int) else 0)), .v (.bool (decide (nv l < 18446744073709551616)))]) := by
  have h1 := toL_len_le hl
  have hk := toL_len_lt (n := nv l) (k := 4)
  have va := nv_toL (nv l)
  have ma := lm_toL (nv l)
  refine pure_intro (tok := 0) (rs := [.tmp 2, .tmp 3]) Tryd.func105 rfl Tryd.ntmps105 Tryd.results105 Tryd.call105 (by rfl) (by simp) ?_
  by_cases hb : nv l < 18446744073709551616
  · have h4 := hk.2 hb
    generalize hA : toL (nv l) = A at *
    (repeat' (first | (with_reducible first | refine stp ?_ | apply gx1 | apply gx2 | apply gx3 | apply gx4 | apply gx5 | apply gx6 | apply gx7 | refine gw0 (natTrim l hs hl) ?_ ?_) | (with_reducible refine all_v ?_; intro _) | ((with_reducible refine gE ?_); (try simp (disch := omega) only [go_sem, ↓reduceIte, Nat.reduceAdd, Nat.reduceSub, Nat.reduceMul, Nat.reduceEqDiff, Nat.reduceLT, Nat.reduceLeDiff, Nat.reduceBEq, Int.reduceNeg, Int.reduceLT, Int.reduceLE, Int.reduceEq, reduceCtorEq, hA]) <;> first | rfl | omega) | with_reducible refine t_in_other (by decide) ?_))
    rw [hA]
    refine r_loopE (ι := Nat) (fun k e m => k ≤ A.length ∧ (e 12 = lim A ∧ e 13 = .v (.int .i64 A.length) ∧ e 14 = .v (.int .i64 k) ∧ e 4 = .v (.int .u64 (nv (A.take k) : Nat)))) (fun k => A.length - k) 0 (by rfl) ?_ ?_
    · rintro k e m ⟨hk, ⟨e12, e13, e14, e4⟩⟩
      have ga := gN_lt ma k
      by_cases hlt : k < A.length
      · have b1 : nv (A.take k) < 65536 ^ k := Nat.lt_of_lt_of_le (nv_lt (ma.take k)) (Nat.pow_le_pow_right (by omega) (by rw [List.length_take]; omega))
        rw [pow_16] at b1
        have w := orS_64 (n := nv (A.take k)) (x := gN A k) (s := 16 * k) b1 (by omega) ga
        rw [← pow_16, ← nv_take_succ, pow_16] at w
        have w2 : shlI .u64 (gN A k : Int) ((16 : Int) * (k : Int)) = ((gN A k * 2 ^ (16 * k) : Nat) : Int) := by
          have e : (16 : Int) * (k : Int) = ((16 * k : Nat) : Int) := by omega
          rw [e]
          refine shl_64 (by omega) ?_
          have : (2 : Nat) ^ (16 * k) ≤ 2 ^ 48 := Nat.pow_le_pow_right (by omega) (by omega)
          have h5 : gN A k * 2 ^ (16 * k) ≤ 65535 * 2 ^ 48 := Nat.mul_le_mul (by omega) this
          omega
        (repeat' (first | (with_reducible first | refine stp ?_ | apply gx1 | apply gx2 | apply gx3 | apply gx4 | apply gx5 | apply gx6 | apply gx7) | (with_reducible refine all_v ?_; intro _) | ((with_reducible refine gE ?_); (try simp (disch := omega) only [go_sem, ↓reduceIte, Nat.reduceAdd, Nat.reduceSub, Nat.reduceMul, Nat.reduceEqDiff, Nat.reduceLT, Nat.reduceLeDiff, Nat.reduceBEq, Int.reduceNeg, Int.reduceLT, Int.reduceLE, Int.reduceEq, reduceCtorEq, e12, e13, e14, e4, w2, w]) <;> first | rfl | omega) | with_reducible refine t_in_other (by decide) ?_))
        exact ⟨k + 1, ⟨by omega, by exact gV (And.intro e12 (And.intro e13 (And.intro e14 e4)))⟩, by omega⟩
      · rw [take_all (by omega), va] at e4
        (repeat' (first | (with_reducible first | refine stp ?_ | apply gx1 | apply gx2 | apply gx3 | apply gx4 | apply gx5 | apply gx6 | apply gx7) | (with_reducible refine all_v ?_; intro _) | ((with_reducible refine gE ?_); (try simp (disch := omega) only [go_sem, ↓reduceIte, Nat.reduceAdd, Nat.reduceSub, Nat.reduceMul, Nat.reduceEqDiff, Nat.reduceLT, Nat.reduceLeDiff, Nat.reduceBEq, Int.reduceNeg, Int.reduceLT, Int.reduceLE, Int.reduceEq, reduceCtorEq, e12, e13, e14, e4]) <;> first | rfl | omega) | with_reducible refine t_in_other (by decide) ?_))
        simp (disch := omega) only [go_sem, ↓reduceIte, Nat.reduceAdd, Nat.reduceSub, Nat.reduceMul, Nat.reduceEqDiff, Nat.reduceLT, Nat.reduceLeDiff, Nat.reduceBEq, Int.reduceNeg, Int.reduceLT, Int.reduceLE, Int.reduceEq, reduceCtorEq, if_pos hb, decide_eq_true hb]
    · exact ⟨Nat.zero_le _, by exact gC⟩
  · have h4 : 4 < (toL (nv l)).length := by
      rcases Nat.lt_or_ge 4 (toL (nv l)).length with h | h
      · exact h
      · exact absurd (hk.1 h) hb
    (repeat' (first | (with_reducible first | refine stp ?_ | apply gx1 | apply gx2 | apply gx3 | apply gx4 | apply gx5 | apply gx6 | apply gx7 | refine gw0 (natTrim l hs hl) ?_ ?_) | (with_reducible refine all_v ?_; intro _) | ((with_reducible refine gE ?_); (try simp (disch := omega) only [go_sem, ↓reduceIte, Nat.reduceAdd, Nat.reduceSub, Nat.reduceMul, Nat.reduceEqDiff, Nat.reduceLT, Nat.reduceLeDiff, Nat.reduceBEq, Int.reduceNeg, Int.reduceLT, Int.reduceLE, Int.reduceEq, reduceCtorEq]) <;> first | rfl | omega) | with_reducible refine t_in_other (by decide) ?_))
    simp (disch := omega) only [go_sem, ↓reduceIte, Nat.reduceAdd, Nat.reduceSub, Nat.reduceMul, Nat.reduceEqDiff, Nat.reduceLT, Nat.reduceLeDiff, Nat.reduceBEq, Int.reduceNeg, Int.reduceLT, Int.reduceLE, Int.reduceEq, reduceCtorEq, if_neg hb, decide_eq_false hb]
end Go.Proofs.YtjiffehkemeloaaDoor
end

section
namespace Go.Proofs.YtjiffehkemeloaaDoor
open Go Go.RowKit Go.Pg
set_option linter.unusedSimpArgs false
set_option linter.unusedVariables false
set_option maxRecDepth 20000
attribute [local go_sem] Tryd.underlying56 Tryd.underlying3 Tryd.underlying91 Tryd.underlying121 Tryd.underlying81 Tryd.underlying21 Tryd.underlying5 sz3 by3 z3 szL byL zL

set_option maxHeartbeats 1000000 in
theorem natRight (a : List Nat) (n : Nat) (ha : a.length ≤ 1000000000) (la : Lm a) (hn : n ≤ 1048576) : Pure Tryd.prog 115 [lim a, .v (.int .i64 (n : Int))] (lim (toL (nv a / 2 ^ n))) := by
  have hns : n = 16 * (n / 16) + n % 16 := by omega
  have q1 : (n : Int).tdiv 16 = ((n / 16 : Nat) : Int) := quo_nat n 16
  have q2 : (n : Int).tmod 16 = ((n % 16 : Nat) : Int) := rem_nat n 16
  have hs : n % 16 < 16 := Nat.mod_lt _ (by omega)
  rw [hns, nv_div_two, nv_div la, ← hns]
  generalize n / 16 = l at *
  generalize n % 16 = s at *
  by_cases hl : a.length ≤ l
  · have hz : toL (nv (a.drop l) / 2 ^ s) = [] := by rw [List.drop_eq_nil_of_le hl]; simp [nv, toL_zero]
    rw [slN hz]
    refine Pure.wk (r := .v (.slice none 0 0)) ?_ (.nil 1)
    refine pure_intro (tok := 0) (rs := [.tmp 4]) Tryd.func115 rfl Tryd.ntmps115 Tryd.results115 Tryd.call115 (by rfl) (by simp) ?_
    (repeat' (first | (with_reducible first | refine stp ?_ | apply gx1 | apply gx2 | apply gx3 | apply gx4 | apply gx5 | apply gx6 | apply gx7) | (with_reducible refine all_v ?_; intro _) | ((with_reducible refine gE ?_); (try simp (disch := omega) only [go_sem, ↓reduceIte, Nat.reduceAdd, Nat.reduceSub, Nat.reduceMul, Nat.reduceEqDiff, Nat.reduceLT, Nat.reduceLeDiff, Nat.reduceBEq, Int.reduceNeg, Int.reduceLT, Int.reduceLE, Int.reduceEq, reduceCtorEq, q1, q2]) <;> first | rfl | omega) | with_reducible refine t_in_other (by decide) ?_))
    simp (disch := omega) only [go_sem, ↓reduceIte, Nat.reduceAdd, Nat.reduceSub, Nat.reduceMul, Nat.reduceEqDiff, Nat.reduceLT, Nat.reduceLeDiff, Nat.reduceBEq, Int.reduceNeg, Int.reduceLT, Int.reduceLE, Int.reduceEq, reduceCtorEq]
  · have hc : (a.length : Int) - (l : Int) = ((a.length - l : Nat) : Int) := by omega
    refine pure_intro (tok := 0) (rs := [.tmp 4]) Tryd.func115 rfl Tryd.ntmps115 Tryd.results115 Tryd.call115 (by rfl) (by simp) ?_
    (repeat' (first | (with_reducible first | refine stp ?_ | apply gx1 | apply gx2 | apply gx3 | apply gx4 | apply gx5 | apply gx6 | apply gx7) | (with_reducible refine all_v ?_; intro _) | ((with_reducible refine gE ?_); (try simp (disch := omega) only [go_sem, ↓reduceIte, Nat.reduceAdd, Nat.reduceSub, Nat.reduceMul, Nat.reduceEqDiff, Nat.reduceLT, Nat.reduceLeDiff, Nat.reduceBEq, Int.reduceNeg, Int.reduceLT, Int.reduceLE, Int.reduceEq, reduceCtorEq, q1, q2, hc]) <;> first | rfl | omega) | with_reducible refine t_in_other (by decide) ?_))
    refine r_loopE (ι := Nat) (fun k e m => k ≤ a.length - l ∧ (e 0 = lim a ∧ e 5 = .v (.int .i64 (l : Int)) ∧ e 6 = .v (.int .i64 (s : Int)) ∧ e 24 = .v (.int .i64 (a.length - l : Nat)) ∧ e 25 = .v (.int .i64 (k : Int))) ∧ ∃ sv o, (e 7 = .own 22 sv ∧ m 22 = some (.row sv 91 1 (u16s o) 0)) ∧ o.length = a.length - l ∧ Lm o ∧ nv (o.take k) = (nv (a.drop l) / 2 ^ s) % 65536 ^ k) (fun k => a.length - l - k) 0 (by rfl) ?_ ?_
    · rintro k e m ⟨hk, ⟨e0, e5, e6, e24, e25⟩, sv, o, ⟨e7, em⟩, hol, hLo, hv⟩
      by_cases hlt : k < a.length - l
      · have ga := gN_lt la (k + l)
        have gb := gN_lt la (k + l + 1)
        have hd : ((gN a (k + l) + 65536 * gN a (k + l + 1)) / 2 ^ s) % 65536 = (nv (a.drop l) / 65536 ^ k / 2 ^ s) % 65536 := by
          rw [nv_div (la.drop l), List.drop_drop, nv_drop, nv_drop a (l + k + 1), shr_dig (by omega), Nat.add_comm l k]
        have hst := shr_step hv hd
        have w0 : ((gN a (k + l) + 65536 * gN a (k + l + 1)) / 2 ^ s) % 65536 < 65536 := Nat.mod_lt _ (by omega)
        have sh := fun x => shr_32 (x := x) (s := s) (by omega)
        by_cases hmore : k + l + 1 < a.length
        · (repeat' (first | (with_reducible first | refine stp ?_ | apply gx1 | apply gx2 | apply gx3 | apply gx4 | apply gx5 | apply gx6 | apply gx7) | (with_reducible refine all_v ?_; intro _) | ((with_reducible refine gE ?_); (try simp (disch := omega) only [go_sem, ↓reduceIte, Nat.reduceAdd, Nat.reduceSub, Nat.reduceMul, Nat.reduceEqDiff, Nat.reduceLT, Nat.reduceLeDiff, Nat.reduceBEq, Int.reduceNeg, Int.reduceLT, Int.reduceLE, Int.reduceEq, reduceCtorEq, e0, e5, e6, e24, e25, e7, em, hol, add_nat, cast_succ, cut_nat, or16_32', sh]) <;> first | rfl | omega) | with_reducible refine t_in_other (by decide) ?_))
          exact ⟨k + 1, ⟨by omega, by exact gV (And.intro e0 (And.intro e5 (And.intro e6 (And.intro e24 e25)))), sv, _, ⟨by exact gW e7, by exact gC⟩, by simpa using hol, hLo.set _ w0, by rw [nv_set_take (by omega)]; exact hst⟩, by omega⟩
        · have g0 : gN a (k + l + 1) = 0 := gN_out (by omega)
          simp only [g0, Nat.mul_zero, Nat.add_zero] at hst w0
          (repeat' (first | (with_reducible first | refine stp ?_ | apply gx1 | apply gx2 | apply gx3 | apply gx4 | apply gx5 | apply gx6 | apply gx7) | (with_reducible refine all_v ?_; intro _) | ((with_reducible refine gE ?_); (try simp (disch := omega) only [go_sem, ↓reduceIte, Nat.reduceAdd, Nat.reduceSub, Nat.reduceMul, Nat.reduceEqDiff, Nat.reduceLT, Nat.reduceLeDiff, Nat.reduceBEq, Int.reduceNeg, Int.reduceLT, Int.reduceLE, Int.reduceEq, reduceCtorEq, e0, e5, e6, e24, e25, e7, em, hol, add_nat, cast_succ, cut_nat, sh]) <;> first | rfl | omega) | with_reducible refine t_in_other (by decide) ?_))
          exact ⟨k + 1, ⟨by omega, by exact gV (And.intro e0 (And.intro e5 (And.intro e6 (And.intro e24 e25)))), sv, _, ⟨by exact gW e7, by exact gC⟩, by simpa using hol, hLo.set _ w0, by rw [nv_set_take (by omega)]; exact hst⟩, by omega⟩
      · rw [take_all (by omega)] at hv
        have h5 := nv_lt (la.drop l)
        rw [List.length_drop] at h5
        have hk2 : k = a.length - l := by omega
        rw [Nat.mod_eq_of_lt (Nat.lt_of_le_of_lt (Nat.div_le_self _ _) (by rw [hk2]; exact h5))] at hv
        (repeat' (first | (with_reducible first | refine stp ?_ | apply gx1 | apply gx2 | apply gx3 | apply gx4 | apply gx5 | apply gx6 | apply gx7 | apply gw1 (natTrim o (by omega) hLo)) | (with_reducible refine all_v ?_; intro _) | ((with_reducible refine gE ?_); (try simp (disch := omega) only [go_sem, ↓reduceIte, Nat.reduceAdd, Nat.reduceSub, Nat.reduceMul, Nat.reduceEqDiff, Nat.reduceLT, Nat.reduceLeDiff, Nat.reduceBEq, Int.reduceNeg, Int.reduceLT, Int.reduceLE, Int.reduceEq, reduceCtorEq, e0, e5, e6, e24, e25, e7, em, hol]) <;> first | rfl | omega) | with_reducible refine t_in_other (by decide) ?_))
        simp (disch := omega) only [go_sem, ↓reduceIte, Nat.reduceAdd, Nat.reduceSub, Nat.reduceMul, Nat.reduceEqDiff, Nat.reduceLT, Nat.reduceLeDiff, Nat.reduceBEq, Int.reduceNeg, Int.reduceLT, Int.reduceLE, Int.reduceEq, reduceCtorEq, hv]
    · exact ⟨Nat.zero_le _, by exact gC, _, List.replicate (a.length - l) 0, ⟨by exact gC, by exact gC⟩, by simp, Lm.zeros _, by simp [nv, Nat.mod_one]⟩

/-- trim, of a row of the caller's own. -/
theorem natTrimOwn (σ : Mem) (K : Nat) (sv : Value) (l : List Nat) (hs : l.length ≤ 1000000000) (hl : Lm l) (hσ : σ K = some (.row sv 91 1 (u16s l) 0)) :
    ACall Tryd.prog 94 [.own K sv] σ fun r σ' => r = .view K sv 1 0 (toL (nv l)).length ∧ σ' = σ := by
  refine acall_inline (tok := 0) (rs := [.tmp 2]) Tryd.func94 rfl Tryd.ntmps94 Tryd.results94 Tryd.call94 (by rfl) (by simp) ?_
  (repeat' (first | (with_reducible first | refine stp ?_ | apply gx1 | apply gx2 | apply gx3 | apply gx4 | apply gx5 | apply gx6 | apply gx7) | (with_reducible refine all_v ?_; intro _) | ((with_reducible refine gE ?_); (try simp (disch := omega) only [go_sem, ↓reduceIte, Nat.reduceAdd, Nat.reduceSub, Nat.reduceMul, Nat.reduceEqDiff, Nat.reduceLT, Nat.reduceLeDiff, Nat.reduceBEq, Int.reduceNeg, Int.reduceLT, Int.reduceLE, Int.reduceEq, reduceCtorEq, hσ]) <;> first | rfl | omega) | with_reducible refine t_in_other (by decide) ?_))
  refine r_loopE (ι := Nat) (fun k e m => k ≤ l.length ∧ e 0 = .own K sv ∧ e 3 = .v (.int .i64 (k : Int)) ∧ m = σ ∧ ∀ j, k ≤ j → gN l j = 0) (fun k => k) l.length (by rfl) ?_ ?_
  · rintro k e m ⟨hk, e0, e3, rfl, hz⟩
    have gl := gN_lt hl (k - 1)
    have fin : (k = 0 ∨ 0 < gN l (k - 1)) → k = (toL (nv l)).length := fun h => by
      rw [← nv_trim hl hk hz h, List.length_take, Nat.min_eq_left hk]
    by_cases h0 : k = 0
    · subst h0
      have f := fin (.inl rfl)
      (repeat' (first | (with_reducible first | refine stp ?_ | apply gx1 | apply gx2 | apply gx3 | apply gx4 | apply gx5 | apply gx6 | apply gx7) | (with_reducible refine all_v ?_; intro _) | ((with_reducible refine gE ?_); (try simp (disch := omega) only [go_sem, ↓reduceIte, Nat.reduceAdd, Nat.reduceSub, Nat.reduceMul, Nat.reduceEqDiff, Nat.reduceLT, Nat.reduceLeDiff, Nat.reduceBEq, Int.reduceNeg, Int.reduceLT, Int.reduceLE, Int.reduceEq, reduceCtorEq, e0, e3, hσ]) <;> first | rfl | omega) | with_reducible refine t_in_other (by decide) ?_))
      simp (disch := omega) only [go_sem, ↓reduceIte, Nat.reduceAdd, Nat.reduceSub, Nat.reduceMul, Nat.reduceEqDiff, Nat.reduceLT, Nat.reduceLeDiff, Nat.reduceBEq, Int.reduceNeg, Int.reduceLT, Int.reduceLE, Int.reduceEq, reduceCtorEq, ← f]
    · by_cases h1 : gN l (k - 1) = 0
      · (repeat' (first | (with_reducible first | refine stp ?_ | apply gx1 | apply gx2 | apply gx3 | apply gx4 | apply gx5 | apply gx6 | apply gx7) | (with_reducible refine all_v ?_; intro _) | ((with_reducible refine gE ?_); (try simp (disch := omega) only [go_sem, ↓reduceIte, Nat.reduceAdd, Nat.reduceSub, Nat.reduceMul, Nat.reduceEqDiff, Nat.reduceLT, Nat.reduceLeDiff, Nat.reduceBEq, Int.reduceNeg, Int.reduceLT, Int.reduceLE, Int.reduceEq, reduceCtorEq, e0, e3, hσ]) <;> first | rfl | omega) | with_reducible refine t_in_other (by decide) ?_))
        exact ⟨k - 1, ⟨by omega, by exact gW e0, by (simp (disch := omega) only [go_sem, ↓reduceIte, Nat.reduceAdd, Nat.reduceSub, Nat.reduceMul, Nat.reduceEqDiff, Nat.reduceLT, Nat.reduceLeDiff, Nat.reduceBEq, Int.reduceNeg, Int.reduceLT, Int.reduceLE, Int.reduceEq, reduceCtorEq, e3]; congr 2; omega), rfl, fun j hj => by
          rcases Nat.lt_or_ge j k with h2 | h2
          · rw [show j = k - 1 by omega]; exact h1
          · exact hz j h2⟩, by omega⟩
      · have f := fin (.inr (by omega))
        (repeat' (first | (with_reducible first | refine stp ?_ | apply gx1 | apply gx2 | apply gx3 | apply gx4 | apply gx5 | apply gx6 | apply gx7) | (with_reducible refine all_v ?_; intro _) | ((with_reducible refine gE ?_); (try simp (disch := omega) only [go_sem, ↓reduceIte, Nat.reduceAdd, Nat.reduceSub, Nat.reduceMul, Nat.reduceEqDiff, Nat.reduceLT, Nat.reduceLeDiff, Nat.reduceBEq, Int.reduceNeg, Int.reduceLT, Int.reduceLE, Int.reduceEq, reduceCtorEq, e0, e3, hσ]) <;> first | rfl | omega) | with_reducible refine t_in_other (by decide) ?_))
        simp (disch := omega) only [go_sem, ↓reduceIte, Nat.reduceAdd, Nat.reduceSub, Nat.reduceMul, Nat.reduceEqDiff, Nat.reduceLT, Nat.reduceLeDiff, Nat.reduceBEq, Int.reduceNeg, Int.reduceLT, Int.reduceLE, Int.reduceEq, reduceCtorEq, ← f, Nat.sub_zero]
  · exact ⟨Nat.le_refl _, by exact gC, by exact gC, rfl, fun j hj => gN_out hj⟩
end Go.Proofs.YtjiffehkemeloaaDoor
end

section
namespace Go.Proofs.YtjiffehkemeloaaDoor
open Go Go.RowKit Go.Pg
set_option linter.unusedSimpArgs false
set_option linter.unusedVariables false
set_option maxRecDepth 20000
attribute [local go_sem] Tryd.underlying56 Tryd.underlying3 Tryd.underlying91 Tryd.underlying121 Tryd.underlying81 Tryd.underlying21 Tryd.underlying5 sz3 by3 z3 szL byL zL

set_option maxHeartbeats 1000000 in
/-- Shift to the left, the new row handed to the caller. -/
theorem natShlOwn (σ : Mem) (a : List Nat) (n : Nat) (ha : a.length ≤ 400000000) (la : Lm a) (hn : n ≤ 1048576) (h0 : nv a ≠ 0) :
    ACall Tryd.prog 109 [lim a, .v (.int .i64 (n : Int))] σ fun r σ' => ∃ sv o, r = .view 44 sv 1 0 (toL (nv a * 2 ^ n)).length ∧ σ' = upd σ 44 (some (.row sv 91 1 (u16s o) 0)) ∧ o.length = (toL (nv a)).length + n / 16 + 1 ∧ Lm o ∧ nv o = nv a * 2 ^ n := by
  have hns : n = 16 * (n / 16) + n % 16 := by omega
  have q1 : (n : Int).tdiv 16 = ((n / 16 : Nat) : Int) := quo_nat n 16
  have q2 : (n : Int).tmod 16 = ((n % 16 : Nat) : Int) := rem_nat n 16
  have hs : n % 16 < 16 := Nat.mod_lt _ (by omega)
  have hnv : nv a * 2 ^ n = nv a * 2 ^ (n % 16) * 65536 ^ (n / 16) := by
    have := nv_mul_two (a := nv a) (l := n / 16) (s := n % 16)
    rwa [← hns] at this
  have h1 := toL_len_le la
  have h2 := (toL_top h0).1
  have va := nv_toL (nv a)
  have ma := lm_toL (nv a)
  have h16 : n / 16 ≤ 65536 := by omega
  clear hns
  generalize hl : n / 16 = l at *
  generalize hss : n % 16 = s at *
  generalize hA : toL (nv a) = A at *
  refine acall_inline (tok := 0) (rs := [.tmp 4]) Tryd.func109 rfl Tryd.ntmps109 Tryd.results109 Tryd.call109 (by rfl) (by simp) ?_
  (repeat' (first | (with_reducible first | refine stp ?_ | apply gx1 | apply gx2 | apply gx3 | apply gx4 | apply gx5 | apply gx6 | apply gx7 | refine gw0 (natTrim a (by omega) la) ?_ ?_) | (with_reducible refine all_v ?_; intro _) | ((with_reducible refine gE ?_); (try simp (disch := omega) only [go_sem, ↓reduceIte, Nat.reduceAdd, Nat.reduceSub, Nat.reduceMul, Nat.reduceEqDiff, Nat.reduceLT, Nat.reduceLeDiff, Nat.reduceBEq, Int.reduceNeg, Int.reduceLT, Int.reduceLE, Int.reduceEq, reduceCtorEq, q1, q2, hA, add_nat, cast_succ]) <;> first | rfl | omega) | with_reducible refine t_in_other (by decide) ?_))
  rw [hA]
  have e1 : ((A.length + l : Nat) : Int) + 3 = ((A.length + l + 3 : Nat) : Int) := by omega
  (repeat' (first | (with_reducible first | refine stp ?_ | apply gx1 | apply gx2 | apply gx3 | apply gx4 | apply gx5 | apply gx6 | apply gx7) | (with_reducible refine all_v ?_; intro _) | ((with_reducible refine gE ?_); (try simp (disch := omega) only [go_sem, ↓reduceIte, Nat.reduceAdd, Nat.reduceSub, Nat.reduceMul, Nat.reduceEqDiff, Nat.reduceLT, Nat.reduceLeDiff, Nat.reduceBEq, Int.reduceNeg, Int.reduceLT, Int.reduceLE, Int.reduceEq, reduceCtorEq, hA, add_nat, cast_succ, e1]) <;> first | rfl | omega) | with_reducible refine t_in_other (by decide) ?_))
  refine r_loopE (ι := Nat) (fun k e m => k ≤ A.length ∧ (e 5 = .v (.int .i64 (l : Int)) ∧ e 6 = .v (.int .i64 (s : Int)) ∧ e 45 = lim A ∧ e 46 = .v (.int .i64 A.length) ∧ e 47 = .v (.int .i64 (k : Int))) ∧ ∃ sv o, (e 7 = .own 44 sv ∧ m = upd σ 44 (some (.row sv 91 1 (u16s o) 0))) ∧ o.length = A.length + l + 1 ∧ Lm o ∧ gN o (k + l) < 2 ^ s ∧ (∀ j, k + l < j → gN o j = 0) ∧ nv o = nv (A.take k) * 2 ^ s * 65536 ^ l) (fun k => A.length - k) 0 (by rfl) ?_ ?_
  · rintro k e m ⟨hk, ⟨e5, e6, e45, e46, e47⟩, sv, o, ⟨e7, rfl⟩, hol, hLo, hg, hz, hv⟩
    by_cases hlt : k < A.length
    · have gx := gN_lt ma k
      have p16 : (2 : Nat) ^ s ≤ 32768 := by
        have : (2 : Nat) ^ s ≤ 2 ^ 15 := Nat.pow_le_pow_right (by omega) (by omega)
        omega
      have bx : gN A k * 2 ^ s ≤ 65535 * 32768 := Nat.mul_le_mul (by omega) p16
      have sh := shl_32 (x := gN A k) (s := s) (by omega) (by omega)
      have lo := low_mul (x := gN A k) (s := s) (by omega)
      have hlo : (gN A k * 2 ^ s) % 65536 < 65536 := Nat.mod_lt _ (by omega)
      rw [lo] at hlo
      have hor := or_16 (b := gN o (k + l)) (by omega) hg hlo
      rw [← lo] at hor
      have hhi : gN A k * 2 ^ s / 65536 < 2 ^ s := by
        rw [Nat.div_lt_iff_lt_mul (by omega), Nat.mul_comm]
        exact Nat.mul_lt_mul_of_pos_left gx (Nat.two_pow_pos s)
      have hsum : gN o (k + l) + (gN A k * 2 ^ s) % 65536 < 65536 := by
        rw [lo]
        have h5 : (gN A k % 2 ^ (16 - s) + 1) * 2 ^ s ≤ 2 ^ (16 - s) * 2 ^ s := Nat.mul_le_mul_right _ (Nat.mod_lt _ (Nat.two_pow_pos _))
        rw [← Nat.pow_add, Nat.sub_add_cancel (by omega), Nat.add_mul, Nat.one_mul] at h5
        omega
      have hcut : gN A k * 2 ^ s / 65536 % 65536 = gN A k * 2 ^ s / 65536 := Nat.mod_eq_of_lt (by omega)
      (repeat' (first | (with_reducible first | refine stp ?_ | apply gx1 | apply gx2 | apply gx3 | apply gx4 | apply gx5 | apply gx6 | apply gx7) | (with_reducible refine all_v ?_; intro _) | ((with_reducible refine gE ?_); (try simp (disch := omega) only [go_sem, ↓reduceIte, Nat.reduceAdd, Nat.reduceSub, Nat.reduceMul, Nat.reduceEqDiff, Nat.reduceLT, Nat.reduceLeDiff, Nat.reduceBEq, Int.reduceNeg, Int.reduceLT, Int.reduceLE, Int.reduceEq, reduceCtorEq, e5, e6, e45, e46, e47, e7, hol, add_nat, cast_succ, cut_nat, sh, hor, hcut, List.length_set]) <;> first | rfl | omega) | with_reducible refine t_in_other (by decide) ?_))
      refine ⟨k + 1, ⟨by omega, by exact gV (And.intro e5 (And.intro e6 (And.intro e45 (And.intro e46 e47)))), sv, _, ⟨by exact gW e7, by (simp (disch := omega) only [go_sem, ↓reduceIte, Nat.reduceAdd, Nat.reduceSub, Nat.reduceMul, Nat.reduceEqDiff, Nat.reduceLT, Nat.reduceLeDiff, Nat.reduceBEq, Int.reduceNeg, Int.reduceLT, Int.reduceLE, Int.reduceEq, reduceCtorEq, upd_upd] <;> repeat' first | rfl | refine ⟨?_, ?_⟩)⟩, by simpa using hol, (hLo.set _ hsum).set _ (by omega), ?_, fun j hj => ?_, ?_⟩, by omega⟩
      · rw [gN_set (by simp; omega), if_pos (by omega)]; exact hhi
      · rw [gN_set (by simp; omega), if_neg (by omega), gN_set (by omega), if_neg (by omega)]; exact hz j (by omega)
      · have h3 := nv_set (o := o) (j := k + l) (by omega) (gN o (k + l) + (gN A k * 2 ^ s) % 65536)
        have h4 := nv_set (o := o.set (k + l) (gN o (k + l) + (gN A k * 2 ^ s) % 65536)) (j := k + l + 1) (by simp; omega) (gN A k * 2 ^ s / 65536)
        rw [gN_set (by omega), if_neg (by omega), hz (k + l + 1) (by omega), Nat.mul_zero, Nat.add_zero] at h4
        rw [h4, nv_take_succ, Nat.add_mul, Nat.add_mul, ← hv]
        have h5 : 65536 ^ (k + l) * (gN A k * 2 ^ s % 65536) + 65536 ^ (k + l + 1) * (gN A k * 2 ^ s / 65536) = 65536 ^ k * gN A k * 2 ^ s * 65536 ^ l := by
          rw [Nat.pow_succ, Nat.mul_assoc (65536 ^ (k + l)), ← Nat.mul_add, Nat.mod_add_div, Nat.pow_add]
          simp only [Nat.mul_assoc, Nat.mul_left_comm, Nat.mul_comm]
        rw [Nat.mul_add] at h3
        omega
    · have hkA : k = A.length := by omega
      subst hkA
      rw [take_all (Nat.le_refl _), va, ← hnv] at hv
      have ct := natTrimOwn (upd σ 44 (some (.row sv 91 1 (u16s o) 0))) 44 sv o (by omega) hLo (by simp only [upd_at, if_true])
      rw [hv] at ct
      (repeat' (first | (with_reducible first | refine stp ?_ | apply gx1 | apply gx2 | apply gx3 | apply gx4 | apply gx5 | apply gx6 | apply gx7 | refine o_lent (ct) ?_) | (with_reducible refine all_v ?_; intro _) | ((with_reducible refine gE ?_); (try simp (disch := omega) only [go_sem, ↓reduceIte, Nat.reduceAdd, Nat.reduceSub, Nat.reduceMul, Nat.reduceEqDiff, Nat.reduceLT, Nat.reduceLeDiff, Nat.reduceBEq, Int.reduceNeg, Int.reduceLT, Int.reduceLE, Int.reduceEq, reduceCtorEq, e5, e6, e45, e46, e47, e7]) <;> first | rfl | omega) | with_reducible refine t_in_other (by decide) ?_))
      simp (disch := omega) only [go_sem, ↓reduceIte, Nat.reduceAdd, Nat.reduceSub, Nat.reduceMul, Nat.reduceEqDiff, Nat.reduceLT, Nat.reduceLeDiff, Nat.reduceBEq, Int.reduceNeg, Int.reduceLT, Int.reduceLE, Int.reduceEq, reduceCtorEq]
      exact ⟨sv, o, rfl, rfl, hol, hLo, hv⟩
  · refine ⟨Nat.zero_le _, by exact gC, _, List.replicate (A.length + l + 1) 0, ⟨by exact gC, by exact gC⟩, by simp, Lm.zeros _, ?_, fun j _ => gN_zeros _ _, by simp [nv, nv_zeros]⟩
    rw [gN_zeros]; exact Nat.two_pow_pos s

theorem natShl (a : List Nat) (n : Nat) (ha : a.length ≤ 400000000) (la : Lm a) (hn : n ≤ 1048576) : Pure Tryd.prog 109 [lim a, .v (.int .i64 (n : Int))] (lim (toL (nv a * 2 ^ n))) := by
  by_cases h0 : nv a = 0
  · have h2 := toL_len_zero.2 h0
    rw [slN (show toL (nv a * 2 ^ n) = [] by rw [h0, Nat.zero_mul, toL_zero])]
    refine Pure.wk (r := .v (.slice none 0 0)) ?_ (.nil 1)
    refine pure_intro (tok := 0) (rs := [.tmp 4]) Tryd.func109 rfl Tryd.ntmps109 Tryd.results109 Tryd.call109 (by rfl) (by simp) ?_
    (repeat' (first | (with_reducible first | refine stp ?_ | apply gx1 | apply gx2 | apply gx3 | apply gx4 | apply gx5 | apply gx6 | apply gx7 | refine gw0 (natTrim a (by omega) la) ?_ ?_) | (with_reducible refine all_v ?_; intro _) | ((with_reducible refine gE ?_); (try simp (disch := omega) only [go_sem, ↓reduceIte, Nat.reduceAdd, Nat.reduceSub, Nat.reduceMul, Nat.reduceEqDiff, Nat.reduceLT, Nat.reduceLeDiff, Nat.reduceBEq, Int.reduceNeg, Int.reduceLT, Int.reduceLE, Int.reduceEq, reduceCtorEq, h2]) <;> first | rfl | omega) | with_reducible refine t_in_other (by decide) ?_))
    simp (disch := omega) only [go_sem, ↓reduceIte, Nat.reduceAdd, Nat.reduceSub, Nat.reduceMul, Nat.reduceEqDiff, Nat.reduceLT, Nat.reduceLeDiff, Nat.reduceBEq, Int.reduceNeg, Int.reduceLT, Int.reduceLE, Int.reduceEq, reduceCtorEq]
  · refine pure_of_acall (natShlOwn noMem a n ha la hn h0) fun r σ' ⟨sv, o, hr, hσ, hol, hLo, hv⟩ => ?_
    subst hr; subst hσ
    have hlen := toL_len_le hLo
    rw [hv] at hlen
    refine ⟨by simp (disch := omega) only [go_sem, ↓reduceIte, Nat.reduceAdd, Nat.reduceSub, Nat.reduceMul, Nat.reduceEqDiff, Nat.reduceLT, Nat.reduceLeDiff, Nat.reduceBEq, Int.reduceNeg, Int.reduceLT, Int.reduceLE, Int.reduceEq, reduceCtorEq], ?_⟩
    simp (disch := omega) only [go_sem, ↓reduceIte, Nat.reduceAdd, Nat.reduceSub, Nat.reduceMul, Nat.reduceEqDiff, Nat.reduceLT, Nat.reduceLeDiff, Nat.reduceBEq, Int.reduceNeg, Int.reduceLT, Int.reduceLE, Int.reduceEq, reduceCtorEq, Nat.zero_add]
    obtain ⟨k, h1, h2⟩ := toL_take hLo
    rw [hv] at h2
    have h3 : k = (toL (nv a * 2 ^ n)).length := by rw [← h2, List.length_take]; omega
    rw [← h3, h2]

theorem natShr (a : List Nat) (n : Nat) (ha : a.length ≤ 400000000) (la : Lm a) (h0 : 0 < n) (hn : n ≤ 1048576) : Pure Tryd.prog 109 [lim a, .v (.int .i64 (-(n : Int)))] (lim (toL (nv a / 2 ^ n))) := by
  by_cases hz : nv a = 0
  · have h2 := toL_len_zero.2 hz
    rw [slN (show toL (nv a / 2 ^ n) = [] by rw [hz, Nat.zero_div, toL_zero])]
    refine Pure.wk (r := .v (.slice none 0 0)) ?_ (.nil 1)
    refine pure_intro (tok := 0) (rs := [.tmp 4]) Tryd.func109 rfl Tryd.ntmps109 Tryd.results109 Tryd.call109 (by rfl) (by simp) ?_
    (repeat' (first | (with_reducible first | refine stp ?_ | apply gx1 | apply gx2 | apply gx3 | apply gx4 | apply gx5 | apply gx6 | apply gx7 | refine gw0 (natTrim a (by omega) la) ?_ ?_) | (with_reducible refine all_v ?_; intro _) | ((with_reducible refine gE ?_); (try simp (disch := omega) only [go_sem, ↓reduceIte, Nat.reduceAdd, Nat.reduceSub, Nat.reduceMul, Nat.reduceEqDiff, Nat.reduceLT, Nat.reduceLeDiff, Nat.reduceBEq, Int.reduceNeg, Int.reduceLT, Int.reduceLE, Int.reduceEq, reduceCtorEq, h2]) <;> first | rfl | omega) | with_reducible refine t_in_other (by decide) ?_))
    simp (disch := omega) only [go_sem, ↓reduceIte, Nat.reduceAdd, Nat.reduceSub, Nat.reduceMul, Nat.reduceEqDiff, Nat.reduceLT, Nat.reduceLeDiff, Nat.reduceBEq, Int.reduceNeg, Int.reduceLT, Int.reduceLE, Int.reduceEq, reduceCtorEq]
  · have h2 := (toL_top hz).1
    have h1 := toL_len_le la
    have hr := natRight (toL (nv a)) n (by omega) (lm_toL _) hn
    rw [nv_toL] at hr
    have w : (0 : Int) - -(n : Int) = (n : Int) := by omega
    refine pure_intro (tok := 0) (rs := [.tmp 4]) Tryd.func109 rfl Tryd.ntmps109 Tryd.results109 Tryd.call109 (by rfl) (by simp) ?_
    (repeat' (first | (with_reducible first | refine stp ?_ | apply gx1 | apply gx2 | apply gx3 | apply gx4 | apply gx5 | apply gx6 | apply gx7 | refine gw0 (natTrim a (by omega) la) ?_ ?_ | refine gw0 (hr) ?_ ?_) | (with_reducible refine all_v ?_; intro _) | ((with_reducible refine gE ?_); (try simp (disch := omega) only [go_sem, ↓reduceIte, Nat.reduceAdd, Nat.reduceSub, Nat.reduceMul, Nat.reduceEqDiff, Nat.reduceLT, Nat.reduceLeDiff, Nat.reduceBEq, Int.reduceNeg, Int.reduceLT, Int.reduceLE, Int.reduceEq, reduceCtorEq, w]) <;> first | rfl | omega) | with_reducible refine t_in_other (by decide) ?_))
    simp (disch := omega) only [go_sem, ↓reduceIte, Nat.reduceAdd, Nat.reduceSub, Nat.reduceMul, Nat.reduceEqDiff, Nat.reduceLT, Nat.reduceLeDiff, Nat.reduceBEq, Int.reduceNeg, Int.reduceLT, Int.reduceLE, Int.reduceEq, reduceCtorEq]
end Go.Proofs.YtjiffehkemeloaaDoor
end

section
namespace Go.Proofs.YtjiffehkemeloaaDoor
open Go Go.RowKit Go.Pg
set_option linter.unusedSimpArgs false
set_option linter.unusedVariables false
set_option maxRecDepth 20000
attribute [local go_sem] Tryd.underlying56 Tryd.underlying3 Tryd.underlying91 Tryd.underlying121 Tryd.underlying81 Tryd.underlying21 Tryd.underlying5 sz3 by3 z3 szL byL zL

set_option maxHeartbeats 1000000 in
theorem natSubtract (σ : Mem) (K : Nat) (sv : Value) (pre w post v : List Nat) (d : Nat) (hσ : σ K = some (.row sv 91 1 (u16s (pre ++ (w ++ post))) 0)) (hwv : w.length = v.length + 1) (hsz : (pre ++ (w ++ post)).length ≤ 1000000000) (lw : Lm w) (lv : Lm v) (hd : d < 65536) :
    ACall Tryd.prog 117 [.view K sv 1 pre.length w.length, lim v, .v (.int .u32 (d : Int))] σ fun r σ' => ∃ (w' : List Nat) (b : Nat), r = .v (.bool (decide (0 < (b : Int)))) ∧ σ' = upd σ K (some (.row sv 91 1 (u16s (pre ++ (w' ++ post))) 0)) ∧ w'.length = w.length ∧ Lm w' ∧ b ≤ 1 ∧ nv w' + d * nv v = nv w + 65536 ^ w.length * b := by
  have hsz2 : pre.length + (w.length + post.length) ≤ 1000000000 := by simpa using hsz
  refine acall_inline (tok := 0) (rs := [.tmp 6]) Tryd.func117 rfl Tryd.ntmps117 Tryd.results117 Tryd.call117 (by rfl) (by simp) ?_
  (repeat' (first | (with_reducible first | refine stp ?_ | apply gx1 | apply gx2 | apply gx3 | apply gx4 | apply gx5 | apply gx6 | apply gx7) | (with_reducible refine all_v ?_; intro _) | ((with_reducible refine gE ?_); (try simp (disch := omega) only [go_sem, ↓reduceIte, Nat.reduceAdd, Nat.reduceSub, Nat.reduceMul, Nat.reduceEqDiff, Nat.reduceLT, Nat.reduceLeDiff, Nat.reduceBEq, Int.reduceNeg, Int.reduceLT, Int.reduceLE, Int.reduceEq, reduceCtorEq]) <;> first | rfl | omega) | with_reducible refine t_in_other (by decide) ?_))
  refine r_loopE (ι := Nat) (fun k e m => k ≤ w.length ∧ (e 0 = .view K sv 1 pre.length w.length ∧ e 1 = lim v ∧ e 2 = .v (.int .u32 (d : Int)) ∧ e 12 = .v (.int .i64 w.length) ∧ e 13 = .v (.int .i64 (k : Int))) ∧ ∃ w' c r, (e 7 = .v (.int .u32 (c : Nat)) ∧ e 8 = .v (.int .i32 (r : Nat)) ∧ m = upd σ K (some (.row sv 91 1 (u16s (pre ++ (w' ++ post))) 0))) ∧ w'.length = w.length ∧ Lm w' ∧ c < 65536 ∧ (v.length < k → c = 0) ∧ r ≤ 1 ∧ (∀ j, k ≤ j → gN w' j = gN w j) ∧ nv (w'.take k) + d * nv (v.take k) = nv (w.take k) + 65536 ^ k * (c + r)) (fun k => w.length - k) 0 (by rfl) ?_ ?_
  · rintro k e m ⟨hk, ⟨e0, e1, e2, e12, e13⟩, w', c, r, ⟨e7, e8, rfl⟩, hwl, hLw, hc, hcz, hr, hsame, hv⟩
    by_cases hlt : k < w.length
    · have gw := gN_lt lw k
      have gv := gN_lt lv k
      have hgw := hsame k (Nat.le_refl _)
      have mid := gN_mid (pre := pre) (post := post) (show k < w'.length by omega)
      have smid := fun x => set_mid (pre := pre) (post := post) (show k < w'.length by omega) x
      have hln : (pre ++ (w' ++ post)).length = pre.length + (w'.length + post.length) := by simp
      have bd := mul_bd hd gv
      have step : ∀ (x r' c1 : Nat), c1 = c + d * gN v k → x + c1 % 65536 + r = gN w k + 65536 * r' → x < 65536 → r' ≤ 1 →
          (w'.set k x).length = w.length ∧ Lm (w'.set k x) ∧ c1 / 65536 < 65536 ∧ (v.length < k + 1 → c1 / 65536 = 0) ∧ r' ≤ 1 ∧ (∀ j, k + 1 ≤ j → gN (w'.set k x) j = gN w j) ∧ nv ((w'.set k x).take (k + 1)) + d * nv (v.take (k + 1)) = nv (w.take (k + 1)) + 65536 ^ (k + 1) * (c1 / 65536 + r') := by
        intro x r' c1 h1 h2 h3 h4
        have h5 := submul_step hv h1 h2
        refine ⟨by simpa using hwl, hLw.set k h3, by omega, fun h6 => ?_, h4, fun j hj => ?_, ?_⟩
        · have : gN v k = 0 := gN_out (by omega)
          rw [this, Nat.mul_zero] at h1
          omega
        · rw [gN_set (by omega), if_neg (by omega)]; exact hsame j (by omega)
        · rw [nv_set_take (by omega), nv_take_succ, nv_take_succ, Nat.pow_succ]
          exact h5
      by_cases hkv : k < v.length
      · generalize hxy : d * gN v k = xy at *
        by_cases hneg : gN w k < (c + xy) % 65536 + r
        · have hs := step (gN w k + 65536 - (c + xy) % 65536 - r) 1 (c + xy) rfl (by omega) (by omega) (by omega)
          have wv : (gN w k : Int) - ((c + xy) % 65536 : Nat) - r + 65536 = ((gN w k + 65536 - (c + xy) % 65536 - r : Nat) : Int) := by omega
          have wm : (gN w k + 65536 - (c + xy) % 65536 - r) % 65536 = gN w k + 65536 - (c + xy) % 65536 - r := Nat.mod_eq_of_lt (by omega)
          (repeat' (first | (with_reducible first | refine stp ?_ | apply gx1 | apply gx2 | apply gx3 | apply gx4 | apply gx5 | apply gx6 | apply gx7) | (with_reducible refine all_v ?_; intro _) | ((with_reducible refine gE ?_); (try simp (disch := omega) only [go_sem, ↓reduceIte, Nat.reduceAdd, Nat.reduceSub, Nat.reduceMul, Nat.reduceEqDiff, Nat.reduceLT, Nat.reduceLeDiff, Nat.reduceBEq, Int.reduceNeg, Int.reduceLT, Int.reduceLE, Int.reduceEq, reduceCtorEq, e0, e1, e2, e12, e13, e7, e8, hln, hwl, mid, smid, hgw, add_nat, mul_nat, cut_nat, hxy, wv, wm]) <;> first | rfl | omega) | with_reducible refine t_in_other (by decide) ?_))
          exact ⟨k + 1, ⟨by omega, by exact gV (And.intro e0 (And.intro e1 (And.intro e2 (And.intro e12 e13)))), _, _, 1, ⟨by exact gC, by exact gC, by (simp (disch := omega) only [go_sem, ↓reduceIte, Nat.reduceAdd, Nat.reduceSub, Nat.reduceMul, Nat.reduceEqDiff, Nat.reduceLT, Nat.reduceLeDiff, Nat.reduceBEq, Int.reduceNeg, Int.reduceLT, Int.reduceLE, Int.reduceEq, reduceCtorEq, upd_upd] <;> repeat' first | rfl | refine ⟨?_, ?_⟩)⟩, hs⟩, by omega⟩
        · have hs := step (gN w k - (c + xy) % 65536 - r) 0 (c + xy) rfl (by omega) (by omega) (by omega)
          have wv : (gN w k : Int) - ((c + xy) % 65536 : Nat) - r = ((gN w k - (c + xy) % 65536 - r : Nat) : Int) := by omega
          have wm : (gN w k - (c + xy) % 65536 - r) % 65536 = gN w k - (c + xy) % 65536 - r := Nat.mod_eq_of_lt (by omega)
          (repeat' (first | (with_reducible first | refine stp ?_ | apply gx1 | apply gx2 | apply gx3 | apply gx4 | apply gx5 | apply gx6 | apply gx7) | (with_reducible refine all_v ?_; intro _) | ((with_reducible refine gE ?_); (try simp (disch := omega) only [go_sem, ↓reduceIte, Nat.reduceAdd, Nat.reduceSub, Nat.reduceMul, Nat.reduceEqDiff, Nat.reduceLT, Nat.reduceLeDiff, Nat.reduceBEq, Int.reduceNeg, Int.reduceLT, Int.reduceLE, Int.reduceEq, reduceCtorEq, e0, e1, e2, e12, e13, e7, e8, hln, hwl, mid, smid, hgw, add_nat, mul_nat, cut_nat, hxy, wv, wm]) <;> first | rfl | omega) | with_reducible refine t_in_other (by decide) ?_))
          exact ⟨k + 1, ⟨by omega, by exact gV (And.intro e0 (And.intro e1 (And.intro e2 (And.intro e12 e13)))), _, _, 0, ⟨by exact gC, by exact gC, by (simp (disch := omega) only [go_sem, ↓reduceIte, Nat.reduceAdd, Nat.reduceSub, Nat.reduceMul, Nat.reduceEqDiff, Nat.reduceLT, Nat.reduceLeDiff, Nat.reduceBEq, Int.reduceNeg, Int.reduceLT, Int.reduceLE, Int.reduceEq, reduceCtorEq, upd_upd] <;> repeat' first | rfl | refine ⟨?_, ?_⟩)⟩, hs⟩, by omega⟩
      · have g0 : gN v k = 0 := gN_out (by omega)
        have hcm : c % 65536 = c := Nat.mod_eq_of_lt hc
        simp only [g0, Nat.mul_zero, Nat.add_zero] at step
        by_cases hneg : gN w k < c + r
        · have hs := step (gN w k + 65536 - c - r) 1 c rfl (by omega) (by omega) (by omega)
          have wv : (gN w k : Int) - (c : Nat) - r + 65536 = ((gN w k + 65536 - c - r : Nat) : Int) := by omega
          have wm : (gN w k + 65536 - c - r) % 65536 = gN w k + 65536 - c - r := Nat.mod_eq_of_lt (by omega)
          (repeat' (first | (with_reducible first | refine stp ?_ | apply gx1 | apply gx2 | apply gx3 | apply gx4 | apply gx5 | apply gx6 | apply gx7) | (with_reducible refine all_v ?_; intro _) | ((with_reducible refine gE ?_); (try simp (disch := omega) only [go_sem, ↓reduceIte, Nat.reduceAdd, Nat.reduceSub, Nat.reduceMul, Nat.reduceEqDiff, Nat.reduceLT, Nat.reduceLeDiff, Nat.reduceBEq, Int.reduceNeg, Int.reduceLT, Int.reduceLE, Int.reduceEq, reduceCtorEq, e0, e1, e2, e12, e13, e7, e8, hln, hwl, mid, smid, hgw, cut_nat, hcm, wv, wm]) <;> first | rfl | omega) | with_reducible refine t_in_other (by decide) ?_))
          exact ⟨k + 1, ⟨by omega, by exact gV (And.intro e0 (And.intro e1 (And.intro e2 (And.intro e12 e13)))), _, _, 1, ⟨by exact gC, by exact gC, by (simp (disch := omega) only [go_sem, ↓reduceIte, Nat.reduceAdd, Nat.reduceSub, Nat.reduceMul, Nat.reduceEqDiff, Nat.reduceLT, Nat.reduceLeDiff, Nat.reduceBEq, Int.reduceNeg, Int.reduceLT, Int.reduceLE, Int.reduceEq, reduceCtorEq, upd_upd] <;> repeat' first | rfl | refine ⟨?_, ?_⟩)⟩, hs⟩, by omega⟩
        · have hs := step (gN w k - c - r) 0 c rfl (by omega) (by omega) (by omega)
          have wv : (gN w k : Int) - (c : Nat) - r = ((gN w k - c - r : Nat) : Int) := by omega
          have wm : (gN w k - c - r) % 65536 = gN w k - c - r := Nat.mod_eq_of_lt (by omega)
          (repeat' (first | (with_reducible first | refine stp ?_ | apply gx1 | apply gx2 | apply gx3 | apply gx4 | apply gx5 | apply gx6 | apply gx7) | (with_reducible refine all_v ?_; intro _) | ((with_reducible refine gE ?_); (try simp (disch := omega) only [go_sem, ↓reduceIte, Nat.reduceAdd, Nat.reduceSub, Nat.reduceMul, Nat.reduceEqDiff, Nat.reduceLT, Nat.reduceLeDiff, Nat.reduceBEq, Int.reduceNeg, Int.reduceLT, Int.reduceLE, Int.reduceEq, reduceCtorEq, e0, e1, e2, e12, e13, e7, e8, hln, hwl, mid, smid, hgw, cut_nat, hcm, wv, wm]) <;> first | rfl | omega) | with_reducible refine t_in_other (by decide) ?_))
          exact ⟨k + 1, ⟨by omega, by exact gV (And.intro e0 (And.intro e1 (And.intro e2 (And.intro e12 e13)))), _, _, 0, ⟨by exact gC, by exact gC, by (simp (disch := omega) only [go_sem, ↓reduceIte, Nat.reduceAdd, Nat.reduceSub, Nat.reduceMul, Nat.reduceEqDiff, Nat.reduceLT, Nat.reduceLeDiff, Nat.reduceBEq, Int.reduceNeg, Int.reduceLT, Int.reduceLE, Int.reduceEq, reduceCtorEq, upd_upd] <;> repeat' first | rfl | refine ⟨?_, ?_⟩)⟩, hs⟩, by omega⟩
    · have hkw : k = w.length := by omega
      subst hkw
      have hc0 := hcz (by omega)
      subst hc0
      rw [take_all (by omega), take_all (by omega), take_all (Nat.le_refl _), Nat.zero_add] at hv
      (repeat' (first | (with_reducible first | refine stp ?_ | apply gx1 | apply gx2 | apply gx3 | apply gx4 | apply gx5 | apply gx6 | apply gx7) | (with_reducible refine all_v ?_; intro _) | ((with_reducible refine gE ?_); (try simp (disch := omega) only [go_sem, ↓reduceIte, Nat.reduceAdd, Nat.reduceSub, Nat.reduceMul, Nat.reduceEqDiff, Nat.reduceLT, Nat.reduceLeDiff, Nat.reduceBEq, Int.reduceNeg, Int.reduceLT, Int.reduceLE, Int.reduceEq, reduceCtorEq, e0, e1, e2, e12, e13, e7, e8]) <;> first | rfl | omega) | with_reducible refine t_in_other (by decide) ?_))
      simp (disch := omega) only [go_sem, ↓reduceIte, Nat.reduceAdd, Nat.reduceSub, Nat.reduceMul, Nat.reduceEqDiff, Nat.reduceLT, Nat.reduceLeDiff, Nat.reduceBEq, Int.reduceNeg, Int.reduceLT, Int.reduceLE, Int.reduceEq, reduceCtorEq]
      refine ⟨w', r, ?_, ?_, hwl, hLw, hr, hv⟩ <;> rfl
  · exact ⟨Nat.zero_le _, by exact gC, w, 0, 0, ⟨by exact gC, by exact gC, by rw [upd_same hσ]⟩, rfl, lw, by omega, fun _ => rfl, by omega, fun _ _ => rfl, by simp [nv]⟩

set_option maxHeartbeats 1000000 in
theorem natRestore (σ : Mem) (K : Nat) (sv : Value) (pre w post v : List Nat) (hσ : σ K = some (.row sv 91 1 (u16s (pre ++ (w ++ post))) 0)) (hwv : v.length ≤ w.length) (hsz : (pre ++ (w ++ post)).length ≤ 1000000000) (lw : Lm w) (lv : Lm v) :
    ACall Tryd.prog 118 [.view K sv 1 pre.length w.length, lim v] σ fun r σ' => ∃ (w' : List Nat) (c : Nat), r = .tup [] ∧ σ' = upd σ K (some (.row sv 91 1 (u16s (pre ++ (w' ++ post))) 0)) ∧ w'.length = w.length ∧ Lm w' ∧ c ≤ 1 ∧ nv w' + 65536 ^ w.length * c = nv w + nv v := by
  have hsz2 : pre.length + (w.length + post.length) ≤ 1000000000 := by simpa using hsz
  refine acall_inline (tok := 0) (rs := []) Tryd.func118 rfl Tryd.ntmps118 Tryd.results118 Tryd.call118 (by rfl) (by simp) ?_
  (repeat' (first | (with_reducible first | refine stp ?_ | apply gx1 | apply gx2 | apply gx3 | apply gx4 | apply gx5 | apply gx6 | apply gx7) | (with_reducible refine all_v ?_; intro _) | ((with_reducible refine gE ?_); (try simp (disch := omega) only [go_sem, ↓reduceIte, Nat.reduceAdd, Nat.reduceSub, Nat.reduceMul, Nat.reduceEqDiff, Nat.reduceLT, Nat.reduceLeDiff, Nat.reduceBEq, Int.reduceNeg, Int.reduceLT, Int.reduceLE, Int.reduceEq, reduceCtorEq]) <;> first | rfl | omega) | with_reducible refine t_in_other (by decide) ?_))
  refine r_loopE (ι := Nat) (fun k e m => k ≤ w.length ∧ (e 0 = .view K sv 1 pre.length w.length ∧ e 1 = lim v ∧ e 7 = .v (.int .i64 w.length) ∧ e 8 = .v (.int .i64 (k : Int))) ∧ ∃ w' c, (e 4 = .v (.int .u32 (c : Nat)) ∧ m = upd σ K (some (.row sv 91 1 (u16s (pre ++ (w' ++ post))) 0))) ∧ w'.length = w.length ∧ Lm w' ∧ c ≤ 1 ∧ (∀ j, k ≤ j → gN w' j = gN w j) ∧ nv (w'.take k) + 65536 ^ k * c = nv (w.take k) + nv (v.take k)) (fun k => w.length - k) 0 (by rfl) ?_ ?_
  · rintro k e m ⟨hk, ⟨e0, e1, e7, e8⟩, w', c, ⟨e4, rfl⟩, hwl, hLw, hc, hsame, hv⟩
    by_cases hlt : k < w.length
    · have gw := gN_lt lw k
      have gv := gN_lt lv k
      have hgw := hsame k (Nat.le_refl _)
      have mid := gN_mid (pre := pre) (post := post) (show k < w'.length by omega)
      have smid := fun x => set_mid (pre := pre) (post := post) (show k < w'.length by omega) x
      have hln : (pre ++ (w' ++ post)).length = pre.length + (w'.length + post.length) := by simp
      have hs := add_step (x := gN w k) (y := gN v k) hv
      have w1 : (c + gN w k + gN v k) / 65536 ≤ 1 := by omega
      have w2 : (c + gN w k + gN v k) % 65536 < 65536 := by omega
      have hsm : ∀ x j, k + 1 ≤ j → gN (w'.set k x) j = gN w j := fun x j hj => by
        rw [gN_set (by omega), if_neg (by omega)]; exact hsame j (by omega)
      rw [← nv_set_take (o := w') (by omega), ← Nat.pow_succ, ← nv_take_succ, ← nv_take_succ] at hs
      by_cases hkv : k < v.length
      · (repeat' (first | (with_reducible first | refine stp ?_ | apply gx1 | apply gx2 | apply gx3 | apply gx4 | apply gx5 | apply gx6 | apply gx7) | (with_reducible refine all_v ?_; intro _) | ((with_reducible refine gE ?_); (try simp (disch := omega) only [go_sem, ↓reduceIte, Nat.reduceAdd, Nat.reduceSub, Nat.reduceMul, Nat.reduceEqDiff, Nat.reduceLT, Nat.reduceLeDiff, Nat.reduceBEq, Int.reduceNeg, Int.reduceLT, Int.reduceLE, Int.reduceEq, reduceCtorEq, e0, e1, e7, e8, e4, hln, hwl, mid, smid, hgw, add_nat, cut_nat]) <;> first | rfl | omega) | with_reducible refine t_in_other (by decide) ?_))
        exact ⟨k + 1, ⟨by omega, by exact gV (And.intro e0 (And.intro e1 (And.intro e7 e8))), _, _, ⟨by exact gC, by (simp (disch := omega) only [go_sem, ↓reduceIte, Nat.reduceAdd, Nat.reduceSub, Nat.reduceMul, Nat.reduceEqDiff, Nat.reduceLT, Nat.reduceLeDiff, Nat.reduceBEq, Int.reduceNeg, Int.reduceLT, Int.reduceLE, Int.reduceEq, reduceCtorEq, upd_upd] <;> repeat' first | rfl | refine ⟨?_, ?_⟩)⟩, by simpa using hwl, hLw.set k w2, w1, hsm _, hs⟩, by omega⟩
      · have g0 : gN v k = 0 := gN_out (by omega)
        simp only [g0, Nat.add_zero] at hs w1 w2
        (repeat' (first | (with_reducible first | refine stp ?_ | apply gx1 | apply gx2 | apply gx3 | apply gx4 | apply gx5 | apply gx6 | apply gx7) | (with_reducible refine all_v ?_; intro _) | ((with_reducible refine gE ?_); (try simp (disch := omega) only [go_sem, ↓reduceIte, Nat.reduceAdd, Nat.reduceSub, Nat.reduceMul, Nat.reduceEqDiff, Nat.reduceLT, Nat.reduceLeDiff, Nat.reduceBEq, Int.reduceNeg, Int.reduceLT, Int.reduceLE, Int.reduceEq, reduceCtorEq, e0, e1, e7, e8, e4, hln, hwl, mid, smid, hgw, add_nat, cut_nat]) <;> first | rfl | omega) | with_reducible refine t_in_other (by decide) ?_))
        exact ⟨k + 1, ⟨by omega, by exact gV (And.intro e0 (And.intro e1 (And.intro e7 e8))), _, _, ⟨by exact gC, by (simp (disch := omega) only [go_sem, ↓reduceIte, Nat.reduceAdd, Nat.reduceSub, Nat.reduceMul, Nat.reduceEqDiff, Nat.reduceLT, Nat.reduceLeDiff, Nat.reduceBEq, Int.reduceNeg, Int.reduceLT, Int.reduceLE, Int.reduceEq, reduceCtorEq, upd_upd] <;> repeat' first | rfl | refine ⟨?_, ?_⟩)⟩, by simpa using hwl, hLw.set k w2, w1, hsm _, hs⟩, by omega⟩
    · have hkw : k = w.length := by omega
      subst hkw
      rw [take_all (by omega), take_all (Nat.le_refl _), take_all hwv] at hv
      (repeat' (first | (with_reducible first | refine stp ?_ | apply gx1 | apply gx2 | apply gx3 | apply gx4 | apply gx5 | apply gx6 | apply gx7) | (with_reducible refine all_v ?_; intro _) | ((with_reducible refine gE ?_); (try simp (disch := omega) only [go_sem, ↓reduceIte, Nat.reduceAdd, Nat.reduceSub, Nat.reduceMul, Nat.reduceEqDiff, Nat.reduceLT, Nat.reduceLeDiff, Nat.reduceBEq, Int.reduceNeg, Int.reduceLT, Int.reduceLE, Int.reduceEq, reduceCtorEq, e0, e1, e7, e8, e4]) <;> first | rfl | omega) | with_reducible refine t_in_other (by decide) ?_))
      simp (disch := omega) only [go_sem, ↓reduceIte, Nat.reduceAdd, Nat.reduceSub, Nat.reduceMul, Nat.reduceEqDiff, Nat.reduceLT, Nat.reduceLeDiff, Nat.reduceBEq, Int.reduceNeg, Int.reduceLT, Int.reduceLE, Int.reduceEq, reduceCtorEq]
      refine ⟨w', c, ?_, hwl, hLw, hc, hv⟩ <;> rfl
  · exact ⟨Nat.zero_le _, by exact gC, w, 0, ⟨by exact gC, by rw [upd_same hσ]⟩, rfl, lw, by omega, fun _ _ => rfl, by simp [nv]⟩
end Go.Proofs.YtjiffehkemeloaaDoor
end

section
namespace Go.Proofs.YtjiffehkemeloaaDoor
open Go Go.RowKit Go.Pg
set_option linter.unusedSimpArgs false
set_option linter.unusedVariables false
set_option maxRecDepth 20000
attribute [local go_sem] Tryd.underlying56 Tryd.underlying3 Tryd.underlying91 Tryd.underlying121 Tryd.underlying81 Tryd.underlying21 Tryd.underlying5 sz3 by3 z3 szL byL zL

set_option maxHeartbeats 1000000 in
theorem natTooGreat (σ : Mem) (sv : Value) (g2 g3 g5 g7 g9 g10 : Nat) (U post v : List Nat) (d r j : Nat) (h2 : σ 2 = some (.box g2 56 [.view 44 sv 1 0 U.length] false)) (h3 : σ 3 = some (.box g3 56 [lim v] false)) (h5 : σ 5 = some (.box g5 3 [.v (.int .i64 v.length)] false))
    (h7 : σ 7 = some (.box g7 3 [.v (.int .i64 (j : Int))] false)) (h9 : σ 9 = some (.box g9 81 [.v (.int .u64 (d : Int))] false)) (h10 : σ 10 = some (.box g10 81 [.v (.int .u64 (r : Int))] false)) (h44 : σ 44 = some (.row sv 91 1 (u16s (U ++ post)) 0))
    (hn : 2 ≤ v.length) (hj : j + v.length < U.length) (hsz : U.length + post.length ≤ 1000000000) (lv : Lm v) (lU : Lm U) (hr : r < 65536) :
    ACall Tryd.prog 116 [.pbox 9 g9 0, .pbox 3 g3 0, .pbox 5 g5 0, .pbox 10 g10 0, .pbox 2 g2 0, .pbox 7 g7 0] σ fun x σ' => x = .v (.bool (decide (65536 ≤ d) || decide (r * 65536 + gN U (j + v.length - 2) < d * gN v (v.length - 2)))) ∧ σ' = σ := by
  refine acall_inline (tok := 0) (rs := [.tmp 6]) Tryd.func116 rfl Tryd.ntmps116 Tryd.results116 Tryd.call116 (by rfl) (by simp) ?_
  by_cases hd : 65536 ≤ d
  · (repeat' (first | (with_reducible first | refine stp ?_ | apply gx1 | apply gx2 | apply gx3 | apply gx4 | apply gx5 | apply gx6 | apply gx7 | apply gy8 | apply gz2 | apply gz3) | (with_reducible refine all_v ?_; intro _) | ((with_reducible refine gE ?_); (try simp (disch := omega) only [go_sem, ↓reduceIte, Nat.reduceAdd, Nat.reduceSub, Nat.reduceMul, Nat.reduceEqDiff, Nat.reduceLT, Nat.reduceLeDiff, Nat.reduceBEq, Int.reduceNeg, Int.reduceLT, Int.reduceLE, Int.reduceEq, reduceCtorEq, h2, h3, h5, h7, h9, h10, h44]) <;> first | rfl | omega) | with_reducible refine t_in_other (by decide) ?_ | ((with_reducible apply gy1); iterate 3 focus rfl) | ((with_reducible apply gy2); iterate 3 focus rfl) | ((with_reducible apply gy3); iterate 2 focus rfl) | ((with_reducible apply gy4); iterate 1 focus rfl) | ((with_reducible apply gy5); iterate 4 focus rfl) | ((with_reducible apply gy6); iterate 4 focus rfl) | ((with_reducible apply d_bar); iterate 3 focus rfl) | ((with_reducible apply q_pub); iterate 1 focus rfl) | ((with_reducible apply gy7); iterate 1 focus rfl) | ((with_reducible apply gy9); (focus ((with_reducible refine gE ?_); (try simp (disch := omega) only [go_sem, ↓reduceIte, Nat.reduceAdd, Nat.reduceSub, Nat.reduceMul, Nat.reduceEqDiff, Nat.reduceLT, Nat.reduceLeDiff, Nat.reduceBEq, Int.reduceNeg, Int.reduceLT, Int.reduceLE, Int.reduceEq, reduceCtorEq, h2, h3, h5, h7, h9, h10, h44]) <;> rfl))) | ((with_reducible apply gz1); (focus first | rfl | (simp (disch := omega) only [go_sem, ↓reduceIte, Nat.reduceAdd, Nat.reduceSub, Nat.reduceMul, Nat.reduceEqDiff, Nat.reduceLT, Nat.reduceLeDiff, Nat.reduceBEq, Int.reduceNeg, Int.reduceLT, Int.reduceLE, Int.reduceEq, reduceCtorEq, h2, h3, h5, h7, h9, h10, h44]; done))) | ((with_reducible apply r_drawD (pickR []) [] []); (focus kernel_rfl); (focus rfl); (focus kernel_rfl); (focus (simp only [List.length_cons, List.length_nil, Nat.reduceAdd]; rfl)))))
    simp (disch := omega) only [go_sem, ↓reduceIte, Nat.reduceAdd, Nat.reduceSub, Nat.reduceMul, Nat.reduceEqDiff, Nat.reduceLT, Nat.reduceLeDiff, Nat.reduceBEq, Int.reduceNeg, Int.reduceLT, Int.reduceLE, Int.reduceEq, reduceCtorEq, decide_eq_true hd]
  · have gv := gN_lt lv (v.length - 2)
    have gu := gN_lt lU (j + v.length - 2)
    have bd := mul_bd (x := d) (by omega) gv
    have e1 : (v.length : Int) - 2 = ((v.length - 2 : Nat) : Int) := by omega
    have e2 : ((j + v.length : Nat) : Int) - 2 = ((j + v.length - 2 : Nat) : Int) := by omega
    have hg : gN (U ++ post) (j + v.length - 2) = gN U (j + v.length - 2) := gN_left (by omega)
    have hl : (U ++ post).length = U.length + post.length := List.length_append
    generalize hxy : d * gN v (v.length - 2) = xy at *
    by_cases ht : r * 65536 + gN U (j + v.length - 2) < xy
    · (repeat' (first | (with_reducible first | refine stp ?_ | apply gx1 | apply gx2 | apply gx3 | apply gx4 | apply gx5 | apply gx6 | apply gx7 | apply gy8 | apply gz2 | apply gz3) | (with_reducible refine all_v ?_; intro _) | ((with_reducible refine gE ?_); (try simp (disch := omega) only [go_sem, ↓reduceIte, Nat.reduceAdd, Nat.reduceSub, Nat.reduceMul, Nat.reduceEqDiff, Nat.reduceLT, Nat.reduceLeDiff, Nat.reduceBEq, Int.reduceNeg, Int.reduceLT, Int.reduceLE, Int.reduceEq, reduceCtorEq, h2, h3, h5, h7, h9, h10, h44, e1, e2, hg, hl, add_nat, mul_nat, hxy, Nat.zero_add]) <;> first | rfl | omega) | with_reducible refine t_in_other (by decide) ?_ | ((with_reducible apply gy1); iterate 3 focus rfl) | ((with_reducible apply gy2); iterate 3 focus rfl) | ((with_reducible apply gy3); iterate 2 focus rfl) | ((with_reducible apply gy4); iterate 1 focus rfl) | ((with_reducible apply gy5); iterate 4 focus rfl) | ((with_reducible apply gy6); iterate 4 focus rfl) | ((with_reducible apply d_bar); iterate 3 focus rfl) | ((with_reducible apply q_pub); iterate 1 focus rfl) | ((with_reducible apply gy7); iterate 1 focus rfl) | ((with_reducible apply gy9); (focus ((with_reducible refine gE ?_); (try simp (disch := omega) only [go_sem, ↓reduceIte, Nat.reduceAdd, Nat.reduceSub, Nat.reduceMul, Nat.reduceEqDiff, Nat.reduceLT, Nat.reduceLeDiff, Nat.reduceBEq, Int.reduceNeg, Int.reduceLT, Int.reduceLE, Int.reduceEq, reduceCtorEq, h2, h3, h5, h7, h9, h10, h44, e1, e2, hg, hl, add_nat, mul_nat, hxy, Nat.zero_add]) <;> rfl))) | ((with_reducible apply gz1); (focus first | rfl | (simp (disch := omega) only [go_sem, ↓reduceIte, Nat.reduceAdd, Nat.reduceSub, Nat.reduceMul, Nat.reduceEqDiff, Nat.reduceLT, Nat.reduceLeDiff, Nat.reduceBEq, Int.reduceNeg, Int.reduceLT, Int.reduceLE, Int.reduceEq, reduceCtorEq, h2, h3, h5, h7, h9, h10, h44, e1, e2, hg, hl, add_nat, mul_nat, hxy, Nat.zero_add]; done))) | ((with_reducible apply r_drawD (pickR []) [] []); (focus kernel_rfl); (focus rfl); (focus kernel_rfl); (focus (simp only [List.length_cons, List.length_nil, Nat.reduceAdd]; rfl)))))
      simp (disch := omega) only [go_sem, ↓reduceIte, Nat.reduceAdd, Nat.reduceSub, Nat.reduceMul, Nat.reduceEqDiff, Nat.reduceLT, Nat.reduceLeDiff, Nat.reduceBEq, Int.reduceNeg, Int.reduceLT, Int.reduceLE, Int.reduceEq, reduceCtorEq, decide_eq_true ht]
    · (repeat' (first | (with_reducible first | refine stp ?_ | apply gx1 | apply gx2 | apply gx3 | apply gx4 | apply gx5 | apply gx6 | apply gx7 | apply gy8 | apply gz2 | apply gz3) | (with_reducible refine all_v ?_; intro _) | ((with_reducible refine gE ?_); (try simp (disch := omega) only [go_sem, ↓reduceIte, Nat.reduceAdd, Nat.reduceSub, Nat.reduceMul, Nat.reduceEqDiff, Nat.reduceLT, Nat.reduceLeDiff, Nat.reduceBEq, Int.reduceNeg, Int.reduceLT, Int.reduceLE, Int.reduceEq, reduceCtorEq, h2, h3, h5, h7, h9, h10, h44, e1, e2, hg, hl, add_nat, mul_nat, hxy, Nat.zero_add]) <;> first | rfl | omega) | with_reducible refine t_in_other (by decide) ?_ | ((with_reducible apply gy1); iterate 3 focus rfl) | ((with_reducible apply gy2); iterate 3 focus rfl) | ((with_reducible apply gy3); iterate 2 focus rfl) | ((with_reducible apply gy4); iterate 1 focus rfl) | ((with_reducible apply gy5); iterate 4 focus rfl) | ((with_reducible apply gy6); iterate 4 focus rfl) | ((with_reducible apply d_bar); iterate 3 focus rfl) | ((with_reducible apply q_pub); iterate 1 focus rfl) | ((with_reducible apply gy7); iterate 1 focus rfl) | ((with_reducible apply gy9); (focus ((with_reducible refine gE ?_); (try simp (disch := omega) only [go_sem, ↓reduceIte, Nat.reduceAdd, Nat.reduceSub, Nat.reduceMul, Nat.reduceEqDiff, Nat.reduceLT, Nat.reduceLeDiff, Nat.reduceBEq, Int.reduceNeg, Int.reduceLT, Int.reduceLE, Int.reduceEq, reduceCtorEq, h2, h3, h5, h7, h9, h10, h44, e1, e2, hg, hl, add_nat, mul_nat, hxy, Nat.zero_add]) <;> rfl))) | ((with_reducible apply gz1); (focus first | rfl | (simp (disch := omega) only [go_sem, ↓reduceIte, Nat.reduceAdd, Nat.reduceSub, Nat.reduceMul, Nat.reduceEqDiff, Nat.reduceLT, Nat.reduceLeDiff, Nat.reduceBEq, Int.reduceNeg, Int.reduceLT, Int.reduceLE, Int.reduceEq, reduceCtorEq, h2, h3, h5, h7, h9, h10, h44, e1, e2, hg, hl, add_nat, mul_nat, hxy, Nat.zero_add]; done))) | ((with_reducible apply r_drawD (pickR []) [] []); (focus kernel_rfl); (focus rfl); (focus kernel_rfl); (focus (simp only [List.length_cons, List.length_nil, Nat.reduceAdd]; rfl)))))
      simp (disch := omega) only [go_sem, ↓reduceIte, Nat.reduceAdd, Nat.reduceSub, Nat.reduceMul, Nat.reduceEqDiff, Nat.reduceLT, Nat.reduceLeDiff, Nat.reduceBEq, Int.reduceNeg, Int.reduceLT, Int.reduceLE, Int.reduceEq, reduceCtorEq, decide_eq_false hd, decide_eq_false ht]
end Go.Proofs.YtjiffehkemeloaaDoor
end

section
namespace Go.Proofs.YtjiffehkemeloaaDoor
open Go Go.RowKit Go.Pg
set_option linter.unusedSimpArgs false
set_option linter.unusedVariables false
set_option maxRecDepth 20000
attribute [local go_sem] Tryd.underlying56 Tryd.underlying3 Tryd.underlying91 Tryd.underlying121 Tryd.underlying81 Tryd.underlying21 Tryd.underlying5 sz3 by3 z3 szL byL zL szQ zQ

theorem o_acall {P : Program} {t d f : Nat} {args : List AV} {K : St → Prop} {e : Nat → AV} {m : Mem} {R : AV → Mem → Prop} (c : ACall P f args m R) (h : ∀ r σ', R r σ' → K ⟨upd e d r, σ'⟩) : aRes P t (some d) (.call f args) K ⟨e, m⟩ := c.mono h

theorem natSubtract' {σ : Mem} {K : Nat} {sv : Value} {pre w post v : List Nat} {d i len : Nat} (hi : pre.length = i) (hw : w.length = len) (hσ : σ K = some (.row sv 91 1 (u16s (pre ++ (w ++ post))) 0)) (hwv : len = v.length + 1) (hsz : (pre ++ (w ++ post)).length ≤ 1000000000) (lw : Lm w) (lv : Lm v) (hd : d < 65536) :
    ACall Tryd.prog 117 [.view K sv 1 i len, lim v, .v (.int .u32 (d : Int))] σ fun r σ' => ∃ (w' : List Nat) (b : Nat), r = .v (.bool (decide (0 < (b : Int)))) ∧ σ' = upd σ K (some (.row sv 91 1 (u16s (pre ++ (w' ++ post))) 0)) ∧ w'.length = len ∧ Lm w' ∧ b ≤ 1 ∧ nv w' + d * nv v = nv w + 65536 ^ len * b := by
  subst hi; subst hw
  exact natSubtract σ K sv pre w post v d hσ hwv hsz lw lv hd
theorem natRestore' {σ : Mem} {K : Nat} {sv : Value} {pre w post v : List Nat} {i len : Nat} (hi : pre.length = i) (hw : w.length = len) (hσ : σ K = some (.row sv 91 1 (u16s (pre ++ (w ++ post))) 0)) (hwv : v.length ≤ len) (hsz : (pre ++ (w ++ post)).length ≤ 1000000000) (lw : Lm w) (lv : Lm v) :
    ACall Tryd.prog 118 [.view K sv 1 i len, lim v] σ fun r σ' => ∃ (w' : List Nat) (c : Nat), r = .tup [] ∧ σ' = upd σ K (some (.row sv 91 1 (u16s (pre ++ (w' ++ post))) 0)) ∧ w'.length = len ∧ Lm w' ∧ c ≤ 1 ∧ nv w' + 65536 ^ len * c = nv w + nv v := by
  subst hi; subst hw
  exact natRestore σ K sv pre w post v hσ hwv hsz lw lv

/-- What holds of the row, the quotient's limbs and the two numbers, k digits being still to be found. -/
structure LongInv (U v q U' : List Nat) (k : Nat) : Prop where
  ql : q.length = U.length - v.length
  qL : Lm q
  qz : ∀ j, j < k → gN q j = 0
  ul : U'.length = U.length
  uL : Lm U'
  eq : nv U' + nv v * nv (q.drop k) * 65536 ^ k = nv U
  lt : nv (U'.drop k) < nv v
/-- One digit found. -/
theorem LongInv.step {U v q U' w'' : List Nat} {j n : Nat} (h : LongInv U v q U' (j + 1)) (hn : v.length = n) (lv : Lm v) (hj : j + n < U.length) (hw : w''.length = n + 1) (hwL : Lm w'')
    (hwv : nv w'' = nv ((U'.drop j).take (n + 1)) % nv v) (hd : nv ((U'.drop j).take (n + 1)) / nv v < 65536) :
    LongInv U v (q.set j (nv ((U'.drop j).take (n + 1)) / nv v)) (U'.take j ++ (w'' ++ U'.drop (j + n + 1))) j := by
  have hV : 0 < nv v := Nat.lt_of_le_of_lt (Nat.zero_le _) h.lt
  have hz := drop_zero lv hn h.lt
  rw [List.drop_drop, show j + 1 + n = j + n + 1 by omega] at hz
  have hql := h.ql
  have hul := h.ul
  have hlj : (U'.take j).length = j := by rw [List.length_take]; omega
  have hj1 : nv (U'.drop j) = nv ((U'.drop j).take (n + 1)) := by
    have := nv_split (U'.drop j) (n + 1)
    rw [List.drop_drop, show j + (n + 1) = j + n + 1 by omega, hz] at this
    omega
  have hw2 : nv (w'' ++ U'.drop (j + n + 1)) = nv w'' := by rw [nv_append, hz]; omega
  have hdr : nv ((U'.take j ++ (w'' ++ U'.drop (j + n + 1))).drop j) = nv w'' := by
    rw [List.drop_append_of_le_length (by omega), List.drop_eq_nil_of_le (by omega), List.nil_append, hw2]
  refine ⟨by simpa using hql, h.qL.set j hd, fun i hi => ?_, by simp; omega, (h.uL.take j).append (hwL.append (h.uL.drop _)), ?_, by rw [hdr, hwv]; exact Nat.mod_lt _ hV⟩
  · rw [gN_set (by omega), if_neg (by omega)]; exact h.qz i (by omega)
  · have h1 := h.eq
    have h2 := nv_split U' j
    have h3 := Nat.div_add_mod (nv ((U'.drop j).take (n + 1))) (nv v)
    rw [nv_append, hlj, hw2, hwv, nv_drop (q.set j _), gN_set (by omega), if_pos rfl, List.drop_set_of_lt (by omega)]
    rw [← h1, h2, hj1, Nat.mul_add, Nat.add_mul, Nat.pow_succ]
    generalize nv ((U'.drop j).take (n + 1)) = W at *
    generalize nv (q.drop (j + 1)) = Q at *
    have e1 : nv v * (W / nv v) * 65536 ^ j + 65536 ^ j * (W % nv v) = 65536 ^ j * W := by
      rw [Nat.mul_comm (nv v * (W / nv v)), ← Nat.mul_add, h3]
    have e2 : nv v * (65536 * Q) * 65536 ^ j = nv v * Q * (65536 ^ j * 65536) := by
      simp only [Nat.mul_assoc, Nat.mul_left_comm, Nat.mul_comm]
    omega

set_option maxHeartbeats 4000000 in
theorem natLong (σ : Mem) (sv : Value) (U post v : List Nat) (n : Nat) (hvn : v.length = n) (h44 : σ 44 = some (.row sv 91 1 (u16s (U ++ post)) 0)) (hn : 2 ≤ n) (hlen : n < U.length) (hsz : U.length + post.length ≤ 1000000000) (lU : Lm U) (lp : Lm post) (lv : Lm v)
    (hvt : 0 < gN v (n - 1)) (hlt : nv (U.drop (U.length - n)) < nv v) :
    ACall Tryd.prog 110 [.view 44 sv 1 0 U.length, lim v] σ fun r σ' => ∃ U' : List Nat, r = lim (toL (nv U / nv v)) ∧ σ' 44 = some (.row sv 91 1 (u16s (U' ++ post)) 0) ∧ U'.length = U.length ∧ Lm U' ∧ nv U' = nv U % nv v := by
  have hc : (U.length : Int) - (n : Int) = ((U.length - n : Nat) : Int) := by omega
  refine acall_inline (tok := 0) (rs := [.tmp 4]) Tryd.func110 rfl Tryd.ntmps110 Tryd.results110 Tryd.call110 (by rfl) (by simp) ?_
  (repeat' (first | (with_reducible first | refine stp ?_ | apply gx1 | apply gx2 | apply gx3 | apply gx4 | apply gx5 | apply gx6 | apply gx7) | (with_reducible refine all_v ?_; intro _) | ((with_reducible refine gE ?_); (try simp (disch := omega) only [go_sem, ↓reduceIte, Nat.reduceAdd, Nat.reduceSub, Nat.reduceMul, Nat.reduceEqDiff, Nat.reduceLT, Nat.reduceLeDiff, Nat.reduceBEq, Int.reduceNeg, Int.reduceLT, Int.reduceLE, Int.reduceEq, reduceCtorEq, hvn, hc]) <;> first | rfl | omega) | with_reducible refine t_in_other (by decide) ?_))
  refine r_loopE (ι := Nat) (fun k e m => k ≤ U.length - n ∧ ∃ g2 g3 g5 g7 svo q U', (e 2 = .pbox 2 g2 0 ∧ e 3 = .pbox 3 g3 0 ∧ e 5 = .pbox 5 g5 0 ∧ e 6 = .own 18 svo ∧ e 7 = .pbox 7 g7 0) ∧ m 2 = some (.box g2 56 [.view 44 sv 1 0 U.length] false) ∧ m 3 = some (.box g3 56 [lim v] false) ∧ m 5 = some (.box g5 3 [.v (.int .i64 n)] false) ∧ m 7 = some (.box g7 3 [.v (.int .i64 ((k : Int) - 1))] false) ∧
    m 18 = some (.row svo 91 1 (u16s q) 0) ∧ m 44 = some (.row sv 91 1 (u16s (U' ++ post)) 0) ∧ LongInv U v q U' k) (fun k => k) (U.length - n) (by rfl) ?_ ?_
  · rintro k e m ⟨hk, g2, g3, g5, g7, svo, q, U', ⟨e2, e3, e5, e6, e7⟩, m2, m3, m5, m7, m18, m44, inv⟩
    have hql := inv.ql
    rw [hvn] at hql
    have hul := inv.ul
    rcases Nat.eq_zero_or_pos k with h0 | h0
    · subst h0
      have h1 := inv.eq
      have h2 := inv.lt
      rw [List.drop_zero] at h1 h2
      rw [Nat.pow_zero, Nat.mul_one] at h1
      have hq : nv U / nv v = nv q := by rw [← h1, Nat.add_comm, Nat.mul_add_div (by omega), Nat.div_eq_of_lt h2, Nat.add_zero]
      have hr : nv U' = nv U % nv v := by rw [← h1, Nat.add_comm, Nat.mul_add_mod, Nat.mod_eq_of_lt h2]
      (repeat' (first | (with_reducible first | refine stp ?_ | apply gx1 | apply gx2 | apply gx3 | apply gx4 | apply gx5 | apply gx6 | apply gx7 | apply gw1 (natTrim q (by omega) inv.qL)) | (with_reducible refine all_v ?_; intro _) | ((with_reducible refine gE ?_); (try simp (disch := omega) only [go_sem, ↓reduceIte, Nat.reduceAdd, Nat.reduceSub, Nat.reduceMul, Nat.reduceEqDiff, Nat.reduceLT, Nat.reduceLeDiff, Nat.reduceBEq, Int.reduceNeg, Int.reduceLT, Int.reduceLE, Int.reduceEq, reduceCtorEq, e2, e3, e5, e6, e7, m2, m3, m5, m7, m18, m44]) <;> first | rfl | omega) | with_reducible refine t_in_other (by decide) ?_))
      simp (disch := omega) only [go_sem, ↓reduceIte, Nat.reduceAdd, Nat.reduceSub, Nat.reduceMul, Nat.reduceEqDiff, Nat.reduceLT, Nat.reduceLeDiff, Nat.reduceBEq, Int.reduceNeg, Int.reduceLT, Int.reduceLE, Int.reduceEq, reduceCtorEq, hq]
      refine ⟨U', ?_, hul, inv.uL, hr⟩
      simp (disch := omega) only [go_sem, ↓reduceIte, Nat.reduceAdd, Nat.reduceSub, Nat.reduceMul, Nat.reduceEqDiff, Nat.reduceLT, Nat.reduceLeDiff, Nat.reduceBEq, Int.reduceNeg, Int.reduceLT, Int.reduceLE, Int.reduceEq, reduceCtorEq, m44]
    · obtain ⟨j, rfl⟩ : ∃ j, k = j + 1 := ⟨k - 1, by omega⟩
      have ej : ((j + 1 : Nat) : Int) - 1 = (j : Int) := by omega
      rw [ej] at m7
      have g0 := gN_lt inv.uL (j + n)
      have g1 := gN_lt inv.uL (j + n - 1)
      have g2' := gN_lt inv.uL (j + n - 2)
      have gv1 := gN_lt lv (n - 1)
      have gv2 := gN_lt lv (n - 2)
      have hl : (U' ++ post).length = U'.length + post.length := List.length_append
      have x0 : gN (U' ++ post) (j + n) = gN U' (j + n) := gN_left (by omega)
      have x1 : gN (U' ++ post) (j + n - 1) = gN U' (j + n - 1) := gN_left (by omega)
      have ex1 : ((j + n : Nat) : Int) - 1 = ((j + n - 1 : Nat) : Int) := by omega
      have ex2 : (n : Int) - 1 = ((n - 1 : Nat) : Int) := by omega
      -- the segment
      have hwl : ((U'.drop j).take (n + 1)).length = n + 1 := by rw [List.length_take, List.length_drop]; omega
      have hwL : Lm ((U'.drop j).take (n + 1)) := (inv.uL.drop j).take _
      have wg : ∀ i, i ≤ n → gN ((U'.drop j).take (n + 1)) i = gN U' (j + i) := fun i hi => by rw [gN_take (by omega), gN_drop]
      have hW := nv_top3 hwl hn
      rw [wg n (Nat.le_refl _), wg (n - 1) (by omega), wg (n - 2) (by omega), show j + (n - 1) = j + n - 1 by omega, show j + (n - 2) = j + n - 2 by omega] at hW
      have hwl2 := nv_take_lt hwL (n - 2)
      have hVt := nv_top2 hvn hn
      have hvl2 := nv_take_lt lv (n - 2)
      have hV : 0 < nv v := Nat.lt_of_le_of_lt (Nat.zero_le _) inv.lt
      have htop : gN U' (j + n) ≤ gN v (n - 1) := by
        have := top_le (inv.uL.drop (j + 1)) lv hvn hn inv.lt
        rwa [gN_drop, show j + 1 + (n - 1) = j + n by omega] at this
      have hWV : nv ((U'.drop j).take (n + 1)) / nv v < 65536 := by
        rw [Nat.div_lt_iff_lt_mul hV]
        have h1 := nv_split (U'.drop j) (n + 1)
        have h2 := nv_drop U' j
        have h3 := inv.lt
        have h4 := gN_lt inv.uL j
        omega
      obtain ⟨high, hhigh⟩ : ∃ h, gN U' (j + n) * 65536 + gN U' (j + n - 1) = h := ⟨_, rfl⟩
      rw [hhigh] at hW
      have hinit := kn_init (Nat.pow_pos (by omega)) hVt hW hwl2 g2' hvt (Nat.div_mul_le_self (nv ((U'.drop j).take (n + 1))) (nv v))
      have hhd := Nat.div_add_mod high (gN v (n - 1))
      have hhr := Nat.mod_lt high hvt
      have hhq := Nat.div_le_self high (gN v (n - 1))
      rw [Nat.mul_comm] at hhd
      have hv1i : (gN v (n - 1) : Int) ≠ 0 := by omega
      have hq1 : (high : Int) / (gN v (n - 1) : Int) ≤ 4294967296 := by
        have : ((high / gN v (n - 1) : Nat) : Int) ≤ 4294967296 := by omega
        exact this
      have wq : IntKind.u64.wrap ((high / gN v (n - 1) : Nat) : Int) = ((high / gN v (n - 1) : Nat) : Int) := wrap_u64 (Int.natCast_nonneg _) (by omega)
      (repeat' (first | (with_reducible first | refine stp ?_ | apply gx1 | apply gx2 | apply gx3 | apply gx4 | apply gx5 | apply gx6 | apply gx7 | apply gy8 | apply gz2 | apply gz3) | (with_reducible refine all_v ?_; intro _) | ((with_reducible refine gE ?_); (try simp (disch := omega) only [go_sem, ↓reduceIte, Nat.reduceAdd, Nat.reduceSub, Nat.reduceMul, Nat.reduceEqDiff, Nat.reduceLT, Nat.reduceLeDiff, Nat.reduceBEq, Int.reduceNeg, Int.reduceLT, Int.reduceLE, Int.reduceEq, reduceCtorEq, e2, e3, e5, e6, e7, m2, m3, m5, m7, m18, m44, hl, hul, hvn, x0, x1, ex1, ex2, hhigh, hv1i, add_nat, quo_nat, rem_nat, Nat.zero_add, wq]) <;> first | rfl | omega) | with_reducible refine t_in_other (by decide) ?_ | ((with_reducible apply gy1); iterate 3 focus rfl) | ((with_reducible apply gy2); iterate 3 focus rfl) | ((with_reducible apply gy3); iterate 2 focus rfl) | ((with_reducible apply gy4); iterate 1 focus rfl) | ((with_reducible apply gy5); iterate 4 focus rfl) | ((with_reducible apply gy6); iterate 4 focus rfl) | ((with_reducible apply d_bar); iterate 3 focus rfl) | ((with_reducible apply q_pub); iterate 1 focus rfl) | ((with_reducible apply gy7); iterate 1 focus rfl) | ((with_reducible apply gy9); (focus ((with_reducible refine gE ?_); (try simp (disch := omega) only [go_sem, ↓reduceIte, Nat.reduceAdd, Nat.reduceSub, Nat.reduceMul, Nat.reduceEqDiff, Nat.reduceLT, Nat.reduceLeDiff, Nat.reduceBEq, Int.reduceNeg, Int.reduceLT, Int.reduceLE, Int.reduceEq, reduceCtorEq, e2, e3, e5, e6, e7, m2, m3, m5, m7, m18, m44, hl, hul, hvn, x0, x1, ex1, ex2, hhigh, hv1i, add_nat, quo_nat, rem_nat, Nat.zero_add, wq]) <;> rfl))) | ((with_reducible apply gz1); (focus first | rfl | (simp (disch := omega) only [go_sem, ↓reduceIte, Nat.reduceAdd, Nat.reduceSub, Nat.reduceMul, Nat.reduceEqDiff, Nat.reduceLT, Nat.reduceLeDiff, Nat.reduceBEq, Int.reduceNeg, Int.reduceLT, Int.reduceLE, Int.reduceEq, reduceCtorEq, e2, e3, e5, e6, e7, m2, m3, m5, m7, m18, m44, hl, hul, hvn, x0, x1, ex1, ex2, hhigh, hv1i, add_nat, quo_nat, rem_nat, Nat.zero_add, wq]; done))) | ((with_reducible apply r_drawD (pickR []) [] [9, 10]); (focus kernel_rfl); (focus rfl); (focus kernel_rfl); (focus (simp only [List.length_cons, List.length_nil, Nat.reduceAdd]; rfl)))))
      rename_i g9 g10
      have hlj : (U'.take j).length = j := by rw [List.length_take]; omega
      have hsplit : U' ++ post = U'.take j ++ ((U'.drop j).take (n + 1) ++ (U'.drop (j + n + 1) ++ post)) := by
        have e1 : U' = U'.take j ++ ((U'.drop j).take (n + 1) ++ U'.drop (j + n + 1)) := by
          rw [show j + n + 1 = j + (n + 1) by omega, ← List.drop_drop, List.take_append_drop, List.take_append_drop]
        rw [← List.append_assoc ((U'.drop j).take (n + 1)), ← List.append_assoc, ← e1]
      have esub : j + n + 1 - j = n + 1 := by omega
      obtain ⟨W, hWd⟩ : ∃ W, nv ((U'.drop j).take (n + 1)) = W := ⟨_, rfl⟩
      have hstep := fun (w'' : List Nat) hw hwL2 hwv => inv.step (w'' := w'') hvn lv (by omega) hw hwL2 hwv hWV
      rw [hWd] at hinit hWV hW hstep
      have hzz : ∀ d r, high = d * gN v (n - 1) + r → 65536 ≤ r → d < 65536 ∧ d * gN v (n - 2) ≤ r * 65536 + gN U' (j + n - 2) := by
        intro d r h1 h2
        have hd : d < 65536 := by
          rcases Nat.lt_or_ge d 65536 with h3 | h3
          · exact h3
          · exfalso
            have h4 : 65536 * gN v (n - 1) ≤ d * gN v (n - 1) := Nat.mul_le_mul_right _ h3
            omega
        have := mul_bd hd gv2
        omega
      refine r_loopE (ι := Nat) (fun d e' m' => (e' 2 = .pbox 2 g2 0 ∧ e' 3 = .pbox 3 g3 0 ∧ e' 5 = .pbox 5 g5 0 ∧ e' 6 = .own 18 svo ∧ e' 7 = .pbox 7 g7 0 ∧ e' 9 = .pbox 9 g9 0 ∧ e' 10 = .pbox 10 g10 0 ∧ e' 11 = .fn 116 [.pbox 9 g9 0, .pbox 3 g3 0, .pbox 5 g5 0, .pbox 10 g10 0, .pbox 2 g2 0, .pbox 7 g7 0]) ∧
        m' 2 = some (.box g2 56 [.view 44 sv 1 0 U.length] false) ∧ m' 3 = some (.box g3 56 [lim v] false) ∧ m' 5 = some (.box g5 3 [.v (.int .i64 n)] false) ∧ m' 7 = some (.box g7 3 [.v (.int .i64 (j : Int))] false) ∧ m' 18 = some (.row svo 91 1 (u16s q) 0) ∧ m' 44 = some (.row sv 91 1 (u16s (U' ++ post)) 0) ∧
        m' 9 = some (.box g9 81 [.v (.int .u64 (d : Int))] false) ∧ ∃ r : Nat, m' 10 = some (.box g10 81 [.v (.int .u64 (r : Int))] false) ∧ high = d * gN v (n - 1) + r ∧ W / nv v ≤ d ∧ d ≤ high ∧ r < 131072) (fun d => d) (high / gN v (n - 1)) (by rfl) ?_ ?_
      · rintro d e m ⟨⟨e2, e3, e5, e6, e7, e9, e10, e11⟩, m2, m3, m5, m7, m18, m44, m9, r, m10, hhi, hqd, hdh, hr2⟩
        have ct := fun hr => natTooGreat m sv g2 g3 g5 g7 g9 g10 U' post v d r j (by rw [hul]; exact m2) m3 (by rw [hvn]; exact m5) m7 m9 m10 m44 (by omega) (by omega) (by omega) lv inv.uL hr
        rw [hvn] at ct
        by_cases hgo : r < 65536 ∧ (65536 ≤ d ∨ r * 65536 + gN U' (j + n - 2) < d * gN v (n - 2))
        · obtain ⟨hr, ht⟩ := hgo
          have hb : (decide (65536 ≤ d) || decide (r * 65536 + gN U' (j + n - 2) < d * gN v (n - 2))) = true := by simpa using ht
          have hd1 : 1 ≤ d := by
            rcases Nat.eq_zero_or_pos d with h | h
            · subst h; omega
            · exact h
          have ed : (d : Int) - 1 = ((d - 1 : Nat) : Int) := by omega
          have hq2 : W / nv v ≤ d - 1 := by
            rcases ht with h | h
            · omega
            · have h1 := kn_step hVt hW hwl2 hhi h
              rw [← Nat.div_lt_iff_lt_mul hV] at h1
              omega
          have hh2 : high = (d - 1) * gN v (n - 1) + (r + gN v (n - 1)) := by
            obtain ⟨d', rfl⟩ : ∃ d', d = d' + 1 := ⟨d - 1, by omega⟩
            rw [Nat.add_sub_cancel, hhi, Nat.add_mul, Nat.one_mul]
            omega
          (repeat' (first | (with_reducible first | refine stp ?_ | apply gx1 | apply gx2 | apply gx3 | apply gx4 | apply gx5 | apply gx6 | apply gx7 | apply gy8 | apply gz2 | apply gz3 | refine o_lent (ct hr) ?_) | (with_reducible refine all_v ?_; intro _) | ((with_reducible refine gE ?_); (try simp (disch := omega) only [go_sem, ↓reduceIte, Nat.reduceAdd, Nat.reduceSub, Nat.reduceMul, Nat.reduceEqDiff, Nat.reduceLT, Nat.reduceLeDiff, Nat.reduceBEq, Int.reduceNeg, Int.reduceLT, Int.reduceLE, Int.reduceEq, reduceCtorEq, e2, e3, e5, e6, e7, e9, e10, e11, m2, m3, m5, m7, m18, m44, m9, m10, hb, ed, ex2, hvn, add_nat]) <;> first | rfl | omega) | with_reducible refine t_in_other (by decide) ?_ | ((with_reducible apply gy1); iterate 3 focus rfl) | ((with_reducible apply gy2); iterate 3 focus rfl) | ((with_reducible apply gy3); iterate 2 focus rfl) | ((with_reducible apply gy4); iterate 1 focus rfl) | ((with_reducible apply gy5); iterate 4 focus rfl) | ((with_reducible apply gy6); iterate 4 focus rfl) | ((with_reducible apply d_bar); iterate 3 focus rfl) | ((with_reducible apply q_pub); iterate 1 focus rfl) | ((with_reducible apply gy7); iterate 1 focus rfl) | ((with_reducible apply gy9); (focus ((with_reducible refine gE ?_); (try simp (disch := omega) only [go_sem, ↓reduceIte, Nat.reduceAdd, Nat.reduceSub, Nat.reduceMul, Nat.reduceEqDiff, Nat.reduceLT, Nat.reduceLeDiff, Nat.reduceBEq, Int.reduceNeg, Int.reduceLT, Int.reduceLE, Int.reduceEq, reduceCtorEq, e2, e3, e5, e6, e7, e9, e10, e11, m2, m3, m5, m7, m18, m44, m9, m10, hb, ed, ex2, hvn, add_nat]) <;> rfl))) | ((with_reducible apply gz1); (focus first | rfl | (simp (disch := omega) only [go_sem, ↓reduceIte, Nat.reduceAdd, Nat.reduceSub, Nat.reduceMul, Nat.reduceEqDiff, Nat.reduceLT, Nat.reduceLeDiff, Nat.reduceBEq, Int.reduceNeg, Int.reduceLT, Int.reduceLE, Int.reduceEq, reduceCtorEq, e2, e3, e5, e6, e7, e9, e10, e11, m2, m3, m5, m7, m18, m44, m9, m10, hb, ed, ex2, hvn, add_nat]; done))) | ((with_reducible apply r_drawD (pickR []) [8] []); (focus kernel_rfl); (focus rfl); (focus kernel_rfl); (focus (simp only [List.length_cons, List.length_nil, Nat.reduceAdd]; rfl)))))
          exact ⟨d - 1, ⟨⟨by exact gW e2, by exact gW e3, by exact gW e5, by exact gW e6, by exact gW e7, by exact gW e9, by exact gW e10, by exact gW e11⟩, by exact gW m2, by exact gW m3, by exact gW m5, by exact gW m7, by exact gW m18, by exact gW m44, by exact gC, _, by exact gC, hh2, hq2, by omega, by omega⟩, by omega⟩
        · obtain ⟨hd, hdv⟩ : d < 65536 ∧ d * gN v (n - 2) ≤ r * 65536 + gN U' (j + n - 2) := by
            rcases Nat.lt_or_ge r 65536 with h | h
            · have h2 : ¬ (65536 ≤ d ∨ r * 65536 + gN U' (j + n - 2) < d * gN v (n - 2)) := fun h2 => hgo ⟨h, h2⟩
              omega
            · exact hzz d r hhi h
          have hb : (decide (65536 ≤ d) || decide (r * 65536 + gN U' (j + n - 2) < d * gN v (n - 2))) = false := by
            rw [Bool.or_eq_false_iff, decide_eq_false_iff_not, decide_eq_false_iff_not]; omega
          have hnear := kn_near hV hqd (kn_exit hVt hvl2 hW hhi hvt hd hdv)
          have csub := natSubtract' (K := 44) (sv := sv) (σ := m) (post := U'.drop (j + n + 1) ++ post) (v := v) (d := d) hlj hwl (by rw [← hsplit]; exact m44) (by omega) (by rw [← hsplit]; omega) hwL lv hd
          rcases Nat.lt_or_ge r 65536 with hr | hr
          all_goals
            (repeat' (first | (with_reducible first | refine stp ?_ | apply gx1 | apply gx2 | apply gx3 | apply gx4 | apply gx5 | apply gx6 | apply gx7 | apply gy8 | apply gz2 | apply gz3 | refine o_lent (ct hr) ?_) | (with_reducible refine all_v ?_; intro _) | ((with_reducible refine gE ?_); (try simp (disch := omega) only [go_sem, ↓reduceIte, Nat.reduceAdd, Nat.reduceSub, Nat.reduceMul, Nat.reduceEqDiff, Nat.reduceLT, Nat.reduceLeDiff, Nat.reduceBEq, Int.reduceNeg, Int.reduceLT, Int.reduceLE, Int.reduceEq, reduceCtorEq, e2, e3, e5, e6, e7, e9, e10, e11, m2, m3, m5, m7, m18, m44, m9, m10, hb, ex2, hvn, add_nat, cast_succ, esub, Nat.zero_add]) <;> first | rfl | omega) | with_reducible refine t_in_other (by decide) ?_ | ((with_reducible apply gy1); iterate 3 focus rfl) | ((with_reducible apply gy2); iterate 3 focus rfl) | ((with_reducible apply gy3); iterate 2 focus rfl) | ((with_reducible apply gy4); iterate 1 focus rfl) | ((with_reducible apply gy5); iterate 4 focus rfl) | ((with_reducible apply gy6); iterate 4 focus rfl) | ((with_reducible apply d_bar); iterate 3 focus rfl) | ((with_reducible apply q_pub); iterate 1 focus rfl) | ((with_reducible apply gy7); iterate 1 focus rfl) | ((with_reducible apply gy9); (focus ((with_reducible refine gE ?_); (try simp (disch := omega) only [go_sem, ↓reduceIte, Nat.reduceAdd, Nat.reduceSub, Nat.reduceMul, Nat.reduceEqDiff, Nat.reduceLT, Nat.reduceLeDiff, Nat.reduceBEq, Int.reduceNeg, Int.reduceLT, Int.reduceLE, Int.reduceEq, reduceCtorEq, e2, e3, e5, e6, e7, e9, e10, e11, m2, m3, m5, m7, m18, m44, m9, m10, hb, ex2, hvn, add_nat, cast_succ, esub, Nat.zero_add]) <;> rfl))) | ((with_reducible apply gz1); (focus first | rfl | (simp (disch := omega) only [go_sem, ↓reduceIte, Nat.reduceAdd, Nat.reduceSub, Nat.reduceMul, Nat.reduceEqDiff, Nat.reduceLT, Nat.reduceLeDiff, Nat.reduceBEq, Int.reduceNeg, Int.reduceLT, Int.reduceLE, Int.reduceEq, reduceCtorEq, e2, e3, e5, e6, e7, e9, e10, e11, m2, m3, m5, m7, m18, m44, m9, m10, hb, ex2, hvn, add_nat, cast_succ, esub, Nat.zero_add]; done))) | ((with_reducible apply r_drawD (pickR []) [10] []); (focus kernel_rfl); (focus rfl); (focus kernel_rfl); (focus (simp only [List.length_cons, List.length_nil, Nat.reduceAdd]; rfl)))))
            refine o_acall csub ?_
            rintro _ _ ⟨w', b, rfl, rfl, hwl', hwL', hb1, heq⟩
            rw [hWd] at heq
            have hw'p : nv w' < 65536 ^ (n + 1) := by have := nv_lt hwL'; rwa [hwl'] at this
            have hcase := subDone hV hw'p hb1 heq hnear
            have ej2 : (j : Int) - 1 = (j : Int) - 1 := rfl
            rcases hcase with ⟨rfl, hdq, hwm⟩ | ⟨rfl, hdq⟩
            · have inv' := hstep w' hwl' hwL' hwm
              rw [← hdq] at inv'
              have hdm : d % 65536 = d := Nat.mod_eq_of_lt hd
              (repeat' (first | (with_reducible first | refine stp ?_ | apply gx1 | apply gx2 | apply gx3 | apply gx4 | apply gx5 | apply gx6 | apply gx7 | apply gy8 | apply gz2 | apply gz3) | (with_reducible refine all_v ?_; intro _) | ((with_reducible refine gE ?_); (try simp (disch := omega) only [go_sem, ↓reduceIte, Nat.reduceAdd, Nat.reduceSub, Nat.reduceMul, Nat.reduceEqDiff, Nat.reduceLT, Nat.reduceLeDiff, Nat.reduceBEq, Int.reduceNeg, Int.reduceLT, Int.reduceLE, Int.reduceEq, reduceCtorEq, e2, e3, e5, e6, e7, e9, e10, e11, m2, m3, m5, m7, m18, m44, m9, m10, hql, cut_nat, hdm, Int.natCast_zero, Int.lt_irrefl]) <;> first | rfl | omega) | with_reducible refine t_in_other (by decide) ?_ | ((with_reducible apply gy1); iterate 3 focus rfl) | ((with_reducible apply gy2); iterate 3 focus rfl) | ((with_reducible apply gy3); iterate 2 focus rfl) | ((with_reducible apply gy4); iterate 1 focus rfl) | ((with_reducible apply gy5); iterate 4 focus rfl) | ((with_reducible apply gy6); iterate 4 focus rfl) | ((with_reducible apply d_bar); iterate 3 focus rfl) | ((with_reducible apply q_pub); iterate 1 focus rfl) | ((with_reducible apply gy7); iterate 1 focus rfl) | ((with_reducible apply gy9); (focus ((with_reducible refine gE ?_); (try simp (disch := omega) only [go_sem, ↓reduceIte, Nat.reduceAdd, Nat.reduceSub, Nat.reduceMul, Nat.reduceEqDiff, Nat.reduceLT, Nat.reduceLeDiff, Nat.reduceBEq, Int.reduceNeg, Int.reduceLT, Int.reduceLE, Int.reduceEq, reduceCtorEq, e2, e3, e5, e6, e7, e9, e10, e11, m2, m3, m5, m7, m18, m44, m9, m10, hql, cut_nat, hdm, Int.natCast_zero, Int.lt_irrefl]) <;> rfl))) | ((with_reducible apply gz1); (focus first | rfl | (simp (disch := omega) only [go_sem, ↓reduceIte, Nat.reduceAdd, Nat.reduceSub, Nat.reduceMul, Nat.reduceEqDiff, Nat.reduceLT, Nat.reduceLeDiff, Nat.reduceBEq, Int.reduceNeg, Int.reduceLT, Int.reduceLE, Int.reduceEq, reduceCtorEq, e2, e3, e5, e6, e7, e9, e10, e11, m2, m3, m5, m7, m18, m44, m9, m10, hql, cut_nat, hdm, Int.natCast_zero, Int.lt_irrefl]; done))) | ((with_reducible apply r_drawD (pickR []) [10] []); (focus kernel_rfl); (focus rfl); (focus kernel_rfl); (focus (simp only [List.length_cons, List.length_nil, Nat.reduceAdd]; rfl)))))
              exact ⟨j, ⟨by omega, g2, g3, g5, _, svo, q.set j d, U'.take j ++ (w' ++ U'.drop (j + n + 1)), ⟨by exact gW e2, by exact gW e3, by exact gW e5, by exact gW e6, by exact gC⟩, by exact gW m2, by exact gW m3, by exact gW m5, by exact gC, by exact gC, by (simp (disch := omega) only [go_sem, ↓reduceIte, Nat.reduceAdd, Nat.reduceSub, Nat.reduceMul, Nat.reduceEqDiff, Nat.reduceLT, Nat.reduceLeDiff, Nat.reduceBEq, Int.reduceNeg, Int.reduceLT, Int.reduceLE, Int.reduceEq, reduceCtorEq, List.append_assoc] <;> repeat' first | rfl | refine ⟨?_, ?_⟩), inv'⟩, by omega⟩
            · have crest := fun (σ : Mem) h => natRestore' (σ := σ) (K := 44) (sv := sv) (post := U'.drop (j + n + 1) ++ post) (v := v) hlj hwl' h (by omega) (by rw [hsplit] at hl; simp only [List.length_append] at hl ⊢; omega) hwL' lv
              have hd1 : 1 ≤ d := by rw [hdq]; exact Nat.le_add_left 1 _
              have ed : (d : Int) - 1 = ((d - 1 : Nat) : Int) := by omega
              have one : (0 : Int) < ((1 : Nat) : Int) := by omega
              (repeat' (first | (with_reducible first | refine stp ?_ | apply gx1 | apply gx2 | apply gx3 | apply gx4 | apply gx5 | apply gx6 | apply gx7 | apply gy8 | apply gz2 | apply gz3) | (with_reducible refine all_v ?_; intro _) | ((with_reducible refine gE ?_); (try simp (disch := omega) only [go_sem, ↓reduceIte, Nat.reduceAdd, Nat.reduceSub, Nat.reduceMul, Nat.reduceEqDiff, Nat.reduceLT, Nat.reduceLeDiff, Nat.reduceBEq, Int.reduceNeg, Int.reduceLT, Int.reduceLE, Int.reduceEq, reduceCtorEq, e2, e3, e5, e6, e7, e9, e10, e11, m2, m3, m5, m7, m18, m44, m9, m10, ed, one, add_nat, cast_succ, esub, Nat.zero_add]) <;> first | rfl | omega) | with_reducible refine t_in_other (by decide) ?_ | ((with_reducible apply gy1); iterate 3 focus rfl) | ((with_reducible apply gy2); iterate 3 focus rfl) | ((with_reducible apply gy3); iterate 2 focus rfl) | ((with_reducible apply gy4); iterate 1 focus rfl) | ((with_reducible apply gy5); iterate 4 focus rfl) | ((with_reducible apply gy6); iterate 4 focus rfl) | ((with_reducible apply d_bar); iterate 3 focus rfl) | ((with_reducible apply q_pub); iterate 1 focus rfl) | ((with_reducible apply gy7); iterate 1 focus rfl) | ((with_reducible apply gy9); (focus ((with_reducible refine gE ?_); (try simp (disch := omega) only [go_sem, ↓reduceIte, Nat.reduceAdd, Nat.reduceSub, Nat.reduceMul, Nat.reduceEqDiff, Nat.reduceLT, Nat.reduceLeDiff, Nat.reduceBEq, Int.reduceNeg, Int.reduceLT, Int.reduceLE, Int.reduceEq, reduceCtorEq, e2, e3, e5, e6, e7, e9, e10, e11, m2, m3, m5, m7, m18, m44, m9, m10, ed, one, add_nat, cast_succ, esub, Nat.zero_add]) <;> rfl))) | ((with_reducible apply gz1); (focus first | rfl | (simp (disch := omega) only [go_sem, ↓reduceIte, Nat.reduceAdd, Nat.reduceSub, Nat.reduceMul, Nat.reduceEqDiff, Nat.reduceLT, Nat.reduceLeDiff, Nat.reduceBEq, Int.reduceNeg, Int.reduceLT, Int.reduceLE, Int.reduceEq, reduceCtorEq, e2, e3, e5, e6, e7, e9, e10, e11, m2, m3, m5, m7, m18, m44, m9, m10, ed, one, add_nat, cast_succ, esub, Nat.zero_add]; done))) | ((with_reducible apply r_drawD (pickR []) [8] []); (focus kernel_rfl); (focus rfl); (focus kernel_rfl); (focus (simp only [List.length_cons, List.length_nil, Nat.reduceAdd]; rfl)))))
              refine o_acall (crest _ (by exact gC)) ?_
              rintro _ _ ⟨w'', c, rfl, rfl, hwl'', hwL'', hc1, heq2⟩
              have hw''p : nv w'' < 65536 ^ (n + 1) := by have := nv_lt hwL''; rwa [hwl''] at this
              have hVp : nv v ≤ 65536 ^ (n + 1) := by
                have h1 := nv_lt lv
                rw [hvn] at h1
                have h2 : 65536 ^ n ≤ 65536 ^ (n + 1) := Nat.pow_le_pow_right (by omega) (by omega)
                omega
              have hwm := resDone hV hVp hw''p hc1 (by rw [← hdq]; exact heq) heq2
              have inv' := hstep w'' hwl'' hwL'' hwm
              have hdq2 : d - 1 = W / nv v := by rw [hdq, Nat.add_sub_cancel]
              rw [← hdq2] at inv'
              have hdm : (d - 1) % 65536 = d - 1 := Nat.mod_eq_of_lt (by omega)
              (repeat' (first | (with_reducible first | refine stp ?_ | apply gx1 | apply gx2 | apply gx3 | apply gx4 | apply gx5 | apply gx6 | apply gx7 | apply gy8 | apply gz2 | apply gz3) | (with_reducible refine all_v ?_; intro _) | ((with_reducible refine gE ?_); (try simp (disch := omega) only [go_sem, ↓reduceIte, Nat.reduceAdd, Nat.reduceSub, Nat.reduceMul, Nat.reduceEqDiff, Nat.reduceLT, Nat.reduceLeDiff, Nat.reduceBEq, Int.reduceNeg, Int.reduceLT, Int.reduceLE, Int.reduceEq, reduceCtorEq, e2, e3, e5, e6, e7, e9, e10, e11, m2, m3, m5, m7, m18, m44, m9, m10, hql, cut_nat, hdm]) <;> first | rfl | omega) | with_reducible refine t_in_other (by decide) ?_ | ((with_reducible apply gy1); iterate 3 focus rfl) | ((with_reducible apply gy2); iterate 3 focus rfl) | ((with_reducible apply gy3); iterate 2 focus rfl) | ((with_reducible apply gy4); iterate 1 focus rfl) | ((with_reducible apply gy5); iterate 4 focus rfl) | ((with_reducible apply gy6); iterate 4 focus rfl) | ((with_reducible apply d_bar); iterate 3 focus rfl) | ((with_reducible apply q_pub); iterate 1 focus rfl) | ((with_reducible apply gy7); iterate 1 focus rfl) | ((with_reducible apply gy9); (focus ((with_reducible refine gE ?_); (try simp (disch := omega) only [go_sem, ↓reduceIte, Nat.reduceAdd, Nat.reduceSub, Nat.reduceMul, Nat.reduceEqDiff, Nat.reduceLT, Nat.reduceLeDiff, Nat.reduceBEq, Int.reduceNeg, Int.reduceLT, Int.reduceLE, Int.reduceEq, reduceCtorEq, e2, e3, e5, e6, e7, e9, e10, e11, m2, m3, m5, m7, m18, m44, m9, m10, hql, cut_nat, hdm]) <;> rfl))) | ((with_reducible apply gz1); (focus first | rfl | (simp (disch := omega) only [go_sem, ↓reduceIte, Nat.reduceAdd, Nat.reduceSub, Nat.reduceMul, Nat.reduceEqDiff, Nat.reduceLT, Nat.reduceLeDiff, Nat.reduceBEq, Int.reduceNeg, Int.reduceLT, Int.reduceLE, Int.reduceEq, reduceCtorEq, e2, e3, e5, e6, e7, e9, e10, e11, m2, m3, m5, m7, m18, m44, m9, m10, hql, cut_nat, hdm]; done))) | ((with_reducible apply r_drawD (pickR []) [] []); (focus kernel_rfl); (focus rfl); (focus kernel_rfl); (focus (simp only [List.length_cons, List.length_nil, Nat.reduceAdd]; rfl)))))
              exact ⟨j, ⟨by omega, g2, g3, g5, _, svo, q.set j (d - 1), U'.take j ++ (w'' ++ U'.drop (j + n + 1)), ⟨by exact gW e2, by exact gW e3, by exact gW e5, by exact gW e6, by exact gC⟩, by exact gW m2, by exact gW m3, by exact gW m5, by exact gC, by exact gC, by (simp (disch := omega) only [go_sem, ↓reduceIte, Nat.reduceAdd, Nat.reduceSub, Nat.reduceMul, Nat.reduceEqDiff, Nat.reduceLT, Nat.reduceLeDiff, Nat.reduceBEq, Int.reduceNeg, Int.reduceLT, Int.reduceLE, Int.reduceEq, reduceCtorEq, List.append_assoc] <;> repeat' first | rfl | refine ⟨?_, ?_⟩), inv'⟩, by omega⟩
      · exact ⟨⟨by exact gW e2, by exact gW e3, by exact gW e5, by exact gW e6, by exact gW e7, by exact gC, by exact gC, by exact gC⟩, by exact gW m2, by exact gW m3, by exact gW m5, by exact gW m7, by exact gW m18, by exact gW m44, by exact gC, _, by exact gC, by omega, hinit, by omega, by omega⟩
  · refine ⟨Nat.le_refl _, _, _, _, _, _, List.replicate (U.length - n) 0, U, ⟨by exact gC, by exact gC, by exact gC, by exact gC, by exact gC⟩, by exact gC, by exact gC, by exact gC, by exact gC, by exact gC, by exact gW h44, ⟨by rw [hvn]; simp, Lm.zeros _, fun _ _ => gN_zeros _ _, rfl, lU, ?_, hlt⟩⟩
    rw [List.drop_eq_nil_of_le (by simp)]
    simp [nv]
end Go.Proofs.YtjiffehkemeloaaDoor
end

section
namespace Go.Proofs.YtjiffehkemeloaaDoor
open Go Go.RowKit Go.Pg
set_option linter.unusedSimpArgs false
set_option linter.unusedVariables false
set_option maxRecDepth 20000
attribute [local go_sem] Tryd.underlying56 Tryd.underlying3 Tryd.underlying91 Tryd.underlying121 Tryd.underlying81 Tryd.underlying21 Tryd.underlying5 sz3 by3 z3 szL byL zL

theorem len8_lt (i : Nat) : i < 2 ^ len8 i := by
  unfold len8
  split
  · rename_i h; subst h; decide
  · exact Nat.lt_log2_self
theorem len16_lt (x : Nat) : x < 2 ^ len16 x := by
  unfold len16
  split
  · have := len8_lt (x / 256)
    rw [Nat.pow_add]
    have e : (2 : Nat) ^ 8 = 256 := rfl
    omega
  · exact len8_lt x
theorem u16s_two (a : List Nat) : u16s a ++ [.v (.int .u16 0), .v (.int .u16 0)] = u16s (a ++ [0, 0]) := by simp [u16s]
theorem Wk.three {a a' b b' c : AV} (h1 : Wk a a') (h2 : Wk b b') : Wk (.tup [a, b, c]) (.tup [a', b', c]) := by
  refine .tup _ _ rfl fun j x y h3 h4 => ?_
  match j with
  | 0 => simp at h3 h4; subst h3; subst h4; exact h1
  | 1 => simp at h3 h4; subst h3; subst h4; exact h2
  | 2 => simp at h3 h4; subst h3; subst h4; exact .refl _
  | j + 3 => simp at h3

/-- The length of a shifted divisor. -/
theorem shifted_len {b s n : Nat} (h0 : b ≠ 0) (hn : (toL b).length = n) (hs : s = 16 - len16 (gN (toL b) (n - 1))) : (toL (b * 2 ^ s)).length = n := by
  have h1 := (toL_top h0).1
  have ht := gN_lt (lm_toL b) (n - 1)
  have hbd := len16_bd ht
  have hlt := len16_lt (gN (toL b) (n - 1))
  have hp := Nat.two_pow_pos s
  have h3 : (toL b).length ≤ (toL (b * 2 ^ s)).length := toL_len_mono (Nat.le_mul_of_pos_right _ hp)
  have h4 : (toL (b * 2 ^ s)).length ≤ n := by
    rw [toL_len_lt]
    have h5 := nv_split (toL b) (n - 1)
    rw [nv_toL, nv_drop, show n - 1 + 1 = n by omega, List.drop_eq_nil_of_le (by omega)] at h5
    simp only [nv, Nat.mul_zero, Nat.add_zero] at h5
    have h6 := nv_take_lt (lm_toL b) (n - 1)
    generalize gN (toL b) (n - 1) = t at *
    have h7 : b < 65536 ^ (n - 1) * 2 ^ len16 t := by
      have h10 : 65536 ^ (n - 1) * (t + 1) ≤ 65536 ^ (n - 1) * 2 ^ len16 t := Nat.mul_le_mul_left _ hlt
      rw [Nat.mul_add, Nat.mul_one] at h10
      omega
    have h8 : b * 2 ^ s < 65536 ^ (n - 1) * 2 ^ len16 t * 2 ^ s := Nat.mul_lt_mul_of_pos_right h7 hp
    have h9 : 2 ^ len16 t * 2 ^ s = 65536 := by
      rw [← Nat.pow_add, hs, show len16 t + (16 - len16 t) = 16 by omega]
    rw [Nat.mul_assoc, h9, ← Nat.pow_succ, Nat.succ_eq_add_one, show n - 1 + 1 = n by omega] at h8
    exact h8
  omega

set_option maxHeartbeats 2000000 in
theorem natDivMod (a b : List Nat) (ha : a.length ≤ 200000000) (hb : b.length ≤ 200000000) (la : Lm a) (lb : Lm b) (h0 : nv b ≠ 0) : Pure Tryd.prog 92 [lim a, lim b] (.tup [lim (toL (nv a / nv b)), lim (toL (nv a % nv b)), .v (.int .i64 0)]) := by
  have h1 := toL_len_le la
  have h2 := toL_len_le lb
  have va := nv_toL (nv a)
  have vb := nv_toL (nv b)
  have ma := lm_toL (nv a)
  have mb := lm_toL (nv b)
  obtain ⟨hb1, hb2⟩ := toL_top h0
  have cc := natCmp (toL (nv a)) (toL (nv b)) (by omega) (by omega) ma mb
  rw [va, vb] at cc
  by_cases hlt : nv a < nv b
  · rw [show toL (nv a / nv b) = [] by rw [Nat.div_eq_of_lt hlt, toL_zero], Nat.mod_eq_of_lt hlt]
    refine Pure.wk ?_ (Wk.three (.nil 1) (.refl _))
    have hcm : cmpN (nv a) (nv b) = -1 := if_pos hlt
    have cn := natNorm (toL (nv a)) (by omega) ma
    rw [va] at cn
    refine pure_intro (tok := 0) (rs := [.tmp 4, .tmp 5, .tmp 6]) Tryd.func92 rfl Tryd.ntmps92 Tryd.results92 Tryd.call92 (by rfl) (by simp) ?_
    (repeat' (first | (with_reducible first | refine stp ?_ | apply gx1 | apply gx2 | apply gx3 | apply gx4 | apply gx5 | apply gx6 | apply gx7 | refine gw0 (natTrim a (by omega) la) ?_ ?_ | refine gw0 (natTrim b (by omega) lb) ?_ ?_ | refine gw0 (cc) ?_ ?_ | refine gw0 (cn) ?_ ?_) | (with_reducible refine all_v ?_; intro _) | ((with_reducible refine gE ?_); (try simp (disch := omega) only [go_sem, ↓reduceIte, Nat.reduceAdd, Nat.reduceSub, Nat.reduceMul, Nat.reduceEqDiff, Nat.reduceLT, Nat.reduceLeDiff, Nat.reduceBEq, Int.reduceNeg, Int.reduceLT, Int.reduceLE, Int.reduceEq, reduceCtorEq, hcm]) <;> first | rfl | omega) | with_reducible refine t_in_other (by decide) ?_))
    simp (disch := omega) only [go_sem, ↓reduceIte, Nat.reduceAdd, Nat.reduceSub, Nat.reduceMul, Nat.reduceEqDiff, Nat.reduceLT, Nat.reduceLeDiff, Nat.reduceBEq, Int.reduceNeg, Int.reduceLT, Int.reduceLE, Int.reduceEq, reduceCtorEq]
  · have hcm : 0 ≤ cmpN (nv a) (nv b) := by unfold cmpN; rw [if_neg hlt]; split <;> omega
    by_cases hone : (toL (nv b)).length = 1
    · have e0 : nv b = gN (toL (nv b)) 0 := by
        have := nv_split (toL (nv b)) 0
        rw [nv_drop, List.drop_eq_nil_of_le (by omega), vb] at this
        simpa [nv] using this
      have gb := gN_lt mb 0
      have cb := natByLimb (toL (nv a)) (gN (toL (nv b)) 0) (by omega) ma (by omega) gb
      rw [va, ← e0] at cb
      have hr := Nat.mod_lt (nv a) (Nat.pos_of_ne_zero h0)
      have co := natOf (nv a % nv b) (by omega)
      refine pure_intro (tok := 0) (rs := [.tmp 4, .tmp 5, .tmp 6]) Tryd.func92 rfl Tryd.ntmps92 Tryd.results92 Tryd.call92 (by rfl) (by simp) ?_
      have wr : IntKind.u64.wrap ((nv a % nv b : Nat) : Int) = ((nv a % nv b : Nat) : Int) := wrap_u64 (Int.natCast_nonneg _) (by omega)
      (repeat' (first | (with_reducible first | refine stp ?_ | apply gx1 | apply gx2 | apply gx3 | apply gx4 | apply gx5 | apply gx6 | apply gx7 | refine gw0 (natTrim a (by omega) la) ?_ ?_ | refine gw0 (natTrim b (by omega) lb) ?_ ?_ | refine gw0 (cc) ?_ ?_ | refine gw0 (cb) ?_ ?_ | refine gw0 (co) ?_ ?_) | (with_reducible refine all_v ?_; intro _) | ((with_reducible refine gE ?_); (try simp (disch := omega) only [go_sem, ↓reduceIte, Nat.reduceAdd, Nat.reduceSub, Nat.reduceMul, Nat.reduceEqDiff, Nat.reduceLT, Nat.reduceLeDiff, Nat.reduceBEq, Int.reduceNeg, Int.reduceLT, Int.reduceLE, Int.reduceEq, reduceCtorEq, hone, ← e0, wr]) <;> first | rfl | omega) | with_reducible refine t_in_other (by decide) ?_))
      simp (disch := omega) only [go_sem, ↓reduceIte, Nat.reduceAdd, Nat.reduceSub, Nat.reduceMul, Nat.reduceEqDiff, Nat.reduceLT, Nat.reduceLeDiff, Nat.reduceBEq, Int.reduceNeg, Int.reduceLT, Int.reduceLE, Int.reduceEq, reduceCtorEq]
    · -- the long road
      obtain ⟨n, hn⟩ : ∃ n, (toL (nv b)).length = n := ⟨_, rfl⟩
      rw [hn] at hb1 hb2 hone h2
      have ht := gN_lt mb (n - 1)
      have hbd := len16_bd ht
      obtain ⟨s, hs⟩ : ∃ s, 16 - len16 (gN (toL (nv b)) (n - 1)) = s := ⟨_, rfl⟩
      have hs15 : s ≤ 15 := by omega
      have hvl := shifted_len h0 hn hs.symm
      have ha0 : nv a ≠ 0 := by omega
      have hab : n ≤ (toL (nv a)).length := by rw [← hn]; exact toL_len_mono (by omega)
      have clz := bitsLz16 (gN (toL (nv b)) (n - 1)) ht
      rw [hs] at clz
      have en : (n : Int) - 1 = ((n - 1 : Nat) : Int) := by omega
      have hp := Nat.two_pow_pos s
      obtain ⟨A, hA⟩ : ∃ A, toL (nv a) = A := ⟨_, rfl⟩
      rw [hA] at va ma h1 hab cc
      have hVlen : A.length ≤ (toL (nv a * 2 ^ s)).length := by rw [← hA]; exact toL_len_mono (Nat.le_mul_of_pos_right _ hp)
      have hV2 : nv a * 2 ^ s < 65536 ^ (A.length + 1) := by
        have h3 := nv_lt ma
        rw [va] at h3
        have h4 : (2 : Nat) ^ s ≤ 2 ^ 16 := Nat.pow_le_pow_right (by omega) (by omega)
        rw [Nat.pow_succ]
        exact Nat.lt_of_lt_of_le (Nat.mul_lt_mul_of_pos_right h3 hp) (Nat.mul_le_mul_left _ h4)
      have hVlen2 : (toL (nv a * 2 ^ s)).length ≤ A.length + 1 := toL_len_lt.2 hV2
      have hdl : nv a * 2 ^ s / 65536 ^ (A.length + 1 - n) < nv b * 2 ^ s := by
        rw [Nat.div_lt_iff_lt_mul (Nat.pow_pos (by omega))]
        have h3 := nv_lt ma
        rw [va] at h3
        have h5 : 65536 ^ (n - 1) ≤ nv b := by
          rcases Nat.lt_or_ge (nv b) (65536 ^ (n - 1)) with h | h
          · have := toL_len_lt.2 h
            omega
          · exact h
        have h6 : 65536 ^ A.length = 65536 ^ (n - 1) * 65536 ^ (A.length + 1 - n) := by rw [← Nat.pow_add]; congr 1; omega
        have h7 : 65536 ^ (n - 1) * 65536 ^ (A.length + 1 - n) ≤ nv b * 65536 ^ (A.length + 1 - n) := Nat.mul_le_mul_right _ h5
        have h8 : nv a < nv b * 65536 ^ (A.length + 1 - n) := by omega
        have h9 := Nat.mul_lt_mul_of_pos_right h8 hp
        rwa [Nat.mul_right_comm] at h9
      have qe : nv a * 2 ^ s / (nv b * 2 ^ s) = nv a / nv b := Nat.mul_div_mul_right _ _ hp
      have re : nv a * 2 ^ s % (nv b * 2 ^ s) = (nv a % nv b) * 2 ^ s := Nat.mul_mod_mul_right _ _ _
      have cv := natShl (toL (nv b)) s (by omega) mb (by omega)
      rw [vb] at cv
      refine pure_intro (tok := 0) (rs := [.tmp 4, .tmp 5, .tmp 6]) Tryd.func92 rfl Tryd.ntmps92 Tryd.results92 Tryd.call92 (by rfl) (by simp) ?_
      (repeat' (first | (with_reducible first | refine stp ?_ | apply gx1 | apply gx2 | apply gx3 | apply gx4 | apply gx5 | apply gx6 | apply gx7 | refine gw0 (natTrim a (by omega) la) ?_ ?_ | refine gw0 (natTrim b (by omega) lb) ?_ ?_ | refine gw0 (cc) ?_ ?_ | refine gw0 (clz) ?_ ?_) | (with_reducible refine all_v ?_; intro _) | ((with_reducible refine gE ?_); (try simp (disch := omega) only [go_sem, ↓reduceIte, Nat.reduceAdd, Nat.reduceSub, Nat.reduceMul, Nat.reduceEqDiff, Nat.reduceLT, Nat.reduceLeDiff, Nat.reduceBEq, Int.reduceNeg, Int.reduceLT, Int.reduceLE, Int.reduceEq, reduceCtorEq, hn, hA, en]) <;> first | rfl | omega) | with_reducible refine t_in_other (by decide) ?_))
      refine o_acall (natShlOwn _ A s (by omega) ma (by omega) (by rw [va]; exact ha0)) ?_
      rintro _ _ ⟨sv, o, rfl, rfl, hol, hLo, hov⟩
      rw [va] at hov
      rw [va]
      have hlen := toL_len_le hLo
      rw [hov] at hlen
      obtain ⟨L, hL⟩ : ∃ L, o.take (toL (nv a * 2 ^ s)).length ++ [0, 0] = L := ⟨_, rfl⟩
      have hLl : L.length = (toL (nv a * 2 ^ s)).length + 2 := by rw [← hL, List.length_append, List.length_take]; simp; omega
      have hot : o.take (toL (nv a * 2 ^ s)).length = toL (nv a * 2 ^ s) := by
        obtain ⟨k, h3, h4⟩ := toL_take hLo
        rw [hov] at h4
        have h5 : k = (toL (nv a * 2 ^ s)).length := by rw [← h4, List.length_take]; omega
        rw [← h5, h4]
      have hLn : nv L = nv a * 2 ^ s := by rw [← hL, hot, nv_append, nv_toL]; simp [nv]
      have hLL : Lm L := by rw [← hL, hot]; exact (lm_toL _).append fun y hy => by simp at hy; omega
      have hes : u16s o = u16s o := rfl
      have e3 : ((A.length : Nat) : Int) + 1 = ((A.length + 1 : Nat) : Int) := by omega
      (repeat' (first | (with_reducible first | refine stp ?_ | apply gx1 | apply gx2 | apply gx3 | apply gx4 | apply gx5 | apply gx6 | apply gx7 | refine gw0 (cv) ?_ ?_) | (with_reducible refine all_v ?_; intro _) | ((with_reducible refine gE ?_); (try simp (disch := omega) only [go_sem, ↓reduceIte, Nat.reduceAdd, Nat.reduceSub, Nat.reduceMul, Nat.reduceEqDiff, Nat.reduceLT, Nat.reduceLeDiff, Nat.reduceBEq, Int.reduceNeg, Int.reduceLT, Int.reduceLE, Int.reduceEq, reduceCtorEq, hol, u16s_two, hL, hLl, e3, ← hvl]) <;> first | rfl | omega) | with_reducible refine t_in_other (by decide) ?_))
      have hUl : (L.take (A.length + 1)).length = A.length + 1 := by rw [List.length_take]; omega
      have hUn : nv (L.take (A.length + 1)) = nv a * 2 ^ s := by
        have h3 := nv_split L (A.length + 1)
        rw [hLn] at h3
        rcases Nat.eq_zero_or_pos (nv (L.drop (A.length + 1))) with h4 | h4
        · rw [h4, Nat.mul_zero, Nat.add_zero] at h3; exact h3.symm
        · have := Nat.le_mul_of_pos_right (65536 ^ (A.length + 1)) h4
          omega
      rename_i sv2 sv'
      have vn : nv (toL (nv b * 2 ^ s)) = nv b * 2 ^ s := nv_toL _
      have hb20 : nv b * 2 ^ s ≠ 0 := by
        have := Nat.mul_pos (Nat.pos_of_ne_zero h0) hp
        omega
      have htop := (toL_top hb20).2
      rw [hvl] at htop
      have hTD : (L.take (A.length + 1)) ++ (L.drop (A.length + 1)) = L := List.take_append_drop _ _
      have clong := fun (σ : Mem) h44 => natLong σ sv' (L.take (A.length + 1)) (L.drop (A.length + 1)) (toL (nv b * 2 ^ s)) n hvl h44 (by omega) (by rw [hUl]; omega) (by rw [hUl, List.length_drop]; omega) (hLL.take _) (hLL.drop _) (lm_toL _) htop
        (by rw [hUl, ← nv_div (hLL.take _), hUn, vn]; exact hdl)
      rw [hUl, hUn, vn, qe, re] at clong
      refine o_acall (clong _ (by rw [hTD]; (simp (disch := omega) only [go_sem, ↓reduceIte, Nat.reduceAdd, Nat.reduceSub, Nat.reduceMul, Nat.reduceEqDiff, Nat.reduceLT, Nat.reduceLeDiff, Nat.reduceBEq, Int.reduceNeg, Int.reduceLT, Int.reduceLE, Int.reduceEq, reduceCtorEq, u16s_two, hL] <;> repeat' first | rfl | refine ⟨?_, ?_⟩))) ?_
      rintro _ σ' ⟨U', rfl, h44', hUl', hUL', hUn'⟩
      have ct := natTrim U' (by omega) hUL'
      rw [hUn'] at ct
      have htk : (U' ++ L.drop (A.length + 1)).take (A.length + 1) = U' := by rw [← hUl']; exact List.take_left
      rcases Nat.eq_zero_or_pos s with hs0 | hs0
      · subst hs0
        have cr := natShl (toL ((nv a % nv b) * 2 ^ 0)) 0 (by have := toL_len_le hUL'; rw [hUn'] at this; omega) (lm_toL _) (by omega)
        rw [nv_toL, Nat.pow_zero, Nat.mul_one, Nat.mul_one] at cr
        rw [Nat.pow_zero, Nat.mul_one] at ct
        have ez : (0 : Int) - ((0 : Nat) : Int) = ((0 : Nat) : Int) := by omega
        (repeat' (first | (with_reducible first | refine stp ?_ | apply gx1 | apply gx2 | apply gx3 | apply gx4 | apply gx5 | apply gx6 | apply gx7 | apply gw1 (ct) | refine gw0 (cr) ?_ ?_) | (with_reducible refine all_v ?_; intro _) | ((with_reducible refine gE ?_); (try simp (disch := omega) only [go_sem, ↓reduceIte, Nat.reduceAdd, Nat.reduceSub, Nat.reduceMul, Nat.reduceEqDiff, Nat.reduceLT, Nat.reduceLeDiff, Nat.reduceBEq, Int.reduceNeg, Int.reduceLT, Int.reduceLE, Int.reduceEq, reduceCtorEq, h44', htk, Nat.zero_add, Nat.sub_zero, List.drop_zero, ez]) <;> first | rfl | omega) | with_reducible refine t_in_other (by decide) ?_))
        simp (disch := omega) only [go_sem, ↓reduceIte, Nat.reduceAdd, Nat.reduceSub, Nat.reduceMul, Nat.reduceEqDiff, Nat.reduceLT, Nat.reduceLeDiff, Nat.reduceBEq, Int.reduceNeg, Int.reduceLT, Int.reduceLE, Int.reduceEq, reduceCtorEq]
      · have cr := natShr (toL ((nv a % nv b) * 2 ^ s)) s (by have := toL_len_le hUL'; rw [hUn'] at this; omega) (lm_toL _) hs0 (by omega)
        rw [nv_toL, Nat.mul_div_cancel _ hp] at cr
        have ez : (0 : Int) - (s : Int) = -(s : Int) := by omega
        (repeat' (first | (with_reducible first | refine stp ?_ | apply gx1 | apply gx2 | apply gx3 | apply gx4 | apply gx5 | apply gx6 | apply gx7 | apply gw1 (ct) | refine gw0 (cr) ?_ ?_) | (with_reducible refine all_v ?_; intro _) | ((with_reducible refine gE ?_); (try simp (disch := omega) only [go_sem, ↓reduceIte, Nat.reduceAdd, Nat.reduceSub, Nat.reduceMul, Nat.reduceEqDiff, Nat.reduceLT, Nat.reduceLeDiff, Nat.reduceBEq, Int.reduceNeg, Int.reduceLT, Int.reduceLE, Int.reduceEq, reduceCtorEq, h44', htk, Nat.zero_add, Nat.sub_zero, List.drop_zero, ez]) <;> first | rfl | omega) | with_reducible refine t_in_other (by decide) ?_))
        simp (disch := omega) only [go_sem, ↓reduceIte, Nat.reduceAdd, Nat.reduceSub, Nat.reduceMul, Nat.reduceEqDiff, Nat.reduceLT, Nat.reduceLeDiff, Nat.reduceBEq, Int.reduceNeg, Int.reduceLT, Int.reduceLE, Int.reduceEq, reduceCtorEq]

theorem natDivZero (a b : List Nat) (ha : a.length ≤ 200000000) (hb : b.length ≤ 200000000) (la : Lm a) (lb : Lm b) (h0 : nv b = 0) : Pure Tryd.prog 92 [lim a, lim b] (.tup [lim [], lim [], .v (.int .i64 3)]) := by
  refine Pure.wk ?_ (Wk.three (.nil 1) (.nil 1))
  have h2 := toL_len_zero.2 h0
  refine pure_intro (tok := 0) (rs := [.tmp 4, .tmp 5, .tmp 6]) Tryd.func92 rfl Tryd.ntmps92 Tryd.results92 Tryd.call92 (by rfl) (by simp) ?_
  (repeat' (first | (with_reducible first | refine stp ?_ | apply gx1 | apply gx2 | apply gx3 | apply gx4 | apply gx5 | apply gx6 | apply gx7 | refine gw0 (natTrim a (by omega) la) ?_ ?_ | refine gw0 (natTrim b (by omega) lb) ?_ ?_) | (with_reducible refine all_v ?_; intro _) | ((with_reducible refine gE ?_); (try simp (disch := omega) only [go_sem, ↓reduceIte, Nat.reduceAdd, Nat.reduceSub, Nat.reduceMul, Nat.reduceEqDiff, Nat.reduceLT, Nat.reduceLeDiff, Nat.reduceBEq, Int.reduceNeg, Int.reduceLT, Int.reduceLE, Int.reduceEq, reduceCtorEq, h2]) <;> first | rfl | omega) | with_reducible refine t_in_other (by decide) ?_))
  simp (disch := omega) only [go_sem, ↓reduceIte, Nat.reduceAdd, Nat.reduceSub, Nat.reduceMul, Nat.reduceEqDiff, Nat.reduceLT, Nat.reduceLeDiff, Nat.reduceBEq, Int.reduceNeg, Int.reduceLT, Int.reduceLE, Int.reduceEq, reduceCtorEq]
end Go.Proofs.YtjiffehkemeloaaDoor
end

section
namespace Go.Proofs.YtjiffehkemeloaaDoor
open Go Go.RowKit Go.Pg
set_option linter.unusedSimpArgs false
set_option linter.unusedVariables false
set_option maxRecDepth 20000
attribute [local go_sem] Tryd.underlying56 Tryd.underlying3 Tryd.underlying91 Tryd.underlying121 Tryd.underlying81 Tryd.underlying21 Tryd.underlying5 sz3 by3 z3 szL byL zL

set_option maxHeartbeats 1000000 in
theorem natGcd (a b : List Nat) (ha : a.length ≤ 200000000) (hb : b.length ≤ 200000000) (la : Lm a) (lb : Lm b) : Pure Tryd.prog 91 [lim a, lim b] (lim (toL (Nat.gcd (nv a) (nv b)))) := by
  have h1 := toL_len_le la
  have h2 := toL_len_le lb
  have cu : ∀ x : Nat, (toL x).length ≤ 200000000 → Pure Tryd.prog 105 [lim (toL x)] (.tup [.v (.int .u64 (if x < 18446744073709551616 then (x : Int) else 0)), .v (.bool (decide (x < 18446744073709551616)))]) := by
    intro x hx
    have := natUint (toL x) (by omega) (lm_toL x)
    rwa [nv_toL] at this
  have cd : ∀ x y : Nat, (toL x).length ≤ 200000000 → (toL y).length ≤ 200000000 → y ≠ 0 → Pure Tryd.prog 92 [lim (toL x), lim (toL y)] (.tup [lim (toL (x / y)), lim (toL (x % y)), .v (.int .i64 0)]) := by
    intro x y hx hy h0
    have := natDivMod (toL x) (toL y) hx hy (lm_toL x) (lm_toL y) (by rw [nv_toL]; exact h0)
    rwa [nv_toL, nv_toL] at this
  refine pure_intro (tok := 0) (rs := [.tmp 4]) Tryd.func91 rfl Tryd.ntmps91 Tryd.results91 Tryd.call91 (by rfl) (by simp) ?_
  (repeat' (first | (with_reducible first | refine stp ?_ | apply gx1 | apply gx2 | apply gx3 | apply gx4 | apply gx5 | apply gx6 | apply gx7 | refine gw0 (natNorm a (by omega) la) ?_ ?_ | refine gw0 (natNorm b (by omega) lb) ?_ ?_) | (with_reducible refine all_v ?_; intro _) | ((with_reducible refine gE ?_); (try simp (disch := omega) only [go_sem, ↓reduceIte, Nat.reduceAdd, Nat.reduceSub, Nat.reduceMul, Nat.reduceEqDiff, Nat.reduceLT, Nat.reduceLeDiff, Nat.reduceBEq, Int.reduceNeg, Int.reduceLT, Int.reduceLE, Int.reduceEq, reduceCtorEq]) <;> first | rfl | omega) | with_reducible refine t_in_other (by decide) ?_))
  refine r_loopE (ι := Nat) (fun y e m => ∃ x, (e 0 = lim (toL x) ∧ e 1 = lim (toL y)) ∧ (toL x).length ≤ 200000000 ∧ (toL y).length ≤ 200000000 ∧ Nat.gcd x y = Nat.gcd (nv a) (nv b)) (fun y => y) (nv b) (by rfl) ?_ ?_
  · rintro y e m ⟨x, ⟨e0, e1⟩, hx, hy, hg⟩
    rcases Nat.eq_zero_or_pos y with h0 | h0
    · subst h0
      have hl := toL_len_zero.2 (rfl : (0 : Nat) = 0)
      rw [Nat.gcd_zero_right] at hg
      (repeat' (first | (with_reducible first | refine stp ?_ | apply gx1 | apply gx2 | apply gx3 | apply gx4 | apply gx5 | apply gx6 | apply gx7) | (with_reducible refine all_v ?_; intro _) | ((with_reducible refine gE ?_); (try simp (disch := omega) only [go_sem, ↓reduceIte, Nat.reduceAdd, Nat.reduceSub, Nat.reduceMul, Nat.reduceEqDiff, Nat.reduceLT, Nat.reduceLeDiff, Nat.reduceBEq, Int.reduceNeg, Int.reduceLT, Int.reduceLE, Int.reduceEq, reduceCtorEq, e0, e1, hl]) <;> first | rfl | omega) | with_reducible refine t_in_other (by decide) ?_))
      simp (disch := omega) only [go_sem, ↓reduceIte, Nat.reduceAdd, Nat.reduceSub, Nat.reduceMul, Nat.reduceEqDiff, Nat.reduceLT, Nat.reduceLeDiff, Nat.reduceBEq, Int.reduceNeg, Int.reduceLT, Int.reduceLE, Int.reduceEq, reduceCtorEq, hg]
    · have hl : 0 < (toL y).length := by
        have := (toL_top (show y ≠ 0 by omega)).1
        omega
      by_cases hs : x < 18446744073709551616 ∧ y < 18446744073709551616
      · obtain ⟨hsx, hsy⟩ := hs
        have dx : decide (x < 18446744073709551616) = true := decide_eq_true hsx
        have dy : decide (y < 18446744073709551616) = true := decide_eq_true hsy
        (repeat' (first | (with_reducible first | refine stp ?_ | apply gx1 | apply gx2 | apply gx3 | apply gx4 | apply gx5 | apply gx6 | apply gx7 | refine gw0 (cu x hx) ?_ ?_ | refine gw0 (cu y hy) ?_ ?_) | (with_reducible refine all_v ?_; intro _) | ((with_reducible refine gE ?_); (try simp (disch := omega) only [go_sem, ↓reduceIte, Nat.reduceAdd, Nat.reduceSub, Nat.reduceMul, Nat.reduceEqDiff, Nat.reduceLT, Nat.reduceLeDiff, Nat.reduceBEq, Int.reduceNeg, Int.reduceLT, Int.reduceLE, Int.reduceEq, reduceCtorEq, e0, e1, if_pos hsx, if_pos hsy, dx, dy]) <;> first | rfl | omega) | with_reducible refine t_in_other (by decide) ?_))
        refine r_loopE (ι := Nat) (fun Y e m => ∃ X : Nat, (e 5 = .v (.int .u64 (X : Int)) ∧ e 7 = .v (.int .u64 (Y : Int))) ∧ X < 18446744073709551616 ∧ Y < 18446744073709551616 ∧ Nat.gcd X Y = Nat.gcd (nv a) (nv b)) (fun Y => Y) y (by rfl) ?_ ?_
        · rintro Y e m ⟨X, ⟨e5, e7⟩, hX, hY, hg2⟩
          rcases Nat.eq_zero_or_pos Y with h3 | h3
          · subst h3
            rw [Nat.gcd_zero_right] at hg2
            have co := natOf X hX
            rw [hg2] at co
            rw [hg2] at e5
            (repeat' (first | (with_reducible first | refine stp ?_ | apply gx1 | apply gx2 | apply gx3 | apply gx4 | apply gx5 | apply gx6 | apply gx7 | refine gw0 (co) ?_ ?_) | (with_reducible refine all_v ?_; intro _) | ((with_reducible refine gE ?_); (try simp (disch := omega) only [go_sem, ↓reduceIte, Nat.reduceAdd, Nat.reduceSub, Nat.reduceMul, Nat.reduceEqDiff, Nat.reduceLT, Nat.reduceLeDiff, Nat.reduceBEq, Int.reduceNeg, Int.reduceLT, Int.reduceLE, Int.reduceEq, reduceCtorEq, e5, e7, Int.natCast_zero]) <;> first | rfl | omega) | with_reducible refine t_in_other (by decide) ?_))
            simp (disch := omega) only [go_sem, ↓reduceIte, Nat.reduceAdd, Nat.reduceSub, Nat.reduceMul, Nat.reduceEqDiff, Nat.reduceLT, Nat.reduceLeDiff, Nat.reduceBEq, Int.reduceNeg, Int.reduceLT, Int.reduceLE, Int.reduceEq, reduceCtorEq]
          · have hn : (Y : Int) ≠ 0 := by omega
            have hm := Nat.mod_lt X h3
            (repeat' (first | (with_reducible first | refine stp ?_ | apply gx1 | apply gx2 | apply gx3 | apply gx4 | apply gx5 | apply gx6 | apply gx7 | apply gy8 | apply gz2 | apply gz3) | (with_reducible refine all_v ?_; intro _) | ((with_reducible refine gE ?_); (try simp (disch := omega) only [go_sem, ↓reduceIte, Nat.reduceAdd, Nat.reduceSub, Nat.reduceMul, Nat.reduceEqDiff, Nat.reduceLT, Nat.reduceLeDiff, Nat.reduceBEq, Int.reduceNeg, Int.reduceLT, Int.reduceLE, Int.reduceEq, reduceCtorEq, e5, e7, rem_nat, hn]) <;> first | rfl | omega) | with_reducible refine t_in_other (by decide) ?_ | ((with_reducible apply gy1); iterate 3 focus rfl) | ((with_reducible apply gy2); iterate 3 focus rfl) | ((with_reducible apply gy3); iterate 2 focus rfl) | ((with_reducible apply gy4); iterate 1 focus rfl) | ((with_reducible apply gy5); iterate 4 focus rfl) | ((with_reducible apply gy6); iterate 4 focus rfl) | ((with_reducible apply d_bar); iterate 3 focus rfl) | ((with_reducible apply q_pub); iterate 1 focus rfl) | ((with_reducible apply gy7); iterate 1 focus rfl) | ((with_reducible apply gy9); (focus ((with_reducible refine gE ?_); (try simp (disch := omega) only [go_sem, ↓reduceIte, Nat.reduceAdd, Nat.reduceSub, Nat.reduceMul, Nat.reduceEqDiff, Nat.reduceLT, Nat.reduceLeDiff, Nat.reduceBEq, Int.reduceNeg, Int.reduceLT, Int.reduceLE, Int.reduceEq, reduceCtorEq, e5, e7, rem_nat, hn]) <;> rfl))) | ((with_reducible apply gz1); (focus first | rfl | (simp (disch := omega) only [go_sem, ↓reduceIte, Nat.reduceAdd, Nat.reduceSub, Nat.reduceMul, Nat.reduceEqDiff, Nat.reduceLT, Nat.reduceLeDiff, Nat.reduceBEq, Int.reduceNeg, Int.reduceLT, Int.reduceLE, Int.reduceEq, reduceCtorEq, e5, e7, rem_nat, hn]; done))) | ((with_reducible apply r_drawD (pickR []) [] []); (focus kernel_rfl); (focus rfl); (focus kernel_rfl); (focus (simp only [List.length_cons, List.length_nil, Nat.reduceAdd]; rfl)))))
            exact ⟨X % Y, ⟨Y, ⟨by exact gC, by exact gC⟩, hY, by omega, by rw [← hg2, Nat.gcd_comm X Y, Nat.gcd_rec Y X, Nat.gcd_comm]⟩, hm⟩
        · exact ⟨x, ⟨by exact gC, by exact gC⟩, hsx, hsy, hg⟩
      · have hm := Nat.mod_lt x h0
        have hml : (toL (x % y)).length ≤ 200000000 := Nat.le_trans (toL_len_mono (Nat.le_of_lt hm)) hy
        have hdd : (decide (x < 18446744073709551616) && decide (y < 18446744073709551616)) = false := by
          rw [Bool.and_eq_false_iff, decide_eq_false_iff_not, decide_eq_false_iff_not]
          omega
        have hgg : Nat.gcd y (x % y) = Nat.gcd (nv a) (nv b) := by rw [← hg, Nat.gcd_comm x y, Nat.gcd_rec y x, Nat.gcd_comm]
        by_cases hsx : x < 18446744073709551616
        · have hsy : ¬ y < 18446744073709551616 := fun h => hs ⟨hsx, h⟩
          have dx : decide (x < 18446744073709551616) = true := decide_eq_true hsx
          have dy : decide (y < 18446744073709551616) = false := decide_eq_false hsy
          (repeat' (first | (with_reducible first | refine stp ?_ | apply gx1 | apply gx2 | apply gx3 | apply gx4 | apply gx5 | apply gx6 | apply gx7 | refine gw0 (cu x hx) ?_ ?_ | refine gw0 (cu y hy) ?_ ?_ | refine gw0 (cd x y hx hy (by omega)) ?_ ?_) | (with_reducible refine all_v ?_; intro _) | ((with_reducible refine gE ?_); (try simp (disch := omega) only [go_sem, ↓reduceIte, Nat.reduceAdd, Nat.reduceSub, Nat.reduceMul, Nat.reduceEqDiff, Nat.reduceLT, Nat.reduceLeDiff, Nat.reduceBEq, Int.reduceNeg, Int.reduceLT, Int.reduceLE, Int.reduceEq, reduceCtorEq, e0, e1, if_pos hsx, if_neg hsy, dx, dy]) <;> first | rfl | omega) | with_reducible refine t_in_other (by decide) ?_))
          exact ⟨x % y, ⟨y, ⟨by exact gW e1, by exact gC⟩, hy, hml, hgg⟩, hm⟩
        · have dx : decide (x < 18446744073709551616) = false := decide_eq_false hsx
          by_cases hsy : y < 18446744073709551616
          · have dy : decide (y < 18446744073709551616) = true := decide_eq_true hsy
            (repeat' (first | (with_reducible first | refine stp ?_ | apply gx1 | apply gx2 | apply gx3 | apply gx4 | apply gx5 | apply gx6 | apply gx7 | refine gw0 (cu x hx) ?_ ?_ | refine gw0 (cu y hy) ?_ ?_ | refine gw0 (cd x y hx hy (by omega)) ?_ ?_) | (with_reducible refine all_v ?_; intro _) | ((with_reducible refine gE ?_); (try simp (disch := omega) only [go_sem, ↓reduceIte, Nat.reduceAdd, Nat.reduceSub, Nat.reduceMul, Nat.reduceEqDiff, Nat.reduceLT, Nat.reduceLeDiff, Nat.reduceBEq, Int.reduceNeg, Int.reduceLT, Int.reduceLE, Int.reduceEq, reduceCtorEq, e0, e1, if_neg hsx, if_pos hsy, dx, dy]) <;> first | rfl | omega) | with_reducible refine t_in_other (by decide) ?_))
            exact ⟨x % y, ⟨y, ⟨by exact gW e1, by exact gC⟩, hy, hml, hgg⟩, hm⟩
          · have dy : decide (y < 18446744073709551616) = false := decide_eq_false hsy
            (repeat' (first | (with_reducible first | refine stp ?_ | apply gx1 | apply gx2 | apply gx3 | apply gx4 | apply gx5 | apply gx6 | apply gx7 | refine gw0 (cu x hx) ?_ ?_ | refine gw0 (cu y hy) ?_ ?_ | refine gw0 (cd x y hx hy (by omega)) ?_ ?_) | (with_reducible refine all_v ?_; intro _) | ((with_reducible refine gE ?_); (try simp (disch := omega) only [go_sem, ↓reduceIte, Nat.reduceAdd, Nat.reduceSub, Nat.reduceMul, Nat.reduceEqDiff, Nat.reduceLT, Nat.reduceLeDiff, Nat.reduceBEq, Int.reduceNeg, Int.reduceLT, Int.reduceLE, Int.reduceEq, reduceCtorEq, e0, e1, if_neg hsx, if_neg hsy, dx, dy]) <;> first | rfl | omega) | with_reducible refine t_in_other (by decide) ?_))
            exact ⟨x % y, ⟨y, ⟨by exact gW e1, by exact gC⟩, hy, hml, hgg⟩, hm⟩
  · exact ⟨nv a, ⟨by exact gC, by exact gC⟩, by omega, by omega, rfl⟩
end Go.Proofs.YtjiffehkemeloaaDoor
end

section
namespace Go.Proofs.YtjiffehkemeloaaDoor
open Go Go.RowKit Go.Pg
set_option linter.unusedSimpArgs false
set_option linter.unusedVariables false
set_option maxRecDepth 20000
attribute [local go_sem] Tryd.underlying56 Tryd.underlying3 Tryd.underlying91 Tryd.underlying121 Tryd.underlying81 Tryd.underlying21 Tryd.underlying5 sz3 by3 z3 szL byL zL

theorem refNorm (l : List Nat) (hs : l.length ≤ 1000000000) (hl : Lm l) : Pure Tryd.prog 60 [lim l] (lim (toL (nv l))) := by
  refine pure_intro (tok := 0) (rs := [.tmp 2]) Tryd.func60 rfl Tryd.ntmps60 Tryd.results60 Tryd.call60 (by rfl) (by simp) ?_
  (repeat' (first | (with_reducible first | refine stp ?_ | apply gx1 | apply gx2 | apply gx3 | apply gx4 | apply gx5 | apply gx6 | apply gx7) | (with_reducible refine all_v ?_; intro _) | ((with_reducible refine gE ?_); (try simp (disch := omega) only [go_sem, ↓reduceIte, Nat.reduceAdd, Nat.reduceSub, Nat.reduceMul, Nat.reduceEqDiff, Nat.reduceLT, Nat.reduceLeDiff, Nat.reduceBEq, Int.reduceNeg, Int.reduceLT, Int.reduceLE, Int.reduceEq, reduceCtorEq]) <;> first | rfl | omega) | with_reducible refine t_in_other (by decide) ?_))
  refine r_loopE (ι := Nat) (fun k e m => k ≤ l.length ∧ e 0 = lim l ∧ e 3 = .v (.int .i64 (k : Int)) ∧ ∀ j, k ≤ j → gN l j = 0) (fun k => k) l.length (by rfl) ?_ ?_
  · rintro k e m ⟨hk, e0, e3, hz⟩
    have gl := gN_lt hl (k - 1)
    have hln : (l.take k).length = k := by rw [List.length_take]; omega
    by_cases h0 : k = 0
    · subst h0
      have := nv_trim hl hk hz (.inl rfl)
      (repeat' (first | (with_reducible first | refine stp ?_ | apply gx1 | apply gx2 | apply gx3 | apply gx4 | apply gx5 | apply gx6 | apply gx7) | (with_reducible refine all_v ?_; intro _) | ((with_reducible refine gE ?_); (try simp (disch := omega) only [go_sem, ↓reduceIte, Nat.reduceAdd, Nat.reduceSub, Nat.reduceMul, Nat.reduceEqDiff, Nat.reduceLT, Nat.reduceLeDiff, Nat.reduceBEq, Int.reduceNeg, Int.reduceLT, Int.reduceLE, Int.reduceEq, reduceCtorEq, e0, e3, List.drop_zero]) <;> first | rfl | omega) | with_reducible refine t_in_other (by decide) ?_))
      simp (disch := omega) only [go_sem, ↓reduceIte, Nat.reduceAdd, Nat.reduceSub, Nat.reduceMul, Nat.reduceEqDiff, Nat.reduceLT, Nat.reduceLeDiff, Nat.reduceBEq, Int.reduceNeg, Int.reduceLT, Int.reduceLE, Int.reduceEq, reduceCtorEq]
      rw [← this]; rfl
    · by_cases h1 : gN l (k - 1) = 0
      · (repeat' (first | (with_reducible first | refine stp ?_ | apply gx1 | apply gx2 | apply gx3 | apply gx4 | apply gx5 | apply gx6 | apply gx7) | (with_reducible refine all_v ?_; intro _) | ((with_reducible refine gE ?_); (try simp (disch := omega) only [go_sem, ↓reduceIte, Nat.reduceAdd, Nat.reduceSub, Nat.reduceMul, Nat.reduceEqDiff, Nat.reduceLT, Nat.reduceLeDiff, Nat.reduceBEq, Int.reduceNeg, Int.reduceLT, Int.reduceLE, Int.reduceEq, reduceCtorEq, e0, e3]) <;> first | rfl | omega) | with_reducible refine t_in_other (by decide) ?_))
        exact ⟨k - 1, ⟨by omega, by exact gW e0, by (simp (disch := omega) only [go_sem, ↓reduceIte, Nat.reduceAdd, Nat.reduceSub, Nat.reduceMul, Nat.reduceEqDiff, Nat.reduceLT, Nat.reduceLeDiff, Nat.reduceBEq, Int.reduceNeg, Int.reduceLT, Int.reduceLE, Int.reduceEq, reduceCtorEq, e3]; congr 2; omega), fun j hj => by
          rcases Nat.lt_or_ge j k with h2 | h2
          · rw [show j = k - 1 by omega]; exact h1
          · exact hz j h2⟩, by omega⟩
      · have := nv_trim hl hk hz (.inr (by omega))
        (repeat' (first | (with_reducible first | refine stp ?_ | apply gx1 | apply gx2 | apply gx3 | apply gx4 | apply gx5 | apply gx6 | apply gx7) | (with_reducible refine all_v ?_; intro _) | ((with_reducible refine gE ?_); (try simp (disch := omega) only [go_sem, ↓reduceIte, Nat.reduceAdd, Nat.reduceSub, Nat.reduceMul, Nat.reduceEqDiff, Nat.reduceLT, Nat.reduceLeDiff, Nat.reduceBEq, Int.reduceNeg, Int.reduceLT, Int.reduceLE, Int.reduceEq, reduceCtorEq, e0, e3, List.drop_zero, hln]) <;> first | rfl | omega) | with_reducible refine t_in_other (by decide) ?_))
        simp (disch := omega) only [go_sem, ↓reduceIte, Nat.reduceAdd, Nat.reduceSub, Nat.reduceMul, Nat.reduceEqDiff, Nat.reduceLT, Nat.reduceLeDiff, Nat.reduceBEq, Int.reduceNeg, Int.reduceLT, Int.reduceLE, Int.reduceEq, reduceCtorEq, this]
  · exact ⟨Nat.le_refl _, by exact gC, by exact gC, fun j hj => gN_out hj⟩

theorem refOf (n : Nat) (hn : n < 18446744073709551616) : Pure Tryd.prog 47 [.v (.int .u64 (n : Int))] (lim (toL n)) := by
  have b1 := (toL_len_lt (n := n) (k := 4)).2 hn
  refine pure_intro (tok := 0) (rs := [.tmp 2]) Tryd.func47 rfl Tryd.ntmps47 Tryd.results47 Tryd.call47 (by rfl) (by simp) ?_
  (repeat' (first | (with_reducible first | refine stp ?_ | apply gx1 | apply gx2 | apply gx3 | apply gx4 | apply gx5 | apply gx6 | apply gx7) | (with_reducible refine all_v ?_; intro _) | ((with_reducible refine gE ?_); (try simp (disch := omega) only [go_sem, ↓reduceIte, Nat.reduceAdd, Nat.reduceSub, Nat.reduceMul, Nat.reduceEqDiff, Nat.reduceLT, Nat.reduceLeDiff, Nat.reduceBEq, Int.reduceNeg, Int.reduceLT, Int.reduceLE, Int.reduceEq, reduceCtorEq]) <;> first | rfl | omega) | with_reducible refine t_in_other (by decide) ?_))
  refine r_frz (Frz.nilOwn (d := 3) 11 1 91 (by exact gC)) ?_
  refine r_loopE (ι := Nat) (fun k e m => k ≤ n ∧ e 0 = .v (.int .u64 (k : Int)) ∧ ∃ sv l, e 3 = .own 11 sv ∧ m 11 = some (.row sv 91 1 (u16s l) 0) ∧ l ++ toL k = toL n) (fun k => k) n (by rfl) ?_ ?_
  · rintro k e m ⟨hk, e0, sv, l, e3, em, hl⟩
    by_cases hk0 : k = 0
    · subst hk0
      rw [toL_zero, List.append_nil] at hl
      (repeat' (first | (with_reducible first | refine stp ?_ | apply gx1 | apply gx2 | apply gx3 | apply gx4 | apply gx5 | apply gx6 | apply gx7) | (with_reducible refine all_v ?_; intro _) | ((with_reducible refine gE ?_); (try simp (disch := omega) only [go_sem, ↓reduceIte, Nat.reduceAdd, Nat.reduceSub, Nat.reduceMul, Nat.reduceEqDiff, Nat.reduceLT, Nat.reduceLeDiff, Nat.reduceBEq, Int.reduceNeg, Int.reduceLT, Int.reduceLE, Int.reduceEq, reduceCtorEq, e0, e3, Int.natCast_zero]) <;> first | rfl | omega) | with_reducible refine t_in_other (by decide) ?_))
      simp (disch := omega) only [go_sem, ↓reduceIte, Nat.reduceAdd, Nat.reduceSub, Nat.reduceMul, Nat.reduceEqDiff, Nat.reduceLT, Nat.reduceLeDiff, Nat.reduceBEq, Int.reduceNeg, Int.reduceLT, Int.reduceLE, Int.reduceEq, reduceCtorEq, em, hl]
    · have b2 : l.length ≤ (toL n).length := by rw [← hl]; simp
      have hne : k ≠ 0 := hk0
      have r1 : (k : Int).tmod 65536 = ((k % 65536 : Nat) : Int) := rem_nat k 65536
      have r2 : (k : Int).tdiv 65536 = ((k / 65536 : Nat) : Int) := quo_nat k 65536
      have r3 : k % 65536 % 65536 = k % 65536 := Nat.mod_mod _ _
      (repeat' (first | (with_reducible first | refine stp ?_ | apply gx1 | apply gx2 | apply gx3 | apply gx4 | apply gx5 | apply gx6 | apply gx7) | (with_reducible refine all_v ?_; intro _) | ((with_reducible refine gE ?_); (try simp (disch := omega) only [go_sem, ↓reduceIte, Nat.reduceAdd, Nat.reduceSub, Nat.reduceMul, Nat.reduceEqDiff, Nat.reduceLT, Nat.reduceLeDiff, Nat.reduceBEq, Int.reduceNeg, Int.reduceLT, Int.reduceLE, Int.reduceEq, reduceCtorEq, e0, e3, em, r1, r2, cut_nat, r3]) <;> first | rfl | omega) | with_reducible refine t_in_other (by decide) ?_))
      refine ⟨k / 65536, ⟨by omega, by exact gW e0, _, l ++ [k % 65536], by exact gC, by exact gC, ?_⟩, by omega⟩
      rw [← hl, toL_pos hk0]; simp
  · exact ⟨Nat.le_refl _, by exact gC, _, [], by exact gC, by exact gC, by simp⟩

theorem refShort (l : List Nat) (hs : l.length ≤ 4) (hl : Lm l) : Pure Tryd.prog 62 [lim l] (.v (.int .u64 (nv l : Nat))) := by
  refine pure_intro (tok := 0) (rs := [.tmp 2]) Tryd.func62 rfl Tryd.ntmps62 Tryd.results62 Tryd.call62 (by rfl) (by simp) ?_
  (repeat' (first | (with_reducible first | refine stp ?_ | apply gx1 | apply gx2 | apply gx3 | apply gx4 | apply gx5 | apply gx6 | apply gx7) | (with_reducible refine all_v ?_; intro _) | ((with_reducible refine gE ?_); (try simp (disch := omega) only [go_sem, ↓reduceIte, Nat.reduceAdd, Nat.reduceSub, Nat.reduceMul, Nat.reduceEqDiff, Nat.reduceLT, Nat.reduceLeDiff, Nat.reduceBEq, Int.reduceNeg, Int.reduceLT, Int.reduceLE, Int.reduceEq, reduceCtorEq]) <;> first | rfl | omega) | with_reducible refine t_in_other (by decide) ?_))
  refine r_loopE (ι := Nat) (fun k e m => k ≤ l.length ∧ e 0 = lim l ∧ e 4 = .v (.int .i64 ((k : Int) - 1)) ∧ e 3 = .v (.int .u64 (nv (l.drop k) : Nat))) (fun k => k) l.length (by rfl) ?_ ?_
  · rintro k e m ⟨hk, e0, e4, e3⟩
    by_cases h0 : k = 0
    · subst h0
      rw [List.drop_zero] at e3
      (repeat' (first | (with_reducible first | refine stp ?_ | apply gx1 | apply gx2 | apply gx3 | apply gx4 | apply gx5 | apply gx6 | apply gx7) | (with_reducible refine all_v ?_; intro _) | ((with_reducible refine gE ?_); (try simp (disch := omega) only [go_sem, ↓reduceIte, Nat.reduceAdd, Nat.reduceSub, Nat.reduceMul, Nat.reduceEqDiff, Nat.reduceLT, Nat.reduceLeDiff, Nat.reduceBEq, Int.reduceNeg, Int.reduceLT, Int.reduceLE, Int.reduceEq, reduceCtorEq, e0, e4, e3]) <;> first | rfl | omega) | with_reducible refine t_in_other (by decide) ?_))
      simp (disch := omega) only [go_sem, ↓reduceIte, Nat.reduceAdd, Nat.reduceSub, Nat.reduceMul, Nat.reduceEqDiff, Nat.reduceLT, Nat.reduceLeDiff, Nat.reduceBEq, Int.reduceNeg, Int.reduceLT, Int.reduceLE, Int.reduceEq, reduceCtorEq]
    · have gl := gN_lt hl (k - 1)
      have b1 := nv_lt (hl.drop k)
      have b2 : 65536 ^ (l.drop k).length ≤ 65536 ^ 3 := Nat.pow_le_pow_right (by omega) (by rw [List.length_drop]; omega)
      have e1 : (nv (l.drop k) : Int) * 65536 = ((nv (l.drop k) * 65536 : Nat) : Int) := by omega
      (repeat' (first | (with_reducible first | refine stp ?_ | apply gx1 | apply gx2 | apply gx3 | apply gx4 | apply gx5 | apply gx6 | apply gx7) | (with_reducible refine all_v ?_; intro _) | ((with_reducible refine gE ?_); (try simp (disch := omega) only [go_sem, ↓reduceIte, Nat.reduceAdd, Nat.reduceSub, Nat.reduceMul, Nat.reduceEqDiff, Nat.reduceLT, Nat.reduceLeDiff, Nat.reduceBEq, Int.reduceNeg, Int.reduceLT, Int.reduceLE, Int.reduceEq, reduceCtorEq, e0, e4, e3, e1, add_nat]) <;> first | rfl | omega) | with_reducible refine t_in_other (by decide) ?_))
      refine ⟨k - 1, ⟨by omega, by exact gW e0, by (simp (disch := omega) only [go_sem, ↓reduceIte, Nat.reduceAdd, Nat.reduceSub, Nat.reduceMul, Nat.reduceEqDiff, Nat.reduceLT, Nat.reduceLeDiff, Nat.reduceBEq, Int.reduceNeg, Int.reduceLT, Int.reduceLE, Int.reduceEq, reduceCtorEq, e4]; congr 2; omega), ?_⟩, by omega⟩
      simp (disch := omega) only [go_sem, ↓reduceIte, Nat.reduceAdd, Nat.reduceSub, Nat.reduceMul, Nat.reduceEqDiff, Nat.reduceLT, Nat.reduceLeDiff, Nat.reduceBEq, Int.reduceNeg, Int.reduceLT, Int.reduceLE, Int.reduceEq, reduceCtorEq]
      rw [nv_drop l (k - 1), show k - 1 + 1 = k by omega]
      congr 3; omega
  · exact ⟨Nat.le_refl _, by exact gC, by exact gC, by (simp (disch := omega) only [go_sem, ↓reduceIte, Nat.reduceAdd, Nat.reduceSub, Nat.reduceMul, Nat.reduceEqDiff, Nat.reduceLT, Nat.reduceLeDiff, Nat.reduceBEq, Int.reduceNeg, Int.reduceLT, Int.reduceLE, Int.reduceEq, reduceCtorEq, List.drop_length] <;> repeat' first | rfl | refine ⟨?_, ?_⟩)⟩

theorem refLimb (l : List Nat) (i : Nat) (hs : l.length ≤ 1000000000) (hl : Lm l) : Pure Tryd.prog 85 [lim l, .v (.int .i64 (i : Int))] (.v (.int .i64 (gN l i : Nat))) := by
  have gl := gN_lt hl i
  refine pure_intro (tok := 0) (rs := [.tmp 4]) Tryd.func85 rfl Tryd.ntmps85 Tryd.results85 Tryd.call85 (by rfl) (by simp) ?_
  by_cases h : i < l.length
  · (repeat' (first | (with_reducible first | refine stp ?_ | apply gx1 | apply gx2 | apply gx3 | apply gx4 | apply gx5 | apply gx6 | apply gx7) | (with_reducible refine all_v ?_; intro _) | ((with_reducible refine gE ?_); (try simp (disch := omega) only [go_sem, ↓reduceIte, Nat.reduceAdd, Nat.reduceSub, Nat.reduceMul, Nat.reduceEqDiff, Nat.reduceLT, Nat.reduceLeDiff, Nat.reduceBEq, Int.reduceNeg, Int.reduceLT, Int.reduceLE, Int.reduceEq, reduceCtorEq]) <;> first | rfl | omega) | with_reducible refine t_in_other (by decide) ?_))
    simp (disch := omega) only [go_sem, ↓reduceIte, Nat.reduceAdd, Nat.reduceSub, Nat.reduceMul, Nat.reduceEqDiff, Nat.reduceLT, Nat.reduceLeDiff, Nat.reduceBEq, Int.reduceNeg, Int.reduceLT, Int.reduceLE, Int.reduceEq, reduceCtorEq]
  · have g0 : gN l i = 0 := gN_out (by omega)
    (repeat' (first | (with_reducible first | refine stp ?_ | apply gx1 | apply gx2 | apply gx3 | apply gx4 | apply gx5 | apply gx6 | apply gx7) | (with_reducible refine all_v ?_; intro _) | ((with_reducible refine gE ?_); (try simp (disch := omega) only [go_sem, ↓reduceIte, Nat.reduceAdd, Nat.reduceSub, Nat.reduceMul, Nat.reduceEqDiff, Nat.reduceLT, Nat.reduceLeDiff, Nat.reduceBEq, Int.reduceNeg, Int.reduceLT, Int.reduceLE, Int.reduceEq, reduceCtorEq]) <;> first | rfl | omega) | with_reducible refine t_in_other (by decide) ?_))
    simp (disch := omega) only [go_sem, ↓reduceIte, Nat.reduceAdd, Nat.reduceSub, Nat.reduceMul, Nat.reduceEqDiff, Nat.reduceLT, Nat.reduceLeDiff, Nat.reduceBEq, Int.reduceNeg, Int.reduceLT, Int.reduceLE, Int.reduceEq, reduceCtorEq, g0]; rfl

theorem refCmp (a b : List Nat) (ha : a.length ≤ 1000000000) (hb : b.length ≤ 1000000000) (la : Lm a) (lb : Lm b) : Pure Tryd.prog 97 [lim a, lim b] (.v (.int .i64 (cmpN (nv a) (nv b)))) := by
  have cl := fun i => refLimb a i ha la
  have cr := fun i => refLimb b i hb lb
  refine pure_intro (tok := 0) (rs := [.tmp 4]) Tryd.func97 rfl Tryd.ntmps97 Tryd.results97 Tryd.call97 (by rfl) (by simp) ?_
  have hmx : max (a.length : Int) (b.length : Int) = ((max a.length b.length : Nat) : Int) := by omega
  obtain ⟨M, hM⟩ : ∃ M, max a.length b.length = M := ⟨_, rfl⟩
  (repeat' (first | (with_reducible first | refine stp ?_ | apply gx1 | apply gx2 | apply gx3 | apply gx4 | apply gx5 | apply gx6 | apply gx7) | (with_reducible refine all_v ?_; intro _) | ((with_reducible refine gE ?_); (try simp (disch := omega) only [go_sem, ↓reduceIte, Nat.reduceAdd, Nat.reduceSub, Nat.reduceMul, Nat.reduceEqDiff, Nat.reduceLT, Nat.reduceLeDiff, Nat.reduceBEq, Int.reduceNeg, Int.reduceLT, Int.reduceLE, Int.reduceEq, reduceCtorEq, hmx, hM]) <;> first | rfl | omega) | with_reducible refine t_in_other (by decide) ?_))
  refine r_loopE (ι := Nat) (fun k e m => k ≤ M ∧ e 0 = lim a ∧ e 1 = lim b ∧ e 5 = .v (.int .i64 ((k : Int) - 1)) ∧ nv (a.drop k) = nv (b.drop k)) (fun k => k) M (by rfl) ?_ ?_
  · rintro k e m ⟨hk, e0, e1, e5, hz⟩
    by_cases h0 : k = 0
    · subst h0
      rw [List.drop_zero, List.drop_zero] at hz
      (repeat' (first | (with_reducible first | refine stp ?_ | apply gx1 | apply gx2 | apply gx3 | apply gx4 | apply gx5 | apply gx6 | apply gx7) | (with_reducible refine all_v ?_; intro _) | ((with_reducible refine gE ?_); (try simp (disch := omega) only [go_sem, ↓reduceIte, Nat.reduceAdd, Nat.reduceSub, Nat.reduceMul, Nat.reduceEqDiff, Nat.reduceLT, Nat.reduceLeDiff, Nat.reduceBEq, Int.reduceNeg, Int.reduceLT, Int.reduceLE, Int.reduceEq, reduceCtorEq, e0, e1, e5]) <;> first | rfl | omega) | with_reducible refine t_in_other (by decide) ?_))
      simp (disch := omega) only [go_sem, ↓reduceIte, Nat.reduceAdd, Nat.reduceSub, Nat.reduceMul, Nat.reduceEqDiff, Nat.reduceLT, Nat.reduceLeDiff, Nat.reduceBEq, Int.reduceNeg, Int.reduceLT, Int.reduceLE, Int.reduceEq, reduceCtorEq, cmpN, hz, Nat.lt_irrefl, if_false]
    · obtain ⟨j, rfl⟩ : ∃ j, k = j + 1 := ⟨k - 1, by omega⟩
      have ej : ((j + 1 : Nat) : Int) - 1 = (j : Int) := by omega
      rw [ej] at e5
      have ga := gN_lt la j
      have gb := gN_lt lb j
      by_cases p1 : gN a j < gN b j
      · have := nv_cmp la lb hz p1
        (repeat' (first | (with_reducible first | refine stp ?_ | apply gx1 | apply gx2 | apply gx3 | apply gx4 | apply gx5 | apply gx6 | apply gx7 | apply gy8 | apply gz2 | apply gz3 | refine gw0 (cl j) ?_ ?_ | refine gw3 (cl j) ?_ ?_ ?_ | refine gw0 (cr j) ?_ ?_ | refine gw3 (cr j) ?_ ?_ ?_) | (with_reducible refine all_v ?_; intro _) | ((with_reducible refine gE ?_); (try simp (disch := omega) only [go_sem, ↓reduceIte, Nat.reduceAdd, Nat.reduceSub, Nat.reduceMul, Nat.reduceEqDiff, Nat.reduceLT, Nat.reduceLeDiff, Nat.reduceBEq, Int.reduceNeg, Int.reduceLT, Int.reduceLE, Int.reduceEq, reduceCtorEq, e0, e1, e5]) <;> first | rfl | omega) | with_reducible refine t_in_other (by decide) ?_ | ((with_reducible apply gy1); iterate 3 focus rfl) | ((with_reducible apply gy2); iterate 3 focus rfl) | ((with_reducible apply gy3); iterate 2 focus rfl) | ((with_reducible apply gy4); iterate 1 focus rfl) | ((with_reducible apply gy5); iterate 4 focus rfl) | ((with_reducible apply gy6); iterate 4 focus rfl) | ((with_reducible apply d_bar); iterate 3 focus rfl) | ((with_reducible apply q_pub); iterate 1 focus rfl) | ((with_reducible apply gy7); iterate 1 focus rfl) | ((with_reducible apply gy9); (focus ((with_reducible refine gE ?_); (try simp (disch := omega) only [go_sem, ↓reduceIte, Nat.reduceAdd, Nat.reduceSub, Nat.reduceMul, Nat.reduceEqDiff, Nat.reduceLT, Nat.reduceLeDiff, Nat.reduceBEq, Int.reduceNeg, Int.reduceLT, Int.reduceLE, Int.reduceEq, reduceCtorEq, e0, e1, e5]) <;> rfl))) | ((with_reducible apply gz1); (focus first | rfl | (simp (disch := omega) only [go_sem, ↓reduceIte, Nat.reduceAdd, Nat.reduceSub, Nat.reduceMul, Nat.reduceEqDiff, Nat.reduceLT, Nat.reduceLeDiff, Nat.reduceBEq, Int.reduceNeg, Int.reduceLT, Int.reduceLE, Int.reduceEq, reduceCtorEq, e0, e1, e5]; done))) | ((with_reducible apply r_drawD (pickR []) [] []); (focus kernel_rfl); (focus rfl); (focus kernel_rfl); (focus (simp only [List.length_cons, List.length_nil, Nat.reduceAdd]; rfl)))))
        simp (disch := omega) only [go_sem, ↓reduceIte, Nat.reduceAdd, Nat.reduceSub, Nat.reduceMul, Nat.reduceEqDiff, Nat.reduceLT, Nat.reduceLeDiff, Nat.reduceBEq, Int.reduceNeg, Int.reduceLT, Int.reduceLE, Int.reduceEq, reduceCtorEq, cmpN, if_pos this]
      · by_cases p2 : gN b j < gN a j
        · have := nv_cmp lb la hz.symm p2
          have this2 : ¬ nv a < nv b := by omega
          (repeat' (first | (with_reducible first | refine stp ?_ | apply gx1 | apply gx2 | apply gx3 | apply gx4 | apply gx5 | apply gx6 | apply gx7 | apply gy8 | apply gz2 | apply gz3 | refine gw0 (cl j) ?_ ?_ | refine gw3 (cl j) ?_ ?_ ?_ | refine gw0 (cr j) ?_ ?_ | refine gw3 (cr j) ?_ ?_ ?_) | (with_reducible refine all_v ?_; intro _) | ((with_reducible refine gE ?_); (try simp (disch := omega) only [go_sem, ↓reduceIte, Nat.reduceAdd, Nat.reduceSub, Nat.reduceMul, Nat.reduceEqDiff, Nat.reduceLT, Nat.reduceLeDiff, Nat.reduceBEq, Int.reduceNeg, Int.reduceLT, Int.reduceLE, Int.reduceEq, reduceCtorEq, e0, e1, e5]) <;> first | rfl | omega) | with_reducible refine t_in_other (by decide) ?_ | ((with_reducible apply gy1); iterate 3 focus rfl) | ((with_reducible apply gy2); iterate 3 focus rfl) | ((with_reducible apply gy3); iterate 2 focus rfl) | ((with_reducible apply gy4); iterate 1 focus rfl) | ((with_reducible apply gy5); iterate 4 focus rfl) | ((with_reducible apply gy6); iterate 4 focus rfl) | ((with_reducible apply d_bar); iterate 3 focus rfl) | ((with_reducible apply q_pub); iterate 1 focus rfl) | ((with_reducible apply gy7); iterate 1 focus rfl) | ((with_reducible apply gy9); (focus ((with_reducible refine gE ?_); (try simp (disch := omega) only [go_sem, ↓reduceIte, Nat.reduceAdd, Nat.reduceSub, Nat.reduceMul, Nat.reduceEqDiff, Nat.reduceLT, Nat.reduceLeDiff, Nat.reduceBEq, Int.reduceNeg, Int.reduceLT, Int.reduceLE, Int.reduceEq, reduceCtorEq, e0, e1, e5]) <;> rfl))) | ((with_reducible apply gz1); (focus first | rfl | (simp (disch := omega) only [go_sem, ↓reduceIte, Nat.reduceAdd, Nat.reduceSub, Nat.reduceMul, Nat.reduceEqDiff, Nat.reduceLT, Nat.reduceLeDiff, Nat.reduceBEq, Int.reduceNeg, Int.reduceLT, Int.reduceLE, Int.reduceEq, reduceCtorEq, e0, e1, e5]; done))) | ((with_reducible apply r_drawD (pickR []) [] []); (focus kernel_rfl); (focus rfl); (focus kernel_rfl); (focus (simp only [List.length_cons, List.length_nil, Nat.reduceAdd]; rfl)))))
          simp (disch := omega) only [go_sem, ↓reduceIte, Nat.reduceAdd, Nat.reduceSub, Nat.reduceMul, Nat.reduceEqDiff, Nat.reduceLT, Nat.reduceLeDiff, Nat.reduceBEq, Int.reduceNeg, Int.reduceLT, Int.reduceLE, Int.reduceEq, reduceCtorEq, cmpN, if_pos this, if_neg this2]
        · (repeat' (first | (with_reducible first | refine stp ?_ | apply gx1 | apply gx2 | apply gx3 | apply gx4 | apply gx5 | apply gx6 | apply gx7 | apply gy8 | apply gz2 | apply gz3 | refine gw0 (cl j) ?_ ?_ | refine gw3 (cl j) ?_ ?_ ?_ | refine gw0 (cr j) ?_ ?_ | refine gw3 (cr j) ?_ ?_ ?_) | (with_reducible refine all_v ?_; intro _) | ((with_reducible refine gE ?_); (try simp (disch := omega) only [go_sem, ↓reduceIte, Nat.reduceAdd, Nat.reduceSub, Nat.reduceMul, Nat.reduceEqDiff, Nat.reduceLT, Nat.reduceLeDiff, Nat.reduceBEq, Int.reduceNeg, Int.reduceLT, Int.reduceLE, Int.reduceEq, reduceCtorEq, e0, e1, e5]) <;> first | rfl | omega) | with_reducible refine t_in_other (by decide) ?_ | ((with_reducible apply gy1); iterate 3 focus rfl) | ((with_reducible apply gy2); iterate 3 focus rfl) | ((with_reducible apply gy3); iterate 2 focus rfl) | ((with_reducible apply gy4); iterate 1 focus rfl) | ((with_reducible apply gy5); iterate 4 focus rfl) | ((with_reducible apply gy6); iterate 4 focus rfl) | ((with_reducible apply d_bar); iterate 3 focus rfl) | ((with_reducible apply q_pub); iterate 1 focus rfl) | ((with_reducible apply gy7); iterate 1 focus rfl) | ((with_reducible apply gy9); (focus ((with_reducible refine gE ?_); (try simp (disch := omega) only [go_sem, ↓reduceIte, Nat.reduceAdd, Nat.reduceSub, Nat.reduceMul, Nat.reduceEqDiff, Nat.reduceLT, Nat.reduceLeDiff, Nat.reduceBEq, Int.reduceNeg, Int.reduceLT, Int.reduceLE, Int.reduceEq, reduceCtorEq, e0, e1, e5]) <;> rfl))) | ((with_reducible apply gz1); (focus first | rfl | (simp (disch := omega) only [go_sem, ↓reduceIte, Nat.reduceAdd, Nat.reduceSub, Nat.reduceMul, Nat.reduceEqDiff, Nat.reduceLT, Nat.reduceLeDiff, Nat.reduceBEq, Int.reduceNeg, Int.reduceLT, Int.reduceLE, Int.reduceEq, reduceCtorEq, e0, e1, e5]; done))) | ((with_reducible apply r_drawD (pickR []) [] []); (focus kernel_rfl); (focus rfl); (focus kernel_rfl); (focus (simp only [List.length_cons, List.length_nil, Nat.reduceAdd]; rfl)))))
          refine ⟨j, ⟨by omega, by exact gW e0, by exact gW e1, by exact gW e5, ?_⟩, by omega⟩
          rw [nv_drop, nv_drop b, hz]
          omega
  · refine ⟨Nat.le_refl _, by exact gC, by exact gC, by exact gC, ?_⟩
    rw [List.drop_eq_nil_of_le (by omega), List.drop_eq_nil_of_le (by omega)]

set_option maxHeartbeats 1000000 in
theorem refAdd (a b : List Nat) (ha : a.length ≤ 400000000) (hb : b.length ≤ 400000000) (la : Lm a) (lb : Lm b) : Pure Tryd.prog 65 [lim a, lim b] (lim (toL (nv a + nv b))) := by
  have cl := fun i => refLimb a i (by omega) la
  have cr := fun i => refLimb b i (by omega) lb
  refine pure_intro (tok := 0) (rs := [.tmp 4]) Tryd.func65 rfl Tryd.ntmps65 Tryd.results65 Tryd.call65 (by rfl) (by simp) ?_
  (repeat' (first | (with_reducible first | refine stp ?_ | apply gx1 | apply gx2 | apply gx3 | apply gx4 | apply gx5 | apply gx6 | apply gx7) | (with_reducible refine all_v ?_; intro _) | ((with_reducible refine gE ?_); (try simp (disch := omega) only [go_sem, ↓reduceIte, Nat.reduceAdd, Nat.reduceSub, Nat.reduceMul, Nat.reduceEqDiff, Nat.reduceLT, Nat.reduceLeDiff, Nat.reduceBEq, Int.reduceNeg, Int.reduceLT, Int.reduceLE, Int.reduceEq, reduceCtorEq]) <;> first | rfl | omega) | with_reducible refine t_in_other (by decide) ?_))
  refine r_frz (Frz.nilOwn (d := 5) 39 1 91 (by exact gC)) ?_
  refine r_loopE (ι := Nat) (fun k e m => k ≤ max a.length b.length + 1 ∧ (e 0 = lim a ∧ e 1 = lim b ∧ e 7 = .v (.int .i64 (k : Int))) ∧ ∃ sv o c, (e 5 = .own 39 sv ∧ e 6 = .v (.int .i64 (c : Nat)) ∧ m 39 = some (.row sv 91 1 (u16s o) 0)) ∧ o.length = k ∧ Lm o ∧ c ≤ 1 ∧ (max a.length b.length < k → c = 0) ∧ nv o + 65536 ^ k * c = nv (a.take k) + nv (b.take k)) (fun k => max a.length b.length + 1 - k) 0 (by rfl) ?_ ?_
  · rintro k e m ⟨hk, ⟨e0, e1, e7⟩, sv, o, c, ⟨e5, e6, em⟩, hol, hLo, hc, hcz, hv⟩
    by_cases hgo : k < a.length ∨ k < b.length ∨ 0 < c
    · have ga := gN_lt la k
      have gb := gN_lt lb k
      have hs := add_step (x := gN a k) (y := gN b k) hv
      rw [← nv_take_succ, ← nv_take_succ, ← Nat.pow_succ] at hs
      have ecomm : gN a k + gN b k + c = c + gN a k + gN b k := by omega
      have w1 : (c + gN a k + gN b k) / 65536 ≤ 1 := by omega
      have w2 : (c + gN a k + gN b k) % 65536 < 65536 := Nat.mod_lt _ (by omega)
      have r1 : ((c + gN a k + gN b k : Nat) : Int).tmod 65536 = (((c + gN a k + gN b k) % 65536 : Nat) : Int) := rem_nat _ 65536
      have r2 : ((c + gN a k + gN b k : Nat) : Int).tdiv 65536 = (((c + gN a k + gN b k) / 65536 : Nat) : Int) := quo_nat _ 65536
      have r3 : (c + gN a k + gN b k) % 65536 % 65536 = (c + gN a k + gN b k) % 65536 := Nat.mod_mod _ _
      have nvs : nv (o ++ [(c + gN a k + gN b k) % 65536]) = nv o + 65536 ^ k * ((c + gN a k + gN b k) % 65536) := by rw [nv_append, hol]; simp [nv]
      rw [← nvs] at hs
      have hz2 : max a.length b.length < k + 1 → (c + gN a k + gN b k) / 65536 = 0 := by
        intro h
        have g1 : gN a k = 0 := gN_out (by omega)
        have g2 : gN b k = 0 := gN_out (by omega)
        omega
      have hkm : k ≤ max a.length b.length := by omega
      have fin := fun (sv : Value) (e : Nat → AV) (m : Mem) (h1 : e 0 = lim a ∧ e 1 = lim b ∧ e 7 = .v (.int .i64 ((k + 1 : Nat) : Int))) (h2 : e 5 = .own 39 sv ∧ e 6 = .v (.int .i64 ((c + gN a k + gN b k) / 65536 : Nat)) ∧ m 39 = some (.row sv 91 1 (u16s (o ++ [(c + gN a k + gN b k) % 65536])) 0)) =>
        show ∃ k', (k' ≤ max a.length b.length + 1 ∧ (e 0 = lim a ∧ e 1 = lim b ∧ e 7 = .v (.int .i64 (k' : Int))) ∧ ∃ sv o c, (e 5 = .own 39 sv ∧ e 6 = .v (.int .i64 (c : Nat)) ∧ m 39 = some (.row sv 91 1 (u16s o) 0)) ∧ o.length = k' ∧ Lm o ∧ c ≤ 1 ∧ (max a.length b.length < k' → c = 0) ∧ nv o + 65536 ^ k' * c = nv (a.take k') + nv (b.take k')) ∧ max a.length b.length + 1 - k' < max a.length b.length + 1 - k from
        ⟨k + 1, ⟨by omega, h1, sv, _, _, h2, by simp [hol], hLo.append (Lm.one w2), w1, hz2, hs⟩, by omega⟩
      by_cases h3 : k < a.length
      · (repeat' (first | (with_reducible first | refine stp ?_ | apply gx1 | apply gx2 | apply gx3 | apply gx4 | apply gx5 | apply gx6 | apply gx7 | refine gw0 (cl k) ?_ ?_ | refine gw0 (cr k) ?_ ?_) | (with_reducible refine all_v ?_; intro _) | ((with_reducible refine gE ?_); (try simp (disch := omega) only [go_sem, ↓reduceIte, Nat.reduceAdd, Nat.reduceSub, Nat.reduceMul, Nat.reduceEqDiff, Nat.reduceLT, Nat.reduceLeDiff, Nat.reduceBEq, Int.reduceNeg, Int.reduceLT, Int.reduceLE, Int.reduceEq, reduceCtorEq, e0, e1, e7, e5, e6, em, hol, u16s_len, add_nat, ecomm, r1, r2, r3, cut_nat]) <;> first | rfl | omega) | with_reducible refine t_in_other (by decide) ?_))
        exact fin _ _ _ ⟨by exact gW e0, by exact gW e1, by exact gS⟩ ⟨by exact gC, by exact gC, by exact gC⟩
      · by_cases h4 : k < b.length
        · (repeat' (first | (with_reducible first | refine stp ?_ | apply gx1 | apply gx2 | apply gx3 | apply gx4 | apply gx5 | apply gx6 | apply gx7 | refine gw0 (cl k) ?_ ?_ | refine gw0 (cr k) ?_ ?_) | (with_reducible refine all_v ?_; intro _) | ((with_reducible refine gE ?_); (try simp (disch := omega) only [go_sem, ↓reduceIte, Nat.reduceAdd, Nat.reduceSub, Nat.reduceMul, Nat.reduceEqDiff, Nat.reduceLT, Nat.reduceLeDiff, Nat.reduceBEq, Int.reduceNeg, Int.reduceLT, Int.reduceLE, Int.reduceEq, reduceCtorEq, e0, e1, e7, e5, e6, em, hol, u16s_len, add_nat, ecomm, r1, r2, r3, cut_nat]) <;> first | rfl | omega) | with_reducible refine t_in_other (by decide) ?_))
          exact fin _ _ _ ⟨by exact gW e0, by exact gW e1, by exact gS⟩ ⟨by exact gC, by exact gC, by exact gC⟩
        · have hc1 : 0 < c := by omega
          (repeat' (first | (with_reducible first | refine stp ?_ | apply gx1 | apply gx2 | apply gx3 | apply gx4 | apply gx5 | apply gx6 | apply gx7 | refine gw0 (cl k) ?_ ?_ | refine gw0 (cr k) ?_ ?_) | (with_reducible refine all_v ?_; intro _) | ((with_reducible refine gE ?_); (try simp (disch := omega) only [go_sem, ↓reduceIte, Nat.reduceAdd, Nat.reduceSub, Nat.reduceMul, Nat.reduceEqDiff, Nat.reduceLT, Nat.reduceLeDiff, Nat.reduceBEq, Int.reduceNeg, Int.reduceLT, Int.reduceLE, Int.reduceEq, reduceCtorEq, e0, e1, e7, e5, e6, em, hol, u16s_len, add_nat, ecomm, r1, r2, r3, cut_nat]) <;> first | rfl | omega) | with_reducible refine t_in_other (by decide) ?_))
          exact fin _ _ _ ⟨by exact gW e0, by exact gW e1, by exact gS⟩ ⟨by exact gC, by exact gC, by exact gC⟩
    · have hc0 : c = 0 := by omega
      subst hc0
      rw [take_all (by omega), take_all (by omega), Nat.mul_zero, Nat.add_zero] at hv
      (repeat' (first | (with_reducible first | refine stp ?_ | apply gx1 | apply gx2 | apply gx3 | apply gx4 | apply gx5 | apply gx6 | apply gx7 | apply gw1 (refNorm o (by omega) hLo)) | (with_reducible refine all_v ?_; intro _) | ((with_reducible refine gE ?_); (try simp (disch := omega) only [go_sem, ↓reduceIte, Nat.reduceAdd, Nat.reduceSub, Nat.reduceMul, Nat.reduceEqDiff, Nat.reduceLT, Nat.reduceLeDiff, Nat.reduceBEq, Int.reduceNeg, Int.reduceLT, Int.reduceLE, Int.reduceEq, reduceCtorEq, e0, e1, e7, e5, e6, em]) <;> first | rfl | omega) | with_reducible refine t_in_other (by decide) ?_))
      simp (disch := omega) only [go_sem, ↓reduceIte, Nat.reduceAdd, Nat.reduceSub, Nat.reduceMul, Nat.reduceEqDiff, Nat.reduceLT, Nat.reduceLeDiff, Nat.reduceBEq, Int.reduceNeg, Int.reduceLT, Int.reduceLE, Int.reduceEq, reduceCtorEq, hv]
  · exact ⟨by omega, ⟨by exact gC, by exact gC, by exact gC⟩, _, [], 0, ⟨by exact gC, by exact gC, by exact gC⟩, rfl, Lm.nil, by omega, fun _ => rfl, by simp [nv]⟩
end Go.Proofs.YtjiffehkemeloaaDoor
end
