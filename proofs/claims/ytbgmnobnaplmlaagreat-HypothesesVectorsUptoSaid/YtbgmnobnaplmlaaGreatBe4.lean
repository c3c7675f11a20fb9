/- Contracts of the functions that the law reaches, and the rules by which they are walked. They say what a call hands back for every input within the bounds that each names; no other condition. -/
import Derived.Test.YtbgmnobnaplmlaaGreatBe3
import Derived.Laws.RangeString
import Derived.Lib.OthersKept
import Derived.Laws.Strings
section
namespace Go.Proofs.YtbgmnobnaplmlaaGreat
open Go Go.RowKit Go.Pg
set_option linter.unusedSimpArgs false
set_option linter.unusedVariables false
set_option maxRecDepth 20000
attribute [local go_sem] Tryz.underlying39 Tryz.underlying3 Tryz.underlying178 Tryz.underlying115 Tryz.underlying4 Tryz.underlying41 Tryz.underlying43 Tryz.underlying31 sz3 by3 z3 szL byL zL szB zB szNat zNat szInt zInt szRat zRat Tryz.underlying254
attribute [-bool_to_prop] Bool.and_eq_decide Bool.or_eq_decide Bool.decide_beq_decide decide_eq_decide

theorem ratOf (n : Nat) (hn : n < 9223372036854775808) : Pure Tryz.prog 183 [.v (.int .i64 (n : Int))] (ratQ (n : Rat)) := by
  refine pure_intro (tok := 0) Tryz.func183 rfl Tryz.ntmps183 Tryz.results183 Tryz.call183 (by rfl) (by simp) ?_
  have hd : decide ((n : Rat).num < 0) = false := decide_eq_false (by show ¬ ((n : Int) < 0); omega)
  have hn' : (n : Rat).num.natAbs = n := Int.natAbs_natCast n
  unfold ratQ
  rw [hd, hn', Rat.den_natCast]
  (focus (refine wkvp w_t (w_a (intOf n hn) (w_a ratUnit w_t)) ?_; (repeat' first | exact w_t | apply w_l); all_goals intros))
  simp (disch := omega) only [go_sem]

theorem ratMul (a b : Rat) {j k : Nat} (ha : Sz a j) (hb : Sz b k) (hj : j ≤ 2000000) (hk : k ≤ 2000000) : Pure Tryz.prog 207 [ratQ a, ratQ b] (ratQ (a * b)) := by
  obtain ⟨a1, a2⟩ := id ha
  obtain ⟨b1, b2⟩ := id hb
  have l1 : (toL (a.num * b.num).natAbs).length ≤ j + k := by rw [Int.natAbs_mul]; exact Nat.le_trans (lg_mul _ _) (by omega)
  have l2 : (toL (a.den * b.den)).length ≤ j + k := Nat.le_trans (lg_mul _ _) (by omega)
  have c := ratReduced (decide (a.num * b.num < 0)) (a.num * b.num).natAbs (a.den * b.den) (by omega) (by omega) (Nat.mul_ne_zero a.den_nz b.den_nz)
  rw [zI_abs, ← Rat.mul_def'] at c
  refine pure_intro (tok := 0) Tryz.func207 rfl Tryz.ntmps207 Tryz.results207 Tryz.call207 (by rfl) (by simp) ?_
  (focus (refine wkvp w_t (w_a (ratParts a ha (by omega)) (w_a (ratParts b hb (by omega)) (w_a (iMul a.num b.num (by omega) (by omega)) (w_a (nMul a.den b.den (by omega) (by omega)) (w_a c w_t))))) ?_; (repeat' first | exact w_t | apply w_l); all_goals intros))
  simp (disch := omega) only [go_sem]

set_option maxHeartbeats 1000000 in
theorem ratAddA (s t : Bool) (n d m c : Nat) {j k : Nat} (a1 : (toL n).length ≤ j) (a2 : (toL d).length ≤ j) (b1 : (toL m).length ≤ k) (b2 : (toL c).length ≤ k) (hd0 : d ≠ 0) (hc0 : c ≠ 0) (hj : j ≤ 2000000) (hk : k ≤ 2000000) :
    Pure Tryz.prog 223 [ratA s n d, ratA t m c] (ratQ (mkRat (zI s n) d + mkRat (zI t m) c)) := by
  have oa := ratOne d (by omega)
  have ob := ratOne c (by omega)
  have l2 : (toL (d * c)).length ≤ j + k := Nat.le_trans (lg_mul _ _) (by omega)
  have z1 := zI_natAbs s n
  have w1 := zI_natAbs t m
  have pa := ratPartsA s n d (by omega) hd0
  have pb := ratPartsA t m c (by omega) hc0
  have eq : mkRat (zI s n) d + mkRat (zI t m) c = mkRat (zI s n * c + zI t m * d) (d * c) := Rat.mkRat_add_mkRat _ _ hd0 hc0
  have cs0 := ratSumA s t n m (by omega) (by omega)
  have cm1 : Pure Tryz.prog 231 [intA s n, intA false c] (intZ (zI s n * c)) := intMul s false n c (by omega) (by omega)
  have cm2 : Pure Tryz.prog 231 [intA t m, intA false d] (intZ (zI t m * d)) := intMul t false m d (by omega) (by omega)
  rw [eq]
  have x1 : (toL (zI s n * c).natAbs).length ≤ j + k := by
    rw [Int.natAbs_mul, Int.natAbs_natCast, z1]
    exact Nat.le_trans (lg_mul _ _) (by omega)
  have x2 : (toL (zI t m * d).natAbs).length ≤ j + k := by
    rw [Int.natAbs_mul, Int.natAbs_natCast, w1]
    exact Nat.le_trans (lg_mul _ _) (by omega)
  by_cases h1 : d = 1 ∧ c = 1
  · obtain ⟨h1, h2⟩ := h1
    have l1 : (toL (zI s n + zI t m).natAbs).length ≤ j + k + 1 := by
      have h3 := lg_mono (natAbs_add_le (zI s n) (zI t m))
      have h4 := lg_add (zI s n).natAbs (zI t m).natAbs
      rw [z1, w1] at h3 h4
      omega
    have c := ratReduced (decide (zI s n + zI t m < 0)) (zI s n + zI t m).natAbs 1 (by omega) (by rw [lg_one]; omega) (by omega)
    rw [zI_abs] at c
    subst h1; subst h2
    rw [decide_eq_true rfl] at oa ob
    have e1 : zI s n * ((1 : Nat) : Int) + zI t m * ((1 : Nat) : Int) = zI s n + zI t m := by omega
    rw [e1, Nat.mul_one]
    refine pure_intro (tok := 0) Tryz.func223 rfl Tryz.ntmps223 Tryz.results223 Tryz.call223 (by rfl) (by simp) ?_
    (repeat' (first | (with_reducible first | refine stp ?_ | apply gx1 | apply gx2 | apply gx3 | apply gx4 | apply gx5 | apply gx6 | apply gx7 | apply gy8 | apply gz2 | apply gz3 | refine gw0 (pa) ?_ ?_ | refine gw3 (pa) ?_ ?_ ?_ | refine gw0 (pb) ?_ ?_ | refine gw3 (pb) ?_ ?_ ?_ | refine gw0 (oa) ?_ ?_ | refine gw3 (oa) ?_ ?_ ?_ | refine gw0 (ob) ?_ ?_ | refine gw3 (ob) ?_ ?_ ?_ | apply gw1 (cs0) | refine gw0 (c) ?_ ?_ | refine gw3 (c) ?_ ?_ ?_) | (with_reducible refine all_v ?_; intro _) | ((with_reducible refine gE ?_); (try simp (disch := omega) only [go_sem]) <;> first | rfl | omega) | with_reducible refine t_in_other (by decide) ?_ | ((with_reducible apply gy1); iterate 3 focus rfl) | ((with_reducible apply gy2); iterate 3 focus rfl) | ((with_reducible apply gy3); iterate 2 focus rfl) | ((with_reducible apply gy4); iterate 1 focus rfl) | ((with_reducible apply gy5); iterate 4 focus rfl) | ((with_reducible apply gy6); iterate 4 focus rfl) | ((with_reducible apply d_bar); iterate 3 focus rfl) | ((with_reducible apply q_pub); iterate 1 focus rfl) | ((with_reducible apply gy7); iterate 1 focus rfl) | ((with_reducible apply gy9); (focus ((with_reducible refine gE ?_); (try simp (disch := omega) only [go_sem]) <;> rfl))) | ((with_reducible apply gz1); (focus first | rfl | (simp (disch := omega) only [go_sem]; done))) | ((with_reducible apply r_drawD (pickR []) [] []); (focus kernel_rfl); (focus rfl); (focus kernel_rfl); (focus (simp only [List.length_cons, List.length_nil, Nat.reduceAdd]; rfl)))))
    simp (disch := omega) only [go_sem]
  · have l1 : (toL (zI s n * c + zI t m * d).natAbs).length ≤ j + k + 1 := by
      have h3 := lg_mono (natAbs_add_le (zI s n * c) (zI t m * d))
      have h4 := lg_add (zI s n * c).natAbs (zI t m * d).natAbs
      omega
    have cr := ratReduced (decide (zI s n * c + zI t m * d < 0)) (zI s n * c + zI t m * d).natAbs (d * c) (by omega) (by omega) (Nat.mul_ne_zero hd0 hc0)
    rw [zI_abs] at cr
    have cs := ratSum (zI s n * c) (zI t m * d) (by omega) (by omega)
    have cw1 := ratWhole c
    have cw2 := ratWhole d
    have cm := nMul d c (by omega) (by omega)
    generalize zI s n * (c : Int) = y1 at *
    generalize zI t m * (d : Int) = y2 at *
    by_cases h2 : d = 1
    · have h3 : c ≠ 1 := fun h => h1 ⟨h2, h⟩
      rw [decide_eq_true h2] at oa
      rw [decide_eq_false h3] at ob
      refine pure_intro (tok := 0) Tryz.func223 rfl Tryz.ntmps223 Tryz.results223 Tryz.call223 (by rfl) (by simp) ?_
      (repeat' (first | (with_reducible first | refine stp ?_ | apply gx1 | apply gx2 | apply gx3 | apply gx4 | apply gx5 | apply gx6 | apply gx7 | apply gy8 | apply gz2 | apply gz3 | refine gw0 (pa) ?_ ?_ | refine gw3 (pa) ?_ ?_ ?_ | refine gw0 (pb) ?_ ?_ | refine gw3 (pb) ?_ ?_ ?_ | refine gw0 (oa) ?_ ?_ | refine gw3 (oa) ?_ ?_ ?_ | refine gw0 (ob) ?_ ?_ | refine gw3 (ob) ?_ ?_ ?_ | refine gw0 (cw1) ?_ ?_ | refine gw3 (cw1) ?_ ?_ ?_ | refine gw0 (cm1) ?_ ?_ | refine gw3 (cm1) ?_ ?_ ?_ | refine gw0 (cw2) ?_ ?_ | refine gw3 (cw2) ?_ ?_ ?_ | refine gw0 (cm2) ?_ ?_ | refine gw3 (cm2) ?_ ?_ ?_ | refine gw0 (cs) ?_ ?_ | refine gw3 (cs) ?_ ?_ ?_ | refine gw0 (cm) ?_ ?_ | refine gw3 (cm) ?_ ?_ ?_ | refine gw0 (cr) ?_ ?_ | refine gw3 (cr) ?_ ?_ ?_) | (with_reducible refine all_v ?_; intro _) | ((with_reducible refine gE ?_); (try simp (disch := omega) only [go_sem]) <;> first | rfl | omega) | with_reducible refine t_in_other (by decide) ?_ | ((with_reducible apply gy1); iterate 3 focus rfl) | ((with_reducible apply gy2); iterate 3 focus rfl) | ((with_reducible apply gy3); iterate 2 focus rfl) | ((with_reducible apply gy4); iterate 1 focus rfl) | ((with_reducible apply gy5); iterate 4 focus rfl) | ((with_reducible apply gy6); iterate 4 focus rfl) | ((with_reducible apply d_bar); iterate 3 focus rfl) | ((with_reducible apply q_pub); iterate 1 focus rfl) | ((with_reducible apply gy7); iterate 1 focus rfl) | ((with_reducible apply gy9); (focus ((with_reducible refine gE ?_); (try simp (disch := omega) only [go_sem]) <;> rfl))) | ((with_reducible apply gz1); (focus first | rfl | (simp (disch := omega) only [go_sem]; done))) | ((with_reducible apply r_drawD (pickR [(2, intA false c), (3, intZ y1), (6, intA false d), (7, intZ y2), (8, .sl 2 [intZ y1, intZ y2]), (9, intZ (y1 + y2)), (12, lim (toL (d * c))), (13, ratQ (mkRat (y1 + y2) (d * c)))]) [] [4]); (focus kernel_rfl); (focus rfl); (focus kernel_rfl); (focus (simp only [List.length_cons, List.length_nil, Nat.reduceAdd]; rfl)))))
      simp (disch := omega) only [go_sem]
    · rw [decide_eq_false h2] at oa
      refine pure_intro (tok := 0) Tryz.func223 rfl Tryz.ntmps223 Tryz.results223 Tryz.call223 (by rfl) (by simp) ?_
      (repeat' (first | (with_reducible first | refine stp ?_ | apply gx1 | apply gx2 | apply gx3 | apply gx4 | apply gx5 | apply gx6 | apply gx7 | apply gy8 | apply gz2 | apply gz3 | refine gw0 (pa) ?_ ?_ | refine gw3 (pa) ?_ ?_ ?_ | refine gw0 (pb) ?_ ?_ | refine gw3 (pb) ?_ ?_ ?_ | refine gw0 (oa) ?_ ?_ | refine gw3 (oa) ?_ ?_ ?_ | refine gw0 (cw1) ?_ ?_ | refine gw3 (cw1) ?_ ?_ ?_ | refine gw0 (cm1) ?_ ?_ | refine gw3 (cm1) ?_ ?_ ?_ | refine gw0 (cw2) ?_ ?_ | refine gw3 (cw2) ?_ ?_ ?_ | refine gw0 (cm2) ?_ ?_ | refine gw3 (cm2) ?_ ?_ ?_ | refine gw0 (cs) ?_ ?_ | refine gw3 (cs) ?_ ?_ ?_ | refine gw0 (cm) ?_ ?_ | refine gw3 (cm) ?_ ?_ ?_ | refine gw0 (cr) ?_ ?_ | refine gw3 (cr) ?_ ?_ ?_) | (with_reducible refine all_v ?_; intro _) | ((with_reducible refine gE ?_); (try simp (disch := omega) only [go_sem]) <;> first | rfl | omega) | with_reducible refine t_in_other (by decide) ?_ | ((with_reducible apply gy1); iterate 3 focus rfl) | ((with_reducible apply gy2); iterate 3 focus rfl) | ((with_reducible apply gy3); iterate 2 focus rfl) | ((with_reducible apply gy4); iterate 1 focus rfl) | ((with_reducible apply gy5); iterate 4 focus rfl) | ((with_reducible apply gy6); iterate 4 focus rfl) | ((with_reducible apply d_bar); iterate 3 focus rfl) | ((with_reducible apply q_pub); iterate 1 focus rfl) | ((with_reducible apply gy7); iterate 1 focus rfl) | ((with_reducible apply gy9); (focus ((with_reducible refine gE ?_); (try simp (disch := omega) only [go_sem]) <;> rfl))) | ((with_reducible apply gz1); (focus first | rfl | (simp (disch := omega) only [go_sem]; done))) | ((with_reducible apply r_drawD (pickR [(2, intA false c), (3, intZ y1), (6, intA false d), (7, intZ y2), (8, .sl 2 [intZ y1, intZ y2]), (9, intZ (y1 + y2)), (12, lim (toL (d * c))), (13, ratQ (mkRat (y1 + y2) (d * c)))]) [] [4]); (focus kernel_rfl); (focus rfl); (focus kernel_rfl); (focus (simp only [List.length_cons, List.length_nil, Nat.reduceAdd]; rfl)))))
      simp (disch := omega) only [go_sem]
theorem ratAdd (a b : Rat) {j k : Nat} (ha : Sz a j) (hb : Sz b k) (hj : j ≤ 2000000) (hk : k ≤ 2000000) : Pure Tryz.prog 223 [ratQ a, ratQ b] (ratQ (a + b)) := by
  have := ratAddA (decide (a.num < 0)) (decide (b.num < 0)) a.num.natAbs a.den b.num.natAbs b.den ha.1 ha.2 hb.1 hb.2 a.den_nz b.den_nz hj hk
  rwa [zI_abs, zI_abs, Rat.mkRat_self, Rat.mkRat_self] at this

end Go.Proofs.YtbgmnobnaplmlaaGreat
end

section
namespace Go.Proofs.YtbgmnobnaplmlaaGreat
open Go Go.RowKit Go.Pg
set_option linter.unusedSimpArgs false
set_option linter.unusedVariables false
set_option maxRecDepth 20000
attribute [local go_sem] Tryz.underlying39 Tryz.underlying3 Tryz.underlying178 Tryz.underlying115 Tryz.underlying4 Tryz.underlying41 Tryz.underlying43 Tryz.underlying31 sz3 by3 z3 szL byL zL szB zB szNat zNat szInt zInt szRat zRat Tryz.underlying254
attribute [-bool_to_prop] Bool.and_eq_decide Bool.or_eq_decide Bool.decide_beq_decide decide_eq_decide

theorem intZ_neg {z : Int} (h : z < 0) : intZ z = intA true z.natAbs := by unfold intZ; rw [decide_eq_true h]
theorem intZ_pos {z : Int} (h : ¬ z < 0) : intZ z = intA false z.natAbs := by unfold intZ; rw [decide_eq_false h]

theorem zOf' (s : Bool) (n : Nat) (hn : (toL n).length ≤ 100000000) : Pure Tryz.prog 127 [.v (.bool s), lim (toL n)] (intZ (zI s n)) := by
  rw [intZ_of]
  have hp := @toL_len_pos n
  cases s
  · refine pure_intro (tok := 0) Tryz.func127 rfl Tryz.ntmps127 Tryz.results127 Tryz.call127 (by rfl) (by simp) ?_
    (focus (refine wkvp w_t (w_a (rNorm n hn) w_t) ?_; (repeat' first | exact w_t | apply w_l); all_goals intros))
    simp (disch := omega) only [go_sem, Bool.false_and]
  · by_cases h : 0 < n
    · have h2 := hp.2 h
      refine pure_intro (tok := 0) Tryz.func127 rfl Tryz.ntmps127 Tryz.results127 Tryz.call127 (by rfl) (by simp) ?_
      (focus (refine wkvp w_t (w_a (rNorm n hn) w_t) ?_; (repeat' first | exact w_t | apply w_l); all_goals intros))
      simp (disch := omega) only [go_sem, decide_eq_true h]
    · have h2 : ¬ 0 < (toL n).length := fun h3 => h (hp.1 h3)
      refine pure_intro (tok := 0) Tryz.func127 rfl Tryz.ntmps127 Tryz.results127 Tryz.call127 (by rfl) (by simp) ?_
      (focus (refine wkvp w_t (w_a (rNorm n hn) w_t) ?_; (repeat' first | exact w_t | apply w_l); all_goals intros))
      simp (disch := omega) only [go_sem, decide_eq_false h]

theorem zNorm (s : Bool) (n : Nat) (hn : (toL n).length ≤ 100000000) : Pure Tryz.prog 126 [intA s n] (intZ (zI s n)) := by
  refine pure_intro (tok := 0) Tryz.func126 rfl Tryz.ntmps126 Tryz.results126 Tryz.call126 (by rfl) (by simp) ?_
  (focus (refine wkvp w_t (w_a (zOf' s n hn) w_t) ?_; (repeat' first | exact w_t | apply w_l); all_goals intros))
  simp (disch := omega) only [go_sem]
theorem zNormZ (z : Int) (hz : (toL z.natAbs).length ≤ 100000000) : Pure Tryz.prog 126 [intZ z] (intZ z) := by
  have := zNorm (decide (z < 0)) z.natAbs hz
  rwa [zI_abs] at this

theorem zOf (n : Nat) (hn : n < 9223372036854775808) : Pure Tryz.prog 56 [.v (.int .i64 (n : Int))] (intA false n) := by
  have l4 : (toL n).length ≤ 4 := toL_len_lt.2 (by omega)
  have hm := zOf' false n (by omega)
  rw [intZ_of, Bool.false_and] at hm
  refine pure_intro (tok := 0) Tryz.func56 rfl Tryz.ntmps56 Tryz.results56 Tryz.call56 (by rfl) (by simp) ?_
  (focus (refine wkvp w_t (w_a (refOf n (by omega)) (w_a hm w_t)) ?_; (repeat' first | exact w_t | apply w_l); all_goals intros))
  simp (disch := omega) only [go_sem]

theorem zSign (z : Int) (hz : (toL z.natAbs).length ≤ 100000000) : Pure Tryz.prog 184 [intZ z] (.v (.int .i64 z.sign)) := by
  have cn := zNormZ z hz
  have hp := @toL_len_pos z.natAbs
  rcases Int.lt_trichotomy z 0 with h | h | h
  · rw [Int.sign_eq_neg_one_of_neg h]
    have h2 := hp.2 (by omega)
    rw [intZ_neg h] at cn ⊢
    refine pure_intro (tok := 0) Tryz.func184 rfl Tryz.ntmps184 Tryz.results184 Tryz.call184 (by rfl) (by simp) ?_
    (focus (refine wkvp w_t (w_a cn w_t) ?_; (repeat' first | exact w_t | apply w_l); all_goals intros))
    simp (disch := omega) only [go_sem]
  · have h2 : ¬ 0 < (toL z.natAbs).length := fun h3 => by have := hp.1 h3; omega
    have hs : z.sign = 0 := by rw [h]; rfl
    rw [hs]
    rw [intZ_pos (by omega)] at cn ⊢
    refine pure_intro (tok := 0) Tryz.func184 rfl Tryz.ntmps184 Tryz.results184 Tryz.call184 (by rfl) (by simp) ?_
    (focus (refine wkvp w_t (w_a cn w_t) ?_; (repeat' first | exact w_t | apply w_l); all_goals intros))
    simp (disch := omega) only [go_sem]
  · rw [Int.sign_eq_one_of_pos h]
    have h2 := hp.2 (by omega)
    rw [intZ_pos (by omega)] at cn ⊢
    refine pure_intro (tok := 0) Tryz.func184 rfl Tryz.ntmps184 Tryz.results184 Tryz.call184 (by rfl) (by simp) ?_
    (focus (refine wkvp w_t (w_a cn w_t) ?_; (repeat' first | exact w_t | apply w_l); all_goals intros))
    simp (disch := omega) only [go_sem]

theorem zCmp (z w : Int) (hz : (toL z.natAbs).length ≤ 100000000) (hw : (toL w.natAbs).length ≤ 100000000) : Pure Tryz.prog 197 [intZ z, intZ w] (.v (.int .i64 (cmpZ z w))) := by
  have c1 := zNormZ z hz
  have c2 := zNormZ w hw
  have ca := rCmp z.natAbs w.natAbs hz hw
  have cb := rCmp w.natAbs z.natAbs hw hz
  by_cases h1 : z < 0
  · by_cases h2 : w < 0
    · have hc : cmpZ z w = cmpN w.natAbs z.natAbs := by
        unfold cmpZ cmpN
        have e1 : (z < w) ↔ (w.natAbs < z.natAbs) := by omega
        have e2 : (w < z) ↔ (z.natAbs < w.natAbs) := by omega
        simp only [e1, e2]
      rw [hc]
      rw [intZ_neg h1] at c1 ⊢
      rw [intZ_neg h2] at c2 ⊢
      refine pure_intro (tok := 0) Tryz.func197 rfl Tryz.ntmps197 Tryz.results197 Tryz.call197 (by rfl) (by simp) ?_
      (repeat' (first | (with_reducible first | refine stp ?_ | apply gx1 | apply gx2 | apply gx3 | apply gx4 | apply gx5 | apply gx6 | apply gx7 | apply gy8 | apply gz2 | apply gz3 | refine gw0 (c1) ?_ ?_ | refine gw3 (c1) ?_ ?_ ?_ | refine gw0 (c2) ?_ ?_ | refine gw3 (c2) ?_ ?_ ?_ | refine gw0 (cb) ?_ ?_ | refine gw3 (cb) ?_ ?_ ?_) | (with_reducible refine all_v ?_; intro _) | ((with_reducible refine gE ?_); (try simp (disch := omega) only [go_sem]) <;> first | rfl | omega) | with_reducible refine t_in_other (by decide) ?_ | ((with_reducible apply gy1); iterate 3 focus rfl) | ((with_reducible apply gy2); iterate 3 focus rfl) | ((with_reducible apply gy3); iterate 2 focus rfl) | ((with_reducible apply gy4); iterate 1 focus rfl) | ((with_reducible apply gy5); iterate 4 focus rfl) | ((with_reducible apply gy6); iterate 4 focus rfl) | ((with_reducible apply d_bar); iterate 3 focus rfl) | ((with_reducible apply q_pub); iterate 1 focus rfl) | ((with_reducible apply gy7); iterate 1 focus rfl) | ((with_reducible apply gy9); (focus ((with_reducible refine gE ?_); (try simp (disch := omega) only [go_sem]) <;> rfl))) | ((with_reducible apply gz1); (focus first | rfl | (simp (disch := omega) only [go_sem]; done))) | ((with_reducible apply r_drawD (pickR [(1, .agg [.v (.bool true), lim (toL z.natAbs)]), (3, .agg [.v (.bool true), lim (toL w.natAbs)])]) [4,5] []); (focus kernel_rfl); (focus rfl); (focus kernel_rfl); (focus (simp only [List.length_cons, List.length_nil, Nat.reduceAdd]; rfl)))))
      simp (disch := omega) only [go_sem]
    · have hc : cmpZ z w = -1 := if_pos (by omega)
      rw [hc]
      rw [intZ_neg h1] at c1 ⊢
      rw [intZ_pos h2] at c2 ⊢
      refine pure_intro (tok := 0) Tryz.func197 rfl Tryz.ntmps197 Tryz.results197 Tryz.call197 (by rfl) (by simp) ?_
      (repeat' (first | (with_reducible first | refine stp ?_ | apply gx1 | apply gx2 | apply gx3 | apply gx4 | apply gx5 | apply gx6 | apply gx7 | apply gy8 | apply gz2 | apply gz3 | refine gw0 (c1) ?_ ?_ | refine gw3 (c1) ?_ ?_ ?_ | refine gw0 (c2) ?_ ?_ | refine gw3 (c2) ?_ ?_ ?_) | (with_reducible refine all_v ?_; intro _) | ((with_reducible refine gE ?_); (try simp (disch := omega) only [go_sem]) <;> first | rfl | omega) | with_reducible refine t_in_other (by decide) ?_ | ((with_reducible apply gy1); iterate 3 focus rfl) | ((with_reducible apply gy2); iterate 3 focus rfl) | ((with_reducible apply gy3); iterate 2 focus rfl) | ((with_reducible apply gy4); iterate 1 focus rfl) | ((with_reducible apply gy5); iterate 4 focus rfl) | ((with_reducible apply gy6); iterate 4 focus rfl) | ((with_reducible apply d_bar); iterate 3 focus rfl) | ((with_reducible apply q_pub); iterate 1 focus rfl) | ((with_reducible apply gy7); iterate 1 focus rfl) | ((with_reducible apply gy9); (focus ((with_reducible refine gE ?_); (try simp (disch := omega) only [go_sem]) <;> rfl))) | ((with_reducible apply gz1); (focus first | rfl | (simp (disch := omega) only [go_sem]; done))) | ((with_reducible apply r_drawD (pickR [(1, .agg [.v (.bool true), lim (toL z.natAbs)]), (3, .agg [.v (.bool false), lim (toL w.natAbs)])]) [4,5] []); (focus kernel_rfl); (focus rfl); (focus kernel_rfl); (focus (simp only [List.length_cons, List.length_nil, Nat.reduceAdd]; rfl)))))
      simp (disch := omega) only [go_sem]
  · by_cases h2 : w < 0
    · have hc : cmpZ z w = 1 := by unfold cmpZ; rw [if_neg (by omega), if_pos (by omega)]
      rw [hc]
      rw [intZ_pos h1] at c1 ⊢
      rw [intZ_neg h2] at c2 ⊢
      refine pure_intro (tok := 0) Tryz.func197 rfl Tryz.ntmps197 Tryz.results197 Tryz.call197 (by rfl) (by simp) ?_
      (repeat' (first | (with_reducible first | refine stp ?_ | apply gx1 | apply gx2 | apply gx3 | apply gx4 | apply gx5 | apply gx6 | apply gx7 | apply gy8 | apply gz2 | apply gz3 | refine gw0 (c1) ?_ ?_ | refine gw3 (c1) ?_ ?_ ?_ | refine gw0 (c2) ?_ ?_ | refine gw3 (c2) ?_ ?_ ?_) | (with_reducible refine all_v ?_; intro _) | ((with_reducible refine gE ?_); (try simp (disch := omega) only [go_sem]) <;> first | rfl | omega) | with_reducible refine t_in_other (by decide) ?_ | ((with_reducible apply gy1); iterate 3 focus rfl) | ((with_reducible apply gy2); iterate 3 focus rfl) | ((with_reducible apply gy3); iterate 2 focus rfl) | ((with_reducible apply gy4); iterate 1 focus rfl) | ((with_reducible apply gy5); iterate 4 focus rfl) | ((with_reducible apply gy6); iterate 4 focus rfl) | ((with_reducible apply d_bar); iterate 3 focus rfl) | ((with_reducible apply q_pub); iterate 1 focus rfl) | ((with_reducible apply gy7); iterate 1 focus rfl) | ((with_reducible apply gy9); (focus ((with_reducible refine gE ?_); (try simp (disch := omega) only [go_sem]) <;> rfl))) | ((with_reducible apply gz1); (focus first | rfl | (simp (disch := omega) only [go_sem]; done))) | ((with_reducible apply r_drawD (pickR [(1, .agg [.v (.bool false), lim (toL z.natAbs)]), (3, .agg [.v (.bool true), lim (toL w.natAbs)])]) [4,5] []); (focus kernel_rfl); (focus rfl); (focus kernel_rfl); (focus (simp only [List.length_cons, List.length_nil, Nat.reduceAdd]; rfl)))))
      simp (disch := omega) only [go_sem]
    · have hc : cmpZ z w = cmpN z.natAbs w.natAbs := by
        unfold cmpZ cmpN
        have e1 : (z < w) ↔ (z.natAbs < w.natAbs) := by omega
        have e2 : (w < z) ↔ (w.natAbs < z.natAbs) := by omega
        simp only [e1, e2]
      rw [hc]
      rw [intZ_pos h1] at c1 ⊢
      rw [intZ_pos h2] at c2 ⊢
      refine pure_intro (tok := 0) Tryz.func197 rfl Tryz.ntmps197 Tryz.results197 Tryz.call197 (by rfl) (by simp) ?_
      (repeat' (first | (with_reducible first | refine stp ?_ | apply gx1 | apply gx2 | apply gx3 | apply gx4 | apply gx5 | apply gx6 | apply gx7 | apply gy8 | apply gz2 | apply gz3 | refine gw0 (c1) ?_ ?_ | refine gw3 (c1) ?_ ?_ ?_ | refine gw0 (c2) ?_ ?_ | refine gw3 (c2) ?_ ?_ ?_ | refine gw0 (ca) ?_ ?_ | refine gw3 (ca) ?_ ?_ ?_) | (with_reducible refine all_v ?_; intro _) | ((with_reducible refine gE ?_); (try simp (disch := omega) only [go_sem]) <;> first | rfl | omega) | with_reducible refine t_in_other (by decide) ?_ | ((with_reducible apply gy1); iterate 3 focus rfl) | ((with_reducible apply gy2); iterate 3 focus rfl) | ((with_reducible apply gy3); iterate 2 focus rfl) | ((with_reducible apply gy4); iterate 1 focus rfl) | ((with_reducible apply gy5); iterate 4 focus rfl) | ((with_reducible apply gy6); iterate 4 focus rfl) | ((with_reducible apply d_bar); iterate 3 focus rfl) | ((with_reducible apply q_pub); iterate 1 focus rfl) | ((with_reducible apply gy7); iterate 1 focus rfl) | ((with_reducible apply gy9); (focus ((with_reducible refine gE ?_); (try simp (disch := omega) only [go_sem]) <;> rfl))) | ((with_reducible apply gz1); (focus first | rfl | (simp (disch := omega) only [go_sem]; done))) | ((with_reducible apply r_drawD (pickR [(1, .agg [.v (.bool false), lim (toL z.natAbs)]), (3, .agg [.v (.bool false), lim (toL w.natAbs)])]) [4,5] []); (focus kernel_rfl); (focus rfl); (focus kernel_rfl); (focus (simp only [List.length_cons, List.length_nil, Nat.reduceAdd]; rfl)))))
      simp (disch := omega) only [go_sem]

theorem zMul (s t : Bool) (n m : Nat) (hn : (toL n).length ≤ 40000000) (hm : (toL m).length ≤ 40000000) : Pure Tryz.prog 193 [intA s n, intA t m] (intZ (zI s n * zI t m)) := by
  have e : zI s n * zI t m = zI (s != t) (n * m) := by cases s <;> cases t <;> simp [zI, Int.mul_neg, Int.neg_mul]
  have lm := lg_mul n m
  have hne : (!(s == t)) = (s != t) := rfl
  rw [e]
  refine pure_intro (tok := 0) Tryz.func193 rfl Tryz.ntmps193 Tryz.results193 Tryz.call193 (by rfl) (by simp) ?_
  (repeat' (first | (with_reducible first | refine stp ?_ | apply gx1 | apply gx2 | apply gx3 | apply gx4 | apply gx5 | apply gx6 | apply gx7 | apply gy8 | apply gz2 | apply gz3 | refine gw0 (rMul n m (by omega) (by omega)) ?_ ?_ | refine gw3 (rMul n m (by omega) (by omega)) ?_ ?_ ?_ | refine gw0 (zOf' (s != t) (n * m) (by omega)) ?_ ?_ | refine gw3 (zOf' (s != t) (n * m) (by omega)) ?_ ?_ ?_) | (with_reducible refine all_v ?_; intro _) | ((with_reducible refine gE ?_); (try simp (disch := omega) only [go_sem, hne]) <;> first | rfl | omega) | with_reducible refine t_in_other (by decide) ?_ | ((with_reducible apply gy1); iterate 3 focus rfl) | ((with_reducible apply gy2); iterate 3 focus rfl) | ((with_reducible apply gy3); iterate 2 focus rfl) | ((with_reducible apply gy4); iterate 1 focus rfl) | ((with_reducible apply gy5); iterate 4 focus rfl) | ((with_reducible apply gy6); iterate 4 focus rfl) | ((with_reducible apply d_bar); iterate 3 focus rfl) | ((with_reducible apply q_pub); iterate 1 focus rfl) | ((with_reducible apply gy7); iterate 1 focus rfl) | ((with_reducible apply gy9); (focus ((with_reducible refine gE ?_); (try simp (disch := omega) only [go_sem, hne]) <;> rfl))) | ((with_reducible apply gz1); (focus first | rfl | (simp (disch := omega) only [go_sem, hne]; done))) | ((with_reducible apply r_drawD (pickR [(9, lim (toL (n * m))), (10, intZ (zI (s != t) (n * m)))]) [11] []); (focus kernel_rfl); (focus rfl); (focus kernel_rfl); (focus (simp only [List.length_cons, List.length_nil, Nat.reduceAdd]; rfl)))))
  simp (disch := omega) only [go_sem]

set_option maxHeartbeats 1000000 in
theorem zAdd (s t : Bool) (n m : Nat) (hn : (toL n).length ≤ 40000000) (hm : (toL m).length ≤ 40000000) : Pure Tryz.prog 194 [intA s n, intA t m] (intZ (zI s n + zI t m)) := by
  by_cases hst : s = t
  · subst hst
    have e : zI s n + zI s m = zI s (n + m) := by cases s <;> simp [zI] <;> omega
    have la := lg_add n m
    rw [e]
    have hb : (s == s) = true := by cases s <;> rfl
    refine pure_intro (tok := 0) Tryz.func194 rfl Tryz.ntmps194 Tryz.results194 Tryz.call194 (by rfl) (by simp) ?_
    (repeat' (first | (with_reducible first | refine stp ?_ | apply gx1 | apply gx2 | apply gx3 | apply gx4 | apply gx5 | apply gx6 | apply gx7 | apply gy8 | apply gz2 | apply gz3 | refine gw0 (rAdd n m (by omega) (by omega)) ?_ ?_ | refine gw3 (rAdd n m (by omega) (by omega)) ?_ ?_ ?_ | refine gw0 (zOf' s (n + m) (by omega)) ?_ ?_ | refine gw3 (zOf' s (n + m) (by omega)) ?_ ?_ ?_) | (with_reducible refine all_v ?_; intro _) | ((with_reducible refine gE ?_); (try simp (disch := omega) only [go_sem, hb]) <;> first | rfl | omega) | with_reducible refine t_in_other (by decide) ?_ | ((with_reducible apply gy1); iterate 3 focus rfl) | ((with_reducible apply gy2); iterate 3 focus rfl) | ((with_reducible apply gy3); iterate 2 focus rfl) | ((with_reducible apply gy4); iterate 1 focus rfl) | ((with_reducible apply gy5); iterate 4 focus rfl) | ((with_reducible apply gy6); iterate 4 focus rfl) | ((with_reducible apply d_bar); iterate 3 focus rfl) | ((with_reducible apply q_pub); iterate 1 focus rfl) | ((with_reducible apply gy7); iterate 1 focus rfl) | ((with_reducible apply gy9); (focus ((with_reducible refine gE ?_); (try simp (disch := omega) only [go_sem, hb]) <;> rfl))) | ((with_reducible apply gz1); (focus first | rfl | (simp (disch := omega) only [go_sem, hb]; done))) | ((with_reducible apply r_drawD (pickR [(6, lim (toL (n + m))), (7, intZ (zI s (n + m)))]) [8] []); (focus kernel_rfl); (focus rfl); (focus kernel_rfl); (focus (simp only [List.length_cons, List.length_nil, Nat.reduceAdd]; rfl)))))
    simp (disch := omega) only [go_sem]
  · have hb : (s == t) = false := by cases s <;> cases t <;> first | rfl | exact absurd rfl hst
    have ht : t = !s := by cases s <;> cases t <;> first | rfl | exact absurd rfl hst
    have c1 := rSub n m (by omega) (by omega)
    have c2 := rSub m n (by omega) (by omega)
    by_cases hlt : n < m
    · have e : zI s n + zI t m = zI t (m - n) := by rw [ht]; cases s <;> simp [zI] <;> omega
      have ls : (toL (m - n)).length ≤ 100000000 := Nat.le_trans (lg_mono (Nat.sub_le _ _)) (by omega)
      rw [if_pos hlt, if_pos hlt] at c1
      rw [if_neg (by omega), if_neg (by omega)] at c2
      rw [e]
      refine pure_intro (tok := 0) Tryz.func194 rfl Tryz.ntmps194 Tryz.results194 Tryz.call194 (by rfl) (by simp) ?_
      (focus (refine wkvd (w_a hb w_t) (w_a c1 (w_a c2 (w_a (zOf' t (m - n) ls) w_t))) w_t ?_; (repeat' first | exact w_t | apply w_l); all_goals intros))
      simp (disch := omega) only [go_sem]
    · have e : zI s n + zI t m = zI s (n - m) := by rw [ht]; cases s <;> simp [zI] <;> omega
      have ls : (toL (n - m)).length ≤ 100000000 := Nat.le_trans (lg_mono (Nat.sub_le _ _)) (by omega)
      rw [if_neg hlt, if_neg hlt] at c1
      rw [e]
      refine pure_intro (tok := 0) Tryz.func194 rfl Tryz.ntmps194 Tryz.results194 Tryz.call194 (by rfl) (by simp) ?_
      (focus (refine wkvd (w_a hb w_t) (w_a c1 (w_a (zOf' s (n - m) ls) w_t)) w_t ?_; (repeat' first | exact w_t | apply w_l); all_goals intros))
      simp (disch := omega) only [go_sem]


end Go.Proofs.YtbgmnobnaplmlaaGreat
end

section
namespace Go.Proofs.YtbgmnobnaplmlaaGreat
open Go Go.RowKit Go.Pg
set_option linter.unusedSimpArgs false
set_option linter.unusedVariables false
set_option maxRecDepth 20000
attribute [local go_sem] Tryz.underlying39 Tryz.underlying3 Tryz.underlying178 Tryz.underlying115 Tryz.underlying4 Tryz.underlying41 Tryz.underlying43 Tryz.underlying31 sz3 by3 z3 szL byL zL szB zB szNat zNat szInt zInt szRat zRat Tryz.underlying254
attribute [-bool_to_prop] Bool.and_eq_decide Bool.or_eq_decide Bool.decide_beq_decide decide_eq_decide

theorem gcd_le_l (n m : Nat) (h : m ≠ 0) : Nat.gcd n m ≠ 0 := Nat.ne_of_gt (Nat.gcd_pos_of_pos_right _ (Nat.pos_of_ne_zero h))
theorem intZ_div (s : Bool) (n g : Nat) (hg : g ∣ n) (h0 : g ≠ 0) : intZ (zI s (n / g)) = .agg [.v (.bool (decide (zI s n < 0))), lim (toL (n / g))] := by
  rw [intZ_of, zI_lt]
  have : (0 < n / g) ↔ (0 < n) := by
    obtain ⟨k, rfl⟩ := hg
    rw [Nat.mul_div_cancel_left _ (Nat.pos_of_ne_zero h0)]
    constructor
    · intro h; exact Nat.mul_pos (Nat.pos_of_ne_zero h0) h
    · intro h; exact Nat.pos_of_ne_zero fun e => by rw [e] at h; simp at h
  simp only [this]

set_option maxHeartbeats 1000000 in
theorem qOver (s : Bool) (n m : Nat) (hn : (toL n).length ≤ 10000000) (hm : (toL m).length ≤ 10000000) (h0 : m ≠ 0) : Pure Tryz.prog 55 [intA s n, lim (toL m)] (ratQ (mkRat (zI s n) m)) := by
  rw [ratQ_mk _ _ h0, zI_natAbs]
  have g0 := gcd_le_l n m h0
  have hgd := Nat.gcd_dvd_left n m
  have hmp := toL_len_pos.2 (Nat.pos_of_ne_zero h0)
  have hg : (toL (Nat.gcd n m)).length ≤ 10000000 := Nat.le_trans (lg_mono (Nat.le_of_dvd (by omega) (Nat.gcd_dvd_right _ _))) hm
  have hq : (toL (n / Nat.gcd n m)).length ≤ 10000000 := Nat.le_trans (lg_mono (Nat.div_le_self _ _)) hn
  have cg := rGcd n m (by omega) (by omega)
  have c1 := rDivMod n (Nat.gcd n m) (by omega) (by omega) g0
  have c2 := rDivMod m (Nat.gcd n m) (by omega) (by omega) g0
  have cn := zNorm s (n / Nat.gcd n m) (by omega)
  rw [intZ_div s n _ hgd g0] at cn
  refine pure_intro (tok := 0) Tryz.func55 rfl Tryz.ntmps55 Tryz.results55 Tryz.call55 (by rfl) (by simp) ?_
  (focus (refine wkvp w_t (w_a (rNorm m (by omega)) (w_a cg (w_a c1 (w_a c2 (w_a cn w_t))))) ?_; (repeat' first | exact w_t | apply w_l); all_goals intros))
  simp (disch := omega) only [go_sem]

theorem qNorm (q : Rat) {k : Nat} (h : Sz q k) (hk : k ≤ 10000000) : Pure Tryz.prog 185 [ratQ q] (ratQ q) := by
  have c := qOver (decide (q.num < 0)) q.num.natAbs q.den (Nat.le_trans h.1 hk) (Nat.le_trans h.2 hk) q.den_nz
  rw [zI_abs, Rat.mkRat_self] at c
  refine pure_intro (tok := 0) Tryz.func185 rfl Tryz.ntmps185 Tryz.results185 Tryz.call185 (by rfl) (by simp) ?_
  (focus (refine wkvp w_t (w_a c w_t) ?_; (repeat' first | exact w_t | apply w_l); all_goals intros))
  simp (disch := omega) only [go_sem]

theorem qWhole (n : Nat) : Pure Tryz.prog 195 [lim (toL n)] (intA false n) := by
  refine pure_intro (tok := 0) Tryz.func195 rfl Tryz.ntmps195 Tryz.results195 Tryz.call195 (by rfl) (by simp) ?_
  (focus (refine wkvp w_t w_t ?_; (repeat' first | exact w_t | apply w_l); all_goals intros))
  simp (disch := omega) only [go_sem]


theorem qOf (n : Nat) (hn : n < 9223372036854775808) : Pure Tryz.prog 18 [.v (.int .i64 (n : Int))] (ratQ (n : Rat)) := by
  have l4 : (toL n).length ≤ 4 := toL_len_lt.2 (by omega)
  have c := qOver false n 1 (by omega) (by rw [lg_one]; omega) (by omega)
  have e : mkRat (zI false n) 1 = (n : Rat) := by
    have := Rat.mkRat_self (n : Rat)
    exact this
  rw [e] at c
  refine pure_intro (tok := 0) Tryz.func18 rfl Tryz.ntmps18 Tryz.results18 Tryz.call18 (by rfl) (by simp) ?_
  (focus (refine wkvp w_t (w_a (zOf n hn) (w_a (refOf 1 (by omega)) (w_a c w_t))) ?_; (repeat' first | exact w_t | apply w_l); all_goals intros))
  simp (disch := omega) only [go_sem]

theorem qMul (a b : Rat) {j k : Nat} (ha : Sz a j) (hb : Sz b k) (hj : j ≤ 2000000) (hk : k ≤ 2000000) : Pure Tryz.prog 129 [ratQ a, ratQ b] (ratQ (a * b)) := by
  obtain ⟨a1, a2⟩ := id ha
  obtain ⟨b1, b2⟩ := id hb
  have l1 : (toL (a.num * b.num).natAbs).length ≤ j + k := by rw [Int.natAbs_mul]; exact Nat.le_trans (lg_mul _ _) (by omega)
  have l2 : (toL (a.den * b.den)).length ≤ j + k := Nat.le_trans (lg_mul _ _) (by omega)
  have c := qOver (decide (a.num * b.num < 0)) (a.num * b.num).natAbs (a.den * b.den) (by omega) (by omega) (Nat.mul_ne_zero a.den_nz b.den_nz)
  rw [zI_abs, ← Rat.mul_def'] at c
  have cz := zMul (decide (a.num < 0)) (decide (b.num < 0)) a.num.natAbs b.num.natAbs (by omega) (by omega)
  rw [zI_abs, zI_abs] at cz
  have cd := rMul a.den b.den (by omega) (by omega)
  generalize a * b = q at *
  generalize a.num * b.num = y at *
  refine pure_intro (tok := 0) Tryz.func129 rfl Tryz.ntmps129 Tryz.results129 Tryz.call129 (by rfl) (by simp) ?_
  (repeat' (first | (with_reducible first | refine stp ?_ | apply gx1 | apply gx2 | apply gx3 | apply gx4 | apply gx5 | apply gx6 | apply gx7 | apply gy8 | apply gz2 | apply gz3 | refine gw0 (cz) ?_ ?_ | refine gw3 (cz) ?_ ?_ ?_ | refine gw0 (cd) ?_ ?_ | refine gw3 (cd) ?_ ?_ ?_ | refine gw0 (c) ?_ ?_ | refine gw3 (c) ?_ ?_ ?_) | (with_reducible refine all_v ?_; intro _) | ((with_reducible refine gE ?_); (try simp (disch := omega) only [go_sem]) <;> first | rfl | omega) | with_reducible refine t_in_other (by decide) ?_ | ((with_reducible apply gy1); iterate 3 focus rfl) | ((with_reducible apply gy2); iterate 3 focus rfl) | ((with_reducible apply gy3); iterate 2 focus rfl) | ((with_reducible apply gy4); iterate 1 focus rfl) | ((with_reducible apply gy5); iterate 4 focus rfl) | ((with_reducible apply gy6); iterate 4 focus rfl) | ((with_reducible apply d_bar); iterate 3 focus rfl) | ((with_reducible apply q_pub); iterate 1 focus rfl) | ((with_reducible apply gy7); iterate 1 focus rfl) | ((with_reducible apply gy9); (focus ((with_reducible refine gE ?_); (try simp (disch := omega) only [go_sem]) <;> rfl))) | ((with_reducible apply gz1); (focus first | rfl | (simp (disch := omega) only [go_sem]; done))) | ((with_reducible apply r_drawD (pickR [(4, intZ y), (9, lim (toL (a.den * b.den))), (10, ratQ q)]) [11] []); (focus kernel_rfl); (focus rfl); (focus kernel_rfl); (focus (simp only [List.length_cons, List.length_nil, Nat.reduceAdd]; rfl)))))
  simp (disch := omega) only [go_sem]

set_option maxHeartbeats 1000000 in
theorem qAdd (a b : Rat) {j k : Nat} (ha : Sz a j) (hb : Sz b k) (hj : j ≤ 2000000) (hk : k ≤ 2000000) : Pure Tryz.prog 131 [ratQ a, ratQ b] (ratQ (a + b)) := by
  obtain ⟨a1, a2⟩ := id ha
  obtain ⟨b1, b2⟩ := id hb
  have na := qNorm a ha (by omega)
  have nb := qNorm b hb (by omega)
  have cm1 := zMul (decide (a.num < 0)) false a.num.natAbs b.den (by omega) (by omega)
  have cm2 := zMul (decide (b.num < 0)) false b.num.natAbs a.den (by omega) (by omega)
  rw [zI_abs] at cm1 cm2
  have cm1 : Pure Tryz.prog 193 [intZ a.num, intA false b.den] (intZ (a.num * b.den)) := cm1
  have cm2 : Pure Tryz.prog 193 [intZ b.num, intA false a.den] (intZ (b.num * a.den)) := cm2
  have x1 : (toL (a.num * b.den).natAbs).length ≤ j + k := lg_cross a b ha hb
  have x2 : (toL (b.num * a.den).natAbs).length ≤ k + j := lg_cross b a hb ha
  have l1 : (toL (a.num * b.den + b.num * a.den).natAbs).length ≤ j + k + 1 := by
    have h3 := lg_mono (natAbs_add_le (a.num * b.den) (b.num * a.den))
    have h4 := lg_add (a.num * b.den).natAbs (b.num * a.den).natAbs
    omega
  have l2 : (toL (a.den * b.den)).length ≤ j + k := Nat.le_trans (lg_mul _ _) (by omega)
  have ca := zAdd (decide (a.num * b.den < 0)) (decide (b.num * a.den < 0)) (a.num * b.den).natAbs (b.num * a.den).natAbs (by omega) (by omega)
  rw [zI_abs, zI_abs] at ca
  have c := qOver (decide (a.num * b.den + b.num * a.den < 0)) (a.num * b.den + b.num * a.den).natAbs (a.den * b.den) (by omega) (by omega) (Nat.mul_ne_zero a.den_nz b.den_nz)
  rw [zI_abs, ← Rat.add_def'] at c
  have cw1 := qWhole b.den
  have cw2 := qWhole a.den
  have cd := rMul a.den b.den (by omega) (by omega)
  generalize a + b = q at *
  generalize a.num * (b.den : Int) = y1 at *
  generalize b.num * (a.den : Int) = y2 at *
  refine pure_intro (tok := 0) Tryz.func131 rfl Tryz.ntmps131 Tryz.results131 Tryz.call131 (by rfl) (by simp) ?_
  (focus (refine wkvp w_t w_t ?_; (repeat' first | exact w_t | apply w_l); all_goals intros))
  apply r_drawD (pickR [(1, ratQ a), (3, ratQ b)]) [4, 5] [] (by kernel_rfl) (by rfl) (by kernel_rfl); (focus (simp only [List.length_cons, List.length_nil, Nat.reduceAdd]; rfl))
  (focus (refine wkud w_t (w_a na (w_a nb w_t)) ?_; (repeat' first | exact w_t | apply w_l); all_goals intros))
  apply r_drawD (pickR [(4, intA false b.den), (5, intZ y1), (10, intA false a.den), (11, intZ y2), (12, intZ (y1 + y2)), (17, lim (toL (a.den * b.den))), (18, ratQ q)]) [19] [] (by kernel_rfl) (by rfl) (by kernel_rfl); (focus (simp only [List.length_cons, List.length_nil, Nat.reduceAdd]; rfl))
  (focus (refine wkud w_t (w_a cw1 (w_a cm1 (w_a cw2 (w_a cm2 (w_a ca (w_a cd (w_a c w_t))))))) ?_; (repeat' first | exact w_t | apply w_l); all_goals intros))
  simp (disch := omega) only [go_sem]

set_option maxHeartbeats 1000000 in
theorem qCmp (a b : Rat) {j k : Nat} (ha : Sz a j) (hb : Sz b k) (hj : j ≤ 2000000) (hk : k ≤ 2000000) : Pure Tryz.prog 134 [ratQ a, ratQ b] (.v (.int .i64 (cmpQ a b))) := by
  obtain ⟨a1, a2⟩ := id ha
  obtain ⟨b1, b2⟩ := id hb
  have na := qNorm a ha (by omega)
  have nb := qNorm b hb (by omega)
  have cm1 := zMul (decide (a.num < 0)) false a.num.natAbs b.den (by omega) (by omega)
  have cm2 := zMul (decide (b.num < 0)) false b.num.natAbs a.den (by omega) (by omega)
  rw [zI_abs] at cm1 cm2
  have cm1 : Pure Tryz.prog 193 [intZ a.num, intA false b.den] (intZ (a.num * b.den)) := cm1
  have cm2 : Pure Tryz.prog 193 [intZ b.num, intA false a.den] (intZ (b.num * a.den)) := cm2
  have x1 : (toL (a.num * b.den).natAbs).length ≤ j + k := lg_cross a b ha hb
  have x2 : (toL (b.num * a.den).natAbs).length ≤ k + j := lg_cross b a hb ha
  have cc := zCmp (a.num * b.den) (b.num * a.den) (by omega) (by omega)
  rw [cmpQ_z]
  have cw1 := qWhole b.den
  have cw2 := qWhole a.den
  generalize a.num * (b.den : Int) = y1 at *
  generalize b.num * (a.den : Int) = y2 at *
  refine pure_intro (tok := 0) Tryz.func134 rfl Tryz.ntmps134 Tryz.results134 Tryz.call134 (by rfl) (by simp) ?_
  (focus (refine wkvp w_t w_t ?_; (repeat' first | exact w_t | apply w_l); all_goals intros))
  apply r_drawD (pickR [(1, ratQ a), (3, ratQ b)]) [4, 5] [] (by kernel_rfl) (by rfl) (by kernel_rfl); (focus (simp only [List.length_cons, List.length_nil, Nat.reduceAdd]; rfl))
  (focus (refine wkud w_t (w_a na (w_a nb w_t)) ?_; (repeat' first | exact w_t | apply w_l); all_goals intros))
  apply r_drawD (pickR [(4, intA false b.den), (5, intZ y1), (10, intA false a.den), (11, intZ y2), (12, .v (.int .i64 (cmpZ y1 y2)))]) [] [] (by kernel_rfl) (by rfl) (by kernel_rfl); (focus (simp only [List.length_cons, List.length_nil, Nat.reduceAdd]; rfl))
  (focus (refine wkud w_t (w_a cw1 (w_a cm1 (w_a cw2 (w_a cm2 (w_a cc w_t))))) ?_; (repeat' first | exact w_t | apply w_l); all_goals intros))
  simp (disch := omega) only [go_sem]





end Go.Proofs.YtbgmnobnaplmlaaGreat
end

section
namespace Go.Proofs.YtbgmnobnaplmlaaGreat
open Go Go.RowKit Go.Pg
set_option linter.unusedSimpArgs false
set_option linter.unusedVariables false
set_option maxRecDepth 20000
attribute [local go_sem] Tryz.underlying39 Tryz.underlying3 Tryz.underlying178 Tryz.underlying115 Tryz.underlying4 Tryz.underlying41 Tryz.underlying43 Tryz.underlying31 sz3 by3 z3 szL byL zL szB zB szNat zNat szInt zInt szRat zRat
attribute [-bool_to_prop] Bool.and_eq_decide Bool.or_eq_decide Bool.decide_beq_decide decide_eq_decide

/-- A number as it comes in. -/
structure RQ where
  s : Bool
  l : List Nat
  d : List Nat
def RQ.lm (r : RQ) (k : Nat) : Prop := Lm r.l ∧ Lm r.d ∧ r.l.length ≤ k ∧ r.d.length ≤ k
abbrev RQ.av (r : RQ) : AV := .agg [.v (.bool r.s), lim r.l, lim r.d]
def RQ.zok (s : Bool) (l : List Nat) : Bool := valL l && !(s && decide (l.length = 0))
def RQ.ok (r : RQ) : Bool := RQ.zok r.s r.l && valL r.d && (Nat.gcd (nv r.l) (nv r.d) == 1) && decide (0 < r.d.length)
def RQ.q (r : RQ) : Rat := mkRat (zI r.s (nv r.l)) (nv r.d)
theorem RQ.ok_av {r : RQ} {k : Nat} (hl : r.lm k) (h : r.ok = true) : r.av = ratQ r.q ∧ Sz r.q k := by
  obtain ⟨s, l, d⟩ := r
  obtain ⟨h1, h2, h3, h4⟩ := hl
  simp only [RQ.ok, RQ.zok, Bool.and_eq_true, decide_eq_true_eq, Bool.not_eq_true', beq_iff_eq] at h
  obtain ⟨⟨⟨⟨v1, v2⟩, v3⟩, v4⟩, v5⟩ := h
  have e1 := (valL_iff h1).1 v1
  have e2 := (valL_iff h2).1 v3
  simp only [RQ.av, RQ.q] at *
  generalize nv l = n at *
  generalize nv d = m at *
  subst e1
  subst e2
  have hm : m ≠ 0 := by have := toL_len_pos.1 v5; omega
  have hs : decide (zI s n < 0) = s := by
    rw [zI_lt]
    cases s
    · rfl
    · have : (toL n).length ≠ 0 := by simpa using v2
      rw [decide_eq_true (toL_len_pos.1 (by omega))]
      rfl
  refine ⟨?_, Sz.mk (by rw [zI_natAbs]; exact h3) h4 (by omega)⟩
  rw [ratQ_mk _ _ hm, zI_natAbs, v4, Nat.div_one, Nat.div_one, hs]
theorem toL_inj {a b : Nat} : toL a = toL b ↔ a = b := ⟨fun h => by rw [← nv_toL a, h, nv_toL], fun h => by rw [h]⟩

theorem zRight (s : Bool) (l : List Nat) (hs : l.length ≤ 100000000) (hl : Lm l) : Pure Tryz.prog 161 [.agg [.v (.bool s), lim l]] (.v (.bool (RQ.zok s l))) := by
  have cv := refValid l (by omega) hl
  unfold RQ.zok
  generalize valL l = v at *
  cases v
  · refine pure_intro (tok := 0) Tryz.func161 rfl Tryz.ntmps161 Tryz.results161 Tryz.call161 (by rfl) (by simp) ?_
    (focus (refine wkvp (w_a @Bool.false_and w_t) (w_a cv w_t) ?_; (repeat' first | exact w_t | apply w_l); all_goals intros))
    simp (disch := omega) only [go_sem, Bool.false_and]
  · cases s
    · refine pure_intro (tok := 0) Tryz.func161 rfl Tryz.ntmps161 Tryz.results161 Tryz.call161 (by rfl) (by simp) ?_
      (focus (refine wkvp (w_a @Bool.false_and w_t) (w_a cv w_t) ?_; (repeat' first | exact w_t | apply w_l); all_goals intros))
      simp (disch := omega) only [go_sem, Bool.false_and]
    · by_cases h0 : l.length = 0
      · refine pure_intro (tok := 0) Tryz.func161 rfl Tryz.ntmps161 Tryz.results161 Tryz.call161 (by rfl) (by simp) ?_
        (focus (refine wkvp (w_a h0 (w_a @Int.natCast_zero w_t)) (w_a cv w_t) ?_; (repeat' first | exact w_t | apply w_l); all_goals intros))
        simp (disch := omega) only [go_sem, h0]
      · refine pure_intro (tok := 0) Tryz.func161 rfl Tryz.ntmps161 Tryz.results161 Tryz.call161 (by rfl) (by simp) ?_
        (focus (refine wkvp w_t (w_a cv w_t) ?_; (repeat' first | exact w_t | apply w_l); all_goals intros))
        simp (disch := omega) only [go_sem, h0, decide_eq_false h0]

set_option maxHeartbeats 1000000 in
theorem qRight (s : Bool) (l d : List Nat) (h1 : Lm l) (h2 : Lm d) (h3 : l.length ≤ 100000000) (h4 : d.length ≤ 100000000) : Pure Tryz.prog 86 [.agg [.v (.bool s), lim l, lim d]] (.v (.bool (RQ.ok ⟨s, l, d⟩))) := by
  have cz := zRight s l h3 h1
  have cv := refValid d (by omega) h2
  have cg := refGcd l d (by omega) (by omega) h1 h2
  have hgl : (toL (Nat.gcd (nv l) (nv d))).length ≤ 100000000 := by
    have l1 := toL_len_le h1
    have l2 := toL_len_le h2
    by_cases hd : nv d = 0
    · rw [hd, Nat.gcd_zero_right]; omega
    · exact Nat.le_trans (lg_mono (Nat.gcd_le_right _ (by omega))) (by omega)
  have cs := refSameN (toL (Nat.gcd (nv l) (nv d))) (toL 1) (by omega) (by rw [lg_one]; omega) (lm_toL _) (lm_toL _)
  rw [show decide (toL (Nat.gcd (nv l) (nv d)) = toL 1) = (Nat.gcd (nv l) (nv d) == 1) from by rw [Bool.eq_iff_iff, decide_eq_true_eq, beq_iff_eq]; exact toL_inj] at cs
  unfold RQ.ok
  generalize RQ.zok s l = v at *
  simp only
  generalize Nat.gcd (nv l) (nv d) = g at *
  cases v
  · refine pure_intro (tok := 0) Tryz.func86 rfl Tryz.ntmps86 Tryz.results86 Tryz.call86 (by rfl) (by simp) ?_
    (focus (refine wkvp (w_a @Bool.false_and w_t) (w_a cz w_t) ?_; (repeat' first | exact w_t | apply w_l); all_goals intros))
    simp (disch := omega) only [go_sem, Bool.false_and]
  · generalize valL d = v at *
    cases v
    · refine pure_intro (tok := 0) Tryz.func86 rfl Tryz.ntmps86 Tryz.results86 Tryz.call86 (by rfl) (by simp) ?_
      (focus (refine wkvp (w_a @Bool.false_and w_t) (w_a cz (w_a cv w_t)) ?_; (repeat' first | exact w_t | apply w_l); all_goals intros))
      simp (disch := omega) only [go_sem, Bool.false_and]
    · by_cases hg : g = 1
      · have hgb : (g == 1) = true := by rw [beq_iff_eq]; exact hg
        rw [hgb] at cs ⊢
        by_cases hd : 0 < d.length
        · rw [decide_eq_true hd]
          refine pure_intro (tok := 0) Tryz.func86 rfl Tryz.ntmps86 Tryz.results86 Tryz.call86 (by rfl) (by simp) ?_
          (focus (refine wkvp w_t (w_a cz (w_a cv (w_a cg (w_a (refOf 1 (by omega)) (w_a cs w_t))))) ?_; (repeat' first | exact w_t | apply w_l); all_goals intros))
          simp (disch := omega) only [go_sem]
        · rw [decide_eq_false hd]
          refine pure_intro (tok := 0) Tryz.func86 rfl Tryz.ntmps86 Tryz.results86 Tryz.call86 (by rfl) (by simp) ?_
          (focus (refine wkvp w_t (w_a cz (w_a cv (w_a cg (w_a (refOf 1 (by omega)) (w_a cs w_t))))) ?_; (repeat' first | exact w_t | apply w_l); all_goals intros))
          simp (disch := omega) only [go_sem, Bool.and_false]
      · have hgb : (g == 1) = false := by rw [beq_eq_false_iff_ne]; exact hg
        rw [hgb] at cs ⊢
        refine pure_intro (tok := 0) Tryz.func86 rfl Tryz.ntmps86 Tryz.results86 Tryz.call86 (by rfl) (by simp) ?_
        (focus (refine wkvp (w_a @Bool.and_false (w_a @Bool.false_and w_t)) (w_a cz (w_a cv (w_a cg (w_a (refOf 1 (by omega)) (w_a cs w_t))))) ?_; (repeat' first | exact w_t | apply w_l); all_goals intros))
        simp (disch := omega) only [go_sem, Bool.and_false, Bool.false_and]
end Go.Proofs.YtbgmnobnaplmlaaGreat
end

section
namespace Go.Proofs.YtbgmnobnaplmlaaGreat
open Go Go.RowKit Go.Pg
set_option linter.unusedSimpArgs false
set_option linter.unusedVariables false
set_option maxRecDepth 20000
attribute [-bool_to_prop] Bool.and_eq_decide Bool.or_eq_decide Bool.decide_beq_decide decide_eq_decide
section
variable {N n : Nat} {cs : List AV}
theorem agN16 : aggTy Tryz.prog 178 = false := by kernel_rfl
theorem cs16 : Tryz.prog.cellsOf 178 = 1 := by kernel_rfl
theorem shNat (h : Shape Tryz.prog N n 39 cs) : ∃ l : List Nat, cs = [lim l] ∧ Lm l ∧ l.length ≤ N := by
  obtain ⟨bs, rfl, hl, hq⟩ := shape_sliceOf (g := fun k : Nat => [AV.v (.int .u16 (k : Int))]) (Q := fun k => k < 65536) Tryz.underlying39 h fun m x hx => by
    obtain ⟨i, rfl, hw⟩ := shape_int Tryz.underlying178 hx
    have := wf_u16 hw
    exact ⟨i.toNat, by rw [Int.toNat_of_nonneg this.1], by omega⟩
  refine ⟨bs, ?_, hq, hl⟩
  rw [cs16]
  have : (bs.map fun b : Nat => wrapA Tryz.prog 178 [AV.v (.int .u16 (b : Int))]) = u16s bs := List.map_congr_left fun b _ => wrapA_one agN16 _
  rw [this]
theorem shInt (h : Shape Tryz.prog N n 41 cs) : ∃ (s : Bool) (l : List Nat), cs = [.v (.bool s), lim l] ∧ Lm l ∧ l.length ≤ N := by
  obtain ⟨m, rfl, hs⟩ := shape_struct Tryz.underlying41 (by kernel_rfl) h
  obtain ⟨x, y, rfl, h1, hs⟩ := hs.inv
  obtain ⟨z, y, rfl, h2, hs⟩ := hs.inv
  obtain rfl := hs.inv0
  obtain ⟨s, rfl⟩ := shape_bool Tryz.underlying4 h1
  obtain ⟨l, rfl, h3, h4⟩ := shNat h2
  exact ⟨s, l, rfl, h3, h4⟩
theorem shRat (h : Shape Tryz.prog N n 43 cs) : ∃ r : RQ, cs = [.v (.bool r.s), lim r.l, lim r.d] ∧ r.lm N := by
  obtain ⟨m, rfl, hs⟩ := shape_struct Tryz.underlying43 (by kernel_rfl) h
  obtain ⟨x, y, rfl, h1, hs⟩ := hs.inv
  obtain ⟨z, y, rfl, h2, hs⟩ := hs.inv
  obtain rfl := hs.inv0
  obtain ⟨s, l, rfl, h3, h4⟩ := shInt h1
  obtain ⟨d, rfl, h5, h6⟩ := shNat h2
  exact ⟨⟨s, l, d⟩, rfl, h3, h5, h4, h6⟩
/-- A point as it comes in. -/
structure RP where
  x : RQ
  y : RQ
abbrev RP.av (p : RP) : AV := .agg [.v (.bool p.x.s), lim p.x.l, lim p.x.d, .v (.bool p.y.s), lim p.y.l, lim p.y.d]
def RP.lm (p : RP) (k : Nat) : Prop := p.x.lm k ∧ p.y.lm k
end
end Go.Proofs.YtbgmnobnaplmlaaGreat
end

section
namespace Go.Proofs.YtbgmnobnaplmlaaGreat
open Go Go.RowKit Go.Pg
set_option linter.unusedSimpArgs false
set_option linter.unusedVariables false
set_option maxRecDepth 20000
attribute [-bool_to_prop] Bool.and_eq_decide Bool.or_eq_decide Bool.decide_beq_decide decide_eq_decide
abbrev iv (n : Int) : AV := .v (.int .i64 n)
abbrev strA (s : ByteArray) : AV := .v (.string s)
abbrev ivs (l : List Int) : AV := .sl 1 (l.map iv)
/-- A variable of a frame. -/
abbrev Vt := Int × Int × Int
abbrev Vt.av (v : Vt) : AV := .agg [iv v.1, iv v.2.1, iv v.2.2]
theorem getD_mapA {α : Type} {f : α → AV} {l : List α} {j : Nat} {d : α} (h : j < l.length) : (l.map f).getD j .u = f (l.getD j d) := by
  rw [List.getD_eq_getElem?_getD, List.getElem?_map, List.getElem?_eq_getElem h, List.getD_eq_getElem?_getD, List.getElem?_eq_getElem h]; rfl
theorem getD_mem {α : Type} {l : List α} {j : Nat} {d : α} (h : j < l.length) : l.getD j d ∈ l := by
  rw [List.getD_eq_getElem?_getD, List.getElem?_eq_getElem h]; exact List.getElem_mem h
theorem map_atB {α : Type} (f : α → AV) {l : List α} {k : Nat} (h : k < l.length) : (l.map f).getD k .u = f l[k] := by
  rw [List.getD_eq_getElem?_getD, List.getElem?_map, List.getElem?_eq_getElem h]; rfl
theorem szErr : szOf Tryz.prog 31 = some 1 := by kernel_rfl
theorem zErr : zeroOf Tryz.prog 31 = some (.int .i64 0) := by kernel_rfl

theorem szStr : szOf Tryz.prog 9 = some 1 := by kernel_rfl
theorem byStr : bytOf Tryz.prog 9 = some 16 := by kernel_rfl
theorem zStr : zeroOf Tryz.prog 9 = some (.string ByteArray.empty) := by kernel_rfl
theorem szVar : szOf Tryz.prog 56 = some 3 := by kernel_rfl
theorem byVar : bytOf Tryz.prog 56 = some 24 := by kernel_rfl
theorem zVar : zeroOf Tryz.prog 56 = some (.agg #[.int .i64 0, .int .i64 0, .int .i64 0]) := by kernel_rfl
theorem szFrame : szOf Tryz.prog 30 = some 2 := by kernel_rfl
theorem zFrame : zeroOf Tryz.prog 30 = some (.agg #[.slice none 0 0, .slice none 0 0]) := by kernel_rfl
theorem szFig : szOf Tryz.prog 25 = some 2 := by kernel_rfl
theorem zFig : zeroOf Tryz.prog 25 = some (.agg #[.slice none 0 0, .slice none 0 0]) := by kernel_rfl
theorem szTerm : szOf Tryz.prog 63 = some 4 := by kernel_rfl
theorem byTerm : bytOf Tryz.prog 63 = some 80 := by kernel_rfl
theorem zTerm : zeroOf Tryz.prog 63 = some (.agg #[.bool false, .slice none 0 0, .slice none 0 0, .slice none 0 0]) := by kernel_rfl
theorem szCoord : szOf Tryz.prog 72 = some 2 := by kernel_rfl
theorem byCoord : bytOf Tryz.prog 72 = some 48 := by kernel_rfl
theorem zCoord : zeroOf Tryz.prog 72 = some (.agg #[.slice none 0 0, .slice none 0 0]) := by kernel_rfl
theorem szStep : szOf Tryz.prog 50 = some 6 := by kernel_rfl
theorem byStep : bytOf Tryz.prog 50 = some 104 := by kernel_rfl
theorem zStep : zeroOf Tryz.prog 50 = some (.agg #[.int .i64 0, .string ByteArray.empty, .slice none 0 0, .bool false, .slice none 0 0, .slice none 0 0]) := by kernel_rfl
theorem szFact : szOf Tryz.prog 124 = some 5 := by kernel_rfl
theorem byFact : bytOf Tryz.prog 124 = some 88 := by kernel_rfl
theorem zFact : zeroOf Tryz.prog 124 = some (.agg #[.int .i64 0, .slice none 0 0, .bool false, .slice none 0 0, .slice none 0 0]) := by kernel_rfl
theorem szCVec : szOf Tryz.prog 107 = some 2 := by kernel_rfl
theorem byCVec : bytOf Tryz.prog 107 = some 48 := by kernel_rfl
theorem zCVec : zeroOf Tryz.prog 107 = some (.agg #[.slice none 0 0, .slice none 0 0]) := by kernel_rfl
theorem szCBld : szOf Tryz.prog 105 = some 3 := by kernel_rfl
theorem byCBld : bytOf Tryz.prog 105 = some 56 := by kernel_rfl
theorem zCBld : zeroOf Tryz.prog 105 = some (.agg #[.slice none 0 0, .slice none 0 0, .int .i64 0]) := by kernel_rfl
theorem szPoly : szOf Tryz.prog 70 = some 1 := by kernel_rfl
theorem byPoly : bytOf Tryz.prog 70 = some 24 := by kernel_rfl
theorem zPoly : zeroOf Tryz.prog 70 = some (.slice none 0 0) := by kernel_rfl
theorem szMono : szOf Tryz.prog 61 = some 1 := by kernel_rfl
theorem byMono : bytOf Tryz.prog 61 = some 24 := by kernel_rfl
theorem zMono : zeroOf Tryz.prog 61 = some (.slice none 0 0) := by kernel_rfl
theorem szSlI : szOf Tryz.prog 48 = some 1 := by kernel_rfl
theorem zSlI : zeroOf Tryz.prog 48 = some (.slice none 0 0) := by kernel_rfl
theorem szSlS : szOf Tryz.prog 22 = some 1 := by kernel_rfl
theorem zSlS : zeroOf Tryz.prog 22 = some (.slice none 0 0) := by kernel_rfl
theorem szSlF : szOf Tryz.prog 23 = some 1 := by kernel_rfl
theorem zSlF : zeroOf Tryz.prog 23 = some (.slice none 0 0) := by kernel_rfl
theorem szSlC : szOf Tryz.prog 27 = some 1 := by kernel_rfl
theorem zSlC : zeroOf Tryz.prog 27 = some (.slice none 0 0) := by kernel_rfl
theorem szSlV : szOf Tryz.prog 28 = some 1 := by kernel_rfl
theorem zSlV : zeroOf Tryz.prog 28 = some (.slice none 0 0) := by kernel_rfl
theorem szSlP : szOf Tryz.prog 78 = some 1 := by kernel_rfl
theorem zSlP : zeroOf Tryz.prog 78 = some (.slice none 0 0) := by kernel_rfl
end Go.Proofs.YtbgmnobnaplmlaaGreat
end

section
namespace Go.Proofs.YtbgmnobnaplmlaaGreat
open Go Go.RowKit Go.Pg Go.Pol
set_option linter.unusedSimpArgs false
set_option linter.unusedVariables false
set_option maxRecDepth 20000
attribute [-bool_to_prop] Bool.and_eq_decide Bool.or_eq_decide Bool.decide_beq_decide decide_eq_decide
/-! ### polynomials as they are kept -/
abbrev Tm := Rat × List Int
abbrev Po := List Tm
abbrev tmA (t : Tm) : AV := .agg [.v (.bool (decide (t.1.num < 0))), lim (toL t.1.num.natAbs), lim (toL t.1.den), ivs t.2]
abbrev poA (p : Po) : AV := .sl 4 (p.map tmA)
abbrev SrtM (p : Po) : Prop := Srt Can ltM p
abbrev addM (p q : Po) : Po := addP ltM p q
abbrev subM (p q : Po) : Po := subP ltM p q
abbrev mlM (p q : Po) : Po := mulR ltM mulM p q
def sclM (a : Rat) (p : Po) : Po := if a = 0 then [] else scaleP a p
/-- Coefficients of at most k limbs, monomials with exponents of at most e. -/
def PK (p : Po) (k e : Nat) : Prop := ∀ t ∈ p, Sz t.1 k ∧ t.2.length ≤ 1000 ∧ ∀ j, 0 ≤ gI t.2 j ∧ gI t.2 j ≤ (e : Int)
theorem PK.mono {p : Po} {k j e f : Nat} (h : PK p k e) (hk : k ≤ j) (he : e ≤ f) : PK p j f := fun t ht => ⟨(h t ht).1.mono hk, (h t ht).2.1, fun i => by have := (h t ht).2.2 i; omega⟩
theorem PK.sm {p : Po} {k e : Nat} (h : PK p k e) (he : e ≤ 16777216) {t : Tm} (ht : t ∈ p) : Sm t.2 := ⟨(h t ht).2.1, fun i => by have := (h t ht).2.2 i; omega⟩
theorem PK.nil {k e : Nat} : PK [] k e := fun t ht => by simp at ht
theorem PK.tail {t : Tm} {p : Po} {k e : Nat} (h : PK (t :: p) k e) : PK p k e := fun u hu => h u (.tail _ hu)
theorem PK.drop {p : Po} {k e : Nat} (h : PK p k e) (i : Nat) : PK (p.drop i) k e := fun u hu => h u (List.mem_of_mem_drop hu)
theorem PK.add {p q : Po} {j k e : Nat} (hp : PK p j e) (hq : PK q k e) : PK (addM p q) (j + k + 1) e := fun t ht => by
  rcases mem_addP' ht with h | h | ⟨s, hs, u, hu, rfl⟩
  · exact ⟨(hp t h).1.mono (by omega), (hp t h).2⟩
  · exact ⟨(hq t h).1.mono (by omega), (hq t h).2⟩
  · exact ⟨(hp s hs).1.add (hq u hu).1, (hp s hs).2⟩
theorem PK.scale {p : Po} {j k e : Nat} {a : Rat} (hp : PK p j e) (ha : Sz a k) : PK (scaleP a p) (j + k) e := fun t ht => by
  obtain ⟨s, hs, rfl⟩ := List.mem_map.1 ht
  exact ⟨(hp s hs).1.mul ha, (hp s hs).2⟩
theorem PK.times {p : Po} {t : Tm} {j k e f : Nat} (hp : PK p j e) (ht : PK [t] k f) : PK (timesP mulM p t) (j + k) (e + f) := fun u hu => by
  obtain ⟨s, hs, rfl⟩ := List.mem_map.1 hu
  have h1 := hp s hs
  have h2 := ht t (.head _)
  refine ⟨h1.1.mul h2.1, by rw [mulM_len]; have := h1.2.1; have := h2.2.1; omega, fun i => ?_⟩
  show 0 ≤ gI (mulM s.2 t.2) i ∧ gI (mulM s.2 t.2) i ≤ _
  rw [gI_zip _ rfl]
  have := h1.2.2 i
  have := h2.2.2 i
  omega
theorem lexM_cases {a b : List Int} (ha : Can a) (hb : Can b) : (ltM a b ∧ lexC a b (max a.length b.length) = -1) ∨ (¬ ltM a b ∧ ¬ ltM b a ∧ a = b ∧ lexC a b (max a.length b.length) = 0) ∨ (ltM b a ∧ ¬ ltM a b ∧ lexC a b (max a.length b.length) = 1) := by
  rcases @lexC_three a b (max a.length b.length) with ⟨h, h2⟩ | h | h
  · have e : a = b := can_ext ha hb fun j => by
      by_cases hj : j < max a.length b.length
      · exact h2 j hj
      · rw [gI_out (by omega), gI_out (by omega)]
    refine .inr (.inl ⟨?_, ?_, e, h⟩)
    · unfold ltM; rw [h]; decide
    · subst e; unfold ltM; rw [h]; decide
  · exact .inl ⟨h, h⟩
  · have h3 : ltM b a := by unfold ltM; rw [Nat.max_comm, lexC_neg, h]
    refine .inr (.inr ⟨h3, ?_, h⟩)
    unfold ltM; rw [h]; decide
theorem trim_can {l : List Int} (h : Can l) : trimI l = l := by
  unfold trimI
  rcases h.2 with h0 | h0
  · have : l = [] := List.length_eq_zero_iff.1 h0
    subst this; rfl
  · rcases Nat.eq_zero_or_pos l.length with h1 | h1
    · have : l = [] := List.length_eq_zero_iff.1 h1
      subst this; rfl
    · rw [trimN_stop h1 h0, List.take_length]
theorem can_nil : Can [] := ⟨fun j => by rw [gI_out (Nat.zero_le _)]; omega, .inl rfl⟩
theorem mulM_nil (a : List Int) : mulM a [] = a := by
  refine List.ext_getElem (by rw [mulM_len]; simp) fun j h1 h2 => ?_
  have := gI_zip (· + ·) rfl a [] j
  rw [gI_at h1, gI_at h2, gI_out (Nat.zero_le _), Int.add_zero] at this
  exact this
theorem nil_mulM (a : List Int) : mulM [] a = a := by rw [mulK.comm]; exact mulM_nil a
theorem times_unit (p : Po) (a : Rat) : timesP mulM p (a, []) = scaleP a p := by
  unfold timesP scaleP
  exact List.map_congr_left fun s _ => by rw [mulM_nil]
/-! ### variables -/
def unitM (v : Nat) : List Int := List.replicate v 0 ++ [1]
theorem unitM_len (v : Nat) : (unitM v).length = v + 1 := by simp [unitM]
theorem gI_unit (v j : Nat) : gI (unitM v) j = if j = v then 1 else 0 := by
  by_cases h : j < v + 1
  · rw [gI_at (by rw [unitM_len]; exact h)]
    unfold unitM
    rw [List.getElem_append]
    by_cases hj : j < v
    · rw [dif_pos (by simpa using hj), List.getElem_replicate, if_neg (by omega)]
    · rw [dif_neg (by simpa using hj), if_pos (by omega)]; simp
  · rw [gI_out (by rw [unitM_len]; omega), if_neg (by omega)]
theorem can_unit (v : Nat) : Can (unitM v) := by
  refine ⟨fun j => by rw [gI_unit]; split <;> omega, .inr ?_⟩
  rw [unitM_len, gI_unit, if_pos (by omega)]; omega
def varM (v : Nat) : Po := if v < 64 then [(1, unitM v)] else []
theorem varM_srt (v : Nat) : SrtM (varM v) := by
  unfold varM
  split
  · exact Srt.nil.cons (by show (1 : Rat) ≠ 0; decide) (can_unit v) (by simp)
  · exact .nil
theorem varM_pk (v : Nat) : PK (varM v) 1 1 := by
  unfold varM
  split
  · intro t ht
    rw [List.mem_singleton] at ht
    subst ht
    refine ⟨nat_sz1 1 (by omega), by show (unitM v).length ≤ 1000; rw [unitM_len]; omega, fun j => ?_⟩
    show 0 ≤ gI (unitM v) j ∧ gI (unitM v) j ≤ _
    rw [gI_unit]; split <;> omega
  · exact .nil
/-- The program's and the reference's products of a number. -/
theorem mul_const {r : Rat} (hr : r ≠ 0) {q : Po} (hq : SrtM q) : mlM [(r, [])] q = scaleP r q := mulR_unit ordM mulK nil_mulM can_nil hr hq
end Go.Proofs.YtbgmnobnaplmlaaGreat
end

section
namespace Go.Proofs.YtbgmnobnaplmlaaGreat
open Go Go.RowKit Go.Pg Go.Pol
set_option linter.unusedSimpArgs false
set_option linter.unusedVariables false
set_option maxRecDepth 20000
attribute [-bool_to_prop] Bool.and_eq_decide Bool.or_eq_decide Bool.decide_beq_decide decide_eq_decide
/-! ### figures as they come in -/
structure RS where
  k : Int
  nm : ByteArray
  ar : List Int
  r : RQ
structure RG where
  k : Int
  ar : List Int
  r : RQ
abbrev RS.av (s : RS) : AV := .agg [iv s.k, strA s.nm, ivs s.ar, .v (.bool s.r.s), lim s.r.l, lim s.r.d]
abbrev RG.av (g : RG) : AV := .agg [iv g.k, ivs g.ar, .v (.bool g.r.s), lim g.r.l, lim g.r.d]
abbrev figA (ss : List RS) (gs : List RG) : AV := .agg [.sl 6 (ss.map RS.av), .sl 5 (gs.map RG.av)]
def RQ.none (r : RQ) : Bool := !r.s && (decide (r.l.length = 0) && decide (r.d.length = 0))
/-! ### frames that grow -/
structure FS where
  cs : List (Po × Po)
  vs : List Vt
  fr : Nat
abbrev coA (c : Po × Po) : AV := .agg [poA c.1, poA c.2]
def FS.at (f : FS) (s : RS) (k : Nat) : Po × Po := f.cs.getD (gI s.ar k).toNat ([], [])
/-- The new variables of a step, and the coordinates of its point. -/
def FS.nxt (f : FS) (i : Nat) (s : RS) : List Vt × (Po × Po) :=
  let v := f.vs.length
  let a := f.at s 0
  let b := f.at s 1
  let c := f.at s 2
  if s.k = 1 then
    (if f.fr = 0 then ([], ([], []))
     else if f.fr = 1 then ([(1, (i : Int), 0)], (varM v, []))
     else ([(1, (i : Int), 0), (1, (i : Int), 1)], (varM v, varM (v + 1))))
  else if s.k = 2 then ([], (addM a.1 (sclM s.r.q (subM b.1 a.1)), addM a.2 (sclM s.r.q (subM b.2 a.2))))
  else if s.k = 3 then ([], (addM a.1 (subM c.1 b.1), addM a.2 (subM c.2 b.2)))
  else if s.k = 4 then ([], (addM a.1 (subM b.2 c.2), addM a.2 (subM c.1 b.1)))
  else if s.k = 5 then ([(1, (i : Int), 0)], (addM a.1 (mlM (subM b.1 a.1) (varM v)), addM a.2 (mlM (subM b.2 a.2) (varM v))))
  else if s.k = 6 then ([(1, (i : Int), 0), (2, (i : Int), 1), (2, (i : Int), 2)], (varM (v + 1), varM (v + 2)))
  else ([(2, (i : Int), 0), (2, (i : Int), 1)], (varM v, varM (v + 1)))
def FS.push (f : FS) (i : Nat) (s : RS) : FS := ⟨f.cs ++ [(f.nxt i s).2], f.vs ++ (f.nxt i s).1, if s.k = 1 then f.fr + 1 else f.fr⟩
def frN (ss : List RS) : Nat → FS
  | 0 => ⟨[], [], 0⟩
  | i + 1 => (frN ss i).push i (ss.getD i ⟨0, .empty, [], ⟨false, [], []⟩⟩)
/-- The i-th step makes too much. -/
def bigN (ss : List RS) (i : Nat) : Bool :=
  decide (64 < (frN ss (i + 1)).vs.length) || decide (4000 < ((frN ss i).nxt i (ss.getD i ⟨0, .empty, [], ⟨false, [], []⟩⟩)).2.1.length) || decide (4000 < ((frN ss i).nxt i (ss.getD i ⟨0, .empty, [], ⟨false, [], []⟩⟩)).2.2.length)
theorem frN_len (ss : List RS) : ∀ i, (frN ss i).cs.length = i
  | 0 => rfl
  | i + 1 => by show ((frN ss i).cs ++ [_]).length = i + 1; rw [List.length_append, frN_len ss i]; rfl
/-! ### what frames are made of -/
def BB (n : Nat) : Nat := 65536 ^ (3 * n)
theorem BB_pos (n : Nat) : 1 ≤ BB n := Nat.one_le_pow _ _ (by omega)
theorem BB_succ (n : Nat) : BB (n + 1) = BB n * 65536 ^ 3 := by unfold BB; rw [← Nat.pow_add]; rfl
/-- Good polynomials: denominators that divide D, numbers of a bounded size, at most v variables, to the first power. -/
def GP (n D v : Nat) (p : Po) : Prop := SrtM p ∧ ∀ t ∈ p, BQ D (BB n) t.1 ∧ t.2.length ≤ v ∧ ∀ j, gI t.2 j ≤ 1
theorem GP.nil {n D v : Nat} : GP n D v [] := ⟨.nil, fun t h => by simp at h⟩
theorem GP.mono {n D v m E w : Nat} {p : Po} (h : GP n D v p) (hn : n ≤ m) (hd : D ∣ E) (hv : v ≤ w) : GP m E w p :=
  ⟨h.1, fun t ht => ⟨(h.2 t ht).1.mono hd (Nat.pow_le_pow_right (by omega) (by omega)), by have := (h.2 t ht).2.1; omega, (h.2 t ht).2.2⟩⟩
theorem bq_sz {D B d b : Nat} {q : Rat} (h : BQ D B q) (h0 : D ≠ 0) (hd : D < 65536 ^ d) (hb : B < 65536 ^ b) : Sz q (d + b) := by
  have h1 : q.den ≤ D := Nat.le_of_dvd (Nat.pos_of_ne_zero h0) h.1
  refine ⟨toL_len_lt.2 ?_, Nat.le_trans (toL_len_lt.2 (Nat.lt_of_le_of_lt h1 hd)) (by omega)⟩
  have hp : 0 < q.den := q.den_pos
  calc q.num.natAbs ≤ B * q.den := h.2
    _ ≤ B * D := Nat.mul_le_mul_left _ h1
    _ < 65536 ^ b * 65536 ^ d := Nat.mul_lt_mul_of_lt_of_lt hb hd
    _ = 65536 ^ (d + b) := by rw [Nat.mul_comm, ← Nat.pow_add]
theorem GP.pk {n D v : Nat} {p : Po} (h : GP n D v p) (hv : v ≤ 1000) (h0 : D ≠ 0) (hd : D < 65536 ^ (2 * n + 1)) (hn : n ≤ 20) : PK p 110 1 := fun t ht => by
  obtain ⟨h1, h2, h3⟩ := h.2 t ht
  refine ⟨(bq_sz (b := 3 * n + 1) h1 h0 hd (by unfold BB; exact Nat.pow_lt_pow_right (by omega) (by omega))).mono (by omega), by omega, fun j => ⟨(h.1.1 t ht).2.1 j, h3 j⟩⟩
/-- The same with another bound of the numbers. -/
def GB (B D v : Nat) (p : Po) : Prop := SrtM p ∧ ∀ t ∈ p, BQ D B t.1 ∧ t.2.length ≤ v ∧ ∀ j, gI t.2 j ≤ 1
theorem GB.mono {B D v C E w : Nat} {p : Po} (h : GB B D v p) (hn : B ≤ C) (hd : D ∣ E) (hv : v ≤ w) : GB C E w p :=
  ⟨h.1, fun t ht => ⟨(h.2 t ht).1.mono hd hn, by have := (h.2 t ht).2.1; omega, (h.2 t ht).2.2⟩⟩
theorem GB.add {B C D v : Nat} {p q : Po} (h : GB B D v p) (k : GB C D v q) : GB (B + C) D v (addM p q) := by
  refine ⟨addP_srt ordM h.1 k.1, fun t ht => ?_⟩
  rcases mem_addP' ht with h1 | h1 | ⟨s, hs, u, hu, rfl⟩
  · exact ⟨(h.2 t h1).1.mono (Nat.dvd_refl _) (by omega), (h.2 t h1).2⟩
  · exact ⟨(k.2 t h1).1.mono (Nat.dvd_refl _) (by omega), (k.2 t h1).2⟩
  · exact ⟨(h.2 s hs).1.add (k.2 u hu).1, (h.2 s hs).2⟩
theorem GB.neg {B D v : Nat} {p : Po} (h : GB B D v p) : GB B D v (scaleP (-1) p) := by
  refine ⟨scale_srt h.1 neg1, fun t ht => ?_⟩
  obtain ⟨s, hs, rfl⟩ := List.mem_map.1 ht
  refine ⟨?_, (h.2 s hs).2⟩
  have e : s.1 * -1 = -s.1 := by grind
  show BQ D B (s.1 * -1)
  rw [e]; exact (h.2 s hs).1.neg
theorem GB.sub {B C D v : Nat} {p q : Po} (h : GB B D v p) (k : GB C D v q) : GB (B + C) D v (subM p q) := h.add k.neg
theorem GB.scl {B C D E v : Nat} {p : Po} {a : Rat} (h : GB B D v p) (ha : BQ E C a) : GB (B * C) (D * E) v (sclM a p) := by
  unfold sclM
  split
  · exact ⟨.nil, fun t h => by simp at h⟩
  · rename_i h0
    refine ⟨scale_srt h.1 h0, fun t ht => ?_⟩
    obtain ⟨s, hs, rfl⟩ := List.mem_map.1 ht
    exact ⟨(h.2 s hs).1.mul ha, (h.2 s hs).2⟩
theorem mul_var (p : Po) (v : Nat) : mlM p (varM v) = if v < 64 then timesP mulM p (1, unitM v) else [] := by
  unfold varM
  split
  · show addP ltM [] (timesP mulM p (1, unitM v)) = _
    simp [addP]
  · rfl
theorem GB.var {B D v : Nat} {p : Po} (h : GB B D v p) : GB B D (v + 1) (mlM p (varM v)) := by
  refine ⟨mulR_srt ordM mulK h.1 (varM_srt v), fun t ht => ?_⟩
  rw [mul_var] at ht
  split at ht
  · obtain ⟨s, hs, rfl⟩ := List.mem_map.1 ht
    obtain ⟨h1, h2, h3⟩ := h.2 s hs
    refine ⟨by show BQ D B (s.1 * 1); rw [Rat.mul_one]; exact h1, by show (mulM s.2 (unitM v)).length ≤ v + 1; rw [mulM_len, unitM_len]; omega, fun j => ?_⟩
    show gI (mulM s.2 (unitM v)) j ≤ 1
    rw [gI_zip _ rfl, gI_unit]
    split
    · rename_i hj
      rw [gI_out (by omega)]; omega
    · have := h3 j; omega
  · simp at ht
theorem GB.one {B D v w : Nat} (hB : 1 ≤ B) (h : v < w) : GB B D w (varM v) := by
  refine ⟨varM_srt v, fun t ht => ?_⟩
  unfold varM at ht
  split at ht
  · rw [List.mem_singleton] at ht
    subst ht
    refine ⟨BQ.int 1 (by simpa using hB), by show (unitM v).length ≤ w; rw [unitM_len]; omega, fun j => ?_⟩
    show gI (unitM v) j ≤ 1
    rw [gI_unit]; split <;> omega
  · simp at ht
theorem GB.nil {B D v : Nat} : GB B D v [] := ⟨.nil, fun t h => by simp at h⟩
/-- A frame in good order: n steps that are not free so far. -/
structure FI (f : FS) (n D : Nat) : Prop where
  D0 : D ≠ 0
  Dl : D < 65536 ^ (2 * n + 1)
  nv : f.vs.length ≤ 64
  cs : ∀ c ∈ f.cs, GP n D f.vs.length c.1 ∧ GP n D f.vs.length c.2
  ln : ∀ c ∈ f.cs, c.1.length ≤ 4000 ∧ c.2.length ≤ 4000
theorem FI.at {f : FS} {n D : Nat} (h : FI f n D) (s : RS) (k : Nat) : (GP n D f.vs.length (f.at s k).1 ∧ GP n D f.vs.length (f.at s k).2) ∧ (f.at s k).1.length ≤ 4000 ∧ (f.at s k).2.length ≤ 4000 := by
  unfold FS.at
  by_cases hk : (gI s.ar k).toNat < f.cs.length
  · have := getD_mem (d := (([], []) : Po × Po)) hk
    exact ⟨h.cs _ this, h.ln _ this⟩
  · rw [List.getD_eq_getElem?_getD, List.getElem?_eq_none (by omega)]
    exact ⟨⟨.nil, .nil⟩, by simp, by simp⟩
/-- The ratio of a step is small. -/
def RQ.bd (r : RQ) : Prop := r.ok = true → r.q.den < 65536 ^ 2 ∧ r.q.num.natAbs < 65536 ^ 2
theorem lm_bd {r : RQ} (h : r.lm 2) : r.bd := fun ho => by
  obtain ⟨-, h1, h2⟩ := RQ.ok_av h ho
  exact ⟨toL_len_lt.1 h2, toL_len_lt.1 h1⟩
theorem FI.nxt {f : FS} {n D : Nat} (h : FI f n D) (i : Nat) (s : RS) (hr : s.k = 2 → s.r.ok = true) (hb : s.r.bd) :
    ∃ E, E ≠ 0 ∧ D ∣ E ∧ E < 65536 ^ (2 * (n + if s.k = 1 then 0 else 1) + 1) ∧
      GP (n + if s.k = 1 then 0 else 1) E (f.vs ++ (f.nxt i s).1).length (f.nxt i s).2.1 ∧ GP (n + if s.k = 1 then 0 else 1) E (f.vs ++ (f.nxt i s).1).length (f.nxt i s).2.2 := by
  obtain ⟨⟨a1, a2⟩, -⟩ := h.at s 0
  obtain ⟨⟨b1, b2⟩, -⟩ := h.at s 1
  obtain ⟨⟨c1, c2⟩, -⟩ := h.at s 2
  have hB := BB_pos n
  have hS := BB_succ n
  unfold FS.nxt
  simp only
  have one : ∀ v w, v < w → GP n D w (varM v) := fun v w hv => GB.one hB hv
  have up : ∀ {E v : Nat} {p : Po} {C : Nat}, GB C E v p → C ≤ BB n * 65536 ^ 3 → GP (n + 1) E v p := fun h hc => GB.mono h (by rw [hS]; exact hc) (Nat.dvd_refl _) (Nat.le_refl _)
  have dl : D < 65536 ^ (2 * (n + 1) + 1) := Nat.lt_of_lt_of_le h.Dl (Nat.pow_le_pow_right (by omega) (by omega))
  have b3 : BB n + (BB n + BB n) ≤ BB n * 65536 ^ 3 := by
    have : BB n * 3 ≤ BB n * 65536 ^ 3 := Nat.mul_le_mul_left _ (by decide)
    omega
  by_cases k1 : s.k = 1
  · rw [if_pos k1, if_pos k1]
    refine ⟨D, h.D0, Nat.dvd_refl _, h.Dl, ?_⟩
    split
    · exact ⟨.nil, .nil⟩
    · split
      · exact ⟨one _ _ (by simp), .nil⟩
      · exact ⟨one _ _ (by simp), one _ _ (by simp)⟩
  · rw [if_neg k1, if_neg k1]
    by_cases k2 : s.k = 2
    · rw [if_pos k2]
      obtain ⟨h1, h2⟩ := hb (hr k2)
      refine ⟨D * s.r.q.den, Nat.mul_ne_zero h.D0 s.r.q.den_nz, Nat.dvd_mul_right _ _, ?_, ?_⟩
      · calc D * s.r.q.den < 65536 ^ (2 * n + 1) * 65536 ^ 2 := Nat.mul_lt_mul_of_lt_of_lt h.Dl h1
          _ = 65536 ^ (2 * (n + 1) + 1) := by rw [← Nat.pow_add]; congr 1
      · have hq : BQ s.r.q.den (65536 ^ 2) s.r.q := ⟨Nat.dvd_refl _, by have := s.r.q.den_pos; have := Nat.le_mul_of_pos_right (65536 ^ 2) this; omega⟩
        have bd : BB n + (BB n + BB n) * 65536 ^ 2 ≤ BB n * 65536 ^ 3 := by
          have e1 : (BB n + BB n) * 65536 ^ 2 = BB n * (2 * 65536 ^ 2) := by rw [← Nat.mul_two, Nat.mul_assoc]
          rw [e1]
          have : BB n * (1 + 2 * 65536 ^ 2) ≤ BB n * 65536 ^ 3 := Nat.mul_le_mul_left _ (by decide)
          omega
        rw [List.append_nil]
        exact ⟨up ((GB.mono a1 (Nat.le_refl _) (Nat.dvd_mul_right _ _) (Nat.le_refl _)).add ((GB.sub b1 a1).scl hq)) bd, up ((GB.mono a2 (Nat.le_refl _) (Nat.dvd_mul_right _ _) (Nat.le_refl _)).add ((GB.sub b2 a2).scl hq)) bd⟩
    · rw [if_neg k2]
      refine ⟨D, h.D0, Nat.dvd_refl _, dl, ?_⟩
      have one' : ∀ v w, v < w → GP (n + 1) D w (varM v) := fun v w hv => GB.one (BB_pos _) hv
      by_cases k3 : s.k = 3
      · rw [if_pos k3, List.append_nil]
        exact ⟨up (GB.add a1 (GB.sub c1 b1)) b3, up (GB.add a2 (GB.sub c2 b2)) b3⟩
      · rw [if_neg k3]
        by_cases k4 : s.k = 4
        · rw [if_pos k4, List.append_nil]
          exact ⟨up (GB.add a1 (GB.sub b2 c2)) b3, up (GB.add a2 (GB.sub c1 b1)) b3⟩
        · rw [if_neg k4]
          by_cases k5 : s.k = 5
          · rw [if_pos k5]
            have e : (f.vs ++ [(1, (i : Int), 0)]).length = f.vs.length + 1 := by simp
            rw [e]
            exact ⟨up (GB.add (GB.mono a1 (Nat.le_refl _) (Nat.dvd_refl _) (by omega)) (GB.sub b1 a1).var) b3, up (GB.add (GB.mono a2 (Nat.le_refl _) (Nat.dvd_refl _) (by omega)) (GB.sub b2 a2).var) b3⟩
          · rw [if_neg k5]
            by_cases k6 : s.k = 6
            · rw [if_pos k6]
              exact ⟨one' _ _ (by simp), one' _ _ (by simp)⟩
            · rw [if_neg k6]
              exact ⟨one' _ _ (by simp), one' _ _ (by simp)⟩
/-- How many of the first steps are not free. -/
def nfN (ss : List RS) : Nat → Nat
  | 0 => 0
  | i + 1 => nfN ss i + if (ss.getD i ⟨0, .empty, [], ⟨false, [], []⟩⟩).k = 1 then 0 else 1
theorem frN_ok (ss : List RS) (hr : ∀ s ∈ ss, s.k = 2 → s.r.ok = true) (hb : ∀ s ∈ ss, s.r.bd) : ∀ i, i ≤ ss.length → (∀ j, j < i → bigN ss j = false) → ∃ D, FI (frN ss i) (nfN ss i) D
  | 0, _, _ => ⟨1, by omega, by show 1 < 65536 ^ (2 * 0 + 1); decide, Nat.zero_le _, fun c h => by simp [frN] at h, fun c h => by simp [frN] at h⟩
  | i + 1, hi, hj => by
    obtain ⟨D, hD⟩ := frN_ok ss hr hb i (by omega) fun j h => hj j (by omega)
    have hbig := hj i (by omega)
    unfold bigN at hbig
    simp only [Bool.or_eq_false_iff, decide_eq_false_iff_not, Nat.not_lt] at hbig
    have hm : ss.getD i ⟨0, .empty, [], ⟨false, [], []⟩⟩ ∈ ss := getD_mem (by omega)
    have hs1 := hr _ hm
    have hs2 := hb _ hm
    unfold nfN
    show ∃ D, FI ((frN ss i).push i (ss.getD i ⟨0, .empty, [], ⟨false, [], []⟩⟩)) _ D
    have hv := hbig.1.1
    unfold frN at hv
    generalize ss.getD i ⟨0, .empty, [], ⟨false, [], []⟩⟩ = s at *
    obtain ⟨E, e0, e1, e2, g1, g2⟩ := hD.nxt i s hs1 hs2
    refine ⟨E, e0, e2, hv, fun c hc => ?_, fun c hc => ?_⟩
    · rcases List.mem_append.1 hc with h1 | h1
      · obtain ⟨k1, k2⟩ := hD.cs c h1
        have hl : (frN ss i).vs.length ≤ ((frN ss i).push i s).vs.length := by show _ ≤ ((frN ss i).vs ++ ((frN ss i).nxt i s).1).length; rw [List.length_append]; omega
        exact ⟨k1.mono (by omega) e1 hl, k2.mono (by omega) e1 hl⟩
      · rw [List.mem_singleton] at h1
        subst h1
        exact ⟨g1, g2⟩
    · rcases List.mem_append.1 hc with h1 | h1
      · exact hD.ln c h1
      · rw [List.mem_singleton] at h1
        subst h1
        exact ⟨hbig.1.2, hbig.2⟩
end Go.Proofs.YtbgmnobnaplmlaaGreat
end

section
/- The engine, part Z: a caller's memory as its callee sees it, its names moved everywhere; boxes that hold a nil slice. -/
namespace Go.Pg
open Go Go.RowKit
set_option linter.unusedSimpArgs false
set_option linter.unusedVariables false
mutual
def AV.sh : AV → AV
  | .agg cs => .agg (AV.shL cs)
  | .tup cs => .tup (AV.shL cs)
  | .fn f cs => .fn f (AV.shL cs)
  | .ifc t x => .ifc t (AV.sh x)
  | .own k sv => .own (k + 1000) sv
  | .prow k sv m i off => .prow (k + 1000) sv m i off
  | .pbox k g off => .pbox (k + 1000) g off
  | .view k sv m i len => .view (k + 1000) sv m i len
  | .v x => .v x
  | .sl m es => .sl m es
  | .pimm cs => .pimm cs
  | .u => .u
def AV.shL : List AV → List AV
  | [] => []
  | a :: r => AV.sh a :: AV.shL r
end
theorem AV.shL_len : ∀ (l : List AV), (AV.shL l).length = l.length
  | [] => rfl
  | a :: r => by simp only [AV.shL, List.length_cons, AV.shL_len r]
theorem AV.shL_at : ∀ (l : List AV) (j : Nat), (AV.shL l)[j]? = (l[j]?).map AV.sh
  | [], j => by simp [AV.shL]
  | a :: r, 0 => by simp [AV.shL]
  | a :: r, j + 1 => by simp only [AV.shL, List.getElem?_cons_succ]; exact AV.shL_at r j
theorem AV.sh_one (a : AV) : a.sh.one = a.one := by cases a <;> simp only [AV.sh] <;> rfl
theorem Sub.agg (aS bs : List AV) (hl : aS.length = bs.length) (h : ∀ (j : Nat) (a b : AV), aS[j]? = some a → bs[j]? = some b → Sub a b) : Sub (.agg aS) (.agg bs) := fun w imm x hx => by
  obtain ⟨vs, rfl, h1, h2⟩ := hx.agg_inv
  refine .agg _ _ (by omega) fun j b y hb hy => ?_
  have hj : j < aS.length := by rw [hl]; exact (List.getElem?_eq_some_iff.1 hb).1
  exact h j aS[j] b (List.getElem?_eq_getElem hj) hb w imm y (h2 j aS[j] y (List.getElem?_eq_getElem hj) hy)
theorem Sub.fn (f : FuncId) (aS bs : List AV) (hl : aS.length = bs.length) (h : ∀ (j : Nat) (a b : AV), aS[j]? = some a → bs[j]? = some b → Sub a b) : Sub (.fn f aS) (.fn f bs) := fun w imm x hx => by
  obtain ⟨vs, rfl, h1, h2⟩ := hx.fn_inv
  refine .fn _ _ _ (by omega) fun j b y hb hy => ?_
  have hj : j < aS.length := by rw [hl]; exact (List.getElem?_eq_some_iff.1 hb).1
  exact h j aS[j] b (List.getElem?_eq_getElem hj) hb w imm y (h2 j aS[j] y (List.getElem?_eq_getElem hj) hy)
theorem Sub.ifc (t : TypeId) {a b : AV} (h : Sub a b) : Sub (.ifc t a) (.ifc t b) := fun w imm x hx => by
  obtain ⟨y, rfl, h1⟩ := hx.ifc_inv
  exact .ifc _ _ _ (h w imm y h1)
mutual
theorem AV.sub_sh : ∀ (a : AV), Sub a a.sh ∧ Sub a.sh a
  | .agg cs => by
    have h := AV.subL_sh cs
    refine ⟨Sub.agg _ _ (AV.shL_len cs).symm fun j a b h1 h2 => ?_, Sub.agg _ _ (AV.shL_len cs) fun j a b h1 h2 => ?_⟩
    · rw [AV.shL_at, h1] at h2; cases h2; exact (h a (List.mem_of_getElem? h1)).1
    · rw [AV.shL_at, h2] at h1; cases h1; exact (h b (List.mem_of_getElem? h2)).2
  | .tup cs => by
    have h := AV.subL_sh cs
    refine ⟨Sub.tup _ _ (AV.shL_len cs).symm fun j a b h1 h2 => ?_, Sub.tup _ _ (AV.shL_len cs) fun j a b h1 h2 => ?_⟩
    · rw [AV.shL_at, h1] at h2; cases h2; exact (h a (List.mem_of_getElem? h1)).1
    · rw [AV.shL_at, h2] at h1; cases h1; exact (h b (List.mem_of_getElem? h2)).2
  | .fn f cs => by
    have h := AV.subL_sh cs
    refine ⟨Sub.fn _ _ _ (AV.shL_len cs).symm fun j a b h1 h2 => ?_, Sub.fn _ _ _ (AV.shL_len cs) fun j a b h1 h2 => ?_⟩
    · rw [AV.shL_at, h1] at h2; cases h2; exact (h a (List.mem_of_getElem? h1)).1
    · rw [AV.shL_at, h2] at h1; cases h1; exact (h b (List.mem_of_getElem? h2)).2
  | .ifc t x => ⟨Sub.ifc t (AV.sub_sh x).1, Sub.ifc t (AV.sub_sh x).2⟩
  | .own k sv => ⟨Sub.own _ _ _, Sub.own _ _ _⟩
  | .prow k sv m i off => ⟨Sub.prow _ _ _ _ _ _, Sub.prow _ _ _ _ _ _⟩
  | .pbox k g off => ⟨Sub.pbox _ _ _ _, Sub.pbox _ _ _ _⟩
  | .view k sv m i len => ⟨Sub.view _ _ _ _ _ _, Sub.view _ _ _ _ _ _⟩
  | .v x => ⟨Sub.refl _, Sub.refl _⟩
  | .sl m es => ⟨Sub.refl _, Sub.refl _⟩
  | .pimm cs => ⟨Sub.refl _, Sub.refl _⟩
  | .u => ⟨Sub.refl _, Sub.refl _⟩
theorem AV.subL_sh : ∀ (l : List AV) (a : AV), a ∈ l → Sub a a.sh ∧ Sub a.sh a
  | [], a, h => by simp at h
  | b :: r, a, h => by
    by_cases e : a = b
    · rw [e]; exact AV.sub_sh b
    · exact AV.subL_sh r a ((List.mem_cons.1 h).resolve_left e)
end
def Ent.sh : Ent → Ent
  | .row sv e m es pub => .row sv e m es pub
  | .box g e cs pub => .box g e (AV.shL cs) pub
theorem Ent.sh_blk (e : Ent) : e.sh.blk = e.blk := by cases e <;> rfl
theorem Ent.sh_ok {B : Nat} {w : World} {imm : Imm} {e : Ent} (h : EntOk B w imm e) : EntOk B w imm e.sh := by
  cases e with
  | row => exact h
  | box g e cs pub =>
    obtain ⟨cur, h1, h2, h3, h4, h5, h6, h7⟩ := h
    refine ⟨cur, h1, h2, by rw [AV.shL_len]; exact h3, fun x hx => ?_, fun j a x ha hx => ?_, h6, fun hp off ho => h7 hp off (by rw [AV.shL_len] at ho; exact ho)⟩
    · obtain ⟨j, hj⟩ := List.mem_iff_getElem?.1 hx
      rw [AV.shL_at] at hj
      obtain ⟨y, hy, rfl⟩ := Option.map_eq_some_iff.1 hj
      rw [AV.sh_one]; exact h4 y (List.mem_of_getElem? hy)
    · rw [AV.shL_at] at ha
      obtain ⟨y, hy, rfl⟩ := Option.map_eq_some_iff.1 ha
      exact (AV.sub_sh y).1 w imm x (h5 j y x hy hx)
theorem Ent.of_sh {B : Nat} {w : World} {imm : Imm} {e : Ent} (h : EntOk B w imm e.sh) : EntOk B w imm e := by
  cases e with
  | row => exact h
  | box g e cs pub =>
    obtain ⟨cur, h1, h2, h3, h4, h5, h6, h7⟩ := h
    refine ⟨cur, h1, h2, by rw [AV.shL_len] at h3; exact h3, fun x hx => ?_, fun j a x ha hx => ?_, h6, fun hp off ho => h7 hp off (by rw [AV.shL_len]; exact ho)⟩
    · obtain ⟨j, hj⟩ := List.mem_iff_getElem?.1 hx
      have h8 := h4 x.sh (List.mem_of_getElem? (i := j) (by rw [AV.shL_at, hj]; rfl))
      rw [AV.sh_one] at h8; exact h8
    · exact (AV.sub_sh a).2 w imm x (h5 j a.sh x (by rw [AV.shL_at, ha]; rfl) hx)
/-- A caller's memory, its names moved out of the way of the callee's own, in what it holds too. -/
def lents (σ : Mem) : Mem := fun k => if k < 1000 then none else (σ (k - 1000)).map Ent.sh
theorem lents_at {σ : Mem} {k : Nat} {e : Ent} (h : σ k = some e) : lents σ (k + 1000) = some e.sh := by
  unfold lents
  rw [if_neg (by omega), Nat.add_sub_cancel, h]; rfl
theorem lents_lt {σ : Mem} {k : Nat} (h : k < 1000) : lents σ k = none := by unfold lents; rw [if_pos h]
/-- A callee's memory holds its caller's, moved. -/
def Agr (m σ : Mem) : Prop := ∀ k, m (k + 1000) = (σ k).map Ent.sh
theorem Agr.start (σ : Mem) : Agr (lents σ) σ := fun k => by unfold lents; rw [if_neg (by omega), Nat.add_sub_cancel]
theorem Agr.own {m σ : Mem} (h : Agr m σ) {t : Nat} {x : Option Ent} (ht : t < 1000) : Agr (upd m t x) σ := fun k => by
  rw [upd_at, if_neg (by omega)]; exact h k
theorem Agr.mark {m σ : Mem} (h : Agr m σ) {t : Nat} (ht : t < 1000) : Agr (mark m t) σ := h.own ht
theorem Agr.put {m σ : Mem} (h : Agr m σ) {t k : Nat} {e e' : Ent} (ht : t = k + 1000) (he : e' = e.sh) : Agr (upd m t (some e')) (upd σ k (some e)) := fun j => by
  subst ht; subst he
  rw [upd_at, upd_at]
  by_cases hj : j = k
  · subst hj; rw [if_pos rfl, if_pos rfl]; rfl
  · rw [if_neg (by omega), if_neg hj]; exact h j
theorem upd_over {α : Type} (f : Nat → α) (k : Nat) (a b : α) : upd (upd f k a) k b = upd f k b := by
  funext j
  simp only [upd_at]
  split <;> rfl
theorem Agr.same {m σ : Mem} (h : Agr m σ) {t k : Nat} {e e' : Ent} (ht : t = k + 1000) (hk : σ k = some e) (he : e' = e.sh) : Agr (upd m t (some e')) σ := by
  have := h.put (k := k) (e := e) ht he
  rwa [show upd σ k (some e) = σ from by funext j; rw [upd_at]; split; (subst_vars; exact hk.symm); rfl] at this
/-- What a callee leaves, told in its caller's names. -/
def BackS (R : AV → Mem → Prop) (b : AV) (m : Mem) : Prop := ∃ (r : AV) (σ' : Mem), Sub b r ∧ R r σ' ∧ Agr m σ'
theorem backS {R : AV → Mem → Prop} {b r : AV} {m σ' : Mem} (h : Sub b r) (hR : R r σ') (ha : Agr m σ') : BackS R b m := ⟨r, σ', h, hR, ha⟩
theorem acall_lents {P : Program} {f n : Nat} {fn : Func} {code : Code} {rs : List ResultVar} {args : List AV} {σ : Mem} {R : AV → Mem → Prop} (hf : P.funcs[f]? = some fn) (hb : fn.body = some code) (hn : fn.ntmps = n) (hrs : fn.results = rs.toArray)
    (hc : ∀ (vs : Array Value) (w : World), (callFunc f vs).run P w = .ok (.enter f vs) w) (hfit : codeFits n code = true) (hal : args.length ≤ n)
    (h : aCode P 0 n code (Done P rs fun st b => BackS R b st.mem) ⟨fun t => (AV.shL args).getD t .u, lents σ⟩) : ACall P f args σ R := by
  have key := acall_inline (σ := lents σ) (R := BackS R) hf hb hn hrs hc hfit (by rw [AV.shL_len]; exact hal) h
  refine ⟨hc, fun c w imm vs hm hl hr => ?_⟩
  have hm' : Mx c (lents σ) w imm := by
    refine ⟨⟨fun k e hk => ?_, fun k k' e e' b h1 h2 h3 h4 => ?_, hm.ok.lt, hm.ok.spot⟩, hm.below, hm.lt, hm.old, hm.new, hm.cells⟩
    · unfold lents at hk
      split at hk
      · cases hk
      · obtain ⟨e0, h0, rfl⟩ := Option.map_eq_some_iff.1 hk
        exact Ent.sh_ok (hm.ok.ent _ _ h0)
    · unfold lents at h1 h2
      split at h1
      · cases h1
      · split at h2
        · cases h2
        · obtain ⟨e0, k0, rfl⟩ := Option.map_eq_some_iff.1 h1
          obtain ⟨e1, k1, rfl⟩ := Option.map_eq_some_iff.1 h2
          rw [Ent.sh_blk] at h3 h4
          have := hm.ok.apart _ _ _ _ b k0 k1 h3 h4
          omega
  refine (key.2 c w imm vs hm' (by rw [AV.shL_len]; exact hl) fun j a x h1 h2 => ?_).mono fun e w' he => ?_
  · rw [AV.shL_at] at h1
    obtain ⟨y, hy, rfl⟩ := Option.map_eq_some_iff.1 h1
    exact (AV.sub_sh y).1 w imm x (hr j y x hy h2)
  · obtain ⟨b, m, imm', x, rfl, ⟨r, σ', h1, h2, h3⟩, h5, h6, h7⟩ := he
    refine ⟨r, σ', imm', x, rfl, h2, h1 _ _ _ h5, ⟨⟨fun k e hk => ?_, fun k k' e e' b h1 h2 k3 k4 => ?_, h6.ok.lt, h6.ok.spot⟩, h6.below, h6.lt, h6.old, h6.new, h6.cells⟩, h7⟩
    · have := h3 k
      rw [hk] at this
      exact Ent.of_sh (h6.ok.ent _ _ this)
    · have e1 := h3 k
      have e2 := h3 k'
      rw [h1] at e1
      rw [h2] at e2
      have := h6.ok.apart _ _ _ _ b e1 e2 (by rw [Ent.sh_blk]; exact k3) (by rw [Ent.sh_blk]; exact k4)
      omega
/-- A nil slice in a box is an own row of no elements, under a name of one's choice. -/
theorem Frz.nilBox {n : Nat} {e : Nat → AV} {m : Mem} {k g : Nat} {bt : TypeId} {cs : List AV} (j t mm : Nat) (ty : TypeId) (hm : m k = some (.box g bt cs false)) (hj : cs[j]? = some (.v (.slice none 0 0))) (ht : t ≠ k) :
    Frz n ⟨e, m⟩ ⟨e, upd (upd m k (some (.box g bt (cs.set j (.own t (.slice none 0 0))) false))) t (some (.row (.slice none 0 0) ty mm [] 0))⟩ := by
  intro c a w imm h
  have h1 : Mx c (upd m k (some (.box g bt (cs.set j (.own t (.slice none 0 0))) false))) w imm := by
    have hk := h.mem.ok.ent k _ hm
    obtain ⟨cur, k1, k2, k3, k4, k5, k6, k7⟩ := hk
    refine (mem_put h.mem (World.grownBy.refl w none) (by simp) (fun _ _ => rfl) k (.box g bt (cs.set j (.own t (.slice none 0 0))) false) ⟨cur, k1, k2, by simpa using k3, fun x hx => ?_, fun i a x ha hx => ?_, k6, fun hp => by cases hp⟩ fun j2 e2 b h1 h2 h3 => ⟨by simp, ?_⟩).1
    · rcases List.mem_or_eq_of_mem_set hx with h1 | h1
      · exact k4 x h1
      · subst h1; rfl
    · rw [List.getElem?_set] at ha
      split at ha
      · rename_i hij
        subst hij
        split at ha
        · simp only [Option.some.injEq] at ha
          subst ha
          have := (k5 j _ x hj hx).v_inv
          subst this
          exact .own _ _ rfl
        · cases ha
      · exact k5 i a x ha hx
    · show some g ≠ some b
      intro hb
      exact h1 (h.mem.ok.apart j2 k e2 _ b h2 hm h3 hb)
  refine ⟨imm, h.env, h.size, h.defers, ?_⟩
  exact (mem_put h1 (World.grownBy.refl w none) (by simp) (fun _ _ => rfl) t (.row (.slice none 0 0) ty mm [] 0) ⟨[], World.ownsRow_nil w c.B ty mm, by simp, by simp, by simp [flat], by simp, fun ad _ h2 => by simp [Value.ownBlock] at h2, fun g off h1 _ => by simp [Value.ownBlock] at h1⟩ fun j e2 b _ _ _ => ⟨by simp, by simp [Ent.blk, Value.ownBlock]⟩).1
attribute [go_sem] AV.sh AV.shL Ent.sh
end Go.Pg
end

section
/- The engine, part Z1: a loop over a string's letters, in a function that has no memory of its own there. -/
namespace Go.Pg
open Go Go.RowKit Go.Lib
set_option linter.unusedSimpArgs false
set_option linter.unusedVariables false
section
variable {P : Program} {n : Nat}
/-- What stands behind a round. -/
structure ItS (c : Cx) (n : Nat) (s : ByteArray) (tI : Nat) (J : Nat → (Nat → AV) → Prop) (pos : Nat) (a : Act) (w : World) : Prop where
  h : ∃ e imm g, Rel c n ⟨e, noMem⟩ a w imm ∧ w.heap[g]? = some (.stringIter s pos) ∧ c.B ≤ g ∧ (∀ ad, imm ad → ad.block ≠ g) ∧ e tI = .v (.pointer (some ⟨g, 0, none⟩)) ∧ J pos e
end
end Go.Pg
end

section
namespace Go.Proofs.YtbgmnobnaplmlaaGreat
open Go Go.RowKit Go.Pg
set_option linter.unusedSimpArgs false
set_option linter.unusedVariables false
set_option maxRecDepth 20000
attribute [local go_sem] Tryz.underlying3 Tryz.underlying4 Tryz.underlying5 Tryz.underlying9 Tryz.underlying93 sz3 by3 z3 szStr byStr zStr
attribute [-bool_to_prop] Bool.and_eq_decide Bool.or_eq_decide Bool.decide_beq_decide decide_eq_decide
/-! ### names -/
def kwL : List ByteArray := [
  ⟨#[97, 110, 103, 108, 101]⟩,
  ⟨#[97, 112, 101, 120]⟩,
  ⟨#[98, 105, 115, 101, 99, 116, 111, 114]⟩,
  ⟨#[99, 101, 110, 116, 101, 114]⟩,
  ⟨#[99, 105, 114, 99, 108, 101]⟩,
  ⟨#[99, 105, 114, 99, 117, 109]⟩,
  ⟨#[99, 111, 108, 108, 105, 110, 101, 97, 114]⟩,
  ⟨#[99, 111, 109, 109, 111, 110]⟩,
  ⟨#[99, 111, 110, 99, 121, 99, 108, 105, 99]⟩,
  ⟨#[99, 111, 110, 103, 114, 117, 101, 110, 116]⟩,
  ⟨#[99, 114, 111, 115, 115]⟩,
  ⟨#[99, 117, 116]⟩,
  ⟨#[100, 105, 118, 105, 100, 101]⟩,
  ⟨#[102, 111, 111, 116]⟩,
  ⟨#[108, 105, 110, 101]⟩,
  ⟨#[109, 101, 101, 116]⟩,
  ⟨#[109, 105, 100, 112, 111, 105, 110, 116]⟩,
  ⟨#[109, 105, 114, 114, 111, 114]⟩,
  ⟨#[111, 110]⟩,
  ⟨#[111, 116, 104, 101, 114]⟩,
  ⟨#[112, 97, 114, 97, 108, 108, 101, 108]⟩,
  ⟨#[112, 101, 114, 112, 101, 110, 100, 105, 99, 117, 108, 97, 114]⟩,
  ⟨#[112, 111, 105, 110, 116, 115]⟩,
  ⟨#[112, 114, 111, 118, 101]⟩,
  ⟨#[114, 97, 116, 105, 111]⟩,
  ⟨#[114, 101, 102, 108, 101, 99, 116]⟩,
  ⟨#[115, 97, 109, 101]⟩,
  ⟨#[115, 104, 105, 102, 116]⟩,
  ⟨#[116, 117, 114, 110]⟩]
def letB (c : Nat) : Bool := decide (97 ≤ c ∧ c ≤ 122) || decide (65 ≤ c ∧ c ≤ 90)
def digB (c : Nat) : Bool := decide (48 ≤ c ∧ c ≤ 57)
/-- The k-th byte. -/
def gB (s : ByteArray) (k : Nat) : Nat := (s.data.toList.getD k 0).toNat
theorem gB_lt (s : ByteArray) (k : Nat) : gB s k < 256 := UInt8.toNat_lt _
def namB (s : ByteArray) : Bool := decide (0 < s.size ∧ s.size ≤ 20) && (letB (gB s 0) && ((List.range s.size).all (fun k => letB (gB s k) || digB (gB s k)) && !(kwL.any fun w => w.toList == s.toList)))
theorem str_nil (s : ByteArray) : (s.toList == (⟨#[]⟩ : ByteArray).toList) = decide (s.size = 0) := by
  rw [ByteArray.toList_eq, ByteArray.toList_eq, Bool.eq_iff_iff, beq_iff_eq, decide_eq_true_eq]
  constructor
  · intro h
    have := congrArg List.length h
    exact this
  · intro h
    exact List.length_eq_zero_iff.1 h
/-- A byte as it is read. -/
theorem gB_at (s : ByteArray) (k : Nat) : ((s.data.toList.getD k 0).toNat : Int) = (gB s k : Int) := rfl
def kinB (c : Nat) : Int := if c = 32 ∨ c = 9 ∨ c = 13 ∨ c = 10 then 1 else if letB c = true then 2 else if digB c = true then 3 else if c = 40 ∨ c = 41 ∨ c = 44 ∨ c = 59 ∨ c = 47 ∨ c = 45 then 4 else if c = 58 then 5 else if c = 35 then 6 else 0
theorem kinB_let (c : Nat) : kinB c = 2 ↔ letB c = true := by
  unfold kinB letB
  simp only [Bool.or_eq_true, decide_eq_true_eq]
  repeat' split
  all_goals omega
theorem kinB_dig (c : Nat) : kinB c = 3 ↔ digB c = true := by
  unfold kinB letB digB
  simp only [Bool.or_eq_true, decide_eq_true_eq]
  repeat' split
  all_goals omega
set_option maxHeartbeats 4000000 in
theorem nmKind (c : Nat) (hc : c < 256) : Pure Tryz.prog 218 [.v (.int .u8 (c : Int))] (iv (kinB c)) := by
  unfold kinB letB digB
  simp only [Bool.or_eq_true, decide_eq_true_eq]
  refine pure_intro (tok := 0) Tryz.func218 rfl Tryz.ntmps218 Tryz.results218 Tryz.call218 (by rfl) (by simp) ?_
  (focus (refine wklp w_t w_t w_t (w_r 0) ?_; (repeat' first | exact w_t | apply w_l); all_goals intros))
  all_goals (congr 2; repeat' split)
  all_goals (first | rfl | omega)
theorem exists_end (s : ByteArray) : ∀ n, n ≤ s.size → ∃ k, k ≤ n ∧ (∀ j, j < k → (letB (gB s j) || digB (gB s j)) = true) ∧ (k < n → (letB (gB s k) || digB (gB s k)) = false)
  | 0, _ => ⟨0, by omega, fun j h => by omega, fun h => by omega⟩
  | n + 1, h => by
    obtain ⟨k, h1, h2, h3⟩ := exists_end s n (by omega)
    by_cases hk : k < n
    · exact ⟨k, by omega, h2, fun _ => h3 hk⟩
    · have : k = n := by omega
      subst this
      cases hb : (letB (gB s k) || digB (gB s k)) with
      | true => exact ⟨k + 1, by omega, fun j hj => by by_cases e : j = k; rw [e]; exact hb; exact h2 j (by omega), fun h => by omega⟩
      | false => exact ⟨k, by omega, h2, fun _ => hb⟩
set_option maxHeartbeats 4000000 in
theorem nmEnd (s : ByteArray) (hs : s.size ≤ 1000000000) : ∃ n : Nat, Pure Tryz.prog 219 [strA s, iv 0, .v (.bool true)] (iv n) ∧ n ≤ s.size ∧ (n = s.size ↔ (List.range s.size).all (fun k => letB (gB s k) || digB (gB s k)) = true) := by
  obtain ⟨n, h1, h2, h3⟩ := exists_end s s.size (Nat.le_refl _)
  refine ⟨n, ?_, h1, ?_⟩
  · refine pure_intro (tok := 0) Tryz.func219 rfl Tryz.ntmps219 Tryz.results219 Tryz.call219 (by rfl) (by simp) ?_
    (focus (refine wkap w_t w_t (w_r 0) ?_; (repeat' first | exact w_t | apply w_l); all_goals intros))
    refine r_loopE (ι := Nat) (fun i e m => i ≤ n ∧ e 0 = strA s ∧ e 1 = iv i ∧ e 2 = .v (.bool true)) (fun i => n - i) 0 (by rfl) ?_ ?_
    · rintro i e m ⟨hi, e0, e1, e2⟩
      have hk := nmKind (gB s i) (gB_lt s i)
      have kl := kinB_let (gB s i)
      have kd := kinB_dig (gB s i)
      by_cases hlt : i < n
      · have hb := h2 i hlt
        rw [Bool.or_eq_true, ← kl, ← kd] at hb
        clear kl kd
        have hg := gB_at s i
        generalize kinB (gB s i) = x at *
        rcases hb with hb | hb
        · subst hb
          (focus (refine wkap (w_a e0 (w_a e1 (w_a e2 (w_a hg w_t)))) (w_a hk w_t) (w_r 0) ?_; (repeat' first | exact w_t | apply w_l); all_goals intros))
          exact ⟨i + 1, ⟨by omega, by exact gW e0, by exact gS, by exact gW e2⟩, by omega⟩
        · subst hb
          (focus (refine wkap (w_a e0 (w_a e1 (w_a e2 (w_a hg w_t)))) (w_a hk w_t) (w_r 0) ?_; (repeat' first | exact w_t | apply w_l); all_goals intros))
          exact ⟨i + 1, ⟨by omega, by exact gW e0, by exact gS, by exact gW e2⟩, by omega⟩
      · have hin : i = n := by omega
        subst hin
        by_cases hsz : i < s.size
        · have hb := h3 hsz
          rw [Bool.or_eq_false_iff] at hb
          have b1 : kinB (gB s i) ≠ 2 := fun h => by rw [kl.1 h] at hb; exact absurd hb.1 (by decide)
          have b2 : kinB (gB s i) ≠ 3 := fun h => by rw [kd.1 h] at hb; exact absurd hb.2 (by decide)
          clear kl kd
          have hg := gB_at s i
          generalize kinB (gB s i) = x at *
          (focus (refine wklp (w_a e0 (w_a e1 (w_a e2 (w_a hg w_t)))) (w_a hk w_t) w_t (w_r 0) ?_; (repeat' first | exact w_t | apply w_l); all_goals intros))
        · (focus (refine wklp (w_a e0 (w_a e1 (w_a e2 w_t))) w_t w_t (w_r 0) ?_; (repeat' first | exact w_t | apply w_l); all_goals intros))
    · exact ⟨Nat.zero_le _, by exact gC, by exact gC, by exact gC⟩
  · rw [List.all_eq_true]
    constructor
    · intro h x hx
      exact h2 x (by rw [h]; exact List.mem_range.1 hx)
    · intro h
      rcases Nat.lt_or_ge n s.size with h4 | h4
      · have := h n (List.mem_range.2 h4)
        rw [h3 h4] at this; cases this
      · omega
set_option maxHeartbeats 4000000 in
theorem nmKeys : Pure Tryz.prog 220 [] (.sl 1 (kwL.map strA)) := by
  unfold kwL
  refine pure_intro (tok := 0) Tryz.func220 rfl Tryz.ntmps220 Tryz.results220 Tryz.call220 (by rfl) (by simp) ?_
  (focus (refine wklp w_t w_t w_t (w_r 0) ?_; (repeat' first | exact w_t | apply w_l); all_goals intros))
end Go.Proofs.YtbgmnobnaplmlaaGreat
end

section
namespace Go.Proofs.YtbgmnobnaplmlaaGreat
open Go Go.RowKit Go.Pg Go.Pol
set_option linter.unusedSimpArgs false
set_option linter.unusedVariables false
set_option maxRecDepth 20000
attribute [-bool_to_prop] Bool.and_eq_decide Bool.or_eq_decide Bool.decide_beq_decide decide_eq_decide
/-! ### errors -/
def arS (k : Int) : Int :=
  if k = 1 then 0 else if k = 2 ∨ k = 5 ∨ k = 6 ∨ k = 14 then 2 else if k = 3 ∨ k = 4 ∨ k = 7 ∨ k = 8 ∨ k = 10 ∨ k = 11 then 3 else if k = 9 ∨ k = 12 ∨ k = 13 then 4 else -1
def arG (k : Int) : Int :=
  if k = 8 then 2 else if k = 1 ∨ k = 5 then 3 else if k = 2 ∨ k = 3 ∨ k = 4 ∨ k = 6 ∨ k = 9 then 4 else if k = 7 then 8 else 0
def outB (n : Int) (l : List Int) : Bool := l.any fun a => decide (a < 0) || decide (n ≤ a)
abbrev RS.zero : RS := ⟨0, .empty, [], ⟨false, [], []⟩⟩
def errS (ss : List RS) (i : Nat) : Int :=
  let s := ss.getD i RS.zero
  if arS s.k < 0 then 8
  else if (s.ar.length : Int) ≠ arS s.k then 1
  else if outB (i : Int) s.ar = true then 2
  else if (s.k = 2 ∧ s.r.ok = false) ∨ (s.k ≠ 2 ∧ s.r.none = false) then 1
  else if s.nm.size = 0 then 0
  else if namB s.nm = false then 6
  else if (ss.take i).any (fun t => t.nm.toList == s.nm.toList) = true then 7
  else 0
def errG (g : RG) (n : Nat) : Int :=
  if arG g.k = 0 then 8
  else if (g.ar.length : Int) ≠ arG g.k then 1
  else if outB (n : Int) g.ar = true then 2
  else if (g.k = 9 ∧ g.r.ok = false) ∨ (g.k ≠ 9 ∧ g.r.none = false) then 1
  else 0
/-- The first that is not 0. -/
def fstE (f : Nat → Int) : Nat → Int
  | 0 => 0
  | n + 1 => if fstE f n ≠ 0 then fstE f n else f n
theorem fstE_zero {f : Nat → Int} : ∀ {n : Nat}, (∀ j, j < n → f j = 0) → fstE f n = 0
  | 0, _ => rfl
  | n + 1, h => by
    unfold fstE
    rw [if_neg (by rw [fstE_zero fun j hj => h j (by omega)]; simp)]
    exact h n (by omega)
theorem fstE_at {f : Nat → Int} {i : Nat} (h : ∀ j, j < i → f j = 0) (hi : f i ≠ 0) : ∀ {n : Nat}, i < n → fstE f n = f i
  | 0, hn => by omega
  | n + 1, hn => by
    unfold fstE
    by_cases e : i = n
    · subst e
      rw [if_neg (by rw [fstE_zero h]; simp)]
    · have := fstE_at h hi (n := n) (by omega)
      rw [this, if_pos hi]
theorem fstE_all {f : Nat → Int} : ∀ {n : Nat}, fstE f n = 0 → ∀ j, j < n → f j = 0
  | 0, _, j, hj => by omega
  | n + 1, h, j, hj => by
    unfold fstE at h
    split at h
    · rename_i h1; exact absurd h h1
    · rename_i h1
      by_cases e : j = n
      · subst e; exact h
      · exact fstE_all (n := n) (by rcases Decidable.em (fstE f n = 0) with h2 | h2; exact h2; exact absurd h2 h1) j (by omega)
def figE (ss : List RS) (gs : List RG) : Int :=
  if 40 < ss.length ∨ 8 < gs.length then 4
  else if fstE (errS ss) ss.length ≠ 0 then fstE (errS ss) ss.length
  else fstE (fun i => errG (gs.getD i ⟨0, [], ⟨false, [], []⟩⟩) ss.length) gs.length
/-- The frame of a figure, or its error. -/
def frame (ss : List RS) (gs : List RG) : List (Po × Po) × List Vt × Int :=
  if figE ss gs ≠ 0 then ([], [], figE ss gs)
  else if (List.range ss.length).any (bigN ss) = true then ([], [], 4)
  else ((frN ss ss.length).cs, (frN ss ss.length).vs, 0)
theorem outB_in {n : Int} {l : List Int} (h : outB n l = false) {k : Nat} (hk : k < l.length) : 0 ≤ gI l k ∧ gI l k < n := by
  unfold outB at h
  rw [List.any_eq_false] at h
  have := h (gI l k) (by rw [gI_at hk]; exact List.getElem_mem hk)
  simp only [Bool.or_eq_true, decide_eq_true_eq] at this
  omega
/-- What a step in order is like. -/
theorem errS_ok {ss : List RS} {i : Nat} (hi : i < ss.length) (h : errS ss i = 0) : 0 ≤ arS ss[i].k ∧ (ss[i].ar.length : Int) = arS ss[i].k ∧ (∀ k, k < ss[i].ar.length → 0 ≤ gI ss[i].ar k ∧ gI ss[i].ar k < (i : Int)) ∧ (ss[i].k = 2 → ss[i].r.ok = true) := by
  unfold errS at h
  rw [show ss.getD i RS.zero = ss[i] from by rw [List.getD_eq_getElem?_getD, List.getElem?_eq_getElem hi]; rfl] at h
  generalize ss[i] = s at *
  simp only at h
  split at h
  · omega
  · split at h
    · omega
    · split at h
      · omega
      · split at h
        · omega
        · rename_i h1 h2 h3 h4
          refine ⟨by omega, by omega, fun k hk => outB_in (by simpa using h3) hk, fun h5 => ?_⟩
          cases h6 : s.r.ok with
          | true => rfl
          | false => exact absurd (.inl ⟨h5, h6⟩) h4
end Go.Proofs.YtbgmnobnaplmlaaGreat
end

section
namespace Go.Proofs.YtbgmnobnaplmlaaGreat
open Go Go.RowKit Go.Pg Go.Pol
set_option linter.unusedSimpArgs false
set_option linter.unusedVariables false
set_option maxRecDepth 20000
attribute [local go_sem] Tryz.underlying3 Tryz.underlying4 Tryz.underlying43 Tryz.underlying41 Tryz.underlying39 Tryz.underlying63 Tryz.underlying69 Tryz.underlying61 Tryz.underlying70 Tryz.underlying78 sz3 by3 z3 szRat zRat szInt zInt szNat zNat szTerm byTerm zTerm szMono byMono zMono szPoly byPoly zPoly
attribute [-bool_to_prop] Bool.and_eq_decide Bool.or_eq_decide Bool.decide_beq_decide decide_eq_decide
theorem sgn_ne {q : Rat} : (q.num.sign = 0) = (q = 0) := by rw [Int.sign_eq_zero_iff_zero, Rat.num_eq_zero]
theorem poLex (s t : Tm) (hs : Sm s.2) (ht : Sm t.2) : Pure Tryz.prog 181 [tmA s, tmA t] (iv (lexC s.2 t.2 (max s.2.length t.2.length))) := by
  have c : Pure Tryz.prog 222 [ivs s.2, ivs t.2, iv 0] (iv (cmpI s.2 t.2 0)) := monCmp s.2 t.2 0 hs ht
  have e : cmpI s.2 t.2 0 = lexC s.2 t.2 (max s.2.length t.2.length) := by unfold cmpI; rw [if_neg (by omega)]
  rw [e] at c
  obtain ⟨q, a⟩ := s
  obtain ⟨r, b⟩ := t
  simp only at *
  generalize lexC a b (max a.length b.length) = x at *
  refine pure_intro (tok := 0) Tryz.func181 rfl Tryz.ntmps181 Tryz.results181 Tryz.call181 (by rfl) (by simp) ?_
  (focus (refine wklp w_t (w_a c w_t) w_t (w_r 0) ?_; (repeat' first | exact w_t | apply w_l); all_goals intros))
set_option maxHeartbeats 1000000 in
theorem poAdded (s t : Tm) {j k : Nat} (hs : Sz s.1 j) (ht : Sz t.1 k) (hj : j ≤ 1000000) (hk : k ≤ 1000000) : Pure Tryz.prog 182 [tmA s, tmA t] (.tup [tmA (s.1 + t.1, s.2), .v (.bool (!decide ((s.1 + t.1).num.sign = 0)))]) := by
  have c := ratAdd s.1 t.1 hs ht (by omega) (by omega)
  have cs := ratSign (s.1 + t.1) (hs.add ht) (by omega)
  obtain ⟨q, a⟩ := s
  obtain ⟨r, b⟩ := t
  simp only at *
  generalize q + r = x at *
  refine pure_intro (tok := 0) Tryz.func182 rfl Tryz.ntmps182 Tryz.results182 Tryz.call182 (by rfl) (by simp) ?_
  (repeat' (first | (with_reducible first | refine stp ?_ | apply gx1 | apply gx2 | apply gx3 | apply gx4 | apply gx5 | apply gx6 | apply gx7 | apply gy8 | apply gz2 | apply gz3 | refine gw0 (c) ?_ ?_ | refine gw3 (c) ?_ ?_ ?_ | refine gw0 (cs) ?_ ?_ | refine gw3 (cs) ?_ ?_ ?_) | (with_reducible refine all_v ?_; intro _) | ((with_reducible refine gE ?_); (try simp (disch := omega) only [go_sem]) <;> first | rfl | omega) | with_reducible refine t_in_other (by decide) ?_ | ((with_reducible apply gy1); iterate 3 focus rfl) | ((with_reducible apply gy2); iterate 3 focus rfl) | ((with_reducible apply gy3); iterate 2 focus rfl) | ((with_reducible apply gy4); iterate 1 focus rfl) | ((with_reducible apply gy5); iterate 4 focus rfl) | ((with_reducible apply gy6); iterate 4 focus rfl) | ((with_reducible apply d_bar); iterate 3 focus rfl) | ((with_reducible apply q_pub); iterate 1 focus rfl) | ((with_reducible apply gy7); iterate 1 focus rfl) | ((with_reducible apply gy9); (focus ((with_reducible refine gE ?_); (try simp (disch := omega) only [go_sem]) <;> rfl))) | ((with_reducible apply gz1); (focus first | rfl | (simp (disch := omega) only [go_sem]; done))) | ((with_reducible apply r_drawD (pickR [(5, .v (.int .i64 x.num.sign))]) [] [4]); (focus kernel_rfl); (focus rfl); (focus kernel_rfl); (focus (simp only [List.length_cons, List.length_nil, Nat.reduceAdd]; rfl)))))
  (all_goals (try simp (disch := omega) only [go_sem, decide_eq_true, decide_eq_false, if_pos, if_neg, Int.reduceAdd, Int.reduceSub, Int.reduceToNat, Int.zero_add])); (all_goals first | done | rfl | (congr 2; first | done | omega | (rw [Bool.eq_iff_iff]; simp only [bool_to_prop, Bool.false_eq_true, iff_true, true_iff, iff_false, false_iff]; omega)) | skip)
theorem addM_step {p q : Po} {i k : Nat} (hi : i < p.length) (hk : k < q.length) : addM (p.drop i) (q.drop k) =
    if ltM q[k].2 p[i].2 then p[i] :: addM (p.drop (i + 1)) (q.drop k) else if ltM p[i].2 q[k].2 then q[k] :: addM (p.drop i) (q.drop (k + 1))
    else if p[i].1 + q[k].1 = 0 then addM (p.drop (i + 1)) (q.drop (k + 1)) else (p[i].1 + q[k].1, p[i].2) :: addM (p.drop (i + 1)) (q.drop (k + 1)) := by
  rw [List.drop_eq_getElem_cons hi, List.drop_eq_getElem_cons hk]
  rw [show addM (p[i] :: p.drop (i + 1)) (q[k] :: q.drop (k + 1)) = _ from by unfold addM; rw [addP]]
theorem addM_end {p q : Po} {i k : Nat} (h : p.length ≤ i ∨ q.length ≤ k) : addM (p.drop i) (q.drop k) = p.drop i ++ q.drop k := by
  rcases h with h | h
  · rw [List.drop_eq_nil_of_le h]; simp [addM, addP]
  · rw [List.drop_eq_nil_of_le h, List.append_nil]; exact addP_nil _
set_option maxHeartbeats 4000000 in
theorem poMerge (p q : Po) {j k e : Nat} (hp : PK p j e) (hq : PK q k e) (sp : SrtM p) (sq : SrtM q) (lp : p.length ≤ 1000000) (lq : q.length ≤ 1000000) (hj : j ≤ 1000000) (hk : k ≤ 1000000) (he : e ≤ 16777216) :
    Pure Tryz.prog 180 [poA p, poA q, .fn 181 [], .fn 182 []] (poA (addM p q)) := by
  refine pure_intro (tok := 0) Tryz.func180 rfl Tryz.ntmps180 Tryz.results180 Tryz.call180 (by rfl) (by simp) ?_
  (focus (refine wkad (w_a @l_map w_t) w_t w_t ?_; (repeat' first | exact w_t | apply w_l); all_goals intros))
  rename_i sv0
  refine r_loopE (ι := Nat × Nat) (fun x e m => x.1 ≤ p.length ∧ x.2 ≤ q.length ∧ e 0 = poA p ∧ e 1 = poA q ∧ e 2 = .fn 181 [] ∧ e 3 = .fn 182 [] ∧ e 10 = iv x.1 ∧ e 11 = iv x.2 ∧ ∃ sv out, e 9 = .own 20 sv ∧ m 20 = some (.row sv 63 4 (out.map tmA) 0) ∧ out.length ≤ x.1 + x.2 ∧ addM p q = out ++ addM (p.drop x.1) (q.drop x.2)) (fun x => p.length + q.length - (x.1 + x.2)) (0, 0) (by rfl) ?_ ?_
  · rintro ⟨i, l⟩ e m ⟨hi, hl, e0, e1, e2, e3, e10, e11, sv, out, e9, em, ho, hs⟩
    simp only at hi hl e10 e11 ho hs
    by_cases hil : i < p.length ∧ l < q.length
    · obtain ⟨hi2, hl2⟩ := hil
      have hg := map_atB tmA hi2
      have hh := map_atB tmA hl2
      have st := addM_step hi2 hl2
      have ms := hp _ (List.getElem_mem hi2)
      have mt := hq _ (List.getElem_mem hl2)
      have m1 := hp.sm he (List.getElem_mem hi2)
      have m2 := hq.sm he (List.getElem_mem hl2)
      have d1 := sp.dom _ (List.getElem_mem hi2)
      have d2 := sq.dom _ (List.getElem_mem hl2)
      generalize p[i] = s at *
      generalize q[l] = t at *
      have cl := poLex s t m1 m2
      have ca := poAdded s t ms.1 mt.1 hj hk
      have hlen : (out.map tmA).length = out.length := List.length_map ..
      rw [st] at hs
      rcases lexM_cases d1 d2 with ⟨h1, h2⟩ | ⟨h1, h1', h2, h3⟩ | ⟨h1, h1', h2⟩
      · have h3 : ¬ ltM t.2 s.2 := fun h => ordM.irr _ (ordM.tr _ _ _ h h1)
        rw [if_neg h3, if_pos h1] at hs
        rw [h2] at cl
        clear st ms mt m1 m2 d1 d2 ca
        (focus (refine wkad (w_a e0 (w_a e1 (w_a e2 (w_a e3 (w_a e9 (w_a e10 (w_a e11 (w_a em (w_a hg (w_a hh (w_a @l_map w_t))))))))))) (w_a cl w_t) (w_a (w_d 4 [(9, iv (-1))] [] []) w_t) ?_; (repeat' first | exact w_t | apply w_l); all_goals intros))
        refine ⟨(i, l + 1), ⟨by simp only; omega, by simp only; omega, by exact gW e0, by exact gW e1, by exact gW e2, by exact gW e3, by exact gW e10, by exact gS, _, out ++ [t], by exact gC, by (simp (disch := omega) only [go_sem, List.map_append] <;> repeat' first | rfl | refine ⟨?_, ?_⟩), by simp only [List.length_append, List.length_cons, List.length_nil]; omega, by rw [hs, List.append_assoc]; rfl⟩, by simp only; omega⟩
      · rw [if_neg h1', if_neg h1] at hs
        rw [h3] at cl
        by_cases hz : s.1 + t.1 = 0
        · rw [if_pos hz] at hs
          rw [decide_eq_true (show (s.1 + t.1).num.sign = 0 by rw [sgn_ne]; exact hz)] at ca
          clear st ms mt m1 m2 d1 d2
          generalize (s.1 + t.1) = z at *
          (focus (refine wkad (w_a e0 (w_a e1 (w_a e2 (w_a e3 (w_a e9 (w_a e10 (w_a e11 (w_a em (w_a hg (w_a hh (w_a @l_map (w_a @Bool.not_true w_t)))))))))))) (w_a cl (w_a ca w_t)) (w_a (w_d 4 [(9, iv 0)] [] []) (w_a (w_d 5 [(9, .tup [tmA (z, s.2), .v (.bool false)])] [] [13]) w_t)) ?_; (repeat' first | exact w_t | apply w_l); all_goals intros))
          refine ⟨(i + 1, l + 1), ⟨by simp only; omega, by simp only; omega, by exact gW e0, by exact gW e1, by exact gW e2, by exact gW e3, by exact gS, by exact gS, _, out, by exact gW e9, by exact gW em, by simp only; omega, hs⟩, by simp only; omega⟩
        · rw [if_neg hz] at hs
          rw [decide_eq_false (show ¬ (s.1 + t.1).num.sign = 0 by rw [sgn_ne]; exact hz)] at ca
          clear st ms mt m1 m2 d1 d2
          generalize (s.1 + t.1) = z at *
          (focus (refine wkad (w_a e0 (w_a e1 (w_a e2 (w_a e3 (w_a e9 (w_a e10 (w_a e11 (w_a em (w_a hg (w_a hh (w_a @l_map (w_a @Bool.not_false w_t)))))))))))) (w_a cl (w_a ca w_t)) (w_a (w_d 4 [(9, iv 0)] [] []) (w_a (w_d 5 [(9, .tup [tmA (z, s.2), .v (.bool true)])] [] [13]) w_t)) ?_; (repeat' first | exact w_t | apply w_l); all_goals intros))
          refine ⟨(i + 1, l + 1), ⟨by simp only; omega, by simp only; omega, by exact gW e0, by exact gW e1, by exact gW e2, by exact gW e3, by exact gS, by exact gS, _, out ++ [(z, s.2)], by exact gC, by (simp (disch := omega) only [go_sem, List.map_append] <;> repeat' first | rfl | refine ⟨?_, ?_⟩), by simp only [List.length_append, List.length_cons, List.length_nil]; omega, by rw [hs, List.append_assoc]; rfl⟩, by simp only; omega⟩
      · rw [if_pos h1] at hs
        rw [h2] at cl
        clear st ms mt m1 m2 d1 d2 ca
        (focus (refine wkad (w_a e0 (w_a e1 (w_a e2 (w_a e3 (w_a e9 (w_a e10 (w_a e11 (w_a em (w_a hg (w_a hh (w_a @l_map w_t))))))))))) (w_a cl w_t) (w_a (w_d 4 [(9, iv 1)] [] []) w_t) ?_; (repeat' first | exact w_t | apply w_l); all_goals intros))
        refine ⟨(i + 1, l), ⟨by simp only; omega, by simp only; omega, by exact gW e0, by exact gW e1, by exact gW e2, by exact gW e3, by exact gS, by exact gW e11, _, out ++ [s], by exact gC, by (simp (disch := omega) only [go_sem, List.map_append] <;> repeat' first | rfl | refine ⟨?_, ?_⟩), by simp only [List.length_append, List.length_cons, List.length_nil]; omega, by rw [hs, List.append_assoc]; rfl⟩, by simp only; omega⟩
    · rw [addM_end (by omega)] at hs
      rw [hs]
      clear hs
      have tp : (p.map tmA).take p.length = p.map tmA := by rw [← List.length_map (f := tmA), List.take_length]
      have tq : (q.map tmA).take q.length = q.map tmA := by rw [← List.length_map (f := tmA), List.take_length]
      by_cases hi2 : i < p.length
      · have hl2 : l = q.length := by omega
        subst hl2
        (focus (refine wkad (w_a e0 (w_a e1 (w_a e2 (w_a e3 (w_a e9 (w_a e10 (w_a e11 (w_a em (w_a @l_map (w_a @l_drop (w_a @l_app (w_a @l_take (w_a @Nat.min_self (w_a tp (w_a tq w_t))))))))))))))) w_t w_t ?_; (repeat' first | exact w_t | apply w_l); all_goals intros))
        (all_goals (try simp (disch := omega) only [go_sem, List.append_assoc, tp, tq, decide_eq_true, decide_eq_false, if_pos, if_neg, Int.reduceAdd, Int.reduceSub, Int.reduceToNat, Int.zero_add])); (all_goals first | done | rfl | (congr 2; first | done | omega | (rw [Bool.eq_iff_iff]; simp only [bool_to_prop, Bool.false_eq_true, iff_true, true_iff, iff_false, false_iff]; omega)) | skip)
        all_goals exact congrArg (AV.sl 4) (by simp only [List.map_append, List.map_drop])
      · (focus (refine wkad (w_a e0 (w_a e1 (w_a e2 (w_a e3 (w_a e9 (w_a e10 (w_a e11 (w_a em (w_a @l_map (w_a @l_drop (w_a @l_app (w_a @l_take (w_a @Nat.min_self (w_a tp (w_a tq w_t))))))))))))))) w_t w_t ?_; (repeat' first | exact w_t | apply w_l); all_goals intros))
        (all_goals (try simp (disch := omega) only [go_sem, List.append_assoc, tp, tq, decide_eq_true, decide_eq_false, if_pos, if_neg, Int.reduceAdd, Int.reduceSub, Int.reduceToNat, Int.zero_add])); (all_goals first | done | rfl | (congr 2; first | done | omega | (rw [Bool.eq_iff_iff]; simp only [bool_to_prop, Bool.false_eq_true, iff_true, true_iff, iff_false, false_iff]; omega)) | skip)
        all_goals exact congrArg (AV.sl 4) (by simp only [List.map_append, List.map_drop])
  · exact ⟨Nat.zero_le _, Nat.zero_le _, by exact gC, by exact gC, by exact gC, by exact gC, by exact gC, by exact gC, _, [], by exact gC, by (simp (disch := omega) only [go_sem, List.map_nil, List.replicate_zero] <;> repeat' first | rfl | refine ⟨?_, ?_⟩), by simp, by simp⟩
end Go.Proofs.YtbgmnobnaplmlaaGreat
end

section
namespace Go.Proofs.YtbgmnobnaplmlaaGreat
open Go Go.RowKit Go.Pg Go.Pol
set_option linter.unusedSimpArgs false
set_option linter.unusedVariables false
set_option maxRecDepth 20000
attribute [local go_sem] Tryz.underlying3 Tryz.underlying4 Tryz.underlying43 Tryz.underlying41 Tryz.underlying39 Tryz.underlying63 Tryz.underlying69 Tryz.underlying61 Tryz.underlying70 Tryz.underlying78 sz3 by3 z3 szRat zRat szInt zInt szNat zNat szTerm byTerm zTerm szMono byMono zMono szPoly byPoly zPoly
attribute [-bool_to_prop] Bool.and_eq_decide Bool.or_eq_decide Bool.decide_beq_decide decide_eq_decide
theorem poAdd (p q : Po) {j k e : Nat} (hp : PK p j e) (hq : PK q k e) (sp : SrtM p) (sq : SrtM q) (lp : p.length ≤ 1000000) (lq : q.length ≤ 1000000) (hj : j ≤ 1000000) (hk : k ≤ 1000000) (he : e ≤ 16777216) :
    Pure Tryz.prog 106 [poA p, poA q] (poA (addM p q)) := by
  have c := poMerge p q hp hq sp sq lp lq hj hk he
  generalize addM p q = r at *
  refine pure_intro (tok := 0) Tryz.func106 rfl Tryz.ntmps106 Tryz.results106 Tryz.call106 (by rfl) (by simp) ?_
  (focus (refine wklp w_t (w_a c w_t) w_t (w_r 0) ?_; (repeat' first | exact w_t | apply w_l); all_goals intros))
theorem poTimes1 {p : Po} {t : Tm} {i : Nat} (hi : i < p.length) : timesP mulM (p.take (i + 1)) t = timesP mulM (p.take i) t ++ [(p[i].1 * t.1, mulM p[i].2 t.2)] := by
  unfold timesP
  rw [List.take_succ_eq_append_getElem hi, List.map_append]; rfl
theorem timesP_len (p : Po) (t : Tm) : (timesP mulM p t).length = p.length := by unfold timesP; simp
set_option maxHeartbeats 4000000 in
theorem poTimes (p : Po) (t : Tm) {j k e f : Nat} (hp : PK p j e) (ht : PK [t] k f) (sp : SrtM p) (h0 : t.1 ≠ 0) (hd : Can t.2) (lp : p.length ≤ 1000000) (hj : j ≤ 1000000) (hk : k ≤ 1000000) (he : e ≤ 16777216) (hf : f ≤ 16777216) :
    Pure Tryz.prog 149 [poA p, .agg [.v (.bool (decide (t.1.num < 0))), lim (toL t.1.num.natAbs), lim (toL t.1.den), ivs t.2]] (poA (timesP mulM p t)) := by
  refine pure_intro (tok := 0) Tryz.func149 rfl Tryz.ntmps149 Tryz.results149 Tryz.call149 (by rfl) (by simp) ?_
  (focus (refine wkad (w_a @l_map w_t) w_t w_t ?_; (repeat' first | exact w_t | apply w_l); all_goals intros))
  rename_i g3 sv0
  refine r_loopE (ι := Nat) (fun i e m => i ≤ p.length ∧ e 3 = .pbox 3 g3 0 ∧ m 3 = some (.box g3 63 [.v (.bool (decide (t.1.num < 0))), lim (toL t.1.num.natAbs), lim (toL t.1.den), ivs t.2] false) ∧ e 12 = poA p ∧ e 13 = iv p.length ∧ e 14 = iv i ∧ ∃ sv, e 5 = .own 11 sv ∧ m 11 = some (.row sv 63 4 ((timesP mulM (p.take i) t).map tmA) 0)) (fun i => p.length - i) 0 (by rfl) ?_ ?_
  · rintro i e m ⟨hi, e3, m3, e12, e13, e14, sv, e5, m11⟩
    by_cases hlt : i < p.length
    · have hg := map_atB tmA hlt
      have hs := poTimes1 (t := t) hlt
      have ms := hp _ (List.getElem_mem hlt)
      have m1 := hp.sm he (List.getElem_mem hlt)
      have m2 := ht.sm hf (.head _)
      have d1 := sp.dom _ (List.getElem_mem hlt)
      have n1 := (sp.1 _ (List.getElem_mem hlt)).1
      have mt := (ht t (.head _)).1
      have hl : (timesP mulM (p.take i) t).length ≤ 1000000 := by rw [timesP_len, List.length_take]; omega
      generalize p[i] = s at *
      have c1 := ratMul s.1 t.1 ms.1 mt (by omega) (by omega)
      have c2 := ratSign (s.1 * t.1) (ms.1.mul mt) (by omega)
      have c3 : Pure Tryz.prog 208 [ivs s.2, ivs t.2] (ivs (trimI (mulM s.2 t.2))) := monMul s.2 t.2 m1.wd m2.wd
      rw [trim_can (mulK.dom _ _ d1 hd)] at c3
      have nz : ¬ (s.1 * t.1).num.sign = 0 := by
        rw [sgn_ne]; intro h
        rcases Rat.mul_eq_zero.1 h with h | h
        · exact n1 h
        · exact h0 h
      have nz2 : (!decide ((s.1 * t.1).num.sign = 0)) = true := by rw [decide_eq_false nz]; rfl
      obtain ⟨s1, s2⟩ := s
      simp only at *
      clear ms m1 m2 d1 n1 mt
      generalize s1 * t.1 = z at *
      generalize mulM s2 t.2 = w at *
      generalize timesP mulM (p.take i) t = out at *
      (focus (refine wkad (w_a e3 (w_a m3 (w_a e12 (w_a e13 (w_a e14 (w_a e5 (w_a m11 (w_a hg (w_a @l_map (w_a nz2 w_t)))))))))) (w_a c1 (w_a c2 (w_a c3 w_t))) (w_a (w_d 7 [(6, ivs w)] [9, 1009] [11, 34]) w_t) ?_; (repeat' first | exact w_t | apply w_l); all_goals intros))
      exact ⟨i + 1, ⟨by omega, by exact gW e3, by exact gW m3, by exact gW e12, by exact gW e13, by exact gS, _, by exact gC, by rw [hs, List.map_append]; exact gC⟩, by omega⟩
    · have hi2 : i = p.length := by omega
      subst hi2
      rw [List.take_length] at m11
      (focus (refine wkld (w_a e3 (w_a m3 (w_a e12 (w_a e13 (w_a e14 (w_a e5 (w_a m11 (w_a @l_map w_t)))))))) w_t (w_a m11 w_t) w_t ?_; (repeat' first | exact w_t | apply w_l); all_goals intros))
  · exact ⟨Nat.zero_le _, by exact gC, by exact gC, by exact gC, by (simp (disch := omega) only [go_sem, List.length_map] <;> repeat' first | rfl | refine ⟨?_, ?_⟩), by exact gC, _, by exact gC, by (simp (disch := omega) only [go_sem, List.take_zero, timesP, List.map_nil, List.replicate_zero] <;> repeat' first | rfl | refine ⟨?_, ?_⟩)⟩
set_option maxHeartbeats 4000000 in
theorem poTimesN (p : Po) (t : Tm) (hn : t.2 = []) {j k e f : Nat} (hp : PK p j e) (ht : PK [t] k f) (sp : SrtM p) (h0 : t.1 ≠ 0) (hd : Can t.2) (lp : p.length ≤ 1000000) (hj : j ≤ 1000000) (hk : k ≤ 1000000) (he : e ≤ 16777216) (hf : f ≤ 16777216) :
    Pure Tryz.prog 149 [poA p, .agg [.v (.bool (decide (t.1.num < 0))), lim (toL t.1.num.natAbs), lim (toL t.1.den), .v (.slice none 0 0)]] (poA (timesP mulM p t)) := by
  refine pure_intro (tok := 0) Tryz.func149 rfl Tryz.ntmps149 Tryz.results149 Tryz.call149 (by rfl) (by simp) ?_
  (focus (refine wkad (w_a @l_map w_t) w_t w_t ?_; (repeat' first | exact w_t | apply w_l); all_goals intros))
  rename_i g3 sv0
  refine r_loopE (ι := Nat) (fun i e m => i ≤ p.length ∧ e 3 = .pbox 3 g3 0 ∧ m 3 = some (.box g3 63 [.v (.bool (decide (t.1.num < 0))), lim (toL t.1.num.natAbs), lim (toL t.1.den), .v (.slice none 0 0)] false) ∧ e 12 = poA p ∧ e 13 = iv p.length ∧ e 14 = iv i ∧ ∃ sv, e 5 = .own 11 sv ∧ m 11 = some (.row sv 63 4 ((timesP mulM (p.take i) t).map tmA) 0)) (fun i => p.length - i) 0 (by rfl) ?_ ?_
  · rintro i e m ⟨hi, e3, m3, e12, e13, e14, sv, e5, m11⟩
    by_cases hlt : i < p.length
    · have hg := map_atB tmA hlt
      have hs := poTimes1 (t := t) hlt
      have ms := hp _ (List.getElem_mem hlt)
      have m1 := hp.sm he (List.getElem_mem hlt)
      have m2 := ht.sm hf (.head _)
      have d1 := sp.dom _ (List.getElem_mem hlt)
      have n1 := (sp.1 _ (List.getElem_mem hlt)).1
      have mt := (ht t (.head _)).1
      have hl : (timesP mulM (p.take i) t).length ≤ 1000000 := by rw [timesP_len, List.length_take]; omega
      generalize p[i] = s at *
      have c1 := ratMul s.1 t.1 ms.1 mt (by omega) (by omega)
      have c2 := ratSign (s.1 * t.1) (ms.1.mul mt) (by omega)
      have c3 : Pure Tryz.prog 208 [ivs s.2, ivs t.2] (ivs (trimI (mulM s.2 t.2))) := monMul s.2 t.2 m1.wd m2.wd
      rw [trim_can (mulK.dom _ _ d1 hd)] at c3
      have nz : ¬ (s.1 * t.1).num.sign = 0 := by
        rw [sgn_ne]; intro h
        rcases Rat.mul_eq_zero.1 h with h | h
        · exact n1 h
        · exact h0 h
      have nz2 : (!decide ((s.1 * t.1).num.sign = 0)) = true := by rw [decide_eq_false nz]; rfl
      have c3 : Pure Tryz.prog 208 [ivs s.2, .v (.slice none 0 0)] (ivs (mulM s.2 t.2)) := by
        rw [hn] at c3 ⊢
        exact pure_vkA c3 (.cons (.refl _) (.cons (.nil 1) .nil))
      obtain ⟨s1, s2⟩ := s
      simp only at *
      clear ms m1 m2 d1 n1 mt
      generalize s1 * t.1 = z at *
      generalize mulM s2 t.2 = w at *
      generalize timesP mulM (p.take i) t = out at *
      (focus (refine wkad (w_a e3 (w_a m3 (w_a e12 (w_a e13 (w_a e14 (w_a e5 (w_a m11 (w_a hg (w_a @l_map (w_a nz2 w_t)))))))))) (w_a c1 (w_a c2 (w_a c3 w_t))) (w_a (w_d 7 [(6, ivs w)] [9, 1009] [11, 34]) w_t) ?_; (repeat' first | exact w_t | apply w_l); all_goals intros))
      exact ⟨i + 1, ⟨by omega, by exact gW e3, by exact gW m3, by exact gW e12, by exact gW e13, by exact gS, _, by exact gC, by rw [hs, List.map_append]; exact gC⟩, by omega⟩
    · have hi2 : i = p.length := by omega
      subst hi2
      rw [List.take_length] at m11
      (focus (refine wkld (w_a e3 (w_a m3 (w_a e12 (w_a e13 (w_a e14 (w_a e5 (w_a m11 (w_a @l_map w_t)))))))) w_t (w_a m11 w_t) w_t ?_; (repeat' first | exact w_t | apply w_l); all_goals intros))
  · exact ⟨Nat.zero_le _, by exact gC, by exact gC, by exact gC, by (simp (disch := omega) only [go_sem, List.length_map] <;> repeat' first | rfl | refine ⟨?_, ?_⟩), by exact gC, _, by exact gC, by (simp (disch := omega) only [go_sem, List.take_zero, timesP, List.map_nil, List.replicate_zero] <;> repeat' first | rfl | refine ⟨?_, ?_⟩)⟩
end Go.Proofs.YtbgmnobnaplmlaaGreat
end

section
namespace Go.Proofs.YtbgmnobnaplmlaaGreat
open Go Go.RowKit Go.Pg
set_option linter.unusedSimpArgs false
set_option linter.unusedVariables false
set_option maxRecDepth 20000
attribute [local go_sem] Tryz.underlying3 Tryz.underlying2 Tryz.underlying115 Tryz.underlying178 Tryz.underlying4 Tryz.underlying43 Tryz.underlying39 Tryz.underlying41 sz3 by3 z3 szL byL zL szRat zRat szNat zNat szInt zInt
attribute [-bool_to_prop] Bool.and_eq_decide Bool.or_eq_decide Bool.decide_beq_decide decide_eq_decide
theorem intOfM : Pure Tryz.prog 224 [iv (-1)] (intZ (-1)) := by
  have hm := intMade true 1 (by rw [lg_one]; omega)
  have hn := natOf 1 (by omega)
  rw [show zI true 1 = -1 from rfl] at hm
  rw [show intZ (-1) = .agg [.v (.bool true), lim (toL 1)] from rfl] at hm ⊢
  generalize toL 1 = l at *
  refine pure_intro (tok := 0) Tryz.func224 rfl Tryz.ntmps224 Tryz.results224 Tryz.call224 (by rfl) (by simp) ?_
  (focus (refine wklp w_t (w_a hn (w_a hm w_t)) w_t (w_r 0) ?_; (repeat' first | exact w_t | apply w_l); all_goals intros))
theorem ratOfM : Pure Tryz.prog 183 [iv (-1)] (ratQ (-1)) := by
  have c := intOfM
  rw [show intZ (-1) = .agg [.v (.bool true), lim (toL 1)] from rfl] at c
  rw [show ratQ (-1) = .agg [.v (.bool true), lim (toL 1), lim (toL 1)] from rfl]
  have u := ratUnit
  generalize toL 1 = l at *
  refine pure_intro (tok := 0) Tryz.func183 rfl Tryz.ntmps183 Tryz.results183 Tryz.call183 (by rfl) (by simp) ?_
  (focus (refine wklp w_t (w_a c (w_a u w_t)) w_t (w_r 0) ?_; (repeat' first | exact w_t | apply w_l); all_goals intros))
theorem zOfM : Pure Tryz.prog 56 [iv (-1)] (intZ (-1)) := by
  have hm := zOf' true 1 (by rw [lg_one]; omega)
  have h0 := refOf 0 (by omega)
  have h1 := refOf 1 (by omega)
  have ha := rAdd 0 1 (by rw [toL_zero]; simp) (by rw [lg_one]; omega)
  rw [show zI true 1 = -1 from rfl] at hm
  rw [show 0 + 1 = 1 from rfl] at ha
  rw [show intZ (-1) = .agg [.v (.bool true), lim (toL 1)] from rfl] at hm ⊢
  generalize toL 1 = l at *
  generalize toL 0 = k at *
  refine pure_intro (tok := 0) Tryz.func56 rfl Tryz.ntmps56 Tryz.results56 Tryz.call56 (by rfl) (by simp) ?_
  (focus (refine wklp w_t (w_a h0 (w_a h1 (w_a ha (w_a hm w_t)))) w_t (w_r 0) ?_; (repeat' first | exact w_t | apply w_l); all_goals intros))
theorem qOfM : Pure Tryz.prog 18 [iv (-1)] (ratQ (-1)) := by
  have c := zOfM
  have h1 := refOf 1 (by omega)
  have co : Pure Tryz.prog 55 [.agg [.v (.bool true), lim (toL 1)], lim (toL 1)] (ratQ (mkRat (zI true 1) 1)) := qOver true 1 1 (by rw [lg_one]; omega) (by rw [lg_one]; omega) (by omega)
  rw [show mkRat (zI true 1) 1 = (-1 : Rat) from rfl] at co
  rw [show intZ (-1) = .agg [.v (.bool true), lim (toL 1)] from rfl] at c
  rw [show ratQ (-1) = .agg [.v (.bool true), lim (toL 1), lim (toL 1)] from rfl] at *
  generalize toL 1 = l at *
  refine pure_intro (tok := 0) Tryz.func18 rfl Tryz.ntmps18 Tryz.results18 Tryz.call18 (by rfl) (by simp) ?_
  (focus (refine wklp w_t (w_a c (w_a h1 (w_a co w_t))) w_t (w_r 0) ?_; (repeat' first | exact w_t | apply w_l); all_goals intros))
end Go.Proofs.YtbgmnobnaplmlaaGreat
end

section
namespace Go.Proofs.YtbgmnobnaplmlaaGreat
open Go Go.RowKit Go.Pg Go.Pol
set_option linter.unusedSimpArgs false
set_option linter.unusedVariables false
set_option maxRecDepth 20000
attribute [local go_sem] Tryz.underlying3 Tryz.underlying4 Tryz.underlying43 Tryz.underlying41 Tryz.underlying39 Tryz.underlying63 Tryz.underlying69 Tryz.underlying61 Tryz.underlying70 Tryz.underlying78 sz3 by3 z3 szRat zRat szInt zInt szNat zNat szTerm byTerm zTerm szMono byMono zMono szPoly byPoly zPoly
attribute [-bool_to_prop] Bool.and_eq_decide Bool.or_eq_decide Bool.decide_beq_decide decide_eq_decide
/-- All sums of neighbours are of a moderate size. -/
def SumOk (l : List Po) (K e : Nat) : Prop := ∀ a b, PK (sumH ltM ((l.drop a).take b)) K e ∧ (sumH ltM ((l.drop a).take b)).length ≤ 1000000
theorem SumOk.take {l : List Po} {K e : Nat} (h : SumOk l K e) (k : Nat) : SumOk (l.take k) K e := fun a b => by
  rw [List.drop_take, List.take_take]; exact h a _
theorem SumOk.drop {l : List Po} {K e : Nat} (h : SumOk l K e) (k : Nat) : SumOk (l.drop k) K e := fun a b => by
  rw [List.drop_drop]; exact h _ b
theorem SumOk.all {l : List Po} {K e : Nat} (h : SumOk l K e) : PK (sumH ltM l) K e ∧ (sumH ltM l).length ≤ 1000000 := by
  have := h 0 l.length
  rwa [List.drop_zero, List.take_length] at this
set_option maxHeartbeats 4000000 in
theorem poSumN : ∀ (n : Nat) (l : List Po) {K e : Nat}, l.length = n → (∀ p ∈ l, SrtM p) → SumOk l K e → l.length ≤ 1000000 → K ≤ 1000000 → e ≤ 16777216 → Pure Tryz.prog 150 [.sl 1 (l.map poA)] (poA (sumH ltM l)) := by
  intro n
  induction n using Nat.strongRecOn with
  | _ n ih =>
    intro l K e hn hs ho hl hK he
    match l, hn, hs, ho, hl with
    | [], hn, hs, ho, hl =>
      rw [show sumH ltM [] = [] from by simp [sumH]]
      refine pure_vkR (r := .v (.slice none 0 0)) ?_ (.nil 4)
      refine pure_intro (tok := 0) Tryz.func150 rfl Tryz.ntmps150 Tryz.results150 Tryz.call150 (by rfl) (by simp) ?_
      (focus (refine wkld w_t w_t w_t w_t ?_; (repeat' first | exact w_t | apply w_l); all_goals intros))
    | [p], hn, hs, ho, hl =>
      rw [show sumH ltM [p] = p from by simp [sumH]]
      refine pure_intro (tok := 0) Tryz.func150 rfl Tryz.ntmps150 Tryz.results150 Tryz.call150 (by rfl) (by simp) ?_
      (focus (refine wkld w_t w_t w_t w_t ?_; (repeat' first | exact w_t | apply w_l); all_goals intros))
    | p :: q :: r, hn, hs, ho, hl =>
      obtain ⟨L, hL⟩ : ∃ L, L = p :: q :: r := ⟨_, rfl⟩
      have h2 : 2 ≤ L.length := by rw [hL]; simp
      have e1 : sumH ltM (p :: q :: r) = addM (sumH ltM (L.take (L.length / 2))) (sumH ltM (L.drop (L.length / 2))) := by rw [sumH, ← hL]
      rw [e1]
      rw [← hL] at hn hs ho hl ⊢
      clear e1 hL
      have s1 : ∀ u ∈ L.take (L.length / 2), SrtM u := fun u hu => hs u (List.mem_of_mem_take hu)
      have s2 : ∀ u ∈ L.drop (L.length / 2), SrtM u := fun u hu => hs u (List.mem_of_mem_drop hu)
      have o1 := (ho.take (L.length / 2)).all
      have o2 := (ho.drop (L.length / 2)).all
      have c1 := ih (L.take (L.length / 2)).length (by rw [List.length_take]; omega) (L.take (L.length / 2)) rfl s1 (ho.take _) (by rw [List.length_take]; omega) hK he
      have c2 := ih (L.drop (L.length / 2)).length (by rw [List.length_drop]; omega) (L.drop (L.length / 2)) rfl s2 (ho.drop _) (by rw [List.length_drop]; omega) hK he
      have c3 := poAdd (sumH ltM (L.take (L.length / 2))) (sumH ltM (L.drop (L.length / 2))) o1.1 o2.1 (sumH_srt ordM _ s1) (sumH_srt ordM _ s2) o1.2 o2.2 hK hK he
      clear ih s1 s2 o1 o2 ho hs
      have hd : (L.length : Int).tdiv 2 = ((L.length / 2 : Nat) : Int) := quo_nat _ 2
      have hh : L.length / 2 ≤ L.length := by omega
      rw [List.map_take] at c1
      rw [List.map_drop] at c2
      have hlm : (L.map poA).length = L.length := List.length_map ..
      have htk : (L.map poA).take L.length = L.map poA := by rw [← hlm, List.take_length]
      generalize sumH ltM (L.take (L.length / 2)) = x at *
      generalize sumH ltM (L.drop (L.length / 2)) = y at *
      generalize addM x y = z at *
      generalize L.length / 2 = h at *
      generalize L.map poA = M at *
      generalize L.length = len at *
      refine pure_intro (tok := 0) Tryz.func150 rfl Tryz.ntmps150 Tryz.results150 Tryz.call150 (by rfl) (by simp) ?_
      (focus (refine wkld (w_a hlm (w_a hd (w_a htk (w_a @l_drop0 w_t)))) (w_a c1 (w_a c2 (w_a c3 w_t))) w_t (w_a (w_d 7 [(3, poA x), (7, poA y), (8, poA z)] [] []) w_t) ?_; (repeat' first | exact w_t | apply w_l); all_goals intros))
theorem poSum (l : List Po) {K e : Nat} (hs : ∀ p ∈ l, SrtM p) (ho : SumOk l K e) (hl : l.length ≤ 1000000) (hK : K ≤ 1000000) (he : e ≤ 16777216) : Pure Tryz.prog 150 [.sl 1 (l.map poA)] (poA (sumH ltM l)) := poSumN _ l rfl hs ho hl hK he
set_option maxHeartbeats 4000000 in
theorem poMul0 (p q : Po) (a b : Po) (hab : (q.length < p.length ∧ a = q ∧ b = p) ∨ (¬ q.length < p.length ∧ a = p ∧ b = q)) {j k e f K E : Nat} (hp : PK a j e) (hq : PK b k f) (sp : SrtM a) (sq : SrtM b) (lp : a.length ≤ 1000000) (lq : b.length ≤ 1000000) (hj : j ≤ 1000000) (hk : k ≤ 1000000) (he : e ≤ 16777216) (hf : f ≤ 16777216)
    (ho : SumOk (a.map fun t => timesP mulM b t) K E) (hK : K ≤ 1000000) (hE : E ≤ 16777216) :
    Pure Tryz.prog 78 [poA p, poA q] (poA (mlM b a)) := by
  have hs : ∀ u ∈ a.map (fun t => timesP mulM b t), SrtM u := fun u hu => by
    obtain ⟨t, ht, rfl⟩ := List.mem_map.1 hu
    exact times_srt mulK sq (sp.1 t ht).1 (sp.1 t ht).2
  have cs := poSum _ hs ho (by rw [List.length_map]; exact lp) hK hE
  rw [show sumH ltM (a.map fun t => timesP mulM b t) = mlM b a from mulH_eq ordM mulK sp sq] at cs
  clear ho hs
  have loop : ∀ (e1 : Nat → AV) (m1 : Mem) (Q : AE → St → Prop), True → True := fun _ _ _ _ => trivial
  rcases hab with ⟨hlt, rfl, rfl⟩ | ⟨hlt, rfl, rfl⟩
  all_goals
    refine pure_intro (tok := 0) Tryz.func78 rfl Tryz.ntmps78 Tryz.results78 Tryz.call78 (by rfl) (by simp) ?_
    (focus (refine wkap (w_a @l_map w_t) w_t (w_r 0) ?_; (repeat' first | exact w_t | apply w_l); all_goals intros))
    rename_i sv0
    refine r_loopE (ι := Nat) (fun i e' m => i ≤ a.length ∧ e' 1 = poA b ∧ e' 18 = poA a ∧ e' 19 = iv a.length ∧ e' 20 = iv i ∧ ∃ sv, e' 5 = .own 17 sv ∧ m 17 = some (.row sv 70 1 (((a.take i).map fun t => timesP mulM b t).map poA) 0)) (fun i => a.length - i) 0 (by rfl) ?_ ?_
    · rintro i e' m ⟨hi, e1, e18, e19, e20, sv, e5, m17⟩
      by_cases hlt : i < a.length
      · have hg := map_atB tmA hlt
        have ht : PK [a[i]] j e := fun u hu => by rw [List.mem_singleton] at hu; subst hu; exact hp _ (List.getElem_mem hlt)
        have c1 := poTimes b a[i] hq ht sq (sp.1 _ (List.getElem_mem hlt)).1 (sp.1 _ (List.getElem_mem hlt)).2 lq hk hj hf he
        have hsn : ((a.take (i + 1)).map fun t => timesP mulM b t).map poA = ((a.take i).map fun t => timesP mulM b t).map poA ++ [poA (timesP mulM b a[i])] := by
          rw [List.take_succ_eq_append_getElem hlt, List.map_append, List.map_append]; rfl
        have hl : (((a.take i).map fun t => timesP mulM b t).map poA).length = i := by rw [List.length_map, List.length_map, List.length_take]; omega
        generalize a[i] = t at *
        generalize ((a.take i).map fun t => timesP mulM b t).map poA = out at *
        generalize timesP mulM b t = tm at *
        (focus (refine wkap (w_a e1 (w_a e18 (w_a e19 (w_a e20 (w_a e5 (w_a m17 (w_a hg (w_a hl (w_a @l_map w_t))))))))) (w_a c1 w_t) (w_r 0) ?_; (repeat' first | exact w_t | apply w_l); all_goals intros))
        exact ⟨i + 1, ⟨by omega, by exact gW e1, by exact gW e18, by exact gW e19, by exact gS, _, by exact gC, by rw [hsn]; exact gC⟩, by omega⟩
      · have hi2 : i = a.length := by omega
        subst hi2
        rw [List.take_length] at m17
        generalize (a.map fun t => timesP mulM b t).map poA = out at *
        (focus (refine wkax (w_a e1 (w_a e18 (w_a e19 (w_a e20 (w_a e5 (w_a m17 (w_a @l_map w_t))))))) w_t w_t (w_a cs w_t) w_t w_t (w_r 0) ?_; (repeat' first | exact w_t | apply w_l); all_goals intros))
        (all_goals (try simp (disch := omega) only [go_sem, decide_eq_true, decide_eq_false, if_pos, if_neg, Int.reduceAdd, Int.reduceSub, Int.reduceToNat, Int.zero_add])); (all_goals first | done | rfl | (congr 2; first | done | omega | (rw [Bool.eq_iff_iff]; simp only [bool_to_prop, Bool.false_eq_true, iff_true, true_iff, iff_false, false_iff]; omega)) | skip)
    · exact ⟨Nat.zero_le _, by exact gC, by exact gC, by (simp (disch := omega) only [go_sem, List.length_map] <;> repeat' first | rfl | refine ⟨?_, ?_⟩), by exact gC, _, by exact gC, by (simp (disch := omega) only [go_sem, List.take_zero, List.map_nil, List.replicate_zero] <;> repeat' first | rfl | refine ⟨?_, ?_⟩)⟩
/-- The product's parts, as the program lays them. -/
def partsM (p q : Po) : List Po := if q.length < p.length then q.map fun t => timesP mulM p t else p.map fun t => timesP mulM q t
theorem poMul (p q : Po) {j k e f K E : Nat} (hp : PK p j e) (hq : PK q k f) (sp : SrtM p) (sq : SrtM q) (lp : p.length ≤ 1000000) (lq : q.length ≤ 1000000) (hj : j ≤ 1000000) (hk : k ≤ 1000000) (he : e ≤ 16777216) (hf : f ≤ 16777216)
    (ho : SumOk (partsM p q) K E) (hK : K ≤ 1000000) (hE : E ≤ 16777216) :
    Pure Tryz.prog 78 [poA p, poA q] (poA (mlM p q)) := by
  unfold partsM at ho
  by_cases h : q.length < p.length
  · rw [if_pos h] at ho
    exact poMul0 p q q p (.inl ⟨h, rfl, rfl⟩) hq hp sq sp lq lp hk hj hf he ho hK hE
  · rw [if_neg h] at ho
    have := poMul0 p q p q (.inr ⟨h, rfl, rfl⟩) hp hq sp sq lp lq hj hk he hf ho hK hE
    rwa [show mlM q p = mlM p q from mulR_comm ordM mulK sq sp] at this
/-- A list of at most one has no sums but itself. -/
theorem SumOk.one {l : List Po} {K e : Nat} (hl : l.length ≤ 1) (h : ∀ p ∈ l, PK p K e ∧ p.length ≤ 1000000) : SumOk l K e := fun a b => by
  have h0 : PK (sumH ltM []) K e ∧ (sumH ltM []).length ≤ 1000000 := by rw [show sumH ltM [] = [] from by simp [sumH]]; exact ⟨.nil, by simp⟩
  match l, hl, h with
  | [], _, _ => simpa using h0
  | [p], _, h =>
    match a, b with
    | 0, 0 => simpa using h0
    | 0, b + 1 => simp only [List.drop_zero, List.take_succ_cons, List.take_nil]; rw [show sumH ltM [p] = p from by simp [sumH]]; exact h p (.head _)
    | a + 1, b => simpa using h0
theorem poMulVar (p : Po) (v : Nat) {j e : Nat} (hp : PK p j e) (sp : SrtM p) (lp : p.length ≤ 1000000) (hj : j ≤ 999999) (he : e ≤ 16777215) : Pure Tryz.prog 78 [poA p, poA (varM v)] (poA (mlM p (varM v))) := by
  have hv : (varM v).length ≤ 1 := by unfold varM; split <;> simp
  refine poMul p (varM v) hp (varM_pk v) sp (varM_srt v) lp (by omega) (by omega) (by omega) (by omega) (by omega) (K := j + 1) (E := e + 1) ?_ (by omega) (by omega)
  unfold partsM
  split
  · refine SumOk.one (by rw [List.length_map]; exact hv) fun u hu => ?_
    obtain ⟨t, ht, rfl⟩ := List.mem_map.1 hu
    exact ⟨hp.times (fun w hw => by rw [List.mem_singleton] at hw; subst hw; exact varM_pk v _ ht), by rw [timesP_len]; exact lp⟩
  · rename_i h
    refine SumOk.one (by rw [List.length_map]; omega) fun u hu => ?_
    obtain ⟨t, ht, rfl⟩ := List.mem_map.1 hu
    refine ⟨((varM_pk v).times (fun w hw => by rw [List.mem_singleton] at hw; subst hw; exact hp _ ht)).mono (by omega) (by omega), by rw [timesP_len]; omega⟩
theorem poScale (p : Po) (a : Rat) {j k e : Nat} (hp : PK p j e) (ha : Sz a k) (sp : SrtM p) (lp : p.length ≤ 1000000) (hj : j ≤ 1000000) (hk : k ≤ 1000000) (he : e ≤ 16777216) : Pure Tryz.prog 109 [poA p, ratQ a] (poA (sclM a p)) := by
  have cs := ratSign a ha (by omega)
  unfold sclM
  by_cases h : a = 0
  · rw [if_pos h]
    have hz : a.num.sign = 0 := by rw [sgn_ne]; exact h
    refine pure_vkR (r := .v (.slice none 0 0)) ?_ (.nil 4)
    refine pure_intro (tok := 0) Tryz.func109 rfl Tryz.ntmps109 Tryz.results109 Tryz.call109 (by rfl) (by simp) ?_
    (focus (refine wklp (w_a hz w_t) (w_a cs w_t) w_t (w_r 0) ?_; (repeat' first | exact w_t | apply w_l); all_goals intros))
  · rw [if_neg h]
    have hz : ¬ a.num.sign = 0 := by rw [sgn_ne]; exact h
    have ct := poTimesN p (a, []) rfl (j := j) (k := k) (e := e) (f := 0) hp (fun u hu => by rw [List.mem_singleton] at hu; subst hu; exact ⟨ha, by simp, fun i => by show 0 ≤ gI [] i ∧ gI [] i ≤ _; rw [gI_out (Nat.zero_le _)]; omega⟩) sp h can_nil lp hj hk he (by omega)
    rw [times_unit] at ct
    simp only at ct
    generalize scaleP a p = r at *
    generalize a.num.sign = z at *
    refine pure_intro (tok := 0) Tryz.func109 rfl Tryz.ntmps109 Tryz.results109 Tryz.call109 (by rfl) (by simp) ?_
    (focus (refine wklp w_t (w_a cs (w_a ct w_t)) w_t (w_r 0) ?_; (repeat' first | exact w_t | apply w_l); all_goals intros))
theorem poNeg (p : Po) {j e : Nat} (hp : PK p j e) (sp : SrtM p) (lp : p.length ≤ 1000000) (hj : j ≤ 1000000) (he : e ≤ 16777216) : Pure Tryz.prog 110 [poA p] (poA (scaleP (-1) p)) := by
  have c := poScale p (-1) hp ((nat_sz1 1 (by omega)).neg) sp lp hj (by omega) he
  have co := ratOfM
  rw [show sclM (-1) p = scaleP (-1) p from if_neg neg1] at c
  generalize scaleP (-1) p = r at *
  generalize (-1 : Rat) = q at *
  refine pure_intro (tok := 0) Tryz.func110 rfl Tryz.ntmps110 Tryz.results110 Tryz.call110 (by rfl) (by simp) ?_
  (focus (refine wklp w_t (w_a co (w_a c w_t)) w_t (w_r 0) ?_; (repeat' first | exact w_t | apply w_l); all_goals intros))
theorem PK.neg {q : Po} {k e : Nat} (hq : PK q k e) : PK (scaleP (-1) q) k e := fun t ht => by
  obtain ⟨s, hs, rfl⟩ := List.mem_map.1 ht
  refine ⟨?_, (hq s hs).2⟩
  show Sz (s.1 * -1) k
  rw [show s.1 * -1 = -s.1 by grind]
  exact (hq s hs).1.neg
theorem scale_len (a : Rat) (p : Po) : (scaleP a p).length = p.length := by unfold scaleP; simp
theorem poSub (p q : Po) {j k e : Nat} (hp : PK p j e) (hq : PK q k e) (sp : SrtM p) (sq : SrtM q) (lp : p.length ≤ 1000000) (lq : q.length ≤ 1000000) (hj : j ≤ 1000000) (hk : k ≤ 1000000) (he : e ≤ 16777216) :
    Pure Tryz.prog 77 [poA p, poA q] (poA (subM p q)) := by
  have c1 := poNeg q hq sq lq hk he
  have c2 := poAdd p (scaleP (-1) q) hp hq.neg sp (scale_srt sq neg1) lp (by rw [scale_len]; exact lq) hj hk he
  show Pure _ _ _ (poA (addM p (scaleP (-1) q)))
  generalize scaleP (-1) q = n at *
  generalize addM p n = r at *
  refine pure_intro (tok := 0) Tryz.func77 rfl Tryz.ntmps77 Tryz.results77 Tryz.call77 (by rfl) (by simp) ?_
  (focus (refine wklp w_t (w_a c1 (w_a c2 w_t)) w_t (w_r 0) ?_; (repeat' first | exact w_t | apply w_l); all_goals intros))
theorem unit_set (v : Nat) : ((List.replicate (v + 1) (iv 0)).set v (iv 1)) = (unitM v).map iv := by
  unfold unitM
  rw [List.map_append, List.map_replicate, List.replicate_succ', List.set_append_right _ _ (by simp)]
  simp
theorem poSingle (c : Rat) (m : List Int) (h : c ≠ 0) {k : Nat} (hc : Sz c k) (hk : k ≤ 1000000) : Pure Tryz.prog 210 [ratQ c, ivs m] (poA [(c, m)]) := by
  have cs := ratSign c hc (by omega)
  have hz : ¬ c.num.sign = 0 := by rw [sgn_ne]; exact h
  generalize c.num.sign = z at *
  refine pure_intro (tok := 0) Tryz.func210 rfl Tryz.ntmps210 Tryz.results210 Tryz.call210 (by rfl) (by simp) ?_
  (focus (refine wklp w_t (w_a cs w_t) w_t (w_r 0) ?_; (repeat' first | exact w_t | apply w_l); all_goals intros))
theorem poVar (v : Nat) (hv : v < 1000) : Pure Tryz.prog 157 [iv v] (poA (varM v)) := by
  unfold varM
  by_cases h : v < 64
  · rw [if_pos h]
    have c1 := ratOf 1 (by omega)
    rw [show ((1 : Nat) : Rat) = 1 from rfl] at c1
    have c2 := poSingle 1 (unitM v) (by decide) (nat_sz1 1 (by omega)) (by omega)
    have hu : (iv 0 :: List.replicate v (iv 0)).set v (iv 1) = (unitM v).map iv := by rw [← List.replicate_succ]; exact unit_set v
    generalize (1 : Rat) = q at *
    have hl : (List.replicate (v + 1) (iv 0)).length = v + 1 := by simp
    refine pure_intro (tok := 0) Tryz.func157 rfl Tryz.ntmps157 Tryz.results157 Tryz.call157 (by rfl) (by simp) ?_
    (focus (refine wkax (w_a hl (w_a hu w_t)) (w_a c1 w_t) w_t (w_a c2 w_t) w_t w_t (w_r 0) ?_; (repeat' first | exact w_t | apply w_l); all_goals intros))
    (all_goals (try simp (disch := omega) only [go_sem, decide_eq_true, decide_eq_false, if_pos, if_neg, Int.reduceAdd, Int.reduceSub, Int.reduceToNat, Int.zero_add])); (all_goals first | done | rfl | (congr 2; first | done | omega | (rw [Bool.eq_iff_iff]; simp only [bool_to_prop, Bool.false_eq_true, iff_true, true_iff, iff_false, false_iff]; omega)) | skip)
  · rw [if_neg h]
    refine pure_vkR (r := .v (.slice none 0 0)) ?_ (.nil 4)
    refine pure_intro (tok := 0) Tryz.func157 rfl Tryz.ntmps157 Tryz.results157 Tryz.call157 (by rfl) (by simp) ?_
    (focus (refine wklp w_t w_t w_t (w_r 0) ?_; (repeat' first | exact w_t | apply w_l); all_goals intros))
end Go.Proofs.YtbgmnobnaplmlaaGreat
end

section
namespace Go.Proofs.YtbgmnobnaplmlaaGreat
open Go Go.RowKit Go.Pg Go.Pol
set_option linter.unusedSimpArgs false
set_option linter.unusedVariables false
set_option maxRecDepth 20000
attribute [local go_sem] Tryz.underlying3 Tryz.underlying4 Tryz.underlying43 Tryz.underlying41 Tryz.underlying39 Tryz.underlying63 Tryz.underlying69 Tryz.underlying61 Tryz.underlying70 Tryz.underlying78 sz3 by3 z3 szRat zRat szInt zInt szNat zNat szTerm byTerm zTerm szMono byMono zMono szPoly byPoly zPoly
attribute [-bool_to_prop] Bool.and_eq_decide Bool.or_eq_decide Bool.decide_beq_decide decide_eq_decide
theorem rpLex (a b : List Int) (hs : Sm a) (ht : Sm b) : Pure Tryz.prog 122 [ivs a, ivs b, iv 0] (iv (lexC a b (max a.length b.length))) := by
  have c : Pure Tryz.prog 122 [ivs a, ivs b, iv 0] (iv (cmpI a b 0)) := mrCmp a b 0 hs ht
  have e : cmpI a b 0 = lexC a b (max a.length b.length) := by unfold cmpI; rw [if_neg (by omega)]
  rwa [e] at c
theorem qSign (q : Rat) {k : Nat} (h : Sz q k) (hk : k ≤ 10000000) : Pure Tryz.prog 120 [ratQ q] (.v (.int .i64 q.num.sign)) := by
  have c := zSign q.num (by have := h.1; omega)
  have cn := qNorm q h hk
  generalize q.num.sign = z at *
  refine pure_intro (tok := 0) Tryz.func120 rfl Tryz.ntmps120 Tryz.results120 Tryz.call120 (by rfl) (by simp) ?_
  (focus (refine wklp w_t (w_a cn (w_a c w_t)) w_t (w_r 0) ?_; (repeat' first | exact w_t | apply w_l); all_goals intros))
set_option maxHeartbeats 4000000 in
theorem rpAdd (p q : Po) {j k e : Nat} (hp : PK p j e) (hq : PK q k e) (sp : SrtM p) (sq : SrtM q) (lp : p.length ≤ 1000000) (lq : q.length ≤ 1000000) (hj : j ≤ 1000000) (hk : k ≤ 1000000) (he : e ≤ 16777216) :
    Pure Tryz.prog 80 [poA p, poA q] (poA (addM p q)) := by
  refine pure_intro (tok := 0) Tryz.func80 rfl Tryz.ntmps80 Tryz.results80 Tryz.call80 (by rfl) (by simp) ?_
  (focus (refine wkad (w_a @l_map w_t) w_t w_t ?_; (repeat' first | exact w_t | apply w_l); all_goals intros))
  refine r_frz (Frz.nilOwn (d := 5) 100 4 63 (by exact gC)) ?_
  refine r_loopE (ι := Nat × Nat) (fun x e m => x.1 ≤ p.length ∧ x.2 ≤ q.length ∧ e 0 = poA p ∧ e 1 = poA q ∧ e 6 = iv x.1 ∧ e 7 = iv x.2 ∧ ∃ sv out, e 5 = .own 100 sv ∧ m 100 = some (.row sv 63 4 (out.map tmA) 0) ∧ out.length ≤ x.1 + x.2 ∧ addM p q = out ++ addM (p.drop x.1) (q.drop x.2)) (fun x => p.length + q.length - (x.1 + x.2)) (0, 0) (by rfl) ?_ ?_
  · rintro ⟨i, l⟩ e m ⟨hi, hl, e0, e1, e6, e7, sv, out, e5, em, ho, hs⟩
    simp only at hi hl e6 e7 ho hs
    by_cases hil : i < p.length ∧ l < q.length
    · obtain ⟨hi2, hl2⟩ := hil
      have hg := map_atB tmA hi2
      have hh := map_atB tmA hl2
      have st := addM_step hi2 hl2
      have ms := hp _ (List.getElem_mem hi2)
      have mt := hq _ (List.getElem_mem hl2)
      have m1 := hp.sm he (List.getElem_mem hi2)
      have m2 := hq.sm he (List.getElem_mem hl2)
      have d1 := sp.dom _ (List.getElem_mem hi2)
      have d2 := sq.dom _ (List.getElem_mem hl2)
      generalize p[i] = s at *
      generalize q[l] = t at *
      have cl := rpLex s.2 t.2 m1 m2
      have ca := qAdd s.1 t.1 ms.1 mt.1 (by omega) (by omega)
      have cz := qSign (s.1 + t.1) (ms.1.add mt.1) (by omega)
      have hlen : (out.map tmA).length = out.length := List.length_map ..
      rw [st] at hs
      obtain ⟨s1, s2⟩ := s
      obtain ⟨t1, t2⟩ := t
      simp only at *
      rcases lexM_cases d1 d2 with ⟨h1, h2⟩ | ⟨h1, h1', h2, h3⟩ | ⟨h1, h1', h2⟩
      · have h3 : ¬ ltM t2 s2 := fun h => ordM.irr _ (ordM.tr _ _ _ h h1)
        rw [if_neg h3, if_pos h1] at hs
        rw [h2] at cl
        clear st ms mt m1 m2 d1 d2 ca cz
        (focus (refine wkad (w_a e0 (w_a e1 (w_a e6 (w_a e7 (w_a e5 (w_a em (w_a hg (w_a hh (w_a @l_map w_t))))))))) (w_a cl w_t) (w_a (w_d 8 [(10, iv (-1))] [] []) w_t) ?_; (repeat' first | exact w_t | apply w_l); all_goals intros))
        refine ⟨(i, l + 1), ⟨by simp only; omega, by simp only; omega, by exact gW e0, by exact gW e1, by exact gW e6, by exact gS, _, out ++ [(t1, t2)], by exact gC, by (simp (disch := omega) only [go_sem, List.map_append] <;> repeat' first | rfl | refine ⟨?_, ?_⟩), by simp only [List.length_append, List.length_cons, List.length_nil]; omega, by rw [hs, List.append_assoc]; rfl⟩, by simp only; omega⟩
      · rw [if_neg h1', if_neg h1] at hs
        rw [h3] at cl
        by_cases hz : s1 + t1 = 0
        · rw [if_pos hz] at hs
          have hz2 : (s1 + t1).num.sign = 0 := by rw [sgn_ne]; exact hz
          clear st ms mt m1 m2 d1 d2
          generalize (s1 + t1) = z at *
          (focus (refine wkad (w_a e0 (w_a e1 (w_a e6 (w_a e7 (w_a e5 (w_a em (w_a hg (w_a hh (w_a @l_map (w_a hz2 w_t)))))))))) (w_a cl (w_a ca (w_a cz w_t))) (w_a (w_d 8 [(10, iv 0)] [] []) (w_a (w_d 9 [(10, ratQ z)] [] [9]) w_t)) ?_; (repeat' first | exact w_t | apply w_l); all_goals intros))
          refine ⟨(i + 1, l + 1), ⟨by simp only; omega, by simp only; omega, by exact gW e0, by exact gW e1, by exact gS, by exact gS, _, out, by exact gW e5, by exact gW em, by simp only; omega, hs⟩, by simp only; omega⟩
        · rw [if_neg hz] at hs
          have hz2 : ¬ (s1 + t1).num.sign = 0 := by rw [sgn_ne]; exact hz
          clear st ms mt m1 m2 d1 d2
          generalize (s1 + t1) = z at *
          (focus (refine wkax (w_a e0 (w_a e1 (w_a e6 (w_a e7 (w_a e5 (w_a em (w_a hg (w_a hh (w_a @l_map w_t))))))))) (w_a cl (w_a ca (w_a cz w_t))) (w_a (w_d 8 [(10, iv 0)] [] []) (w_a (w_d 9 [(10, ratQ z)] [] [9]) (w_a (w_d 11 [] [9, 1009] [100, 61]) w_t))) w_t w_t w_t (w_r 0) ?_; (repeat' first | exact w_t | apply w_l); all_goals intros))
          refine ⟨(i + 1, l + 1), ⟨by simp only; omega, by simp only; omega, by exact gW e0, by exact gW e1, by exact gS, by exact gS, _, out ++ [(z, s2)], by exact gC, by (simp (disch := omega) only [go_sem, List.map_append] <;> repeat' first | rfl | refine ⟨?_, ?_⟩), by simp only [List.length_append, List.length_cons, List.length_nil]; omega, by rw [hs, List.append_assoc]; rfl⟩, by simp only; omega⟩
      · rw [if_pos h1] at hs
        rw [h2] at cl
        clear st ms mt m1 m2 d1 d2 ca cz
        (focus (refine wkad (w_a e0 (w_a e1 (w_a e6 (w_a e7 (w_a e5 (w_a em (w_a hg (w_a hh (w_a @l_map w_t))))))))) (w_a cl w_t) (w_a (w_d 8 [(10, iv 1)] [] []) w_t) ?_; (repeat' first | exact w_t | apply w_l); all_goals intros))
        refine ⟨(i + 1, l), ⟨by simp only; omega, by simp only; omega, by exact gW e0, by exact gW e1, by exact gS, by exact gW e7, _, out ++ [(s1, s2)], by exact gC, by (simp (disch := omega) only [go_sem, List.map_append] <;> repeat' first | rfl | refine ⟨?_, ?_⟩), by simp only [List.length_append, List.length_cons, List.length_nil]; omega, by rw [hs, List.append_assoc]; rfl⟩, by simp only; omega⟩
    · rw [addM_end (by omega)] at hs
      by_cases hi2 : i < p.length
      · have hl2 : l = q.length := by omega
        subst hl2
        have hg := map_atB tmA hi2
        have hd : p.drop i = p[i] :: p.drop (i + 1) := List.drop_eq_getElem_cons hi2
        rw [hd] at hs
        have hs : addM p q = (out ++ [p[i]]) ++ addM (p.drop (i + 1)) (q.drop q.length) := by
          rw [addM_end (.inr (Nat.le_refl _)), hs]; simp
        clear hd
        generalize p[i] = s at *
        obtain ⟨s1, s2⟩ := s
        (focus (refine wkad (w_a e0 (w_a e1 (w_a e6 (w_a e7 (w_a e5 (w_a em (w_a hg (w_a @l_map w_t)))))))) w_t w_t ?_; (repeat' first | exact w_t | apply w_l); all_goals intros))
        refine ⟨(i + 1, q.length), ⟨by simp only; omega, by simp only; omega, by exact gW e0, by exact gW e1, by exact gS, by exact gW e7, _, out ++ [(s1, s2)], by exact gC, by (simp (disch := omega) only [go_sem, List.map_append] <;> repeat' first | rfl | refine ⟨?_, ?_⟩), by simp only [List.length_append, List.length_cons, List.length_nil]; omega, hs⟩, by simp only; omega⟩
      · have hi3 : i = p.length := by omega
        subst hi3
        by_cases hl2 : l < q.length
        · have hg := map_atB tmA hl2
          have hd : q.drop l = q[l] :: q.drop (l + 1) := List.drop_eq_getElem_cons hl2
          rw [hd] at hs
          have hs : addM p q = (out ++ [q[l]]) ++ addM (p.drop p.length) (q.drop (l + 1)) := by
            rw [addM_end (.inl (Nat.le_refl _)), hs]; simp
          clear hd
          generalize q[l] = s at *
          obtain ⟨s1, s2⟩ := s
          (focus (refine wkad (w_a e0 (w_a e1 (w_a e6 (w_a e7 (w_a e5 (w_a em (w_a hg (w_a @l_map w_t)))))))) w_t w_t ?_; (repeat' first | exact w_t | apply w_l); all_goals intros))
          refine ⟨(p.length, l + 1), ⟨by simp only; omega, by simp only; omega, by exact gW e0, by exact gW e1, by exact gW e6, by exact gS, _, out ++ [(s1, s2)], by exact gC, by (simp (disch := omega) only [go_sem, List.map_append] <;> repeat' first | rfl | refine ⟨?_, ?_⟩), by simp only [List.length_append, List.length_cons, List.length_nil]; omega, hs⟩, by simp only; omega⟩
        · have hl3 : l = q.length := by omega
          subst hl3
          rw [List.drop_length, List.drop_length, List.append_nil, List.append_nil] at hs
          rw [hs]
          (focus (refine wkld (w_a e0 (w_a e1 (w_a e6 (w_a e7 (w_a e5 (w_a em (w_a @l_map w_t))))))) w_t (w_a em w_t) w_t ?_; (repeat' first | exact w_t | apply w_l); all_goals intros))
  · exact ⟨Nat.zero_le _, Nat.zero_le _, by exact gC, by exact gC, by exact gC, by exact gC, _, [], by exact gC, by (simp (disch := omega) only [go_sem, List.map_nil] <;> repeat' first | rfl | refine ⟨?_, ?_⟩), by simp, by simp⟩
set_option maxHeartbeats 4000000 in
theorem rpTimes (p : Po) (t : Tm) {j k e f : Nat} (hp : PK p j e) (ht : PK [t] k f) (lp : p.length ≤ 1000000) (hj : j ≤ 1000000) (hk : k ≤ 1000000) (he : e ≤ 16777216) (hf : f ≤ 16777216) :
    Pure Tryz.prog 146 [poA p, tmA t] (poA (timesP mulM p t)) := by
  obtain ⟨t1, t2⟩ := t
  refine pure_intro (tok := 0) Tryz.func146 rfl Tryz.ntmps146 Tryz.results146 Tryz.call146 (by rfl) (by simp) ?_
  (focus (refine wkad (w_a @l_map w_t) w_t w_t ?_; (repeat' first | exact w_t | apply w_l); all_goals intros))
  rename_i g3
  refine r_frz (Frz.nilOwn (d := 5) 100 4 63 (by exact gC)) ?_
  refine r_loopE (ι := Nat) (fun i e m => i ≤ p.length ∧ e 3 = .pbox 3 g3 0 ∧ m 3 = some (.box g3 63 [.v (.bool (decide (t1.num < 0))), lim (toL t1.num.natAbs), lim (toL t1.den), ivs t2] false) ∧ e 0 = poA p ∧ e 6 = iv i ∧ ∃ sv, e 5 = .own 100 sv ∧ m 100 = some (.row sv 63 4 ((timesP mulM (p.take i) (t1, t2)).map tmA) 0)) (fun i => p.length - i) 0 (by rfl) ?_ ?_
  · rintro i e m ⟨hi, e3, m3, e0, e6, sv, e5, m11⟩
    by_cases hlt : i < p.length
    · have hg := map_atB tmA hlt
      have hs := poTimes1 (t := (t1, t2)) hlt
      have ms := hp _ (List.getElem_mem hlt)
      have m1 := hp.sm he (List.getElem_mem hlt)
      have m2 := ht.sm hf (.head _)
      have mt := (ht _ (.head _)).1
      have hl : (timesP mulM (p.take i) (t1, t2)).length ≤ 1000000 := by rw [timesP_len, List.length_take]; omega
      generalize p[i] = s at *
      have c1 := qMul s.1 t1 ms.1 mt (by omega) (by omega)
      have c3 : Pure Tryz.prog 205 [ivs s.2, ivs t2] (ivs (mulM s.2 t2)) := mrMul s.2 t2 m1.wd m2.wd
      obtain ⟨s1, s2⟩ := s
      simp only at *
      clear ms m1 m2 mt
      generalize s1 * t1 = z at *
      generalize mulM s2 t2 = w at *
      generalize timesP mulM (p.take i) (t1, t2) = out at *
      (focus (refine wkad (w_a e3 (w_a m3 (w_a e0 (w_a e6 (w_a e5 (w_a m11 (w_a hg (w_a @l_map w_t)))))))) (w_a c1 (w_a c3 w_t)) (w_a (w_d 5 [(8, ratQ z), (16, ivs w)] [19, 1019] [100, 31]) w_t) ?_; (repeat' first | exact w_t | apply w_l); all_goals intros))
      exact ⟨i + 1, ⟨by omega, by exact gW e3, by exact gW m3, by exact gW e0, by exact gS, _, by exact gC, by rw [hs, List.map_append]; exact gC⟩, by omega⟩
    · have hi2 : i = p.length := by omega
      subst hi2
      rw [List.take_length] at m11
      (focus (refine wkld (w_a e3 (w_a m3 (w_a e0 (w_a e6 (w_a e5 (w_a m11 (w_a @l_map w_t))))))) w_t (w_a m11 w_t) w_t ?_; (repeat' first | exact w_t | apply w_l); all_goals intros))
  · exact ⟨Nat.zero_le _, by exact gC, by exact gC, by exact gC, by exact gC, _, by exact gC, by (simp (disch := omega) only [go_sem, List.take_zero, timesP, List.map_nil] <;> repeat' first | rfl | refine ⟨?_, ?_⟩)⟩
theorem scale_take {p : Po} {a : Rat} {i : Nat} (hi : i < p.length) : scaleP a (p.take (i + 1)) = scaleP a (p.take i) ++ [(p[i].1 * a, p[i].2)] := by
  unfold scaleP
  rw [List.take_succ_eq_append_getElem hi, List.map_append]; rfl
set_option maxHeartbeats 4000000 in
theorem rpScale0 (p : Po) (a : Rat) {j k e : Nat} (hp : PK p j e) (ha : Sz a k) (lp : p.length ≤ 1000000) (hj : j ≤ 1000000) (hk : k ≤ 1000000) (h : a ≠ 0) :
    Pure Tryz.prog 206 [poA p, ratQ a] (poA (scaleP a p)) := by
  have cs := qSign a ha (by omega)
  have hz : ¬ a.num.sign = 0 := by rw [sgn_ne]; exact h
  generalize a.num.sign = sg at *
  refine pure_intro (tok := 0) Tryz.func206 rfl Tryz.ntmps206 Tryz.results206 Tryz.call206 (by rfl) (by simp) ?_
  (focus (refine wkad (w_a @l_map w_t) w_t w_t ?_; (repeat' first | exact w_t | apply w_l); all_goals intros))
  rename_i g3
  refine r_frz (Frz.nilOwn (d := 5) 100 4 63 (by exact gC)) ?_
  refine r_loopE (ι := Nat) (fun i e m => i ≤ p.length ∧ e 3 = .pbox 3 g3 0 ∧ m 3 = some (.box g3 43 [.v (.bool (decide (a.num < 0))), lim (toL a.num.natAbs), lim (toL a.den)] false) ∧ e 0 = poA p ∧ e 6 = iv i ∧ ∃ sv, e 5 = .own 100 sv ∧ m 100 = some (.row sv 63 4 ((scaleP a (p.take i)).map tmA) 0)) (fun i => p.length - i) 0 (by rfl) ?_ ?_
  · rintro i e m ⟨hi, e3, m3, e0, e6, sv, e5, m11⟩
    by_cases hlt : i < p.length
    · have hg := map_atB tmA hlt
      have hs := scale_take (a := a) hlt
      have ms := (hp _ (List.getElem_mem hlt)).1
      have hl : (scaleP a (p.take i)).length ≤ 1000000 := by rw [scale_len, List.length_take]; omega
      generalize p[i] = s at *
      have c1 := qMul s.1 a ms ha (by omega) (by omega)
      obtain ⟨s1, s2⟩ := s
      simp only at *
      clear ms
      generalize s1 * a = z at *
      generalize scaleP a (p.take i) = out at *
      (focus (refine wkad (w_a e3 (w_a m3 (w_a e0 (w_a e6 (w_a e5 (w_a m11 (w_a hg (w_a @l_map w_t)))))))) (w_a c1 (w_a cs w_t)) (w_a (w_d 5 [(7, ratQ z)] [15, 1015] [100, 32]) w_t) ?_; (repeat' first | exact w_t | apply w_l); all_goals intros))
      exact ⟨i + 1, ⟨by omega, by exact gW e3, by exact gW m3, by exact gW e0, by exact gS, _, by exact gC, by rw [hs, List.map_append]; exact gC⟩, by omega⟩
    · have hi2 : i = p.length := by omega
      subst hi2
      rw [List.take_length] at m11
      (focus (refine wkld (w_a e3 (w_a m3 (w_a e0 (w_a e6 (w_a e5 (w_a m11 (w_a @l_map w_t))))))) w_t (w_a m11 w_t) w_t ?_; (repeat' first | exact w_t | apply w_l); all_goals intros))
  · exact ⟨Nat.zero_le _, by exact gC, by exact gC, by exact gC, by exact gC, _, by exact gC, by (simp (disch := omega) only [go_sem, List.take_zero, scaleP, List.map_nil] <;> repeat' first | rfl | refine ⟨?_, ?_⟩)⟩
theorem rpNeg (p : Po) {j e : Nat} (hp : PK p j e) (lp : p.length ≤ 1000000) (hj : j ≤ 1000000) : Pure Tryz.prog 148 [poA p] (poA (scaleP (-1) p)) := by
  have c := rpScale0 p (-1) hp ((nat_sz1 1 (by omega)).neg) lp hj (by omega) neg1
  have co := qOfM
  generalize scaleP (-1) p = r at *
  generalize (-1 : Rat) = q at *
  refine pure_intro (tok := 0) Tryz.func148 rfl Tryz.ntmps148 Tryz.results148 Tryz.call148 (by rfl) (by simp) ?_
  (focus (refine wklp w_t (w_a co (w_a c w_t)) w_t (w_r 0) ?_; (repeat' first | exact w_t | apply w_l); all_goals intros))
theorem rpSub (p q : Po) {j k e : Nat} (hp : PK p j e) (hq : PK q k e) (sp : SrtM p) (sq : SrtM q) (lp : p.length ≤ 1000000) (lq : q.length ≤ 1000000) (hj : j ≤ 1000000) (hk : k ≤ 1000000) (he : e ≤ 16777216) :
    Pure Tryz.prog 74 [poA p, poA q] (poA (subM p q)) := by
  have c1 := rpNeg q hq lq hk
  have c2 := rpAdd p (scaleP (-1) q) hp hq.neg sp (scale_srt sq neg1) lp (by rw [scale_len]; exact lq) hj hk he
  show Pure _ _ _ (poA (addM p (scaleP (-1) q)))
  generalize scaleP (-1) q = n at *
  generalize addM p n = r at *
  refine pure_intro (tok := 0) Tryz.func74 rfl Tryz.ntmps74 Tryz.results74 Tryz.call74 (by rfl) (by simp) ?_
  (focus (refine wklp w_t (w_a c1 (w_a c2 w_t)) w_t (w_r 0) ?_; (repeat' first | exact w_t | apply w_l); all_goals intros))
theorem mulR_take {p q : Po} {i : Nat} (hi : i < q.length) : mlM p (q.take (i + 1)) = addM (mlM p (q.take i)) (timesP mulM p q[i]) := by
  unfold mlM mulR
  rw [List.take_succ_eq_append_getElem hi, List.foldl_append]; rfl
theorem srt_take {q : Po} (h : SrtM q) (i : Nat) : SrtM (q.take i) := ⟨fun t ht => h.1 t (List.mem_of_mem_take ht), List.Pairwise.sublist (List.take_sublist i q) h.2⟩
set_option maxHeartbeats 4000000 in
theorem rpMul (p q : Po) {j k e f K E : Nat} (hp : PK p j e) (hq : PK q k f) (sp : SrtM p) (sq : SrtM q) (lp : p.length ≤ 1000000) (lq : q.length ≤ 1000000) (hj : j ≤ 500000) (hk : k ≤ 500000) (he : e ≤ 8000000) (hf : f ≤ 8000000)
    (ho : ∀ i, PK (mlM p (q.take i)) K E ∧ (mlM p (q.take i)).length ≤ 1000000) (hK : K ≤ 1000000) (hE : E ≤ 16777216) :
    Pure Tryz.prog 72 [poA p, poA q] (poA (mlM p q)) := by
  refine pure_intro (tok := 0) Tryz.func72 rfl Tryz.ntmps72 Tryz.results72 Tryz.call72 (by rfl) (by simp) ?_
  (focus (refine wkap (w_a @l_map w_t) w_t (w_r 0) ?_; (repeat' first | exact w_t | apply w_l); all_goals intros))
  refine r_frz (Frz.nil (d := 5) 4 (by exact gC)) ?_
  refine r_loopE (ι := Nat) (fun i e' m => i ≤ q.length ∧ e' 0 = poA p ∧ e' 1 = poA q ∧ e' 6 = iv i ∧ e' 5 = poA (mlM p (q.take i))) (fun i => q.length - i) 0 (by rfl) ?_ ?_
  · rintro i e' m ⟨hi, e0, e1, e6, e5⟩
    by_cases hlt : i < q.length
    · have hg := map_atB tmA hlt
      have ht : PK [q[i]] k f := fun u hu => by rw [List.mem_singleton] at hu; subst hu; exact hq _ (List.getElem_mem hlt)
      have c1 := rpTimes p q[i] hp ht lp (by omega) (by omega) (by omega) (by omega)
      have c2 := rpAdd (mlM p (q.take i)) (timesP mulM p q[i]) (k := j + k) (e := max E (e + f)) ((ho i).1.mono (Nat.le_refl _) (by omega)) ((hp.times ht).mono (Nat.le_refl _) (by omega)) (mulR_srt ordM mulK sp (srt_take sq i)) (times_srt mulK sp (sq.1 _ (List.getElem_mem hlt)).1 (sq.1 _ (List.getElem_mem hlt)).2) (ho i).2 (by rw [timesP_len]; exact lp) hK (by omega) (by omega)
      rw [← mulR_take hlt] at c2
      generalize q[i] = t at *
      obtain ⟨t1, t2⟩ := t
      generalize timesP mulM p (t1, t2) = w at *
      generalize mlM p (q.take i) = out at *
      generalize hout : mlM p (q.take (i + 1)) = out' at *
      (focus (refine wkap (w_a e0 (w_a e1 (w_a e6 (w_a e5 (w_a hg (w_a @l_map w_t)))))) (w_a c1 (w_a c2 w_t)) (w_r 0) ?_; (repeat' first | exact w_t | apply w_l); all_goals intros))
      exact ⟨i + 1, ⟨by omega, by exact gW e0, by exact gW e1, by exact gS, by rw [hout]; exact gC⟩, by omega⟩
    · have hi2 : i = q.length := by omega
      subst hi2
      rw [List.take_length] at e5
      (focus (refine wklp (w_a e0 (w_a e1 (w_a e6 (w_a e5 (w_a @l_map w_t))))) w_t w_t (w_r 0) ?_; (repeat' first | exact w_t | apply w_l); all_goals intros))
  · exact ⟨Nat.zero_le _, by exact gC, by exact gC, by exact gC, by (simp (disch := omega) only [go_sem, List.take_zero, mlM, mulR, List.foldl_nil, List.map_nil] <;> repeat' first | rfl | refine ⟨?_, ?_⟩)⟩
theorem rpAddNil (c : Rat) (m : List Int) {k : Nat} (hc : Sz c k) (hk : k ≤ 1000000) : Pure Tryz.prog 147 [.v (.slice none 0 0), ratQ c, ivs m] (poA (if c = 0 then [] else [(c, m)])) := by
  have cs := qSign c hc (by omega)
  have cn := qNorm c hc (by omega)
  by_cases h : c = 0
  · rw [if_pos h]
    have hz : c.num.sign = 0 := by rw [sgn_ne]; exact h
    refine pure_intro (tok := 0) Tryz.func147 rfl Tryz.ntmps147 Tryz.results147 Tryz.call147 (by rfl) (by simp) ?_
    (focus (refine wkax (w_a hz w_t) (w_a cs w_t) w_t w_t w_t w_t (w_r 2) ?_; (repeat' first | exact w_t | apply w_l); all_goals intros))
    (all_goals (try simp (disch := omega) only [go_sem, decide_eq_true, decide_eq_false, if_pos, if_neg, Int.reduceAdd, Int.reduceSub, Int.reduceToNat, Int.zero_add])); (all_goals first | done | rfl | (congr 2; first | done | omega | (rw [Bool.eq_iff_iff]; simp only [bool_to_prop, Bool.false_eq_true, iff_true, true_iff, iff_false, false_iff]; omega)) | skip)
  · rw [if_neg h]
    have hz : ¬ c.num.sign = 0 := by rw [sgn_ne]; exact h
    generalize c.num.sign = z at *
    refine pure_intro (tok := 0) Tryz.func147 rfl Tryz.ntmps147 Tryz.results147 Tryz.call147 (by rfl) (by simp) ?_
    (focus (refine wkax w_t (w_a cs (w_a cn w_t)) w_t w_t w_t w_t (w_r 2) ?_; (repeat' first | exact w_t | apply w_l); all_goals intros))
    (all_goals (try simp (disch := omega) only [go_sem, decide_eq_true, decide_eq_false, if_pos, if_neg, Int.reduceAdd, Int.reduceSub, Int.reduceToNat, Int.zero_add])); (all_goals first | done | rfl | (congr 2; first | done | omega | (rw [Bool.eq_iff_iff]; simp only [bool_to_prop, Bool.false_eq_true, iff_true, true_iff, iff_false, false_iff]; omega)) | skip)
theorem rpVar (v : Nat) (hv : v < 1000) : Pure Tryz.prog 73 [iv v] (poA (varM v)) := by
  unfold varM
  by_cases h : v < 64
  · rw [if_pos h]
    have c1 := qOf 1 (by omega)
    rw [show ((1 : Nat) : Rat) = 1 from rfl] at c1
    have c2 := rpAddNil 1 (unitM v) (nat_sz1 1 (by omega)) (by omega)
    rw [if_neg (show (1 : Rat) ≠ 0 by decide)] at c2
    have hu : (iv 0 :: List.replicate v (iv 0)).set v (iv 1) = (unitM v).map iv := by rw [← List.replicate_succ]; exact unit_set v
    generalize (1 : Rat) = q at *
    have hl : (List.replicate (v + 1) (iv 0)).length = v + 1 := by simp
    refine pure_intro (tok := 0) Tryz.func73 rfl Tryz.ntmps73 Tryz.results73 Tryz.call73 (by rfl) (by simp) ?_
    (focus (refine wkax (w_a hl (w_a hu w_t)) (w_a c1 w_t) w_t (w_a c2 w_t) w_t w_t (w_r 0) ?_; (repeat' first | exact w_t | apply w_l); all_goals intros))
    (all_goals (try simp (disch := omega) only [go_sem, decide_eq_true, decide_eq_false, if_pos, if_neg, Int.reduceAdd, Int.reduceSub, Int.reduceToNat, Int.zero_add])); (all_goals first | done | rfl | (congr 2; first | done | omega | (rw [Bool.eq_iff_iff]; simp only [bool_to_prop, Bool.false_eq_true, iff_true, true_iff, iff_false, false_iff]; omega)) | skip)
  · rw [if_neg h]
    refine pure_vkR (r := .v (.slice none 0 0)) ?_ (.nil 4)
    refine pure_intro (tok := 0) Tryz.func73 rfl Tryz.ntmps73 Tryz.results73 Tryz.call73 (by rfl) (by simp) ?_
    (focus (refine wklp w_t w_t w_t (w_r 0) ?_; (repeat' first | exact w_t | apply w_l); all_goals intros))
theorem cmpQ_self (a : Rat) : cmpQ a a = 0 := by
  unfold cmpQ
  rw [if_neg (Rat.lt_irrefl), if_neg (Rat.lt_irrefl)]
theorem cmpQ_eq {a b : Rat} (h : cmpQ a b = 0) : a = b := by
  unfold cmpQ at h
  split at h
  · omega
  · split at h
    · omega
    · exact Rat.le_antisymm (Rat.not_lt.1 ‹_›) (Rat.not_lt.1 ‹_›)
def cmpT (s t : Tm) : Int := if lexC s.2 t.2 (max s.2.length t.2.length) ≠ 0 then lexC s.2 t.2 (max s.2.length t.2.length) else cmpQ s.1 t.1
def cmpPo : Po → Po → Int
  | [], [] => 0
  | [], _ :: _ => -1
  | _ :: _, [] => 1
  | s :: p, t :: q => if cmpT s t ≠ 0 then cmpT s t else cmpPo p q
theorem cmpT_zero {s t : Tm} (ds : Can s.2) (dt : Can t.2) : cmpT s t = 0 ↔ s = t := by
  unfold cmpT
  constructor
  · intro h
    split at h
    · rename_i h1; exact absurd h h1
    · rename_i h1
      rcases lexM_cases ds dt with ⟨_, h2⟩ | ⟨_, _, h2, _⟩ | ⟨_, _, h2⟩
      · omega
      · exact Prod.ext (cmpQ_eq h) h2
      · omega
  · rintro rfl
    rw [if_neg (by rw [lexC_zero _ fun j _ => rfl]; simp), cmpQ_self]
theorem cmpPo_zero : ∀ {p q : Po}, (∀ t ∈ p, Can t.2) → (∀ t ∈ q, Can t.2) → (cmpPo p q = 0 ↔ p = q)
  | [], [], _, _ => by simp [cmpPo]
  | [], _ :: _, _, _ => by simp [cmpPo]
  | _ :: _, [], _, _ => by simp [cmpPo]
  | s :: p, t :: q, hp, hq => by
    have h1 := cmpT_zero (hp s (.head _)) (hq t (.head _))
    have h2 := cmpPo_zero (p := p) (q := q) (fun u hu => hp u (.tail _ hu)) (fun u hu => hq u (.tail _ hu))
    unfold cmpPo
    by_cases h : cmpT s t = 0
    · rw [if_neg (by simpa using h), h2, h1.1 h]; simp
    · rw [if_pos h]
      constructor
      · intro h3; exact absurd h3 h
      · intro h3; cases h3; exact absurd (h1.2 rfl) h
theorem cmpPo_len {p q : Po} {i : Nat} (h : p.length ≤ i ∨ q.length ≤ i) : cmpPo (p.drop i) (q.drop i) = if (p.drop i).length < (q.drop i).length then -1 else if (q.drop i).length < (p.drop i).length then 1 else 0 := by
  rcases h with h | h
  · rw [List.drop_eq_nil_of_le h]
    cases q.drop i <;> simp [cmpPo]
  · rw [List.drop_eq_nil_of_le h]
    cases p.drop i <;> simp [cmpPo]
set_option maxHeartbeats 4000000 in
theorem rpCmp (p q : Po) {j k e f : Nat} (hp : PK p j e) (hq : PK q k f) (lp : p.length ≤ 1000000) (lq : q.length ≤ 1000000) (hj : j ≤ 2000000) (hk : k ≤ 2000000) (he : e ≤ 16777216) (hf : f ≤ 16777216) :
    Pure Tryz.prog 75 [poA p, poA q] (iv (cmpPo p q)) := by
  refine pure_intro (tok := 0) Tryz.func75 rfl Tryz.ntmps75 Tryz.results75 Tryz.call75 (by rfl) (by simp) ?_
  (focus (refine wkad (w_a @l_map w_t) w_t w_t ?_; (repeat' first | exact w_t | apply w_l); all_goals intros))
  refine r_loopE (ι := Nat) (fun i e m => i ≤ p.length ∧ i ≤ q.length ∧ e 0 = poA p ∧ e 1 = poA q ∧ e 5 = iv i ∧ cmpPo p q = cmpPo (p.drop i) (q.drop i)) (fun i => p.length - i) 0 (by rfl) ?_ ?_
  · rintro i e m ⟨hi, hl, e0, e1, e5, hs⟩
    by_cases hil : i < p.length ∧ i < q.length
    · obtain ⟨hi2, hl2⟩ := hil
      have hg := map_atB tmA hi2
      have hh := map_atB tmA hl2
      have cl := rpLex p[i].2 q[i].2 (hp.sm he (List.getElem_mem hi2)) (hq.sm hf (List.getElem_mem hl2))
      have cq := qCmp p[i].1 q[i].1 (hp _ (List.getElem_mem hi2)).1 (hq _ (List.getElem_mem hl2)).1 (by omega) (by omega)
      rw [List.drop_eq_getElem_cons hi2, List.drop_eq_getElem_cons hl2, cmpPo, cmpT] at hs
      generalize p[i] = s at *
      generalize q[i] = t at *
      obtain ⟨s1, s2⟩ := s
      obtain ⟨t1, t2⟩ := t
      simp only at *
      generalize lexC s2 t2 (max s2.length t2.length) = x at *
      generalize cmpQ s1 t1 = y at *
      by_cases hx : x = 0
      · rw [if_neg (show ¬ x ≠ 0 by omega)] at hs
        by_cases hy : y = 0
        · rw [if_neg (by omega)] at hs
          (focus (refine wkad (w_a e0 (w_a e1 (w_a e5 (w_a hg (w_a hh (w_a @l_map w_t)))))) (w_a cl (w_a cq w_t)) (w_a (w_d 4 [(10, iv x)] [] []) (w_a (w_d 7 [(10, iv y)] [] []) w_t)) ?_; (repeat' first | exact w_t | apply w_l); all_goals intros))
          exact ⟨i + 1, ⟨by omega, by omega, by exact gW e0, by exact gW e1, by exact gS, hs⟩, by omega⟩
        · rw [if_pos hy] at hs
          rw [hs]
          (focus (refine wkld (w_a e0 (w_a e1 (w_a e5 (w_a hg (w_a hh (w_a @l_map w_t)))))) (w_a cl (w_a cq w_t)) w_t (w_a (w_d 4 [(10, iv x)] [] []) (w_a (w_d 7 [(10, iv y)] [] []) w_t)) ?_; (repeat' first | exact w_t | apply w_l); all_goals intros))
      · rw [if_pos hx, if_pos hx] at hs
        rw [hs]
        (focus (refine wkld (w_a e0 (w_a e1 (w_a e5 (w_a hg (w_a hh (w_a @l_map w_t)))))) (w_a cl w_t) w_t (w_a (w_d 4 [(10, iv x)] [] []) w_t) ?_; (repeat' first | exact w_t | apply w_l); all_goals intros))
    · rw [cmpPo_len (by omega), List.length_drop, List.length_drop] at hs
      rw [hs]
      (focus (refine wkld (w_a e0 (w_a e1 (w_a e5 (w_a @l_map w_t)))) w_t w_t w_t ?_; (repeat' first | exact w_t | apply w_l); all_goals intros))
  · exact ⟨Nat.zero_le _, Nat.zero_le _, by exact gC, by exact gC, by exact gC, by simp⟩
theorem rpEqual (p q : Po) {j k e f : Nat} (hp : PK p j e) (hq : PK q k f) (dp : ∀ t ∈ p, Can t.2) (dq : ∀ t ∈ q, Can t.2) (lp : p.length ≤ 1000000) (lq : q.length ≤ 1000000) (hj : j ≤ 2000000) (hk : k ≤ 2000000) (he : e ≤ 16777216) (hf : f ≤ 16777216) :
    Pure Tryz.prog 29 [poA p, poA q] (.v (.bool (decide (p = q)))) := by
  have c := rpCmp p q hp hq lp lq hj hk he hf
  have h := cmpPo_zero dp dq
  rw [show decide (p = q) = decide (cmpPo p q = 0) from by rw [Bool.eq_iff_iff, decide_eq_true_eq, decide_eq_true_eq, h]]
  generalize cmpPo p q = z at *
  clear h
  refine pure_intro (tok := 0) Tryz.func29 rfl Tryz.ntmps29 Tryz.results29 Tryz.call29 (by rfl) (by simp) ?_
  (focus (refine wklp w_t (w_a c w_t) w_t (w_r 0) ?_; (repeat' first | exact w_t | apply w_l); all_goals intros))
end Go.Proofs.YtbgmnobnaplmlaaGreat
end

section
namespace Go.Proofs.YtbgmnobnaplmlaaGreat
open Go Go.RowKit Go.Pg Go.Pol
set_option linter.unusedSimpArgs false
set_option linter.unusedVariables false
set_option maxRecDepth 20000
attribute [-bool_to_prop] Bool.and_eq_decide Bool.or_eq_decide Bool.decide_beq_decide decide_eq_decide
set_option linter.unusedSimpArgs false
set_option linter.unusedVariables false
/-! ### polynomials of bounded length, size and exponents -/
structure PB (p : Po) (n j e : Nat) : Prop where
  s : SrtM p
  k : PK p j e
  l : p.length ≤ n
theorem PB.mono {p : Po} {n j e m i f : Nat} (h : PB p n j e) (hn : n ≤ m) (hj : j ≤ i) (he : e ≤ f) : PB p m i f := ⟨h.s, h.k.mono hj he, Nat.le_trans h.l hn⟩
theorem PB.nil {n j e : Nat} : PB [] n j e := ⟨.nil, .nil, Nat.zero_le _⟩
theorem PB.add {p q : Po} {n j e m k f : Nat} (h : PB p n j e) (g : PB q m k f) : PB (addM p q) (n + m) (j + k + 1) (max e f) :=
  ⟨addP_srt ordM h.s g.s, (h.k.mono (Nat.le_refl _) (Nat.le_max_left ..)).add (g.k.mono (Nat.le_refl _) (Nat.le_max_right ..)), Nat.le_trans (addP_len p q) (Nat.add_le_add h.l g.l)⟩
theorem PB.neg {p : Po} {n j e : Nat} (h : PB p n j e) : PB (scaleP (-1) p) n j e := ⟨scale_srt h.s neg1, h.k.neg, by rw [scale_len]; exact h.l⟩
theorem PB.sub {p q : Po} {n j e m k f : Nat} (h : PB p n j e) (g : PB q m k f) : PB (subM p q) (n + m) (j + k + 1) (max e f) := h.add g.neg
theorem PB.times {p : Po} {t : Tm} {n j e k f : Nat} (h : PB p n j e) (ht : PK [t] k f) (h0 : t.1 ≠ 0) (hd : Can t.2) : PB (timesP mulM p t) n (j + k) (e + f) :=
  ⟨times_srt mulK h.s h0 hd, h.k.times ht, by rw [timesP_len]; exact h.l⟩
theorem PB.take {q : Po} {m k f : Nat} (g : PB q m k f) (i : Nat) : PB (q.take i) m k f :=
  ⟨srt_take g.s i, fun t ht => g.k t (List.mem_of_mem_take ht), by rw [List.length_take]; have := g.l; omega⟩
theorem PB.one {q : Po} {m k f : Nat} (g : PB q m k f) {t : Tm} (ht : t ∈ q) : PK [t] k f := fun u hu => by rw [List.mem_singleton] at hu; subst hu; exact g.k _ ht
theorem mul_pbN {p q : Po} {n j e m k f : Nat} (h : PB p n j e) (g : PB q m k f) : ∀ i, i ≤ q.length → PB (mlM p (q.take i)) (n * i) (i * (j + k + 1)) (e + f)
  | 0, _ => by rw [List.take_zero]; exact .nil
  | i + 1, hi => by
    rw [mulR_take hi]
    have h1 := mul_pbN h g i (by omega)
    have h2 := h.times (g.one (List.getElem_mem hi)) (g.s.1 _ (List.getElem_mem hi)).1 (g.s.1 _ (List.getElem_mem hi)).2
    refine (h1.add h2).mono ?_ ?_ ?_
    · rw [Nat.mul_succ]; omega
    · rw [Nat.succ_mul]; omega
    · omega
theorem mul_pbI {p q : Po} {n j e m k f : Nat} (h : PB p n j e) (g : PB q m k f) (i : Nat) : PB (mlM p (q.take i)) (n * m) (m * (j + k + 1)) (e + f) := by
  by_cases hi : i ≤ q.length
  · have hm := g.l
    exact (mul_pbN h g i hi).mono (Nat.mul_le_mul_left _ (by omega)) (Nat.mul_le_mul_right _ (by omega)) (Nat.le_refl _)
  · rw [List.take_of_length_le (by omega)]
    have := mul_pbN h g q.length (Nat.le_refl _)
    rw [List.take_length] at this
    exact this.mono (Nat.mul_le_mul_left _ g.l) (Nat.mul_le_mul_right _ g.l) (Nat.le_refl _)
theorem PB.mul {p q : Po} {n j e m k f : Nat} (h : PB p n j e) (g : PB q m k f) : PB (mlM p q) (n * m) (m * (j + k + 1)) (e + f) := by
  have := mul_pbI h g q.length
  rwa [List.take_length] at this
/-- Sums by halves. -/
theorem sumH_pb {s e n : Nat} (l : List Po) (h : ∀ p ∈ l, PB p n s e) : PB (sumH ltM l) (l.length * n) (l.length * (s + 1) - 1) e := by
  fun_induction sumH ltM l with
  | case1 => exact .nil
  | case2 p => exact (h p (.head _)).mono (by simp) (by simp) (Nat.le_refl _)
  | case3 p q l ih1 ih2 =>
    have h1 := ih1 fun u hu => h u (List.mem_of_mem_take hu)
    have h2 := ih2 fun u hu => h u (List.mem_of_mem_drop hu)
    rw [List.length_take] at h1
    rw [List.length_drop] at h2
    have hL : 2 ≤ (p :: q :: l).length := by simp
    generalize (p :: q :: l).length = L at *
    rw [Nat.min_eq_left (by omega)] at h1
    have e1 : L / 2 + (L - L / 2) = L := by omega
    have a1 : 1 ≤ L / 2 * (s + 1) := Nat.le_trans (by omega) (Nat.le_mul_of_pos_right (L / 2) (show 0 < s + 1 by omega))
    have a2 : 1 ≤ (L - L / 2) * (s + 1) := Nat.le_trans (show 1 ≤ L - L / 2 by omega) (Nat.le_mul_of_pos_right (L - L / 2) (show 0 < s + 1 by omega))
    refine (h1.add h2).mono ?_ ?_ (by omega)
    · rw [← Nat.add_mul, e1]; exact Nat.le_refl _
    · have e2 : L / 2 * (s + 1) + (L - L / 2) * (s + 1) = L * (s + 1) := by rw [← Nat.add_mul, e1]
      omega
theorem sum_ok {s e n N : Nat} (l : List Po) (h : ∀ p ∈ l, PB p n s e) (hN : l.length ≤ N) (hb : N * n ≤ 1000000) : SumOk l (N * (s + 1)) e := fun a b => by
  have h1 : ∀ p ∈ (l.drop a).take b, PB p n s e := fun p hp => h p (List.mem_of_mem_drop (List.mem_of_mem_take hp))
  have h2 := sumH_pb _ h1
  have h3 : ((l.drop a).take b).length ≤ N := by rw [List.length_take, List.length_drop]; omega
  refine ⟨h2.k.mono ?_ (Nat.le_refl _), Nat.le_trans h2.l (Nat.le_trans (Nat.mul_le_mul_right _ h3) hb)⟩
  have := Nat.mul_le_mul_right (s + 1) h3
  omega
theorem parts_ok {p q : Po} {n j e m k f : Nat} (h : PB p n j e) (g : PB q m k f) (hn : n * m ≤ 1000000) : SumOk (partsM p q) (min n m * (j + k + 1)) (e + f) := by
  unfold partsM
  have l1 := h.l
  have l2 := g.l
  split
  · rename_i hlt
    have := sum_ok (q.map fun t => timesP mulM p t) (n := p.length) (s := j + k) (e := e + f) (N := q.length) (fun u hu => by
      obtain ⟨t, ht, rfl⟩ := List.mem_map.1 hu
      have h' : PB p p.length j e := ⟨h.s, h.k, Nat.le_refl _⟩
      exact h'.times (g.one ht) (g.s.1 t ht).1 (g.s.1 t ht).2) (by rw [List.length_map]; exact Nat.le_refl _) (by rw [Nat.mul_comm]; exact Nat.le_trans (Nat.mul_le_mul l1 l2) hn)
    exact fun a b => ⟨(this a b).1.mono (Nat.mul_le_mul_right _ (by omega)) (Nat.le_refl _), (this a b).2⟩
  · rename_i hlt
    have := sum_ok (p.map fun t => timesP mulM q t) (n := q.length) (s := k + j) (e := f + e) (N := p.length) (fun u hu => by
      obtain ⟨t, ht, rfl⟩ := List.mem_map.1 hu
      have h' : PB q q.length k f := ⟨g.s, g.k, Nat.le_refl _⟩
      exact h'.times (h.one ht) (h.s.1 t ht).1 (h.s.1 t ht).2) (by rw [List.length_map]; exact Nat.le_refl _) (Nat.le_trans (Nat.mul_le_mul l1 l2) hn)
    refine fun a b => ⟨(this a b).1.mono ?_ (by omega), (this a b).2⟩
    rw [Nat.add_comm k j]
    exact Nat.mul_le_mul_right _ (by omega)
/-! ### the contracts in these terms -/
theorem hpAdd {p q : Po} {n j e m k f : Nat} (h : PB p n j e) (g : PB q m k f) (hn : n ≤ 1000000) (hm : m ≤ 1000000) (hj : j ≤ 1000000) (hk : k ≤ 1000000) (he : e ≤ 100) (hf : f ≤ 100) :
    Pure Tryz.prog 106 [poA p, poA q] (poA (addM p q)) ∧ Pure Tryz.prog 80 [poA p, poA q] (poA (addM p q)) :=
  have l1 := h.l
  have l2 := g.l
  ⟨poAdd p q (h.k.mono (Nat.le_refl _) he) (g.k.mono (Nat.le_refl _) hf) h.s g.s (by omega) (by omega) hj hk (by omega), rpAdd p q (h.k.mono (Nat.le_refl _) he) (g.k.mono (Nat.le_refl _) hf) h.s g.s (by omega) (by omega) hj hk (by omega)⟩
theorem hpSub {p q : Po} {n j e m k f : Nat} (h : PB p n j e) (g : PB q m k f) (hn : n ≤ 1000000) (hm : m ≤ 1000000) (hj : j ≤ 1000000) (hk : k ≤ 1000000) (he : e ≤ 100) (hf : f ≤ 100) :
    Pure Tryz.prog 77 [poA p, poA q] (poA (subM p q)) ∧ Pure Tryz.prog 74 [poA p, poA q] (poA (subM p q)) :=
  have l1 := h.l
  have l2 := g.l
  ⟨poSub p q (h.k.mono (Nat.le_refl _) he) (g.k.mono (Nat.le_refl _) hf) h.s g.s (by omega) (by omega) hj hk (by omega), rpSub p q (h.k.mono (Nat.le_refl _) he) (g.k.mono (Nat.le_refl _) hf) h.s g.s (by omega) (by omega) hj hk (by omega)⟩
theorem hpMul {p q : Po} {n j e m k f : Nat} (h : PB p n j e) (g : PB q m k f) (hn : n ≤ 1000000) (hm : m ≤ 1000000) (hj : j ≤ 500000) (hk : k ≤ 500000) (he : e ≤ 100) (hf : f ≤ 100) (hnm : n * m ≤ 1000000) (hK : min n m * (j + k + 1) ≤ 1000000) (hR : m * (j + k + 1) ≤ 1000000) :
    Pure Tryz.prog 78 [poA p, poA q] (poA (mlM p q)) ∧ Pure Tryz.prog 72 [poA p, poA q] (poA (mlM p q)) :=
  have l1 := h.l
  have l2 := g.l
  ⟨poMul p q h.k g.k h.s g.s (by omega) (by omega) (by omega) (by omega) (by omega) (by omega) (parts_ok h g hnm) hK (by omega),
   rpMul p q h.k g.k h.s g.s (by omega) (by omega) hj hk (by omega) (by omega) (fun i => ⟨(mul_pbI h g i).k, Nat.le_trans (mul_pbI h g i).l hnm⟩) hR (by omega)⟩
end Go.Proofs.YtbgmnobnaplmlaaGreat
end

section
namespace Go.Proofs.YtbgmnobnaplmlaaGreat
open Go Go.RowKit Go.Pg Go.Pol
set_option linter.unusedSimpArgs false
set_option linter.unusedVariables false
set_option maxRecDepth 20000
attribute [-bool_to_prop] Bool.and_eq_decide Bool.or_eq_decide Bool.decide_beq_decide decide_eq_decide
set_option linter.unusedSimpArgs false
set_option linter.unusedVariables false
/-! ### the equations, as plain polynomials -/
abbrev Pt := Po × Po
abbrev dfM (a b : Pt) : Pt := (subM b.1 a.1, subM b.2 a.2)
def crossM (a b c d : Pt) : Po := subM (mlM (subM b.1 a.1) (subM d.2 c.2)) (mlM (subM b.2 a.2) (subM d.1 c.1))
def dotM (a b c d : Pt) : Po := addM (mlM (subM b.1 a.1) (subM d.1 c.1)) (mlM (subM b.2 a.2) (subM d.2 c.2))
def dblM (p : Po) : Po := addM p p
abbrev oneM : Po := [(1, [])]
def slopeM (t : Po) : Po := addM oneM (mlM t t)
def circM (o a x : Pt) (t : Po) : List Po :=
  let s := dblM (addM (subM o.1 a.1) (mlM t (subM o.2 a.2)))
  [subM (mlM (slopeM t) (subM x.1 a.1)) s, subM (mlM (slopeM t) (subM x.2 a.2)) (mlM t s)]
def otherM (p q o x : Pt) : List Po :=
  let n := dotM p q p q
  let s := dblM (dotM p o p q)
  [subM (mlM n (subM x.1 p.1)) (mlM s (subM q.1 p.1)), subM (mlM n (subM x.2 p.2)) (mlM s (subM q.2 p.2))]
def diffM (a b c d : Pt) : Po := subM (dotM a b a b) (dotM c d c d)
def eqsM (k : Int) (a b c d x : Pt) (t : Po) : List Po :=
  if k = 6 then circM a b x t
  else if k = 7 then [crossM b c b x, dotM b c a x]
  else if k = 8 then [dotM b c a x, addM (crossM b c b a) (crossM b c b x)]
  else if k = 9 then [crossM a b a x, crossM c d c x]
  else if k = 10 then otherM a b c x
  else if k = 11 then [diffM a x b x, diffM a x c x]
  else if k = 12 then [crossM a b a x, diffM c x c d]
  else if k = 13 then [diffM a x a b, diffM c x c d]
  else if k = 14 then [diffM a x a b, diffM b x a b]
  else []
/-! ### bounds -/
structure CB (c : Pt) : Prop where
  x : PB c.1 8 110 8
  y : PB c.2 8 110 8
theorem CB.df {a b : Pt} (h : CB a) (g : CB b) : PB (subM b.1 a.1) 16 221 8 ∧ PB (subM b.2 a.2) 16 221 8 := ⟨(g.x.sub h.x).mono (by omega) (by omega) (by omega), (g.y.sub h.y).mono (by omega) (by omega) (by omega)⟩
theorem PB.m2 {p q : Po} (h : PB p 16 221 8) (g : PB q 16 221 8) : PB (mlM p q) 256 7088 16 := (h.mul g).mono (by omega) (by omega) (by omega)
theorem CB.cross {a b c d : Pt} (ha : CB a) (hb : CB b) (hc : CB c) (hd : CB d) : PB (crossM a b c d) 512 14177 16 :=
  (((ha.df hb).1.m2 (hc.df hd).2).sub ((ha.df hb).2.m2 (hc.df hd).1)).mono (by omega) (by omega) (by omega)
theorem CB.dot {a b c d : Pt} (ha : CB a) (hb : CB b) (hc : CB c) (hd : CB d) : PB (dotM a b c d) 512 14177 16 :=
  (((ha.df hb).1.m2 (hc.df hd).1).add ((ha.df hb).2.m2 (hc.df hd).2)).mono (by omega) (by omega) (by omega)
theorem var_pb (v : Nat) : PB (varM v) 1 1 1 := ⟨varM_srt v, varM_pk v, by unfold varM; split <;> simp⟩
theorem one_mul {p : Po} (h : SrtM p) : mlM oneM p = p := by
  rw [mul_const (by decide) h]
  unfold scaleP
  conv => rhs; rw [← List.map_id p]
  exact List.map_congr_left fun t ht => by show (t.1 * 1, t.2) = t; rw [Rat.mul_one]
end Go.Proofs.YtbgmnobnaplmlaaGreat
end

section
namespace Go.Proofs.YtbgmnobnaplmlaaGreat
open Go Go.RowKit Go.Pg
set_option linter.unusedSimpArgs false
set_option linter.unusedVariables false
set_option maxRecDepth 20000
attribute [-bool_to_prop] Bool.and_eq_decide Bool.or_eq_decide Bool.decide_beq_decide decide_eq_decide
theorem szPtrB : szOf Tryz.prog 103 = some 1 := by kernel_rfl
theorem zPtrB : zeroOf Tryz.prog 103 = some (.pointer none) := by kernel_rfl
theorem szFnC : szOf Tryz.prog 154 = some 1 := by kernel_rfl
theorem zFnC : zeroOf Tryz.prog 154 = some (.nilFunc) := by kernel_rfl
end Go.Proofs.YtbgmnobnaplmlaaGreat
end

section
namespace Go.Proofs.YtbgmnobnaplmlaaGreat
open Go Go.RowKit Go.Pg
set_option linter.unusedSimpArgs false
set_option linter.unusedVariables false
set_option maxRecDepth 20000
attribute [-bool_to_prop] Bool.and_eq_decide Bool.or_eq_decide Bool.decide_beq_decide decide_eq_decide
theorem szHVec : szOf Tryz.prog 135 = some 2 := by kernel_rfl
theorem byHVec : bytOf Tryz.prog 135 = some 48 := by kernel_rfl
theorem zHVec : zeroOf Tryz.prog 135 = some (.agg #[.slice none 0 0, .slice none 0 0]) := by kernel_rfl
end Go.Proofs.YtbgmnobnaplmlaaGreat
end

section
namespace Go.Proofs.YtbgmnobnaplmlaaGreat
open Go Go.RowKit Go.Pg Go.Pol
set_option linter.unusedSimpArgs false
set_option linter.unusedVariables false
set_option maxRecDepth 20000
attribute [local go_sem] Tryz.underlying3 Tryz.underlying4 Tryz.underlying178 Tryz.underlying9 Tryz.underlying48 Tryz.underlying31 Tryz.underlying43 Tryz.underlying41 Tryz.underlying39 Tryz.underlying50 Tryz.underlying22 Tryz.underlying25 Tryz.underlying56 Tryz.underlying28 Tryz.underlying72 Tryz.underlying27 Tryz.underlying30 Tryz.underlying105 Tryz.underlying107 Tryz.underlying70 Tryz.underlying63 Tryz.underlying103 Tryz.underlying154 sz3 by3 z3 szB zB szErr zErr szStr byStr zStr szRat zRat szInt zInt szNat zNat szStep byStep zStep szFig zFig szSlI zSlI szSlS zSlS szVar byVar zVar szSlV zSlV szCoord byCoord zCoord szSlC zSlC szFrame zFrame szCBld byCBld zCBld szCVec byCVec zCVec szPoly byPoly zPoly szTerm zTerm szPtrB zPtrB szFnC zFnC Tryz.underlying135 szHVec byHVec zHVec
attribute [-bool_to_prop] Bool.and_eq_decide Bool.or_eq_decide Bool.decide_beq_decide decide_eq_decide
/-! ### package hypotheses: vectors -/
theorem CB.subs {a b : Pt} (ha : CB a) (hb : CB b) : (Pure Tryz.prog 77 [poA b.1, poA a.1] (poA (subM b.1 a.1)) ∧ Pure Tryz.prog 74 [poA b.1, poA a.1] (poA (subM b.1 a.1))) ∧ (Pure Tryz.prog 77 [poA b.2, poA a.2] (poA (subM b.2 a.2)) ∧ Pure Tryz.prog 74 [poA b.2, poA a.2] (poA (subM b.2 a.2))) :=
  ⟨hpSub hb.x ha.x (by omega) (by omega) (by omega) (by omega) (by omega) (by omega), hpSub hb.y ha.y (by omega) (by omega) (by omega) (by omega) (by omega) (by omega)⟩
theorem hpM2 {p q : Po} (h : PB p 16 221 8) (g : PB q 16 221 8) : Pure Tryz.prog 78 [poA p, poA q] (poA (mlM p q)) ∧ Pure Tryz.prog 72 [poA p, poA q] (poA (mlM p q)) :=
  hpMul h g (by omega) (by omega) (by omega) (by omega) (by omega) (by omega) (by omega) (by omega) (by omega)
theorem hyBetween {a b : Pt} (ha : CB a) (hb : CB b) : Pure Tryz.prog 76 [coA a, coA b] (coA (dfM a b)) := by
  obtain ⟨⟨h1, -⟩, h2, -⟩ := ha.subs hb
  clear ha hb
  obtain ⟨a1, a2⟩ := a
  obtain ⟨b1, b2⟩ := b
  unfold dfM
  simp only at *
  generalize subM b1 a1 = d1 at *
  generalize subM b2 a2 = d2 at *
  refine pure_intro (tok := 0) Tryz.func76 rfl Tryz.ntmps76 Tryz.results76 Tryz.call76 (by rfl) (by simp) ?_
  (focus (refine wkld w_t (w_a h1 (w_a h2 w_t)) w_t (w_a (w_d 1 [(4, poA d1), (9, poA d2)] [] [4]) w_t) ?_; (repeat' first | exact w_t | apply w_l); all_goals intros))
theorem hyDotC (u v : Pt) (p q r : Po) (m1 : Pure Tryz.prog 78 [poA u.1, poA v.1] (poA p)) (m2 : Pure Tryz.prog 78 [poA u.2, poA v.2] (poA q)) (ad : Pure Tryz.prog 106 [poA p, poA q] (poA r)) : Pure Tryz.prog 79 [coA u, coA v] (poA r) := by
  obtain ⟨u1, u2⟩ := u
  obtain ⟨v1, v2⟩ := v
  simp only at *
  refine pure_intro (tok := 0) Tryz.func79 rfl Tryz.ntmps79 Tryz.results79 Tryz.call79 (by rfl) (by simp) ?_
  (focus (refine wkld w_t (w_a m1 (w_a m2 (w_a ad w_t))) w_t (w_a (w_d 1 [(4, poA p), (9, poA q), (10, poA r)] [] []) w_t) ?_; (repeat' first | exact w_t | apply w_l); all_goals intros))
theorem hyDot {a b c d : Pt} (ha : CB a) (hb : CB b) (hc : CB c) (hd : CB d) : Pure Tryz.prog 32 [coA a, coA b, coA c, coA d] (poA (dotM a b c d)) := by
  have b1 := hyBetween ha hb
  have b2 := hyBetween hc hd
  obtain ⟨x1, y1⟩ := ha.df hb
  obtain ⟨x2, y2⟩ := hc.df hd
  have cd := hyDotC (dfM a b) (dfM c d) _ _ _ (hpM2 x1 x2).1 (hpM2 y1 y2).1 (hpAdd (x1.m2 x2) (y1.m2 y2) (by omega) (by omega) (by omega) (by omega) (by omega) (by omega)).1
  rw [show addM (mlM (subM b.1 a.1) (subM d.1 c.1)) (mlM (subM b.2 a.2) (subM d.2 c.2)) = dotM a b c d from rfl] at cd
  generalize dotM a b c d = r at *
  clear x1 y1 x2 y2 ha hb hc hd
  obtain ⟨a1, a2⟩ := a
  obtain ⟨b1, b2⟩ := b
  obtain ⟨c1, c2⟩ := c
  obtain ⟨d1, d2⟩ := d
  generalize dfM _ _ = u at *
  generalize dfM _ _ = v at *
  obtain ⟨u1, u2⟩ := u
  obtain ⟨v1, v2⟩ := v
  refine pure_intro (tok := 0) Tryz.func32 rfl Tryz.ntmps32 Tryz.results32 Tryz.call32 (by rfl) (by simp) ?_
  (focus (refine wkld w_t (w_a b1 (w_a b2 (w_a cd w_t))) w_t (w_a (w_d 1 [(2, coA (u1, u2)), (5, coA (v1, v2)), (6, poA r)] [] []) w_t) ?_; (repeat' first | exact w_t | apply w_l); all_goals intros))
theorem hyCross {a b c d : Pt} (ha : CB a) (hb : CB b) (hc : CB c) (hd : CB d) : Pure Tryz.prog 30 [coA a, coA b, coA c, coA d] (poA (crossM a b c d)) := by
  have k1 := hyBetween ha hb
  have k2 := hyBetween hc hd
  obtain ⟨x1, y1⟩ := ha.df hb
  obtain ⟨x2, y2⟩ := hc.df hd
  have m1 := (hpM2 x1 y2).1
  have m2 := (hpM2 y1 x2).1
  have s := (hpSub (x1.m2 y2) (y1.m2 x2) (by omega) (by omega) (by omega) (by omega) (by omega) (by omega)).1
  rw [show subM (mlM (subM b.1 a.1) (subM d.2 c.2)) (mlM (subM b.2 a.2) (subM d.1 c.1)) = crossM a b c d from rfl] at s
  generalize crossM a b c d = r at *
  clear x1 y1 x2 y2 ha hb hc hd
  unfold dfM at k1 k2
  generalize mlM (subM b.1 a.1) (subM d.2 c.2) = p at *
  generalize mlM (subM b.2 a.2) (subM d.1 c.1) = q at *
  generalize subM b.1 a.1 = u1 at *
  generalize subM b.2 a.2 = u2 at *
  generalize subM d.1 c.1 = v1 at *
  generalize subM d.2 c.2 = v2 at *
  obtain ⟨a1, a2⟩ := a
  obtain ⟨b1, b2⟩ := b
  obtain ⟨c1, c2⟩ := c
  obtain ⟨d1, d2⟩ := d
  refine pure_intro (tok := 0) Tryz.func30 rfl Tryz.ntmps30 Tryz.results30 Tryz.call30 (by rfl) (by simp) ?_
  (focus (refine wkld w_t (w_a k1 (w_a k2 (w_a m1 (w_a m2 (w_a s w_t))))) w_t (w_a (w_d 1 [(2, coA (u1, u2)), (5, coA (v1, v2))] [] [9, 10]) (w_a (w_d 2 [(4, poA p), (9, poA q), (10, poA r)] [] []) w_t)) ?_; (repeat' first | exact w_t | apply w_l); all_goals intros))
theorem rhCross {a b c d : Pt} (ha : CB a) (hb : CB b) (hc : CB c) (hd : CB d) : Pure Tryz.prog 31 [coA a, coA b, coA c, coA d] (poA (crossM a b c d)) := by
  obtain ⟨⟨-, s1⟩, -, s2⟩ := ha.subs hb
  obtain ⟨⟨-, t1⟩, -, t2⟩ := hc.subs hd
  obtain ⟨x1, y1⟩ := ha.df hb
  obtain ⟨x2, y2⟩ := hc.df hd
  have m1 := (hpM2 x1 y2).2
  have m2 := (hpM2 y1 x2).2
  have s := (hpSub (x1.m2 y2) (y1.m2 x2) (by omega) (by omega) (by omega) (by omega) (by omega) (by omega)).2
  rw [show subM (mlM (subM b.1 a.1) (subM d.2 c.2)) (mlM (subM b.2 a.2) (subM d.1 c.1)) = crossM a b c d from rfl] at s
  generalize crossM a b c d = r at *
  clear x1 y1 x2 y2 ha hb hc hd
  generalize mlM (subM b.1 a.1) (subM d.2 c.2) = p at *
  generalize mlM (subM b.2 a.2) (subM d.1 c.1) = q at *
  generalize subM b.1 a.1 = u1 at *
  generalize subM b.2 a.2 = u2 at *
  generalize subM d.1 c.1 = v1 at *
  generalize subM d.2 c.2 = v2 at *
  obtain ⟨a1, a2⟩ := a
  obtain ⟨b1, b2⟩ := b
  obtain ⟨c1, c2⟩ := c
  obtain ⟨d1, d2⟩ := d
  try simp only at *
  refine pure_intro (tok := 0) Tryz.func31 rfl Tryz.ntmps31 Tryz.results31 Tryz.call31 (by rfl) (by simp) ?_
  (focus (refine wkld w_t (w_a s1 (w_a s2 (w_a t1 (w_a t2 (w_a m1 (w_a m2 (w_a s w_t))))))) w_t (w_a (w_d 1 [(4, poA u1), (9, poA v2), (10, poA p), (15, poA u2), (20, poA v1), (21, poA q), (22, poA r)] [] []) w_t) ?_; (repeat' first | exact w_t | apply w_l); all_goals intros))
theorem rhDot {a b c d : Pt} (ha : CB a) (hb : CB b) (hc : CB c) (hd : CB d) : Pure Tryz.prog 33 [coA a, coA b, coA c, coA d] (poA (dotM a b c d)) := by
  obtain ⟨⟨-, s1⟩, -, s2⟩ := ha.subs hb
  obtain ⟨⟨-, t1⟩, -, t2⟩ := hc.subs hd
  obtain ⟨x1, y1⟩ := ha.df hb
  obtain ⟨x2, y2⟩ := hc.df hd
  have m1 := (hpM2 x1 x2).2
  have m2 := (hpM2 y1 y2).2
  have s := (hpAdd (x1.m2 x2) (y1.m2 y2) (by omega) (by omega) (by omega) (by omega) (by omega) (by omega)).2
  rw [show addM (mlM (subM b.1 a.1) (subM d.1 c.1)) (mlM (subM b.2 a.2) (subM d.2 c.2)) = dotM a b c d from rfl] at s
  generalize dotM a b c d = r at *
  clear x1 y1 x2 y2 ha hb hc hd
  generalize mlM (subM b.1 a.1) (subM d.1 c.1) = p at *
  generalize mlM (subM b.2 a.2) (subM d.2 c.2) = q at *
  generalize subM b.1 a.1 = u1 at *
  generalize subM b.2 a.2 = u2 at *
  generalize subM d.1 c.1 = v1 at *
  generalize subM d.2 c.2 = v2 at *
  obtain ⟨a1, a2⟩ := a
  obtain ⟨b1, b2⟩ := b
  obtain ⟨c1, c2⟩ := c
  obtain ⟨d1, d2⟩ := d
  try simp only at *
  refine pure_intro (tok := 0) Tryz.func33 rfl Tryz.ntmps33 Tryz.results33 Tryz.call33 (by rfl) (by simp) ?_
  (focus (refine wkld w_t (w_a s1 (w_a s2 (w_a t1 (w_a t2 (w_a m1 (w_a m2 (w_a s w_t))))))) w_t (w_a (w_d 1 [(4, poA u1), (9, poA v1), (10, poA p), (15, poA u2), (20, poA v2), (21, poA q), (22, poA r)] [] []) w_t) ?_; (repeat' first | exact w_t | apply w_l); all_goals intros))
end Go.Proofs.YtbgmnobnaplmlaaGreat
end

section
namespace Go.Proofs.YtbgmnobnaplmlaaGreat
open Go Go.RowKit Go.Pg
set_option linter.unusedSimpArgs false
set_option linter.unusedVariables false
set_option maxRecDepth 20000
attribute [-bool_to_prop] Bool.and_eq_decide Bool.or_eq_decide Bool.decide_beq_decide decide_eq_decide
theorem szFnN : szOf Tryz.prog 193 = some 1 := by kernel_rfl
theorem zFnN : zeroOf Tryz.prog 193 = some (.nilFunc) := by kernel_rfl
/-- At a region that draws its order the state may be seen otherwise. -/
theorem r_frzD {P : Program} {n : Nat} {Q : AE → St → Prop} {id : Nat} {ops : Array Oper} {st st' : St} (h : Frz n st st') (k : aCode P 0 n (.region id ops true) Q st') : aCode P 0 n (.region id ops true) Q st := fun c a w imm hr => by
  obtain ⟨i, h1⟩ := h c a w imm hr
  exact k c a w i h1
end Go.Proofs.YtbgmnobnaplmlaaGreat
end

section
namespace Go.Proofs.YtbgmnobnaplmlaaGreat
open Go Go.RowKit Go.Pg
set_option linter.unusedSimpArgs false
set_option linter.unusedVariables false
set_option maxRecDepth 20000
attribute [local go_sem] Tryz.underlying3 Tryz.underlying4 Tryz.underlying5 Tryz.underlying9 Tryz.underlying93 sz3 by3 z3 szStr byStr zStr
attribute [-bool_to_prop] Bool.and_eq_decide Bool.or_eq_decide Bool.decide_beq_decide decide_eq_decide
theorem kwL_len : kwL.length = 29 := rfl
set_option maxHeartbeats 4000000 in
theorem nmName (s : ByteArray) (hs : s.size ≤ 1000000000) : Pure Tryz.prog 175 [strA s] (.v (.bool (namB s))) := by
  have he := str_nil s
  unfold namB
  by_cases h0 : 0 < s.size ∧ s.size ≤ 20
  · rw [decide_eq_true h0, Bool.true_and]
    have h00 : (decide (s.size = 0)) = false := decide_eq_false (by omega)
    rw [h00] at he
    have hk := nmKind (gB s 0) (gB_lt s 0)
    have hg := gB_at s 0
    have kl := kinB_let (gB s 0)
    cases hl : letB (gB s 0) with
    | false =>
      have hx : kinB (gB s 0) ≠ 2 := fun h => by rw [kl.1 h] at hl; cases hl
      clear kl
      rw [Bool.false_and]
      generalize kinB (gB s 0) = x at *
      refine pure_intro (tok := 0) Tryz.func175 rfl Tryz.ntmps175 Tryz.results175 Tryz.call175 (by rfl) (by simp) ?_
      (focus (refine wklp (w_a he (w_a hg w_t)) (w_a hk w_t) w_t (w_r 0) ?_; (repeat' first | exact w_t | apply w_l); all_goals intros))
    | true =>
      have hx : kinB (gB s 0) = 2 := kl.2 hl
      rw [hx] at hk
      rw [Bool.true_and]
      obtain ⟨n, ce, hn, hall⟩ := nmEnd s hs
      cases ha : (List.range s.size).all (fun k => letB (gB s k) || digB (gB s k)) with
      | false =>
        have hlt : n < s.size := by
          rcases Nat.lt_or_ge n s.size with h | h
          · exact h
          · rw [hall.1 (by omega)] at ha; cases ha
        rw [Bool.false_and]
        clear hall ha
        refine pure_intro (tok := 0) Tryz.func175 rfl Tryz.ntmps175 Tryz.results175 Tryz.call175 (by rfl) (by simp) ?_
        (focus (refine wklp (w_a he (w_a hg w_t)) (w_a hk (w_a ce w_t)) w_t (w_r 0) ?_; (repeat' first | exact w_t | apply w_l); all_goals intros))
      | true =>
        have hnn : n = s.size := hall.2 ha
        subst hnn
        rw [Bool.true_and]
        clear hall ha hl hx kl
        have ck := nmKeys
        refine pure_intro (tok := 0) Tryz.func175 rfl Tryz.ntmps175 Tryz.results175 Tryz.call175 (by rfl) (by simp) ?_
        (focus (refine wkap (w_a he (w_a hg (w_a @l_map (w_a @kwL_len w_t)))) (w_a hk (w_a ce (w_a ck w_t))) (w_r 0) ?_; (repeat' first | exact w_t | apply w_l); all_goals intros))
        refine r_loopE (ι := Nat) (fun i e m => i ≤ 29 ∧ e 0 = strA s ∧ e 25 = .sl 1 (kwL.map strA) ∧ e 26 = iv 29 ∧ e 27 = iv i ∧ (kwL.take i).any (fun w => w.toList == s.toList) = false) (fun i => 29 - i) 0 (by rfl) ?_ ?_
        · rintro i e m ⟨hi, e0, e25, e26, e27, hno⟩
          by_cases hlt : i < 29
          · have hlt' : i < kwL.length := by rw [kwL_len]; exact hlt
            have hgk := map_atB strA hlt'
            have hsn : kwL.take (i + 1) = kwL.take i ++ [kwL[i]] := List.take_succ_eq_append_getElem hlt'
            have hmem : kwL[i] ∈ kwL := List.getElem_mem hlt'
            generalize kwL[i] = w at *
            cases hw : (w.toList == s.toList) with
            | true =>
              have : kwL.any (fun w => w.toList == s.toList) = true := List.any_eq_true.2 ⟨w, hmem, hw⟩
              rw [this]
              (focus (refine wklp (w_a e0 (w_a e25 (w_a e26 (w_a e27 (w_a hgk (w_a hw (w_a @l_map (w_a @kwL_len w_t)))))))) w_t (w_a @Bool.not_true w_t) (w_r 0) ?_; (repeat' first | exact w_t | apply w_l); all_goals intros))
            | false =>
              (focus (refine wkap (w_a e0 (w_a e25 (w_a e26 (w_a e27 (w_a hgk (w_a hw (w_a @l_map (w_a @kwL_len w_t)))))))) w_t (w_r 0) ?_; (repeat' first | exact w_t | apply w_l); all_goals intros))
              exact ⟨i + 1, ⟨by omega, by exact gW e0, by exact gW e25, by exact gW e26, by exact gS, by rw [hsn, List.any_append, hno]; simp [hw]⟩, by omega⟩
          · have hi2 : i = 29 := by omega
            subst hi2
            rw [show kwL.take 29 = kwL from by rw [← kwL_len, List.take_length]] at hno
            rw [hno]
            (focus (refine wklp (w_a e0 (w_a e25 (w_a e26 (w_a e27 w_t)))) w_t (w_a @Bool.not_false w_t) (w_r 0) ?_; (repeat' first | exact w_t | apply w_l); all_goals intros))
        · exact ⟨Nat.zero_le _, by exact gC, by exact gC, by (simp (disch := omega) only [go_sem, List.length_map, kwL_len] <;> repeat' first | rfl | refine ⟨?_, ?_⟩), by exact gC, by simp⟩
  · rw [decide_eq_false h0, Bool.false_and]
    by_cases h1 : s.size = 0
    · rw [decide_eq_true h1] at he
      refine pure_intro (tok := 0) Tryz.func175 rfl Tryz.ntmps175 Tryz.results175 Tryz.call175 (by rfl) (by simp) ?_
      (focus (refine wklp (w_a he w_t) w_t w_t (w_r 0) ?_; (repeat' first | exact w_t | apply w_l); all_goals intros))
    · rw [decide_eq_false h1] at he
      refine pure_intro (tok := 0) Tryz.func175 rfl Tryz.ntmps175 Tryz.results175 Tryz.call175 (by rfl) (by simp) ?_
      (focus (refine wklp (w_a he w_t) w_t w_t (w_r 0) ?_; (repeat' first | exact w_t | apply w_l); all_goals intros))
end Go.Proofs.YtbgmnobnaplmlaaGreat
end

section
namespace Go.Proofs.YtbgmnobnaplmlaaGreat
open Go Go.RowKit Go.Pg Go.Pol
set_option linter.unusedSimpArgs false
set_option linter.unusedVariables false
set_option maxRecDepth 20000
attribute [local go_sem] Tryz.underlying3 Tryz.underlying4 Tryz.underlying178 Tryz.underlying9 Tryz.underlying48 Tryz.underlying31 Tryz.underlying43 Tryz.underlying41 Tryz.underlying39 Tryz.underlying50 Tryz.underlying22 Tryz.underlying124 Tryz.underlying23 Tryz.underlying25 sz3 by3 z3 szB zB szL byL zL szErr zErr szStr byStr zStr szRat zRat szInt zInt szNat zNat szStep byStep zStep szFact byFact zFact szFig zFig szSlI zSlI szSlS zSlS szSlF zSlF
attribute [-bool_to_prop] Bool.and_eq_decide Bool.or_eq_decide Bool.decide_beq_decide decide_eq_decide
theorem irRaw (s : Bool) (l : List Nat) (hl : Lm l) (hs : l.length ≤ 100000000) : Pure Tryz.prog 201 [.agg [.v (.bool s), lim l]] (.v (.bool (RQ.zok s l))) := by
  unfold RQ.zok valL
  by_cases h : l.length = 0
  · rw [decide_eq_true h, Bool.true_or, Bool.true_and, Bool.and_true]
    cases s
    · refine pure_intro (tok := 0) Tryz.func201 rfl Tryz.ntmps201 Tryz.results201 Tryz.call201 (by rfl) (by simp) ?_
      (focus (refine wklp (w_a @u16s_len w_t) w_t w_t (w_r 0) ?_; (repeat' first | exact w_t | apply w_l); all_goals intros))
    · refine pure_intro (tok := 0) Tryz.func201 rfl Tryz.ntmps201 Tryz.results201 Tryz.call201 (by rfl) (by simp) ?_
      (focus (refine wklp (w_a @u16s_len w_t) w_t w_t (w_r 0) ?_; (repeat' first | exact w_t | apply w_l); all_goals intros))
  · rw [decide_eq_false h, Bool.false_or, Bool.and_false, Bool.not_false, Bool.and_true]
    have ei : (l.length : Int) - 1 = ((l.length - 1 : Nat) : Int) := by omega
    have hlm := gN_lt hl (l.length - 1)
    by_cases hg : gN l (l.length - 1) = 0
    · rw [decide_eq_true hg]
      cases s
      · refine pure_intro (tok := 0) Tryz.func201 rfl Tryz.ntmps201 Tryz.results201 Tryz.call201 (by rfl) (by simp) ?_
        (focus (refine wklp (w_a ei (w_a @u16s_len w_t)) w_t (w_a @Bool.not_true w_t) (w_r 0) ?_; (repeat' first | exact w_t | apply w_l); all_goals intros))
      · refine pure_intro (tok := 0) Tryz.func201 rfl Tryz.ntmps201 Tryz.results201 Tryz.call201 (by rfl) (by simp) ?_
        (focus (refine wklp (w_a ei (w_a @u16s_len w_t)) w_t (w_a @Bool.not_true w_t) (w_r 0) ?_; (repeat' first | exact w_t | apply w_l); all_goals intros))
    · rw [decide_eq_false hg]
      cases s
      · refine pure_intro (tok := 0) Tryz.func201 rfl Tryz.ntmps201 Tryz.results201 Tryz.call201 (by rfl) (by simp) ?_
        (focus (refine wklp (w_a ei (w_a @u16s_len w_t)) w_t (w_a @Bool.not_false w_t) (w_r 0) ?_; (repeat' first | exact w_t | apply w_l); all_goals intros))
      · refine pure_intro (tok := 0) Tryz.func201 rfl Tryz.ntmps201 Tryz.results201 Tryz.call201 (by rfl) (by simp) ?_
        (focus (refine wklp (w_a ei (w_a @u16s_len w_t)) w_t (w_a @Bool.not_false w_t) (w_r 0) ?_; (repeat' first | exact w_t | apply w_l); all_goals intros))
theorem rtRight (r : RQ) (h : r.lm 100000000) : Pure Tryz.prog 143 [r.av] (.v (.bool r.ok)) := by
  obtain ⟨s, l, d⟩ := r
  obtain ⟨h1, h2, h3, h4⟩ := h
  simp only at h1 h2 h3 h4
  have c1 := irRaw s l h1 h3
  unfold RQ.ok
  simp only
  generalize RQ.zok s l = z at *
  by_cases hd : d.length = 0
  · have : decide (0 < d.length) = false := decide_eq_false (by omega)
    rw [this, Bool.and_false]
    cases z
    · refine pure_intro (tok := 0) Tryz.func143 rfl Tryz.ntmps143 Tryz.results143 Tryz.call143 (by rfl) (by simp) ?_
      (focus (refine wklp (w_a @u16s_len w_t) (w_a c1 w_t) w_t (w_r 0) ?_; (repeat' first | exact w_t | apply w_l); all_goals intros))
    · refine pure_intro (tok := 0) Tryz.func143 rfl Tryz.ntmps143 Tryz.results143 Tryz.call143 (by rfl) (by simp) ?_
      (focus (refine wklp (w_a @u16s_len w_t) (w_a c1 w_t) w_t (w_r 0) ?_; (repeat' first | exact w_t | apply w_l); all_goals intros))
  · have : decide (0 < d.length) = true := decide_eq_true (by omega)
    rw [this, Bool.and_true]
    have ei : (d.length : Int) - 1 = ((d.length - 1 : Nat) : Int) := by omega
    have hlm := gN_lt h2 (d.length - 1)
    cases z with
    | false =>
      rw [Bool.false_and, Bool.false_and]
      refine pure_intro (tok := 0) Tryz.func143 rfl Tryz.ntmps143 Tryz.results143 Tryz.call143 (by rfl) (by simp) ?_
      (focus (refine wklp (w_a @u16s_len w_t) (w_a c1 w_t) w_t (w_r 0) ?_; (repeat' first | exact w_t | apply w_l); all_goals intros))
    | true =>
      rw [Bool.true_and]
      by_cases hg : gN d (d.length - 1) = 0
      · have : valL d = false := by unfold valL; rw [decide_eq_false hd, decide_eq_true hg]; rfl
        rw [this, Bool.false_and]
        refine pure_intro (tok := 0) Tryz.func143 rfl Tryz.ntmps143 Tryz.results143 Tryz.call143 (by rfl) (by simp) ?_
        (focus (refine wklp (w_a ei (w_a @u16s_len w_t)) (w_a c1 w_t) w_t (w_r 0) ?_; (repeat' first | exact w_t | apply w_l); all_goals intros))
      · have hv : valL d = true := by unfold valL; rw [decide_eq_false hd, decide_eq_false hg]; rfl
        rw [hv, Bool.true_and]
        have hdt := (valL_iff h2).1 hv
        have l4 : (toL (nv d)).length ≤ 100000000 := by rw [← hdt]; exact h4
        have c2 := ratOne (nv d) l4
        have c3 := natGcd l d (by omega) (by omega) h1 h2
        have n0 : nv d ≠ 0 := by
          intro h0
          rw [h0, toL_zero] at hdt
          rw [hdt] at hd; exact hd rfl
        have gl : (toL (Nat.gcd (nv l) (nv d))).length ≤ 100000000 := Nat.le_trans (lg_mono (Nat.gcd_le_right _ (by omega))) l4
        have c4 := ratOne (Nat.gcd (nv l) (nv d)) gl
        rw [← hdt] at c2
        have hb : (Nat.gcd (nv l) (nv d) == 1) = decide (Nat.gcd (nv l) (nv d) = 1) := by rw [Bool.eq_iff_iff, beq_iff_eq, decide_eq_true_eq]
        rw [hb]
        by_cases h1d : nv d = 1
        · rw [decide_eq_true h1d] at c2
          rw [decide_eq_true (show Nat.gcd (nv l) (nv d) = 1 by rw [h1d, Nat.gcd_one_right])]
          clear c3 c4 hdt
          refine pure_intro (tok := 0) Tryz.func143 rfl Tryz.ntmps143 Tryz.results143 Tryz.call143 (by rfl) (by simp) ?_
          (focus (refine wklp (w_a ei (w_a @u16s_len w_t)) (w_a c1 (w_a c2 w_t)) (w_a @decide_true w_t) (w_r 0) ?_; (repeat' first | exact w_t | apply w_l); all_goals intros))
        · rw [decide_eq_false h1d] at c2
          clear hdt hb gl
          generalize decide (Nat.gcd (nv l) (nv d) = 1) = v at *
          generalize toL (Nat.gcd (nv l) (nv d)) = lg' at *
          refine pure_intro (tok := 0) Tryz.func143 rfl Tryz.ntmps143 Tryz.results143 Tryz.call143 (by rfl) (by simp) ?_
          (focus (refine wklp (w_a ei (w_a @u16s_len w_t)) (w_a c1 (w_a c2 (w_a c3 (w_a c4 w_t)))) w_t (w_r 0) ?_; (repeat' first | exact w_t | apply w_l); all_goals intros))
set_option maxHeartbeats 4000000 in
theorem lwAr (k : Int) : Pure Tryz.prog 171 [iv k] (iv (arS k)) := by
  unfold arS
  refine pure_intro (tok := 0) Tryz.func171 rfl Tryz.ntmps171 Tryz.results171 Tryz.call171 (by rfl) (by simp) ?_
  (focus (refine wklp w_t w_t w_t (w_r 0) ?_; (repeat' first | exact w_t | apply w_l); all_goals intros))
  all_goals (congr 2; repeat' split)
  all_goals (first | rfl | omega)
theorem lwNone (r : RQ) : Pure Tryz.prog 174 [r.av] (.v (.bool r.none)) := by
  obtain ⟨s, l, d⟩ := r
  unfold RQ.none
  simp only
  cases s
  · refine pure_intro (tok := 0) Tryz.func174 rfl Tryz.ntmps174 Tryz.results174 Tryz.call174 (by rfl) (by simp) ?_
    (focus (refine wklp (w_a @u16s_len w_t) w_t w_t (w_r 0) ?_; (repeat' first | exact w_t | apply w_l); all_goals intros))
  · refine pure_intro (tok := 0) Tryz.func174 rfl Tryz.ntmps174 Tryz.results174 Tryz.call174 (by rfl) (by simp) ?_
    (focus (refine wklp (w_a @u16s_len w_t) w_t w_t (w_r 0) ?_; (repeat' first | exact w_t | apply w_l); all_goals intros))
set_option maxHeartbeats 4000000 in
theorem prAr (k : Int) : Pure Tryz.prog 178 [iv k] (iv (arG k)) := by
  unfold arG
  refine pure_intro (tok := 0) Tryz.func178 rfl Tryz.ntmps178 Tryz.results178 Tryz.call178 (by rfl) (by simp) ?_
  (focus (refine wklp w_t w_t w_t (w_r 0) ?_; (repeat' first | exact w_t | apply w_l); all_goals intros))
  all_goals (congr 2; repeat' split)
  all_goals (first | rfl | omega)
theorem prNone (r : RQ) : Pure Tryz.prog 179 [r.av] (.v (.bool r.none)) := by
  obtain ⟨s, l, d⟩ := r
  unfold RQ.none
  simp only
  cases s
  · refine pure_intro (tok := 0) Tryz.func179 rfl Tryz.ntmps179 Tryz.results179 Tryz.call179 (by rfl) (by simp) ?_
    (focus (refine wklp (w_a @u16s_len w_t) w_t w_t (w_r 0) ?_; (repeat' first | exact w_t | apply w_l); all_goals intros))
  · refine pure_intro (tok := 0) Tryz.func179 rfl Tryz.ntmps179 Tryz.results179 Tryz.call179 (by rfl) (by simp) ?_
    (focus (refine wklp (w_a @u16s_len w_t) w_t w_t (w_r 0) ?_; (repeat' first | exact w_t | apply w_l); all_goals intros))
/-- The first element of a kind. -/
theorem exists_fst {α : Type} (F : α → Bool) (l : List α) : ∃ n, n ≤ l.length ∧ (∀ j (h : j < l.length), j < n → F l[j] = false) ∧ (∀ h : n < l.length, F l[n] = true) ∧ l.any F = decide (n < l.length) := by
  induction l with
  | nil => exact ⟨0, by simp, by simp, by simp, by simp⟩
  | cons a l ih =>
    obtain ⟨n, h1, h2, h3, h4⟩ := ih
    cases ha : F a with
    | true => exact ⟨0, by simp, fun j h h' => by omega, fun _ => ha, by simp [ha]⟩
    | false =>
      refine ⟨n + 1, by simpa using h1, fun j h h' => ?_, fun h => h3 (by simpa using h), by simp [ha, h4]⟩
      cases j with
      | zero => exact ha
      | succ j => exact h2 j (by simpa using h) (by omega)
theorem ck1 (a i : Int) : Pure Tryz.prog 173 [iv a, .pimm [iv i]] (.v (.bool (decide (a < 0) || decide (i ≤ a)))) := by
  refine pure_intro (tok := 0) Tryz.func173 rfl Tryz.ntmps173 Tryz.results173 Tryz.call173 (by rfl) (by simp) ?_
  (focus (refine wklp w_t w_t w_t (w_r 0) ?_; (repeat' first | exact w_t | apply w_l); all_goals intros))
theorem slIdx1 (l : List Int) (i : Int) (hl : l.length ≤ 1000000000) : ∃ z : Int, Pure Tryz.prog 217 [ivs l, .fn 173 [.pimm [iv i]]] (iv z) ∧ decide (0 ≤ z) = outB i l := by
  obtain ⟨n, h1, h2, h3, h4⟩ := exists_fst (fun a => decide (a < 0) || decide (i ≤ a)) l
  refine ⟨if n < l.length then (n : Int) else -1, ?_, ?_⟩
  · refine pure_intro (tok := 0) Tryz.func217 rfl Tryz.ntmps217 Tryz.results217 Tryz.call217 (by rfl) (by simp) ?_
    (focus (refine wkap (w_a @l_map w_t) w_t (w_r 0) ?_; (repeat' first | exact w_t | apply w_l); all_goals intros))
    refine r_loopE (ι := Nat) (fun k e m => k ≤ n ∧ e 0 = ivs l ∧ e 1 = .fn 173 [.pimm [iv i]] ∧ e 7 = iv l.length ∧ e 8 = iv k) (fun k => n - k) 0 (by rfl) ?_ ?_
    · rintro k e m ⟨hk, e0, e1, e7, e8⟩
      by_cases hlt : k < l.length
      · have hg := map_atB iv hlt
        by_cases hkn : k < n
        · have hb := h2 k hlt hkn
          have c := ck1 l[k] i
          rw [hb] at c
          clear hb
          generalize l[k] = a at *
          (focus (refine wkap (w_a e0 (w_a e1 (w_a e7 (w_a e8 (w_a hg (w_a @l_map w_t)))))) (w_a c w_t) (w_r 0) ?_; (repeat' first | exact w_t | apply w_l); all_goals intros))
          exact ⟨k + 1, ⟨by omega, by exact gW e0, by exact gW e1, by exact gW e7, by exact gS⟩, by omega⟩
        · have hkn : k = n := by omega
          subst hkn
          have hb := h3 hlt
          have c := ck1 l[k] i
          rw [hb] at c
          rw [if_pos hlt]
          clear hb
          generalize l[k] = a at *
          (focus (refine wklp (w_a e0 (w_a e1 (w_a e7 (w_a e8 (w_a hg (w_a @l_map w_t)))))) (w_a c w_t) w_t (w_r 0) ?_; (repeat' first | exact w_t | apply w_l); all_goals intros))
      · rw [if_neg (by omega)]
        (focus (refine wklp (w_a e0 (w_a e1 (w_a e7 (w_a e8 (w_a @l_map w_t))))) w_t w_t (w_r 0) ?_; (repeat' first | exact w_t | apply w_l); all_goals intros))
    · exact ⟨Nat.zero_le _, by exact gC, by exact gC, by (simp (disch := omega) only [go_sem, List.length_map] <;> repeat' first | rfl | refine ⟨?_, ?_⟩), by exact gC⟩
  · unfold outB
    rw [h4, Bool.eq_iff_iff, decide_eq_true_eq, decide_eq_true_eq]
    split <;> omega
theorem slCon1 (l : List Int) (i : Int) (hl : l.length ≤ 1000000000) : Pure Tryz.prog 172 [ivs l, .fn 173 [.pimm [iv i]]] (.v (.bool (outB i l))) := by
  obtain ⟨z, c, hz⟩ := slIdx1 l i hl
  rw [← hz]
  refine pure_intro (tok := 0) Tryz.func172 rfl Tryz.ntmps172 Tryz.results172 Tryz.call172 (by rfl) (by simp) ?_
  (focus (refine wklp w_t (w_a c w_t) w_t (w_r 0) ?_; (repeat' first | exact w_t | apply w_l); all_goals intros))
theorem ck2 (t s : RS) : Pure Tryz.prog 177 [t.av, .pimm [iv s.k, strA s.nm, ivs s.ar, .v (.bool s.r.s), lim s.r.l, lim s.r.d]] (.v (.bool (t.nm.toList == s.nm.toList))) := by
  obtain ⟨a, b, c, d⟩ := t
  obtain ⟨a', b', c', d'⟩ := s
  refine pure_intro (tok := 0) Tryz.func177 rfl Tryz.ntmps177 Tryz.results177 Tryz.call177 (by rfl) (by simp) ?_
  (focus (refine wklp w_t w_t w_t (w_r 0) ?_; (repeat' first | exact w_t | apply w_l); all_goals intros))
theorem slIdx2 (l : List RS) (s : RS) (hl : l.length ≤ 1000000000) : ∃ z : Int, Pure Tryz.prog 221 [.sl 6 (l.map RS.av), .fn 177 [.pimm [iv s.k, strA s.nm, ivs s.ar, .v (.bool s.r.s), lim s.r.l, lim s.r.d]]] (iv z) ∧ decide (0 ≤ z) = l.any (fun t => t.nm.toList == s.nm.toList) := by
  obtain ⟨n, h1, h2, h3, h4⟩ := exists_fst (fun t : RS => t.nm.toList == s.nm.toList) l
  refine ⟨if n < l.length then (n : Int) else -1, ?_, ?_⟩
  · refine pure_intro (tok := 0) Tryz.func221 rfl Tryz.ntmps221 Tryz.results221 Tryz.call221 (by rfl) (by simp) ?_
    (focus (refine wkap (w_a @l_map w_t) w_t (w_r 0) ?_; (repeat' first | exact w_t | apply w_l); all_goals intros))
    refine r_loopE (ι := Nat) (fun k e m => k ≤ n ∧ e 0 = .sl 6 (l.map RS.av) ∧ e 1 = .fn 177 [.pimm [iv s.k, strA s.nm, ivs s.ar, .v (.bool s.r.s), lim s.r.l, lim s.r.d]] ∧ e 7 = iv l.length ∧ e 8 = iv k) (fun k => n - k) 0 (by rfl) ?_ ?_
    · rintro k e m ⟨hk, e0, e1, e7, e8⟩
      by_cases hlt : k < l.length
      · have hg := map_atB RS.av hlt
        by_cases hkn : k < n
        · have hb := h2 k hlt hkn
          have c := ck2 l[k] s
          rw [hb] at c
          clear hb
          generalize l[k] = a at *
          obtain ⟨a1, a2, a3, a4⟩ := a
          (focus (refine wkap (w_a e0 (w_a e1 (w_a e7 (w_a e8 (w_a hg (w_a @l_map w_t)))))) (w_a c w_t) (w_r 0) ?_; (repeat' first | exact w_t | apply w_l); all_goals intros))
          exact ⟨k + 1, ⟨by omega, by exact gW e0, by exact gW e1, by exact gW e7, by exact gS⟩, by omega⟩
        · have hkn : k = n := by omega
          subst hkn
          have hb := h3 hlt
          have c := ck2 l[k] s
          rw [hb] at c
          rw [if_pos hlt]
          clear hb
          generalize l[k] = a at *
          obtain ⟨a1, a2, a3, a4⟩ := a
          (focus (refine wklp (w_a e0 (w_a e1 (w_a e7 (w_a e8 (w_a hg (w_a @l_map w_t)))))) (w_a c w_t) w_t (w_r 0) ?_; (repeat' first | exact w_t | apply w_l); all_goals intros))
      · rw [if_neg (by omega)]
        (focus (refine wklp (w_a e0 (w_a e1 (w_a e7 (w_a e8 (w_a @l_map w_t))))) w_t w_t (w_r 0) ?_; (repeat' first | exact w_t | apply w_l); all_goals intros))
    · exact ⟨Nat.zero_le _, by exact gC, by exact gC, by (simp (disch := omega) only [go_sem, List.length_map] <;> repeat' first | rfl | refine ⟨?_, ?_⟩), by exact gC⟩
  · rw [h4, Bool.eq_iff_iff, decide_eq_true_eq, decide_eq_true_eq]
    split <;> omega
theorem slCon2 (l : List RS) (s : RS) (hl : l.length ≤ 1000000000) : Pure Tryz.prog 176 [.sl 6 (l.map RS.av), .fn 177 [.pimm [iv s.k, strA s.nm, ivs s.ar, .v (.bool s.r.s), lim s.r.l, lim s.r.d]]] (.v (.bool (l.any (fun t => t.nm.toList == s.nm.toList)))) := by
  obtain ⟨z, c, hz⟩ := slIdx2 l s hl
  rw [← hz]
  refine pure_intro (tok := 0) Tryz.func176 rfl Tryz.ntmps176 Tryz.results176 Tryz.call176 (by rfl) (by simp) ?_
  (focus (refine wklp w_t (w_a c w_t) w_t (w_r 0) ?_; (repeat' first | exact w_t | apply w_l); all_goals intros))
end Go.Proofs.YtbgmnobnaplmlaaGreat
end

section
namespace Go.Proofs.YtbgmnobnaplmlaaGreat
open Go Go.RowKit Go.Pg Go.Pol
set_option linter.unusedSimpArgs false
set_option linter.unusedVariables false
set_option maxRecDepth 20000
attribute [local go_sem] Tryz.underlying3 Tryz.underlying4 Tryz.underlying178 Tryz.underlying9 Tryz.underlying48 Tryz.underlying31 Tryz.underlying43 Tryz.underlying41 Tryz.underlying39 Tryz.underlying50 Tryz.underlying22 Tryz.underlying124 Tryz.underlying23 Tryz.underlying25 sz3 by3 z3 szB zB szL byL zL szErr zErr szStr byStr zStr szRat zRat szInt zInt szNat zNat szStep byStep zStep szFact byFact zFact szFig zFig szSlI zSlI szSlS zSlS szSlF zSlF
attribute [-bool_to_prop] Bool.and_eq_decide Bool.or_eq_decide Bool.decide_beq_decide decide_eq_decide
/-- Sizes that machines hold. -/
def RS.sm (s : RS) : Prop := s.r.lm 100000000 ∧ s.nm.size ≤ 1000000000 ∧ s.ar.length ≤ 1000000000
def RG.sm (g : RG) : Prop := g.r.lm 100000000 ∧ g.ar.length ≤ 1000000000
set_option maxHeartbeats 8000000 in
theorem lwCheck (ss : List RS) (i : Nat) (hi : i < ss.length) (hl : ss.length ≤ 1000000000) (hs : ∀ s ∈ ss, s.sm) : Pure Tryz.prog 99 [.sl 6 (ss.map RS.av), iv i] (iv (errS ss i)) := by
  have hg := map_atB RS.av hi
  have hsm := hs _ (List.getElem_mem hi)
  have e0 : errS ss i = errS ss i := rfl
  unfold errS at e0 ⊢
  rw [show ss.getD i RS.zero = ss[i] from by rw [List.getD_eq_getElem?_getD, List.getElem?_eq_getElem hi]; rfl]
  clear e0
  have htk : (ss.map RS.av).take i = (ss.take i).map RS.av := (List.map_take ..).symm
  have c2 := slCon2 (ss.take i) ss[i] (by rw [List.length_take]; omega)
  rw [← htk] at c2
  have hlm : (ss.map RS.av).length = ss.length := List.length_map ..
  generalize ss.map RS.av = M at *
  generalize ss[i] = s at *
  clear htk
  clear hs
  obtain ⟨h1, h2, h3⟩ := hsm
  have ca := lwAr s.k
  have cr := rtRight s.r h1
  have cn := lwNone s.r
  have cm := nmName s.nm h2
  have c1 := slCon1 s.ar i h3
  have hst := str_nil s.nm
  have hla : (s.ar.map iv).length = s.ar.length := List.length_map ..
  obtain ⟨k, nm, ar, r, rl, rd⟩ := s
  simp only at *
  generalize (ss.take i).any (fun t => t.nm.toList == nm.toList) = any at *
  generalize arS k = a at *
  generalize outB (i : Int) ar = o at *
  generalize RQ.ok ⟨r, rl, rd⟩ = ok at *
  generalize RQ.none ⟨r, rl, rd⟩ = no at *
  generalize namB nm = nb at *
  by_cases w1 : a < 0
  · rw [if_pos w1]
    refine pure_intro (tok := 0) Tryz.func99 rfl Tryz.ntmps99 Tryz.results99 Tryz.call99 (by rfl) (by simp) ?_
    (focus (refine wklp (w_a hg (w_a hlm (w_a hla w_t))) (w_a ca w_t) w_t (w_r 0) ?_; (repeat' first | exact w_t | apply w_l); all_goals intros))
  · rw [if_neg w1]
    by_cases w2 : (ar.length : Int) ≠ a
    · rw [if_pos w2]
      refine pure_intro (tok := 0) Tryz.func99 rfl Tryz.ntmps99 Tryz.results99 Tryz.call99 (by rfl) (by simp) ?_
      (focus (refine wklp (w_a hg (w_a hlm (w_a hla w_t))) (w_a ca w_t) w_t (w_r 0) ?_; (repeat' first | exact w_t | apply w_l); all_goals intros))
    · rw [if_neg w2]
      cases o with
      | true =>
        rw [if_pos rfl]
        refine pure_intro (tok := 0) Tryz.func99 rfl Tryz.ntmps99 Tryz.results99 Tryz.call99 (by rfl) (by simp) ?_
        (focus (refine wkax (w_a hg (w_a hlm (w_a hla w_t))) (w_a ca w_t) w_t (w_a c1 w_t) w_t w_t (w_r 0) ?_; (repeat' first | exact w_t | apply w_l); all_goals intros))
        (all_goals (try simp (disch := omega) only [go_sem, decide_eq_true, decide_eq_false, if_pos, if_neg, Int.reduceAdd, Int.reduceSub, Int.reduceToNat, Int.zero_add])); (all_goals first | done | rfl | (congr 2; first | done | omega | (rw [Bool.eq_iff_iff]; simp only [bool_to_prop, Bool.false_eq_true, iff_true, true_iff, iff_false, false_iff]; omega)) | skip)
      | false =>
        rw [if_neg (by decide)]
        by_cases w3 : (k = 2 ∧ ok = false) ∨ (k ≠ 2 ∧ no = false)
        · rw [if_pos w3]
          rcases w3 with ⟨hk, rfl⟩ | ⟨hk, rfl⟩
          · subst hk
            refine pure_intro (tok := 0) Tryz.func99 rfl Tryz.ntmps99 Tryz.results99 Tryz.call99 (by rfl) (by simp) ?_
            (focus (refine wkax (w_a hg (w_a hlm (w_a hla w_t))) (w_a ca (w_a cr w_t)) w_t (w_a c1 w_t) w_t w_t (w_r 0) ?_; (repeat' first | exact w_t | apply w_l); all_goals intros))
            (all_goals (try simp (disch := omega) only [go_sem, decide_eq_true, decide_eq_false, if_pos, if_neg, Int.reduceAdd, Int.reduceSub, Int.reduceToNat, Int.zero_add])); (all_goals first | done | rfl | (congr 2; first | done | omega | (rw [Bool.eq_iff_iff]; simp only [bool_to_prop, Bool.false_eq_true, iff_true, true_iff, iff_false, false_iff]; omega)) | skip)
          · refine pure_intro (tok := 0) Tryz.func99 rfl Tryz.ntmps99 Tryz.results99 Tryz.call99 (by rfl) (by simp) ?_
            (focus (refine wkax (w_a hg (w_a hlm (w_a hla w_t))) (w_a ca (w_a cn w_t)) w_t (w_a c1 w_t) w_t w_t (w_r 0) ?_; (repeat' first | exact w_t | apply w_l); all_goals intros))
            (all_goals (try simp (disch := omega) only [go_sem, decide_eq_true, decide_eq_false, if_pos, if_neg, Int.reduceAdd, Int.reduceSub, Int.reduceToNat, Int.zero_add])); (all_goals first | done | rfl | (congr 2; first | done | omega | (rw [Bool.eq_iff_iff]; simp only [bool_to_prop, Bool.false_eq_true, iff_true, true_iff, iff_false, false_iff]; omega)) | skip)
        · rw [if_neg w3]
          have w4 : (k = 2 ∧ ok = true) ∨ (k ≠ 2 ∧ no = true) := by
            by_cases hk : k = 2
            · cases ok
              · exact absurd (.inl ⟨hk, rfl⟩) w3
              · exact .inl ⟨hk, rfl⟩
            · cases no
              · exact absurd (.inr ⟨hk, rfl⟩) w3
              · exact .inr ⟨hk, rfl⟩
          clear w3
          by_cases w5 : nm.size = 0
          · rw [if_pos w5]
            rw [decide_eq_true w5] at hst
            rcases w4 with ⟨hk, rfl⟩ | ⟨hk, rfl⟩
            · subst hk
              refine pure_intro (tok := 0) Tryz.func99 rfl Tryz.ntmps99 Tryz.results99 Tryz.call99 (by rfl) (by simp) ?_
              (focus (refine wkax (w_a hg (w_a hlm (w_a hla (w_a hst w_t)))) (w_a ca (w_a cr w_t)) w_t (w_a c1 w_t) w_t w_t (w_r 0) ?_; (repeat' first | exact w_t | apply w_l); all_goals intros))
              (all_goals (try simp (disch := omega) only [go_sem, decide_eq_true, decide_eq_false, if_pos, if_neg, Int.reduceAdd, Int.reduceSub, Int.reduceToNat, Int.zero_add])); (all_goals first | done | rfl | (congr 2; first | done | omega | (rw [Bool.eq_iff_iff]; simp only [bool_to_prop, Bool.false_eq_true, iff_true, true_iff, iff_false, false_iff]; omega)) | skip)
            · refine pure_intro (tok := 0) Tryz.func99 rfl Tryz.ntmps99 Tryz.results99 Tryz.call99 (by rfl) (by simp) ?_
              (focus (refine wkax (w_a hg (w_a hlm (w_a hla (w_a hst w_t)))) (w_a ca (w_a cn w_t)) w_t (w_a c1 w_t) w_t w_t (w_r 0) ?_; (repeat' first | exact w_t | apply w_l); all_goals intros))
              (all_goals (try simp (disch := omega) only [go_sem, decide_eq_true, decide_eq_false, if_pos, if_neg, Int.reduceAdd, Int.reduceSub, Int.reduceToNat, Int.zero_add])); (all_goals first | done | rfl | (congr 2; first | done | omega | (rw [Bool.eq_iff_iff]; simp only [bool_to_prop, Bool.false_eq_true, iff_true, true_iff, iff_false, false_iff]; omega)) | skip)
          · rw [if_neg w5]
            rw [decide_eq_false w5] at hst
            cases nb with
            | false =>
              rw [if_pos rfl]
              rcases w4 with ⟨hk, rfl⟩ | ⟨hk, rfl⟩
              · subst hk
                refine pure_intro (tok := 0) Tryz.func99 rfl Tryz.ntmps99 Tryz.results99 Tryz.call99 (by rfl) (by simp) ?_
                (focus (refine wkax (w_a hg (w_a hlm (w_a hla (w_a hst w_t)))) (w_a ca (w_a cr (w_a cm w_t))) w_t (w_a c1 w_t) w_t w_t (w_r 0) ?_; (repeat' first | exact w_t | apply w_l); all_goals intros))
                (all_goals (try simp (disch := omega) only [go_sem, decide_eq_true, decide_eq_false, if_pos, if_neg, Int.reduceAdd, Int.reduceSub, Int.reduceToNat, Int.zero_add])); (all_goals first | done | rfl | (congr 2; first | done | omega | (rw [Bool.eq_iff_iff]; simp only [bool_to_prop, Bool.false_eq_true, iff_true, true_iff, iff_false, false_iff]; omega)) | skip)
              · refine pure_intro (tok := 0) Tryz.func99 rfl Tryz.ntmps99 Tryz.results99 Tryz.call99 (by rfl) (by simp) ?_
                (focus (refine wkax (w_a hg (w_a hlm (w_a hla (w_a hst w_t)))) (w_a ca (w_a cn (w_a cm w_t))) w_t (w_a c1 w_t) w_t w_t (w_r 0) ?_; (repeat' first | exact w_t | apply w_l); all_goals intros))
                (all_goals (try simp (disch := omega) only [go_sem, decide_eq_true, decide_eq_false, if_pos, if_neg, Int.reduceAdd, Int.reduceSub, Int.reduceToNat, Int.zero_add])); (all_goals first | done | rfl | (congr 2; first | done | omega | (rw [Bool.eq_iff_iff]; simp only [bool_to_prop, Bool.false_eq_true, iff_true, true_iff, iff_false, false_iff]; omega)) | skip)
            | true =>
              rw [if_neg (by decide)]
              rcases w4 with ⟨hk, rfl⟩ | ⟨hk, rfl⟩
              · subst hk
                cases any
                · refine pure_intro (tok := 0) Tryz.func99 rfl Tryz.ntmps99 Tryz.results99 Tryz.call99 (by rfl) (by simp) ?_
                  (focus (refine wkax (w_a hg (w_a hlm (w_a hla (w_a hst (w_a @l_drop0 w_t))))) (w_a ca (w_a cr (w_a cm w_t))) w_t (w_a c1 (w_a c2 w_t)) w_t w_t (w_r 0) ?_; (repeat' first | exact w_t | apply w_l); all_goals intros))
                  (all_goals (try simp (disch := omega) only [go_sem, decide_eq_true, decide_eq_false, if_pos, if_neg, Int.reduceAdd, Int.reduceSub, Int.reduceToNat, Int.zero_add])); (all_goals first | done | rfl | (congr 2; first | done | omega | (rw [Bool.eq_iff_iff]; simp only [bool_to_prop, Bool.false_eq_true, iff_true, true_iff, iff_false, false_iff]; omega)) | skip)
                · refine pure_intro (tok := 0) Tryz.func99 rfl Tryz.ntmps99 Tryz.results99 Tryz.call99 (by rfl) (by simp) ?_
                  (focus (refine wkax (w_a hg (w_a hlm (w_a hla (w_a hst (w_a @l_drop0 w_t))))) (w_a ca (w_a cr (w_a cm w_t))) w_t (w_a c1 (w_a c2 w_t)) w_t w_t (w_r 0) ?_; (repeat' first | exact w_t | apply w_l); all_goals intros))
                  (all_goals (try simp (disch := omega) only [go_sem, decide_eq_true, decide_eq_false, if_pos, if_neg, Int.reduceAdd, Int.reduceSub, Int.reduceToNat, Int.zero_add])); (all_goals first | done | rfl | (congr 2; first | done | omega | (rw [Bool.eq_iff_iff]; simp only [bool_to_prop, Bool.false_eq_true, iff_true, true_iff, iff_false, false_iff]; omega)) | skip)
              · cases any
                · refine pure_intro (tok := 0) Tryz.func99 rfl Tryz.ntmps99 Tryz.results99 Tryz.call99 (by rfl) (by simp) ?_
                  (focus (refine wkax (w_a hg (w_a hlm (w_a hla (w_a hst (w_a @l_drop0 w_t))))) (w_a ca (w_a cn (w_a cm w_t))) w_t (w_a c1 (w_a c2 w_t)) w_t w_t (w_r 0) ?_; (repeat' first | exact w_t | apply w_l); all_goals intros))
                  (all_goals (try simp (disch := omega) only [go_sem, decide_eq_true, decide_eq_false, if_pos, if_neg, Int.reduceAdd, Int.reduceSub, Int.reduceToNat, Int.zero_add])); (all_goals first | done | rfl | (congr 2; first | done | omega | (rw [Bool.eq_iff_iff]; simp only [bool_to_prop, Bool.false_eq_true, iff_true, true_iff, iff_false, false_iff]; omega)) | skip)
                · refine pure_intro (tok := 0) Tryz.func99 rfl Tryz.ntmps99 Tryz.results99 Tryz.call99 (by rfl) (by simp) ?_
                  (focus (refine wkax (w_a hg (w_a hlm (w_a hla (w_a hst (w_a @l_drop0 w_t))))) (w_a ca (w_a cn (w_a cm w_t))) w_t (w_a c1 (w_a c2 w_t)) w_t w_t (w_r 0) ?_; (repeat' first | exact w_t | apply w_l); all_goals intros))
                  (all_goals (try simp (disch := omega) only [go_sem, decide_eq_true, decide_eq_false, if_pos, if_neg, Int.reduceAdd, Int.reduceSub, Int.reduceToNat, Int.zero_add])); (all_goals first | done | rfl | (congr 2; first | done | omega | (rw [Bool.eq_iff_iff]; simp only [bool_to_prop, Bool.false_eq_true, iff_true, true_iff, iff_false, false_iff]; omega)) | skip)
theorem outB_take {n : Int} {l : List Int} {k : Nat} (hk : k < l.length) : outB n (l.take (k + 1)) = (outB n (l.take k) || (decide (l[k] < 0) || decide (n ≤ l[k]))) := by
  unfold outB
  rw [List.take_succ_eq_append_getElem hk, List.any_append, List.any_cons, List.any_nil, Bool.or_false]
theorem outB_at {n : Int} {l : List Int} {k : Nat} (hk : k < l.length) (h : (decide (l[k] < 0) || decide (n ≤ l[k])) = true) : outB n l = true := List.any_eq_true.2 ⟨l[k], List.getElem_mem hk, h⟩
set_option maxHeartbeats 8000000 in
theorem prRight (g : RG) (n : Nat) (hn : n ≤ 1000000000) (hs : g.sm) : Pure Tryz.prog 100 [g.av, iv n] (iv (errG g n)) := by
  obtain ⟨h1, h3⟩ := hs
  unfold errG
  have ca := prAr g.k
  have cr : Pure Tryz.prog 143 [g.r.av] (.v (.bool g.r.ok)) := rtRight g.r h1
  have cn := prNone g.r
  have hla : (g.ar.map iv).length = g.ar.length := List.length_map ..
  obtain ⟨k, ar, r, rl, rd⟩ := g
  simp only at *
  generalize arG k = a at *
  generalize RQ.ok ⟨r, rl, rd⟩ = ok at *
  generalize RQ.none ⟨r, rl, rd⟩ = no at *
  by_cases w1 : a = 0
  · rw [if_pos w1]
    subst w1
    refine pure_intro (tok := 0) Tryz.func100 rfl Tryz.ntmps100 Tryz.results100 Tryz.call100 (by rfl) (by simp) ?_
    (focus (refine wklp (w_a hla w_t) (w_a ca w_t) w_t (w_r 0) ?_; (repeat' first | exact w_t | apply w_l); all_goals intros))
  · rw [if_neg w1]
    by_cases w2 : (ar.length : Int) ≠ a
    · rw [if_pos w2]
      refine pure_intro (tok := 0) Tryz.func100 rfl Tryz.ntmps100 Tryz.results100 Tryz.call100 (by rfl) (by simp) ?_
      (focus (refine wklp (w_a hla w_t) (w_a ca w_t) w_t (w_r 0) ?_; (repeat' first | exact w_t | apply w_l); all_goals intros))
    · rw [if_neg w2]
      refine pure_intro (tok := 0) Tryz.func100 rfl Tryz.ntmps100 Tryz.results100 Tryz.call100 (by rfl) (by simp) ?_
      (focus (refine wkap (w_a hla w_t) (w_a ca w_t) (w_r 0) ?_; (repeat' first | exact w_t | apply w_l); all_goals intros))
      rename_i g2
      refine r_loopE (ι := Nat) (fun i e m => i ≤ ar.length ∧ e 1 = iv n ∧ e 2 = .pbox 2 g2 0 ∧ m 2 = some (.box g2 124 [iv k, ivs ar, .v (.bool r), lim rl, lim rd] false) ∧ e 19 = ivs ar ∧ e 20 = iv ar.length ∧ e 21 = iv i ∧ outB n (ar.take i) = false) (fun i => ar.length - i) 0 (by rfl) ?_ ?_
      · rintro i e m ⟨hi, e1, e2, m2, ea, en, ei, hno⟩
        by_cases hlt : i < ar.length
        · have hg := map_atB iv hlt
          have hst := outB_take (n := n) hlt
          have hat := outB_at (n := n) hlt
          rw [hno, Bool.false_or] at hst
          generalize ar[i] = x at *
          by_cases hx : x < 0 ∨ (n : Int) ≤ x
          · have hb : (decide (x < 0) || decide ((n : Int) ≤ x)) = true := by simpa using hx
            rw [if_pos (hat hb)]
            clear hat hst hb
            rcases hx with hx | hx
            · (focus (refine wklp (w_a e1 (w_a e2 (w_a m2 (w_a ea (w_a en (w_a ei (w_a hg (w_a hla w_t)))))))) w_t w_t (w_r 0) ?_; (repeat' first | exact w_t | apply w_l); all_goals intros))
            · (focus (refine wklp (w_a e1 (w_a e2 (w_a m2 (w_a ea (w_a en (w_a ei (w_a hg (w_a hla w_t)))))))) w_t w_t (w_r 0) ?_; (repeat' first | exact w_t | apply w_l); all_goals intros))
          · have hb : (decide (x < 0) || decide ((n : Int) ≤ x)) = false := by simpa using hx
            rw [hb] at hst
            clear hat hb
            (focus (refine wkap (w_a e1 (w_a e2 (w_a m2 (w_a ea (w_a en (w_a ei (w_a hg (w_a hla w_t)))))))) w_t (w_r 0) ?_; (repeat' first | exact w_t | apply w_l); all_goals intros))
            exact ⟨i + 1, ⟨by omega, by exact gW e1, by exact gW e2, by exact gW m2, by exact gW ea, by exact gW en, by exact gS, hst⟩, by omega⟩
        · have hi2 : i = ar.length := by omega
          subst hi2
          rw [List.take_length] at hno
          rw [hno, if_neg (by decide)]
          by_cases hk : k = 9
          · subst hk
            cases ok
            · rw [if_pos (by simp)]
              (focus (refine wklp (w_a e1 (w_a e2 (w_a m2 (w_a ea (w_a en (w_a ei (w_a hla w_t))))))) (w_a cr (w_a cn w_t)) w_t (w_r 0) ?_; (repeat' first | exact w_t | apply w_l); all_goals intros))
            · rw [if_neg (by simp)]
              (focus (refine wklp (w_a e1 (w_a e2 (w_a m2 (w_a ea (w_a en (w_a ei (w_a hla w_t))))))) (w_a cr (w_a cn w_t)) w_t (w_r 0) ?_; (repeat' first | exact w_t | apply w_l); all_goals intros))
          · cases no
            · rw [if_pos (by simp [hk])]
              (focus (refine wklp (w_a e1 (w_a e2 (w_a m2 (w_a ea (w_a en (w_a ei (w_a hla w_t))))))) (w_a cr (w_a cn w_t)) w_t (w_r 0) ?_; (repeat' first | exact w_t | apply w_l); all_goals intros))
            · rw [if_neg (by simp [hk])]
              (focus (refine wklp (w_a e1 (w_a e2 (w_a m2 (w_a ea (w_a en (w_a ei (w_a hla w_t))))))) (w_a cr (w_a cn w_t)) w_t (w_r 0) ?_; (repeat' first | exact w_t | apply w_l); all_goals intros))
      · exact ⟨Nat.zero_le _, by exact gC, by exact gC, by exact gC, by exact gC, by exact gW hla, by exact gC, by simp [outB]⟩
set_option maxHeartbeats 8000000 in
theorem lwRight (ss : List RS) (gs : List RG) (h1 : ss.length ≤ 1000000000) (h2 : gs.length ≤ 1000000000) (hs : ∀ s ∈ ss, s.sm) (hg : ∀ g ∈ gs, g.sm) : Pure Tryz.prog 51 [figA ss gs] (iv (figE ss gs)) := by
  have hls : (ss.map RS.av).length = ss.length := List.length_map ..
  have hlg : (gs.map RG.av).length = gs.length := List.length_map ..
  have eg : ∀ i (h : i < gs.length), (gs.map RG.av).getD i .u = gs[i].av := fun i h => map_atB RG.av h
  have eg2 : ∀ i (h : i < gs.length), gs.getD i ⟨0, [], ⟨false, [], []⟩⟩ = gs[i] := fun i h => by rw [List.getD_eq_getElem?_getD, List.getElem?_eq_getElem h]; rfl
  have cc : ∀ i, i < ss.length → Pure Tryz.prog 99 [.sl 6 (ss.map RS.av), iv i] (iv (errS ss i)) := fun i hi => lwCheck ss i hi h1 hs
  have cg : ∀ i (h : i < gs.length), Pure Tryz.prog 100 [gs[i].av, iv ss.length] (iv (errG gs[i] ss.length)) := fun i h => prRight gs[i] ss.length h1 (hg _ (List.getElem_mem h))
  unfold figE
  show Pure _ _ [.agg [.sl 6 (ss.map RS.av), .sl 5 (gs.map RG.av)]] _
  generalize ss.map RS.av = M at *
  generalize gs.map RG.av = N at *
  by_cases hb : 40 < ss.length ∨ 8 < gs.length
  · rw [if_pos hb]
    refine pure_intro (tok := 0) Tryz.func51 rfl Tryz.ntmps51 Tryz.results51 Tryz.call51 (by rfl) (by simp) ?_
    (focus (refine wklp (w_a hls (w_a hlg w_t)) w_t w_t (w_r 0) ?_; (repeat' first | exact w_t | apply w_l); all_goals intros))
  · rw [if_neg hb]
    refine pure_intro (tok := 0) Tryz.func51 rfl Tryz.ntmps51 Tryz.results51 Tryz.call51 (by rfl) (by simp) ?_
    (focus (refine wkap (w_a hls (w_a hlg w_t)) w_t (w_r 0) ?_; (repeat' first | exact w_t | apply w_l); all_goals intros))
    rename_i g1
    refine r_loopE (ι := Nat) (fun i e m => i ≤ ss.length ∧ e 1 = .pbox 1 g1 0 ∧ m 1 = some (.box g1 25 [.sl 6 M, .sl 5 N] false) ∧ e 20 = iv ss.length ∧ e 21 = iv i ∧ ∀ j, j < i → errS ss j = 0) (fun i => ss.length - i) 0 (by rfl) ?_ ?_
    · rintro i e m ⟨hi, e1, m1, e20, e21, hz⟩
      by_cases hlt : i < ss.length
      · have c := cc i hlt
        by_cases he : errS ss i = 0
        · rw [he] at c
          (focus (refine wkap (w_a e1 (w_a m1 (w_a e20 (w_a e21 (w_a hls (w_a hlg w_t)))))) (w_a c w_t) (w_r 0) ?_; (repeat' first | exact w_t | apply w_l); all_goals intros))
          exact ⟨i + 1, ⟨by omega, by exact gW e1, by exact gW m1, by exact gW e20, by exact gS, fun j hj => by by_cases e : j = i; rw [e]; exact he; exact hz j (by omega)⟩, by omega⟩
        · rw [fstE_at hz he hlt, if_pos he]
          generalize errS ss i = z at *
          (focus (refine wklp (w_a e1 (w_a m1 (w_a e20 (w_a e21 (w_a hls (w_a hlg w_t)))))) (w_a c w_t) w_t (w_r 0) ?_; (repeat' first | exact w_t | apply w_l); all_goals intros))
      · have hi2 : i = ss.length := by omega
        subst hi2
        rw [fstE_zero hz, if_neg (by simp)]
        (focus (refine wkap (w_a e1 (w_a m1 (w_a e20 (w_a e21 (w_a hls (w_a hlg w_t)))))) w_t (w_r 0) ?_; (repeat' first | exact w_t | apply w_l); all_goals intros))
        refine r_loopE (ι := Nat) (fun i e m => i ≤ gs.length ∧ e 1 = .pbox 1 g1 0 ∧ m 1 = some (.box g1 25 [.sl 6 M, .sl 5 N] false) ∧ e 33 = .sl 5 N ∧ e 34 = iv gs.length ∧ e 35 = iv i ∧ ∀ j, j < i → errG (gs.getD j ⟨0, [], ⟨false, [], []⟩⟩) ss.length = 0) (fun i => gs.length - i) 0 (by rfl) ?_ ?_
        · rintro i e m ⟨hi, e1, m1, e33, e34, e35, hz⟩
          by_cases hlt : i < gs.length
          · have c := cg i hlt
            have hgi := eg i hlt
            have hgj := eg2 i hlt
            have hfa := @fstE_at (fun i => errG (gs.getD i ⟨0, [], ⟨false, [], []⟩⟩) ss.length) i hz
            simp only [hgj] at hfa
            generalize gs[i] = G at *
            by_cases he : errG G ss.length = 0
            · rw [he] at c
              clear hfa
              obtain ⟨k, ar, r, rl, rd⟩ := G
              (focus (refine wkap (w_a e1 (w_a m1 (w_a e33 (w_a e34 (w_a e35 (w_a hls (w_a hlg (w_a hgi w_t)))))))) (w_a c w_t) (w_r 0) ?_; (repeat' first | exact w_t | apply w_l); all_goals intros))
              exact ⟨i + 1, ⟨by omega, by exact gW e1, by exact gW m1, by exact gW e33, by exact gW e34, by exact gS, fun j hj => by by_cases e : j = i; rw [e, hgj]; exact he; exact hz j (by omega)⟩, by omega⟩
            · rw [hfa he hlt]
              clear hfa
              generalize errG G ss.length = z at *
              obtain ⟨k, ar, r, rl, rd⟩ := G
              (focus (refine wklp (w_a e1 (w_a m1 (w_a e33 (w_a e34 (w_a e35 (w_a hls (w_a hlg (w_a hgi w_t)))))))) (w_a c w_t) w_t (w_r 0) ?_; (repeat' first | exact w_t | apply w_l); all_goals intros))
          · have hi2 : i = gs.length := by omega
            subst hi2
            rw [fstE_zero hz]
            (focus (refine wklp (w_a e1 (w_a m1 (w_a e33 (w_a e34 (w_a e35 (w_a hls (w_a hlg w_t))))))) w_t w_t (w_r 0) ?_; (repeat' first | exact w_t | apply w_l); all_goals intros))
        · exact ⟨Nat.zero_le _, by exact gW e1, by exact gW m1, by exact gC, by exact gW hlg, by exact gC, fun j hj => by omega⟩
    · exact ⟨Nat.zero_le _, by exact gC, by exact gC, by exact gW hls, by exact gC, fun j hj => by omega⟩
end Go.Proofs.YtbgmnobnaplmlaaGreat
end

section
namespace Go.Proofs.YtbgmnobnaplmlaaGreat
open Go Go.RowKit Go.Pg Go.Pol
set_option linter.unusedSimpArgs false
set_option linter.unusedVariables false
set_option maxRecDepth 20000
attribute [local go_sem] Tryz.underlying3 Tryz.underlying4 Tryz.underlying178 Tryz.underlying9 Tryz.underlying48 Tryz.underlying31 Tryz.underlying43 Tryz.underlying41 Tryz.underlying39 Tryz.underlying50 Tryz.underlying22 Tryz.underlying25 Tryz.underlying56 Tryz.underlying28 Tryz.underlying72 Tryz.underlying27 Tryz.underlying30 Tryz.underlying105 Tryz.underlying107 Tryz.underlying70 Tryz.underlying63 Tryz.underlying103 Tryz.underlying154 sz3 by3 z3 szB zB szErr zErr szStr byStr zStr szRat zRat szInt zInt szNat zNat szStep byStep zStep szFig zFig szSlI zSlI szSlS zSlS szVar byVar zVar szSlV zSlV szCoord byCoord zCoord szSlC zSlC szFrame zFrame szCBld byCBld zCBld szCVec byCVec zCVec szPoly byPoly zPoly szTerm zTerm szPtrB zPtrB szFnC zFnC
attribute [-bool_to_prop] Bool.and_eq_decide Bool.or_eq_decide Bool.decide_beq_decide decide_eq_decide
theorem Sub.nil (m : Nat) : Sub (.v (.slice none 0 0)) (.sl m []) := fun w imm x h => by
  rw [h.v_inv]
  exact .pure ((Wk.nil m).rd (.v _))
set_option maxHeartbeats 2000000 in
theorem cbVariable (σ : Mem) (KB KC KV g : Nat) (svC svV : Value) (vs : List Vt) (fr : Nat) (kind step number : Int) (hB : σ KB = some (.box g 105 [.own KC svC, .own KV svV, iv fr] false)) (hV : σ KV = some (.row svV 56 3 (vs.map Vt.av) 0)) (hl : vs.length ≤ 200) (hBV : KB ≠ KV) :
    ACall Tryz.prog 111 [.pbox KB g 0, iv kind, iv step, iv number] σ fun r σ' => ∃ sv, r = poA (varM vs.length) ∧ σ' = upd (upd σ KV (some (.row sv 56 3 ((vs ++ [(kind, step, number)]).map Vt.av) 0))) KB (some (.box g 105 [.own KC svC, .own KV sv, iv fr] false)) := by
  have mB := lents_at hB
  have mV := lents_at hV
  have cv := poVar vs.length (by omega)
  have hln : (vs.map Vt.av).length = vs.length := List.length_map ..
  have hm1 : ((vs.length + 1 : Nat) : Int) - 1 = (vs.length : Int) := by omega
  simp only [Ent.sh, AV.shL, AV.sh] at mB mV
  simp only [List.map_append, List.map_cons, List.map_nil]
  refine acall_lents Tryz.func111 rfl Tryz.ntmps111 Tryz.results111 Tryz.call111 (by rfl) (by simp) ?_
  (focus (refine wkap (w_a mB (w_a mV (w_a hln (w_a hm1 (w_a @l_app w_t))))) (w_a cv w_t) (w_r 0) ?_; (repeat' first | exact w_t | apply w_l); all_goals intros))
  simp (disch := omega) only [go_sem]
  rename_i sv0 sv1
  refine backS (Sub.refl _) ⟨sv1, rfl, rfl⟩ ?_
  (repeat' (first | exact Agr.start _ | (refine Agr.own ?_ (by omega)) | (refine Agr.put ?_ rfl rfl) | (refine Agr.mark ?_ (by omega)) | (rw [List.map_append]; rfl)))
theorem Sub.agg2 {a b a' b' : AV} (h : Sub a a') (k : Sub b b') : Sub (.agg [a, b]) (.agg [a', b']) := Sub.agg _ _ rfl fun j x y h1 h2 => by
  match j with
  | 0 => simp at h1 h2; subst h1; subst h2; exact h
  | 1 => simp at h1 h2; subst h1; subst h2; exact k
  | j + 2 => simp at h1
theorem upd_same' {σ : Mem} {k : Nat} {e : Ent} (h : σ k = some e) : upd σ k (some e) = σ := by
  funext j; rw [upd_at]; split
  · subst_vars; exact h.symm
  · rfl
set_option maxHeartbeats 4000000 in
theorem cbPoint (σ : Mem) (KB KC KV g : Nat) (svC svV : Value) (vs : List Vt) (fr : Nat) (i : Nat) (hB : σ KB = some (.box g 105 [.own KC svC, .own KV svV, iv fr] false)) (hV : σ KV = some (.row svV 56 3 (vs.map Vt.av) 0)) (hl : vs.length ≤ 100) (hBV : KB ≠ KV) (hf : fr ≤ 1000) :
    ACall Tryz.prog 107 [.pbox KB g 0, iv i] σ fun r σ' => ∃ sv, r = coA (if fr = 0 then ([], []) else if fr = 1 then (varM vs.length, []) else (varM vs.length, varM (vs.length + 1))) ∧
      σ' = upd (upd σ KV (some (.row sv 56 3 ((vs ++ (if fr = 0 then [] else if fr = 1 then [(1, (i : Int), 0)] else [(1, (i : Int), 0), (1, (i : Int), 1)])).map Vt.av) 0))) KB (some (.box g 105 [.own KC svC, .own KV sv, iv (fr + 1 : Nat)] false)) := by
  have mB := lents_at hB
  have mV := lents_at hV
  simp only [Ent.sh, AV.shL, AV.sh] at mB mV
  by_cases h0 : fr = 0
  · subst h0
    simp only [if_true, List.append_nil]
    refine acall_lents Tryz.func107 rfl Tryz.ntmps107 Tryz.results107 Tryz.call107 (by rfl) (by simp) ?_
    (focus (refine wkap (w_a mB (w_a mV w_t)) w_t (w_r 0) ?_; (repeat' first | exact w_t | apply w_l); all_goals intros))
    simp (disch := omega) only [go_sem]
    refine backS (Sub.agg2 (Sub.nil 4) (Sub.nil 4)) ⟨svV, rfl, rfl⟩ ?_
    rw [upd_same' hV]
    (repeat' (first | exact Agr.start _ | (refine Agr.own ?_ (by omega)) | (refine Agr.put ?_ rfl rfl) | (refine Agr.mark ?_ (by omega)) | (rw [List.map_append]; rfl)))
  · by_cases h1 : fr = 1
    · subst h1
      simp only [if_neg h0, if_true]
      refine acall_lents Tryz.func107 rfl Tryz.ntmps107 Tryz.results107 Tryz.call107 (by rfl) (by simp) ?_
      (focus (refine wkap (w_a mB (w_a mV w_t)) w_t (w_r 0) ?_; (repeat' first | exact w_t | apply w_l); all_goals intros))
      refine o_fresh (cbVariable _ (KB + 1000) (KC + 1000) (KV + 1000) g svC svV vs 2 1 (i : Int) 0 (by (simp (disch := omega) only [go_sem, mB, mV, if_neg, if_pos] <;> repeat' first | rfl | refine ⟨?_, ?_⟩)) (by (simp (disch := omega) only [go_sem, mB, mV, if_neg, if_pos, List.map_append, List.map_cons, List.map_nil] <;> repeat' first | rfl | refine ⟨?_, ?_⟩)) (by first | omega | (simp; omega)) (by omega)) ?_
      intro sv1
      (focus (refine wkap (w_a mB (w_a mV w_t)) w_t (w_r 0) ?_; (repeat' first | exact w_t | apply w_l); all_goals intros))
      simp (disch := omega) only [go_sem]
      refine backS (Sub.agg2 (Sub.refl _) (Sub.nil 4)) ⟨sv1, rfl, rfl⟩ ?_
      simp only [List.map_append, List.map_cons, List.map_nil]
      intro k
      by_cases hk1 : k = KB
      · rw [hk1]
        simp (disch := omega) only [upd_at, if_pos, if_neg, Option.map_some, Ent.sh, AV.shL, AV.sh]
        try rfl
      · by_cases hk2 : k = KV
        · rw [hk2]
          simp (disch := omega) only [upd_at, if_pos, if_neg, Option.map_some, Ent.sh, AV.shL, AV.sh]
          try rfl
        · simp (disch := omega) only [upd_at, if_neg]
          exact Agr.start σ k
    · simp only [if_neg h0, if_neg h1]
      have hl1 : (vs ++ [((1 : Int), (i : Int), (0 : Int))]).length = vs.length + 1 := by simp
      refine acall_lents Tryz.func107 rfl Tryz.ntmps107 Tryz.results107 Tryz.call107 (by rfl) (by simp) ?_
      (focus (refine wkap (w_a mB (w_a mV (w_a @cast_succ w_t))) w_t (w_r 0) ?_; (repeat' first | exact w_t | apply w_l); all_goals intros))
      refine o_fresh (cbVariable _ (KB + 1000) (KC + 1000) (KV + 1000) g svC svV vs (fr + 1) 1 (i : Int) 0 (by (simp (disch := omega) only [go_sem, mB, mV, if_neg, if_pos] <;> repeat' first | rfl | refine ⟨?_, ?_⟩)) (by (simp (disch := omega) only [go_sem, mB, mV, if_neg, if_pos, List.map_append, List.map_cons, List.map_nil] <;> repeat' first | rfl | refine ⟨?_, ?_⟩)) (by first | omega | (simp; omega)) (by omega)) ?_
      intro sv1
      (focus (refine wkap (w_a mB (w_a mV (w_a @cast_succ w_t))) w_t (w_r 0) ?_; (repeat' first | exact w_t | apply w_l); all_goals intros))
      refine o_fresh (cbVariable _ (KB + 1000) (KC + 1000) (KV + 1000) g svC sv1 (vs ++ [(1, (i : Int), 0)]) (fr + 1) 1 (i : Int) 1 (by (simp (disch := omega) only [go_sem, mB, mV, if_neg, if_pos] <;> repeat' first | rfl | refine ⟨?_, ?_⟩)) (by (simp (disch := omega) only [go_sem, mB, mV, if_neg, if_pos, List.map_append, List.map_cons, List.map_nil] <;> repeat' first | rfl | refine ⟨?_, ?_⟩)) (by first | omega | (simp; omega)) (by omega)) ?_
      intro sv2
      (focus (refine wkap (w_a mB (w_a mV (w_a hl1 w_t))) w_t (w_r 0) ?_; (repeat' first | exact w_t | apply w_l); all_goals intros))
      simp (disch := omega) only [go_sem, hl1]
      refine backS (Sub.refl _) ⟨sv2, rfl, rfl⟩ ?_
      simp only [List.append_assoc, List.cons_append, List.nil_append]
      intro k
      by_cases hk1 : k = KB
      · rw [hk1]
        simp (disch := omega) only [upd_at, if_pos, if_neg, Option.map_some, Ent.sh, AV.shL, AV.sh]
        try rfl
      · by_cases hk2 : k = KV
        · rw [hk2]
          simp (disch := omega) only [upd_at, if_pos, if_neg, Option.map_some, Ent.sh, AV.shL, AV.sh]
          try rfl
        · simp (disch := omega) only [upd_at, if_neg]
          exact Agr.start σ k
set_option maxHeartbeats 4000000 in
theorem cbDep (σ : Mem) (KB KC KV g : Nat) (svC svV : Value) (vs : List Vt) (fr : Nat) (i : Nat) (num : Int) (hB : σ KB = some (.box g 105 [.own KC svC, .own KV svV, iv fr] false)) (hV : σ KV = some (.row svV 56 3 (vs.map Vt.av) 0)) (hl : vs.length ≤ 100) (hBV : KB ≠ KV) (hn : 0 ≤ num ∧ num ≤ 10) :
    ACall Tryz.prog 113 [.pbox KB g 0, iv i, iv num] σ fun r σ' => ∃ sv, r = coA (varM vs.length, varM (vs.length + 1)) ∧
      σ' = upd (upd σ KV (some (.row sv 56 3 ((vs ++ [(2, (i : Int), num), (2, (i : Int), num + 1)]).map Vt.av) 0))) KB (some (.box g 105 [.own KC svC, .own KV sv, iv fr] false)) := by
  have mB := lents_at hB
  have mV := lents_at hV
  simp only [Ent.sh, AV.shL, AV.sh] at mB mV
  have hl1 : (vs ++ [((2 : Int), (i : Int), num)]).length = vs.length + 1 := by simp
  refine acall_lents Tryz.func113 rfl Tryz.ntmps113 Tryz.results113 Tryz.call113 (by rfl) (by simp) ?_
  (focus (refine wkap (w_a mB (w_a mV w_t)) w_t (w_r 0) ?_; (repeat' first | exact w_t | apply w_l); all_goals intros))
  refine o_fresh (cbVariable _ (KB + 1000) (KC + 1000) (KV + 1000) g svC svV vs fr 2 (i : Int) num (by (simp (disch := omega) only [go_sem, mB, mV, if_neg, if_pos] <;> repeat' first | rfl | refine ⟨?_, ?_⟩)) (by (simp (disch := omega) only [go_sem, mB, mV, if_neg, if_pos, List.map_append, List.map_cons, List.map_nil] <;> repeat' first | rfl | refine ⟨?_, ?_⟩)) (by first | omega | (simp; omega)) (by omega)) ?_
  intro sv1
  (focus (refine wkap (w_a mB (w_a mV w_t)) w_t (w_r 0) ?_; (repeat' first | exact w_t | apply w_l); all_goals intros))
  refine o_fresh (cbVariable _ (KB + 1000) (KC + 1000) (KV + 1000) g svC sv1 (vs ++ [(2, (i : Int), num)]) fr 2 (i : Int) (num + 1) (by (simp (disch := omega) only [go_sem, mB, mV, if_neg, if_pos] <;> repeat' first | rfl | refine ⟨?_, ?_⟩)) (by (simp (disch := omega) only [go_sem, mB, mV, if_neg, if_pos, List.map_append, List.map_cons, List.map_nil] <;> repeat' first | rfl | refine ⟨?_, ?_⟩)) (by first | omega | (simp; omega)) (by omega)) ?_
  intro sv2
  (focus (refine wkap (w_a mB (w_a mV (w_a hl1 w_t))) w_t (w_r 0) ?_; (repeat' first | exact w_t | apply w_l); all_goals intros))
  simp (disch := omega) only [go_sem, hl1]
  refine backS (Sub.refl _) ⟨sv2, rfl, rfl⟩ ?_
  simp only [List.append_assoc, List.cons_append, List.nil_append]
  intro k
  by_cases hk1 : k = KB
  · rw [hk1]
    simp (disch := omega) only [upd_at, if_pos, if_neg, Option.map_some, Ent.sh, AV.shL, AV.sh]
    try rfl
  · by_cases hk2 : k = KV
    · rw [hk2]
      simp (disch := omega) only [upd_at, if_pos, if_neg, Option.map_some, Ent.sh, AV.shL, AV.sh]
      try rfl
    · simp (disch := omega) only [upd_at, if_neg]
      exact Agr.start σ k
end Go.Proofs.YtbgmnobnaplmlaaGreat
end

section
namespace Go.Proofs.YtbgmnobnaplmlaaGreat
open Go Go.RowKit Go.Pg Go.Pol
set_option linter.unusedSimpArgs false
set_option linter.unusedVariables false
set_option maxRecDepth 20000
attribute [local go_sem] Tryz.underlying3 Tryz.underlying4 Tryz.underlying178 Tryz.underlying9 Tryz.underlying48 Tryz.underlying31 Tryz.underlying43 Tryz.underlying41 Tryz.underlying39 Tryz.underlying50 Tryz.underlying22 Tryz.underlying25 Tryz.underlying56 Tryz.underlying28 Tryz.underlying72 Tryz.underlying27 Tryz.underlying30 Tryz.underlying105 Tryz.underlying107 Tryz.underlying70 Tryz.underlying63 Tryz.underlying103 Tryz.underlying154 sz3 by3 z3 szB zB szErr zErr szStr byStr zStr szRat zRat szInt zInt szNat zNat szStep byStep zStep szFig zFig szSlI zSlI szSlS zSlS szVar byVar zVar szSlV zSlV szCoord byCoord zCoord szSlC zSlC szFrame zFrame szCBld byCBld zCBld szCVec byCVec zCVec szPoly byPoly zPoly szTerm zTerm szPtrB zPtrB szFnC zFnC
attribute [-bool_to_prop] Bool.and_eq_decide Bool.or_eq_decide Bool.decide_beq_decide decide_eq_decide
theorem lents_beq {K c : Nat} (h : c < 1000) : (K + 1000 == c) = false := by rw [beq_eq_false_iff_ne]; omega
theorem u16s_inj {a b : List Nat} (h : u16s a = u16s b) : a = b := by
  induction a generalizing b with
  | nil => cases b with
    | nil => rfl
    | cons y b => simp [u16s] at h
  | cons x a ih => cases b with
    | nil => simp [u16s] at h
    | cons y b =>
      rw [u16s_c, u16s_c] at h
      simp only [List.cons.injEq, AV.v.injEq, Value.int.injEq, true_and] at h
      rw [ih h.2, show x = y by omega]
theorem RQ.ok_eq {r : RQ} {k : Nat} (hl : r.lm k) (h : r.ok = true) : r = ⟨decide (r.q.num < 0), toL r.q.num.natAbs, toL r.q.den⟩ := by
  have h1 := (RQ.ok_av hl h).1
  simp only [RQ.av, ratQ, AV.agg.injEq, List.cons.injEq, AV.v.injEq, Value.bool.injEq, lim, AV.sl.injEq, true_and, and_true] at h1
  obtain ⟨s, l, d⟩ := r
  simp only at h1
  rw [RQ.mk.injEq]
  exact ⟨h1.1, u16s_inj h1.2.1, u16s_inj h1.2.2⟩
theorem coOf (c : Po × Po) : Pure Tryz.prog 105 [coA c] (coA c) := by
  obtain ⟨p, q⟩ := c
  refine pure_intro (tok := 0) Tryz.func105 rfl Tryz.ntmps105 Tryz.results105 Tryz.call105 (by rfl) (by simp) ?_
  (focus (refine wklp w_t w_t w_t (w_r 0) ?_; (repeat' first | exact w_t | apply w_l); all_goals intros))
theorem coCombine (f : Nat) (a b r : Po × Po) (c1 : Pure Tryz.prog f [poA a.1, poA b.1] (poA r.1)) (c2 : Pure Tryz.prog f [poA a.2, poA b.2] (poA r.2)) : Pure Tryz.prog 104 [coA a, coA b, .fn f []] (coA r) := by
  obtain ⟨a1, a2⟩ := a
  obtain ⟨b1, b2⟩ := b
  obtain ⟨r1, r2⟩ := r
  simp only at c1 c2
  refine pure_intro (tok := 0) Tryz.func104 rfl Tryz.ntmps104 Tryz.results104 Tryz.call104 (by rfl) (by simp) ?_
  (focus (refine wkld w_t (w_a c1 (w_a c2 w_t)) w_t (w_a (w_d 1 [(5, poA r1), (11, poA r2)] [] [6]) w_t) ?_; (repeat' first | exact w_t | apply w_l); all_goals intros))
theorem coBetween (a b : Po × Po) (h1 : Pure Tryz.prog 77 [poA b.1, poA a.1] (poA (subM b.1 a.1))) (h2 : Pure Tryz.prog 77 [poA b.2, poA a.2] (poA (subM b.2 a.2))) : Pure Tryz.prog 103 [coA a, coA b] (coA (subM b.1 a.1, subM b.2 a.2)) := by
  have c := coCombine 77 b a (subM b.1 a.1, subM b.2 a.2) h1 h2
  have oa := coOf a
  have ob := coOf b
  obtain ⟨a1, a2⟩ := a
  obtain ⟨b1, b2⟩ := b
  simp only at *
  generalize subM b1 a1 = x at *
  generalize subM b2 a2 = y at *
  refine pure_intro (tok := 0) Tryz.func103 rfl Tryz.ntmps103 Tryz.results103 Tryz.call103 (by rfl) (by simp) ?_
  (focus (refine wkld w_t (w_a oa (w_a ob (w_a c w_t))) w_t (w_a (w_d 1 [(1, coA (b1, b2)), (3, coA (a1, a2)), (4, coA (x, y))] [] [4]) w_t) ?_; (repeat' first | exact w_t | apply w_l); all_goals intros))
theorem cbScale (K4 g4 : Nat) (k : Int) (nm : ByteArray) (ar : List Int) (q : Rat) (p r : Po) (c : Pure Tryz.prog 109 [poA p, ratQ q] (poA r)) :
    RdC Tryz.prog [(K4, .box g4 50 [iv k, strA nm, ivs ar, .v (.bool (decide (q.num < 0))), lim (toL q.num.natAbs), lim (toL q.den)] false)] 108 [poA p, .pbox K4 g4 0] (poA r) := by
  intro σ hL
  have m4 := lents_at hL.1
  simp only [Ent.sh, AV.shL, AV.sh] at m4
  refine acall_lents Tryz.func108 rfl Tryz.ntmps108 Tryz.results108 Tryz.call108 (by rfl) (by simp) ?_
  (focus (refine wkap (w_a m4 w_t) (w_a c w_t) (w_r 0) ?_; (repeat' first | exact w_t | apply w_l); all_goals intros))
  simp (disch := omega) only [go_sem]
  exact backS (Sub.refl _) ⟨rfl, rfl⟩ (Agr.start σ)
theorem cbMulV (K g : Nat) (t p r : Po) (c : Pure Tryz.prog 78 [poA p, poA t] (poA r)) :
    RdC Tryz.prog [(K, .box g 70 [poA t] false)] 112 [poA p, .pbox K g 0] (poA r) := by
  intro σ hL
  have m4 := lents_at hL.1
  simp only [Ent.sh, AV.shL, AV.sh] at m4
  refine acall_lents Tryz.func112 rfl Tryz.ntmps112 Tryz.results112 Tryz.call112 (by rfl) (by simp) ?_
  (focus (refine wkap (w_a m4 w_t) (w_a c w_t) (w_r 0) ?_; (repeat' first | exact w_t | apply w_l); all_goals intros))
  simp (disch := omega) only [go_sem]
  exact backS (Sub.refl _) ⟨rfl, rfl⟩ (Agr.start σ)
/-- What a step's closures read: the builder's pointer, the step, the builder, its points. -/
def atL (K3 K4 KB KC KV g3 g4 gB : Nat) (svC svV : Value) (z : AV) (sc : List AV) (cs : List (Po × Po)) : List (Nat × Ent) :=
  [(K3, .box g3 103 [.pbox KB gB 0] false), (K4, .box g4 50 sc false), (KB, .box gB 105 [.own KC svC, .own KV svV, z] false), (KC, .row svC 72 2 (cs.map coA) 0)]
theorem atL_def (K3 K4 KB KC KV g3 g4 gB : Nat) (svC svV : Value) (z : AV) (sc : List AV) (cs : List (Po × Po)) : atL K3 K4 KB KC KV g3 g4 gB svC svV z sc cs =
  [(K3, .box g3 103 [.pbox KB gB 0] false), (K4, .box g4 50 sc false), (KB, .box gB 105 [.own KC svC, .own KV svV, z] false), (KC, .row svC 72 2 (cs.map coA) 0)] := rfl
set_option maxHeartbeats 4000000 in
theorem cbAt (K3 K4 KB KC KV g3 g4 gB : Nat) (svC svV : Value) (fr : Nat) (k0 : Int) (nm : ByteArray) (ar : List Int) (x y w : AV) (cs : List (Po × Po)) (k : Nat) (hx : x.sh = x ∧ y.sh = y ∧ w.sh = w) (hk : k < ar.length) (h0 : 0 ≤ gI ar k ∧ gI ar k < (cs.length : Int)) :
    RdC Tryz.prog (atL K3 K4 KB KC KV g3 g4 gB svC svV (iv fr) [iv k0, strA nm, ivs ar, x, y, w] cs) 101 [iv k, .pbox K3 g3 0, .pbox K4 g4 0] (coA (cs.getD (gI ar k).toNat ([], []))) := by
  intro σ hL
  simp only [atL, hasAll_cons, hasAll_nil] at hL
  obtain ⟨h3, h4, hB, hC, -⟩ := hL
  have m3 := lents_at h3
  have m4 := lents_at h4
  have mB := lents_at hB
  have mC := lents_at hC
  simp only [Ent.sh, AV.shL, AV.sh, hx.1, hx.2.1, hx.2.2] at m3 m4 mB mC
  have hga : (ar.map iv).getD k .u = iv (gI ar k) := by rw [map_atB iv hk, gI_at hk]
  have hgc : (cs.map coA).getD (gI ar k).toNat .u = coA (cs.getD (gI ar k).toNat ([], [])) := getD_mapA (by omega)
  have hll : (ar.map iv).length = ar.length := List.length_map ..
  have hcl : (cs.map coA).length = cs.length := List.length_map ..
  generalize cs.getD (gI ar k).toNat ([], []) = c at *
  generalize gI ar k = a at *
  obtain ⟨c1, c2⟩ := c
  refine acall_lents Tryz.func101 rfl Tryz.ntmps101 Tryz.results101 Tryz.call101 (by rfl) (by simp) ?_
  (focus (refine wkad (w_a m3 (w_a m4 (w_a mB (w_a mC (w_a hga (w_a hgc (w_a hll (w_a hcl (w_a @lents_lt (w_a @lents_beq w_t)))))))))) w_t (w_a (w_d 1 [] [] [4]) w_t) ?_; (repeat' first | exact w_t | apply w_l); all_goals intros))
  simp (disch := omega) only [go_sem]
  refine backS (Sub.refl _) ⟨rfl, rfl⟩ ?_
  exact ((Agr.start σ).own (by omega)).own (by omega)
end Go.Proofs.YtbgmnobnaplmlaaGreat
end

section
namespace Go.Proofs.YtbgmnobnaplmlaaGreat
open Go Go.RowKit Go.Pg Go.Pol
set_option linter.unusedSimpArgs false
set_option linter.unusedVariables false
set_option maxRecDepth 20000
attribute [local go_sem] Tryz.underlying3 Tryz.underlying4 Tryz.underlying178 Tryz.underlying9 Tryz.underlying48 Tryz.underlying31 Tryz.underlying43 Tryz.underlying41 Tryz.underlying39 Tryz.underlying50 Tryz.underlying22 Tryz.underlying25 Tryz.underlying56 Tryz.underlying28 Tryz.underlying72 Tryz.underlying27 Tryz.underlying30 Tryz.underlying105 Tryz.underlying107 Tryz.underlying70 Tryz.underlying63 Tryz.underlying103 Tryz.underlying154 sz3 by3 z3 szErr zErr szStr byStr zStr szStep byStep zStep szFig zFig szSlI zSlI szSlS zSlS szVar byVar zVar szSlV zSlV szCoord byCoord zCoord szSlC zSlC szFrame zFrame szCBld byCBld zCBld szCVec byCVec zCVec szPoly byPoly zPoly szTerm zTerm
attribute [-bool_to_prop] Bool.and_eq_decide Bool.or_eq_decide Bool.decide_beq_decide decide_eq_decide
/-! ### the parameters of a frame -/
abbrev frmA (cs : List (Po × Po)) (vs : List Vt) : AV := .agg [.sl 2 (cs.map coA), .sl 3 (vs.map Vt.av)]
def parsN (l : List Vt) (i : Nat) : List Int := ((List.range i).filter fun j => decide ((l.getD j (0, 0, 0)).1 = 1)).map fun n : Nat => (n : Int)
/-! ### how many there are -/
def cnt1 (l : List Vt) : Nat := (l.filter fun v => decide (v.1 = 1)).length
def cF (ss : List RS) : Nat → Nat
  | 0 => 0
  | i + 1 => cF ss i + if (ss.getD i RS.zero).k = 1 then 1 else 0
def cP (ss : List RS) : Nat → Nat
  | 0 => 0
  | i + 1 => cP ss i + if (ss.getD i RS.zero).k = 5 ∨ (ss.getD i RS.zero).k = 6 then 1 else 0
def cD (ss : List RS) : Nat → Nat
  | 0 => 0
  | i + 1 => cD ss i + if (ss.getD i RS.zero).k = 1 ∨ (ss.getD i RS.zero).k = 2 ∨ (ss.getD i RS.zero).k = 3 ∨ (ss.getD i RS.zero).k = 4 ∨ (ss.getD i RS.zero).k = 5 then 0 else 2
end Go.Proofs.YtbgmnobnaplmlaaGreat
end

section
namespace Go.Proofs.YtbgmnobnaplmlaaGreat
open Go Go.RowKit Go.Pg Go.Pol
set_option linter.unusedSimpArgs false
set_option linter.unusedVariables false
set_option maxRecDepth 20000
attribute [local go_sem] Tryz.underlying3 Tryz.underlying4 Tryz.underlying178 Tryz.underlying9 Tryz.underlying48 Tryz.underlying31 Tryz.underlying43 Tryz.underlying41 Tryz.underlying39 Tryz.underlying50 Tryz.underlying22 Tryz.underlying25 Tryz.underlying56 Tryz.underlying28 Tryz.underlying72 Tryz.underlying27 Tryz.underlying30 Tryz.underlying105 Tryz.underlying107 Tryz.underlying70 Tryz.underlying63 Tryz.underlying103 Tryz.underlying154 sz3 by3 z3 szB zB szErr zErr szStr byStr zStr szRat zRat szInt zInt szNat zNat szStep byStep zStep szFig zFig szSlI zSlI szSlS zSlS szVar byVar zVar szSlV zSlV szCoord byCoord zCoord szSlC zSlC szFrame zFrame szCBld byCBld zCBld szCVec byCVec zCVec szPoly byPoly zPoly szTerm zTerm szPtrB zPtrB szFnC zFnC
attribute [-bool_to_prop] Bool.and_eq_decide Bool.or_eq_decide Bool.decide_beq_decide decide_eq_decide
theorem Agr.re {m σ : Mem} {t k : Nat} {e1 e e' : Ent} (h : Agr m (upd σ k (some e1))) (ht : t = k + 1000) (he : e' = e.sh) : Agr (upd m t (some e')) (upd σ k (some e)) := by
  have := h.put (k := k) (e := e) ht he
  rwa [upd_over] at this
/-- A frame's handles under other names. -/
theorem Sub.frame (KC KV KC' KV' : Nat) (svC svV : Value) : Sub (.agg [.own KC svC, .own KV svV]) (.agg [.own KC' svC, .own KV' svV]) := Sub.agg2 (Sub.own _ _ _) (Sub.own _ _ _)
end Go.Proofs.YtbgmnobnaplmlaaGreat
end

section
namespace Go.Proofs.YtbgmnobnaplmlaaGreat
open Go Go.RowKit Go.Pg Go.Pol
set_option linter.unusedSimpArgs false
set_option linter.unusedVariables false
set_option maxRecDepth 20000
attribute [local go_sem] Tryz.underlying3 Tryz.underlying4 Tryz.underlying178 Tryz.underlying9 Tryz.underlying48 Tryz.underlying31 Tryz.underlying43 Tryz.underlying41 Tryz.underlying39 Tryz.underlying50 Tryz.underlying22 Tryz.underlying25 Tryz.underlying56 Tryz.underlying28 Tryz.underlying72 Tryz.underlying27 Tryz.underlying30 Tryz.underlying105 Tryz.underlying107 Tryz.underlying70 Tryz.underlying63 Tryz.underlying103 Tryz.underlying154 sz3 by3 z3 szB zB szErr zErr szStr byStr zStr szRat zRat szInt zInt szNat zNat szStep byStep zStep szFig zFig szSlI zSlI szSlS zSlS szVar byVar zVar szSlV zSlV szCoord byCoord zCoord szSlC zSlC szFrame zFrame szCBld byCBld zCBld szCVec byCVec zCVec szPoly byPoly zPoly szTerm zTerm szPtrB zPtrB szFnC zFnC
attribute [-bool_to_prop] Bool.and_eq_decide Bool.or_eq_decide Bool.decide_beq_decide decide_eq_decide
set_option maxHeartbeats 8000000 in
theorem cbAlongS (K3 K4 K7 KB KC KV g3 g4 g7 gB : Nat) (svC svV : Value) (fr : Nat) (k0 : Int) (nm : ByteArray) (ar : List Int) (q : Rat) (cs : List (Po × Po)) (a b x r : Po × Po) (hk : 2 ≤ ar.length) (h0 : 0 ≤ gI ar 0 ∧ gI ar 0 < (cs.length : Int)) (h1 : 0 ≤ gI ar 1 ∧ gI ar 1 < (cs.length : Int)) (ha : cs.getD (gI ar 0).toNat ([], []) = a) (hb : cs.getD (gI ar 1).toNat ([], []) = b)
    (s1 : Pure Tryz.prog 77 [poA b.1, poA a.1] (poA (subM b.1 a.1))) (s2 : Pure Tryz.prog 77 [poA b.2, poA a.2] (poA (subM b.2 a.2)))
    (c1 : Pure Tryz.prog 109 [poA (subM b.1 a.1), ratQ q] (poA x.1)) (c2 : Pure Tryz.prog 109 [poA (subM b.2 a.2), ratQ q] (poA x.2))
    (a1 : Pure Tryz.prog 106 [poA a.1, poA x.1] (poA r.1)) (a2 : Pure Tryz.prog 106 [poA a.2, poA x.2] (poA r.2)) :
    RdC Tryz.prog ((K7, .box g7 154 [.fn 101 [.pbox K3 g3 0, .pbox K4 g4 0]] false) :: atL K3 K4 KB KC KV g3 g4 gB svC svV (iv fr) [iv k0, strA nm, ivs ar, .v (.bool (decide (q.num < 0))), lim (toL q.num.natAbs), lim (toL q.den)] cs) 102 [.fn 108 [.pbox K4 g4 0], .pbox K7 g7 0] (coA r) := by
  intro σ hL
  have t0 := cbAt (K3 + 1000) (K4 + 1000) (KB + 1000) (KC + 1000) (KV + 1000) g3 g4 gB svC svV fr k0 nm ar (.v (.bool (decide (q.num < 0)))) (lim (toL q.num.natAbs)) (lim (toL q.den)) cs 0 ⟨rfl, rfl, rfl⟩ (by omega) h0
  have t1 := cbAt (K3 + 1000) (K4 + 1000) (KB + 1000) (KC + 1000) (KV + 1000) g3 g4 gB svC svV fr k0 nm ar (.v (.bool (decide (q.num < 0)))) (lim (toL q.num.natAbs)) (lim (toL q.den)) cs 1 ⟨rfl, rfl, rfl⟩ (by omega) h1
  rw [ha] at t0
  rw [hb] at t1
  have cB := coBetween a b s1 s2
  have oa := coOf a
  have cC := coCombine 106 a x r a1 a2
  have p1 := cbScale (K4 + 1000) g4 k0 nm ar q (subM b.1 a.1) x.1 c1
  have p2 := cbScale (K4 + 1000) g4 k0 nm ar q (subM b.2 a.2) x.2 c2
  simp only [atL, hasAll_cons, hasAll_nil] at hL
  obtain ⟨h7, h3, h4, hB, hC, -⟩ := hL
  have m3 := lents_at h3
  have m4 := lents_at h4
  have m7 := lents_at h7
  have mB := lents_at hB
  have mC := lents_at hC
  skip
  simp only [Ent.sh, AV.shL, AV.sh] at m3 m4 m7 mB mC
  clear a1 a2 s1 s2 ha hb h0 h1
  obtain ⟨aa, ab⟩ := a
  obtain ⟨ba, bb⟩ := b
  obtain ⟨xa, xb⟩ := x
  obtain ⟨ra, rb⟩ := r
  simp only at *
  generalize subM ba aa = da at *
  generalize subM bb ab = db at *
  refine acall_lents Tryz.func102 rfl Tryz.ntmps102 Tryz.results102 Tryz.call102 (by rfl) (by simp) ?_
  (focus (refine wkax (w_a m3 (w_a m4 (w_a m7 (w_a mB (w_a mC (w_a @lents_lt (w_a @lents_beq (w_a @atL_def w_t)))))))) (w_a cB (w_a oa (w_a cC w_t))) (w_a (w_d 1 [(1, coA (aa, ab)), (3, coA (ba, bb)), (4, coA (da, db))] [] []) (w_a (w_d 2 [(1, coA (aa, ab)), (2, coA (aa, ab)), (6, poA xa), (10, poA xb), (12, coA (ra, rb))] [] [3]) w_t)) w_t w_t (w_a t0 (w_a t1 (w_a p1 (w_a p2 w_t)))) (w_r 0) ?_; (repeat' first | exact w_t | apply w_l); all_goals intros))
  simp (disch := omega) only [go_sem]
  refine backS (Sub.refl _) ⟨rfl, rfl⟩ ?_
  (repeat' (first | exact Agr.start _ | (refine Agr.own ?_ (by omega))))
set_option maxHeartbeats 8000000 in
theorem cbAlongM (K3 K4 K7 KB KC KV g3 g4 g7 gB : Nat) (svC svV : Value) (fr : Nat) (k0 : Int) (nm : ByteArray) (ar : List Int) (rs : Bool) (rl rd : List Nat) (K10 g10 : Nat) (t : Po) (cs : List (Po × Po)) (a b x r : Po × Po) (hk : 2 ≤ ar.length) (h0 : 0 ≤ gI ar 0 ∧ gI ar 0 < (cs.length : Int)) (h1 : 0 ≤ gI ar 1 ∧ gI ar 1 < (cs.length : Int)) (ha : cs.getD (gI ar 0).toNat ([], []) = a) (hb : cs.getD (gI ar 1).toNat ([], []) = b)
    (s1 : Pure Tryz.prog 77 [poA b.1, poA a.1] (poA (subM b.1 a.1))) (s2 : Pure Tryz.prog 77 [poA b.2, poA a.2] (poA (subM b.2 a.2)))
    (c1 : Pure Tryz.prog 78 [poA (subM b.1 a.1), poA t] (poA x.1)) (c2 : Pure Tryz.prog 78 [poA (subM b.2 a.2), poA t] (poA x.2))
    (a1 : Pure Tryz.prog 106 [poA a.1, poA x.1] (poA r.1)) (a2 : Pure Tryz.prog 106 [poA a.2, poA x.2] (poA r.2)) :
    RdC Tryz.prog ((K10, .box g10 70 [poA t] false) :: (K7, .box g7 154 [.fn 101 [.pbox K3 g3 0, .pbox K4 g4 0]] false) :: atL K3 K4 KB KC KV g3 g4 gB svC svV (iv fr) [iv k0, strA nm, ivs ar, .v (.bool rs), lim rl, lim rd] cs) 102 [.fn 112 [.pbox K10 g10 0], .pbox K7 g7 0] (coA r) := by
  intro σ hL
  have t0 := cbAt (K3 + 1000) (K4 + 1000) (KB + 1000) (KC + 1000) (KV + 1000) g3 g4 gB svC svV fr k0 nm ar (.v (.bool rs)) (lim rl) (lim rd) cs 0 ⟨rfl, rfl, rfl⟩ (by omega) h0
  have t1 := cbAt (K3 + 1000) (K4 + 1000) (KB + 1000) (KC + 1000) (KV + 1000) g3 g4 gB svC svV fr k0 nm ar (.v (.bool rs)) (lim rl) (lim rd) cs 1 ⟨rfl, rfl, rfl⟩ (by omega) h1
  rw [ha] at t0
  rw [hb] at t1
  have cB := coBetween a b s1 s2
  have oa := coOf a
  have cC := coCombine 106 a x r a1 a2
  have p1 := cbMulV (K10 + 1000) g10 t (subM b.1 a.1) x.1 c1
  have p2 := cbMulV (K10 + 1000) g10 t (subM b.2 a.2) x.2 c2
  simp only [atL, hasAll_cons, hasAll_nil] at hL
  obtain ⟨h10, h7, h3, h4, hB, hC, -⟩ := hL
  have m3 := lents_at h3
  have m4 := lents_at h4
  have m7 := lents_at h7
  have mB := lents_at hB
  have mC := lents_at hC
  have m10 := lents_at h10
  simp only [Ent.sh, AV.shL, AV.sh] at m3 m4 m7 mB mC m10
  clear a1 a2 s1 s2 ha hb h0 h1
  obtain ⟨aa, ab⟩ := a
  obtain ⟨ba, bb⟩ := b
  obtain ⟨xa, xb⟩ := x
  obtain ⟨ra, rb⟩ := r
  simp only at *
  generalize subM ba aa = da at *
  generalize subM bb ab = db at *
  refine acall_lents Tryz.func102 rfl Tryz.ntmps102 Tryz.results102 Tryz.call102 (by rfl) (by simp) ?_
  (focus (refine wkax (w_a m3 (w_a m4 (w_a m7 (w_a mB (w_a mC (w_a m10 (w_a @lents_lt (w_a @lents_beq (w_a @atL_def w_t))))))))) (w_a cB (w_a oa (w_a cC w_t))) (w_a (w_d 1 [(1, coA (aa, ab)), (3, coA (ba, bb)), (4, coA (da, db))] [] []) (w_a (w_d 2 [(1, coA (aa, ab)), (2, coA (aa, ab)), (6, poA xa), (10, poA xb), (12, coA (ra, rb))] [] [3]) w_t)) w_t w_t (w_a t0 (w_a t1 (w_a p1 (w_a p2 w_t)))) (w_r 0) ?_; (repeat' first | exact w_t | apply w_l); all_goals intros))
  simp (disch := omega) only [go_sem]
  refine backS (Sub.refl _) ⟨rfl, rfl⟩ ?_
  (repeat' (first | exact Agr.start _ | (refine Agr.own ?_ (by omega))))
end Go.Proofs.YtbgmnobnaplmlaaGreat
end

section
namespace Go.Proofs.YtbgmnobnaplmlaaGreat
open Go Go.RowKit Go.Pg Go.Pol
set_option linter.unusedSimpArgs false
set_option linter.unusedVariables false
set_option maxRecDepth 20000
attribute [local go_sem] Tryz.underlying3 Tryz.underlying4 Tryz.underlying178 Tryz.underlying9 Tryz.underlying48 Tryz.underlying31 Tryz.underlying43 Tryz.underlying41 Tryz.underlying39 Tryz.underlying50 Tryz.underlying22 Tryz.underlying25 Tryz.underlying56 Tryz.underlying28 Tryz.underlying72 Tryz.underlying27 Tryz.underlying30 Tryz.underlying105 Tryz.underlying107 Tryz.underlying70 Tryz.underlying63 Tryz.underlying103 Tryz.underlying154 sz3 by3 z3 szB zB szErr zErr szStr byStr zStr szRat zRat szInt zInt szNat zNat szStep byStep zStep szFig zFig szSlI zSlI szSlS zSlS szVar byVar zVar szSlV zSlV szCoord byCoord zCoord szSlC zSlC szFrame zFrame szCBld byCBld zCBld szCVec byCVec zCVec szPoly byPoly zPoly szTerm zTerm szPtrB zPtrB szFnC zFnC
attribute [-bool_to_prop] Bool.and_eq_decide Bool.or_eq_decide Bool.decide_beq_decide decide_eq_decide
/-! ### sizes of what a step computes -/
theorem PK.sub {p q : Po} {j k e : Nat} (hp : PK p j e) (hq : PK q k e) : PK (subM p q) (j + k + 1) e := hp.add hq.neg
theorem PK.scl {p : Po} {j k e : Nat} {a : Rat} (hp : PK p j e) (ha : Sz a k) : PK (sclM a p) (j + k) e := by
  unfold sclM; split
  · exact .nil
  · exact hp.scale ha
theorem PK.mulV {p : Po} {j e v : Nat} (hp : PK p j e) : PK (mlM p (varM v)) (j + 1) (e + 1) := by
  rw [mul_var]; split
  · refine hp.times (t := (1, unitM v)) fun u hu => ?_
    rw [List.mem_singleton] at hu
    subst hu
    have h := varM_pk v (1, unitM v) (by unfold varM; rw [if_pos (by assumption)]; exact .head _)
    exact h
  · exact .nil
theorem scl_srt {a : Rat} {p : Po} (h : SrtM p) : SrtM (sclM a p) := by
  unfold sclM; split
  · exact .nil
  · exact scale_srt h ‹_›
theorem scl_len (a : Rat) (p : Po) : (sclM a p).length ≤ p.length := by
  unfold sclM; split
  · simp
  · rw [scale_len]; exact Nat.le_refl _
theorem mulV_len (p : Po) (v : Nat) : (mlM p (varM v)).length ≤ p.length := by
  rw [mul_var]; split
  · rw [timesP_len]; exact Nat.le_refl _
  · simp
theorem sub_len (p q : Po) : (subM p q).length ≤ p.length + q.length := by
  have := addP_len (lt := ltM) p (scaleP (-1) q)
  rw [scale_len] at this; exact this
/-- A coordinate of a frame in order. -/
structure Co (p : Po) : Prop where
  pk : PK p 110 1
  st : SrtM p
  ln : p.length ≤ 4000
/-- A step in order. -/
structure StOk (cs : List (Po × Po)) (s : RS) : Prop where
  k0 : 0 ≤ arS s.k
  al : (s.ar.length : Int) = arS s.k
  ai : ∀ k, k < s.ar.length → 0 ≤ gI s.ar k ∧ gI s.ar k < (cs.length : Int)
  r2 : s.k = 2 → s.r.ok = true
  rl : s.r.lm 2
set_option maxHeartbeats 8000000 in
theorem cbStep1 (σ : Mem) (KB KC KV g : Nat) (svC svV : Value) (cs : List (Po × Po)) (vs : List Vt) (fr : Nat) (i : Nat) (s : RS) (hB : σ KB = some (.box g 105 [.own KC svC, .own KV svV, iv fr] false)) (hV : σ KV = some (.row svV 56 3 (vs.map Vt.av) 0)) (hC : σ KC = some (.row svC 72 2 (cs.map coA) 0)) (hBV : KB ≠ KV) (hBC : KB ≠ KC) (hVC : KV ≠ KC) (hl : vs.length ≤ 64) (hf : fr ≤ 100) (hk : s.k = 1) : ACall Tryz.prog 52 [.pbox KB g 0, s.av, iv i] σ fun r σ' => ∃ sv, r = coA (FS.nxt ⟨cs, vs, fr⟩ i s).2 ∧
      σ' = upd (upd σ KV (some (.row sv 56 3 ((vs ++ (FS.nxt ⟨cs, vs, fr⟩ i s).1).map Vt.av) 0))) KB (some (.box g 105 [.own KC svC, .own KV sv, iv (if s.k = 1 then fr + 1 else fr : Nat)] false)) := by
  have mB := lents_at hB
  have mV := lents_at hV
  have mC := lents_at hC
  simp only [Ent.sh, AV.shL, AV.sh] at mB mV mC
  have en : FS.nxt ⟨cs, vs, fr⟩ i s = ((if fr = 0 then [] else if fr = 1 then [(1, (i : Int), 0)] else [(1, (i : Int), 0), (1, (i : Int), 1)]), (if fr = 0 then ([], []) else if fr = 1 then (varM vs.length, []) else (varM vs.length, varM (vs.length + 1)))) := by
    unfold FS.nxt; simp only; rw [if_pos hk]; split
    · rfl
    · split <;> rfl
  rw [en]
  simp only [if_pos hk]
  generalize hnv : (if fr = 0 then [] else if fr = 1 then [((1 : Int), (i : Int), (0 : Int))] else [(1, (i : Int), 0), (1, (i : Int), 1)]) = nv at *
  generalize hnc : (if fr = 0 then (([] : Po), ([] : Po)) else if fr = 1 then (varM vs.length, []) else (varM vs.length, varM (vs.length + 1))) = nc at *
  obtain ⟨k, nm, ar, r, rl, rd⟩ := s
  simp only at hk
  subst hk
  refine acall_lents Tryz.func52 rfl Tryz.ntmps52 Tryz.results52 Tryz.call52 (by rfl) (by simp) ?_
  (focus (refine wkad (w_a mB (w_a mV (w_a mC (w_a @lents_lt w_t)))) w_t w_t ?_; (repeat' first | exact w_t | apply w_l); all_goals intros))
  refine o_fresh ((cbPoint _ (KB + 1000) (KC + 1000) (KV + 1000) g svC svV vs fr i (by (simp (disch := omega) only [go_sem, mB, mV, if_neg, if_pos] <;> repeat' first | rfl | refine ⟨?_, ?_⟩)) (by (simp (disch := omega) only [go_sem, mB, mV, if_neg, if_pos] <;> repeat' first | rfl | refine ⟨?_, ?_⟩)) (by omega) (by omega) (by omega))) ?_
  rw [hnv, hnc]
  intro sv1
  obtain ⟨n1, n2⟩ := nc
  (focus (refine wkad (w_a mB (w_a mV (w_a mC (w_a @lents_lt w_t)))) w_t w_t ?_; (repeat' first | exact w_t | apply w_l); all_goals intros))
  simp (disch := omega) only [go_sem]
  refine backS (Sub.refl _) ⟨sv1, rfl, rfl⟩ ?_
  intro k
  by_cases hk1 : k = KB
  · rw [hk1]
    simp (disch := omega) only [upd_at, if_pos, if_neg, Option.map_some, Ent.sh, AV.shL, AV.sh]
    try rfl
  · by_cases hk2 : k = KV
    · rw [hk2]
      simp (disch := omega) only [upd_at, if_pos, if_neg, Option.map_some, Ent.sh, AV.shL, AV.sh]
      try rfl
    · simp (disch := omega) only [upd_at, if_neg]
      exact Agr.start σ k

set_option maxHeartbeats 8000000 in
theorem cbStep6 (σ : Mem) (KB KC KV g : Nat) (svC svV : Value) (cs : List (Po × Po)) (vs : List Vt) (fr : Nat) (i : Nat) (s : RS) (hB : σ KB = some (.box g 105 [.own KC svC, .own KV svV, iv fr] false)) (hV : σ KV = some (.row svV 56 3 (vs.map Vt.av) 0)) (hC : σ KC = some (.row svC 72 2 (cs.map coA) 0)) (hBV : KB ≠ KV) (hBC : KB ≠ KC) (hVC : KV ≠ KC) (hl : vs.length ≤ 64) (hf : fr ≤ 100) (hk : s.k = 6) : ACall Tryz.prog 52 [.pbox KB g 0, s.av, iv i] σ fun r σ' => ∃ sv, r = coA (FS.nxt ⟨cs, vs, fr⟩ i s).2 ∧
      σ' = upd (upd σ KV (some (.row sv 56 3 ((vs ++ (FS.nxt ⟨cs, vs, fr⟩ i s).1).map Vt.av) 0))) KB (some (.box g 105 [.own KC svC, .own KV sv, iv (if s.k = 1 then fr + 1 else fr : Nat)] false)) := by
  have mB := lents_at hB
  have mV := lents_at hV
  have mC := lents_at hC
  simp only [Ent.sh, AV.shL, AV.sh] at mB mV mC
  have en : FS.nxt ⟨cs, vs, fr⟩ i s = ([(1, (i : Int), 0), (2, (i : Int), 1), (2, (i : Int), 2)], (varM (vs.length + 1), varM (vs.length + 2))) := by
    unfold FS.nxt; simp only [hk]; rfl
  rw [en]
  simp only [if_neg (show ¬ s.k = 1 by omega)]
  have hl1 : (vs ++ [((1 : Int), (i : Int), (0 : Int))]).length = vs.length + 1 := by simp
  obtain ⟨k, nm, ar, r, rl, rd⟩ := s
  simp only at hk
  subst hk
  refine acall_lents Tryz.func52 rfl Tryz.ntmps52 Tryz.results52 Tryz.call52 (by rfl) (by simp) ?_
  (focus (refine wkad (w_a mB (w_a mV (w_a mC (w_a @lents_lt w_t)))) w_t w_t ?_; (repeat' first | exact w_t | apply w_l); all_goals intros))
  refine o_fresh ((cbVariable _ (KB + 1000) (KC + 1000) (KV + 1000) g svC svV vs fr 1 (i : Int) 0 (by (simp (disch := omega) only [go_sem, mB, mV, if_neg, if_pos] <;> repeat' first | rfl | refine ⟨?_, ?_⟩)) (by (simp (disch := omega) only [go_sem, mB, mV, if_neg, if_pos] <;> repeat' first | rfl | refine ⟨?_, ?_⟩)) (by omega) (by omega))) ?_
  intro sv1
  (focus (refine wkad (w_a mB (w_a mV (w_a mC (w_a @lents_lt w_t)))) w_t w_t ?_; (repeat' first | exact w_t | apply w_l); all_goals intros))
  refine o_fresh ((cbDep _ (KB + 1000) (KC + 1000) (KV + 1000) g svC sv1 (vs ++ [(1, (i : Int), 0)]) fr i 1 (by (simp (disch := omega) only [go_sem, mB, mV, if_neg, if_pos] <;> repeat' first | rfl | refine ⟨?_, ?_⟩)) (by (simp (disch := omega) only [go_sem, mB, mV, if_neg, if_pos, List.map_append, List.map_cons, List.map_nil] <;> repeat' first | rfl | refine ⟨?_, ?_⟩)) (by rw [hl1]; omega) (by omega) (by omega))) ?_
  intro sv2
  rw [hl1]
  (focus (refine wkad (w_a mB (w_a mV (w_a mC (w_a @lents_lt w_t)))) w_t w_t ?_; (repeat' first | exact w_t | apply w_l); all_goals intros))
  simp (disch := omega) only [go_sem]
  refine backS (Sub.refl _) ⟨sv2, rfl, rfl⟩ ?_
  simp only [List.append_assoc, List.cons_append, List.nil_append]
  intro k
  by_cases hk1 : k = KB
  · rw [hk1]
    simp (disch := omega) only [upd_at, if_pos, if_neg, Option.map_some, Ent.sh, AV.shL, AV.sh]
    try rfl
  · by_cases hk2 : k = KV
    · rw [hk2]
      simp (disch := omega) only [upd_at, if_pos, if_neg, Option.map_some, Ent.sh, AV.shL, AV.sh]
      try rfl
    · simp (disch := omega) only [upd_at, if_neg]
      exact Agr.start σ k

set_option maxHeartbeats 8000000 in
theorem cbStep7 (σ : Mem) (KB KC KV g : Nat) (svC svV : Value) (cs : List (Po × Po)) (vs : List Vt) (fr : Nat) (i : Nat) (s : RS) (hB : σ KB = some (.box g 105 [.own KC svC, .own KV svV, iv fr] false)) (hV : σ KV = some (.row svV 56 3 (vs.map Vt.av) 0)) (hC : σ KC = some (.row svC 72 2 (cs.map coA) 0)) (hBV : KB ≠ KV) (hBC : KB ≠ KC) (hVC : KV ≠ KC) (hl : vs.length ≤ 64) (hf : fr ≤ 100) (hk : s.k ≠ 1 ∧ s.k ≠ 2 ∧ s.k ≠ 3 ∧ s.k ≠ 4 ∧ s.k ≠ 5 ∧ s.k ≠ 6) : ACall Tryz.prog 52 [.pbox KB g 0, s.av, iv i] σ fun r σ' => ∃ sv, r = coA (FS.nxt ⟨cs, vs, fr⟩ i s).2 ∧
      σ' = upd (upd σ KV (some (.row sv 56 3 ((vs ++ (FS.nxt ⟨cs, vs, fr⟩ i s).1).map Vt.av) 0))) KB (some (.box g 105 [.own KC svC, .own KV sv, iv (if s.k = 1 then fr + 1 else fr : Nat)] false)) := by
  have mB := lents_at hB
  have mV := lents_at hV
  have mC := lents_at hC
  simp only [Ent.sh, AV.shL, AV.sh] at mB mV mC
  have en : FS.nxt ⟨cs, vs, fr⟩ i s = ([(2, (i : Int), 0), (2, (i : Int), 1)], (varM vs.length, varM (vs.length + 1))) := by
    unfold FS.nxt; simp only; rw [if_neg hk.1, if_neg hk.2.1, if_neg hk.2.2.1, if_neg hk.2.2.2.1, if_neg hk.2.2.2.2.1, if_neg hk.2.2.2.2.2]
  rw [en]
  simp only [if_neg hk.1]
  obtain ⟨k, nm, ar, r, rl, rd⟩ := s
  simp only at hk
  obtain ⟨k1, k2, k3, k4, k5, k6⟩ := hk
  refine acall_lents Tryz.func52 rfl Tryz.ntmps52 Tryz.results52 Tryz.call52 (by rfl) (by simp) ?_
  (focus (refine wkad (w_a mB (w_a mV (w_a mC (w_a @lents_lt w_t)))) w_t w_t ?_; (repeat' first | exact w_t | apply w_l); all_goals intros))
  refine o_fresh ((cbDep _ (KB + 1000) (KC + 1000) (KV + 1000) g svC svV vs fr i 0 (by (simp (disch := omega) only [go_sem, mB, mV, if_neg, if_pos] <;> repeat' first | rfl | refine ⟨?_, ?_⟩)) (by (simp (disch := omega) only [go_sem, mB, mV, if_neg, if_pos] <;> repeat' first | rfl | refine ⟨?_, ?_⟩)) (by omega) (by omega) (by omega))) ?_
  intro sv2
  (focus (refine wkad (w_a mB (w_a mV (w_a mC (w_a @lents_lt w_t)))) w_t w_t ?_; (repeat' first | exact w_t | apply w_l); all_goals intros))
  simp (disch := omega) only [go_sem]
  refine backS (Sub.refl _) ⟨sv2, rfl, rfl⟩ ?_
  simp only [Int.zero_add]
  intro k
  by_cases hk1 : k = KB
  · rw [hk1]
    simp (disch := omega) only [upd_at, if_pos, if_neg, Option.map_some, Ent.sh, AV.shL, AV.sh]
    try rfl
  · by_cases hk2 : k = KV
    · rw [hk2]
      simp (disch := omega) only [upd_at, if_pos, if_neg, Option.map_some, Ent.sh, AV.shL, AV.sh]
      try rfl
    · simp (disch := omega) only [upd_at, if_neg]
      exact Agr.start σ k

end Go.Proofs.YtbgmnobnaplmlaaGreat
end
