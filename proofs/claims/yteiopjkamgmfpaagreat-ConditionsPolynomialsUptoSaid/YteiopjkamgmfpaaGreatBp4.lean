/- Contracts of the functions that the law reaches, and the rules by which they are walked. They say what a call hands back for every input within the bounds that each names; no other condition. -/
import Derived.Test.YteiopjkamgmfpaaGreatBp3
import Derived.Laws.RangeString
import Derived.Lib.OthersKept
import Derived.Laws.Strings
section
namespace Go.Proofs.YteiopjkamgmfpaaGreat
open Go Go.RowKit Go.Pg
set_option linter.unusedSimpArgs false
set_option linter.unusedVariables false
set_option maxRecDepth 20000
attribute [local go_sem] Tryz.underlying49 Tryz.underlying3 Tryz.underlying129 Tryz.underlying91 Tryz.underlying4 Tryz.underlying51 Tryz.underlying53 Tryz.underlying35 Tryz.underlying192 sz3 by3 z3 szL byL zL szB zB szNat zNat szInt zInt szRat zRat szShape zShape eqShape Tryz.underlying193
attribute [-bool_to_prop] Bool.and_eq_decide Bool.or_eq_decide Bool.decide_beq_decide decide_eq_decide
theorem intOf (n : Nat) (hn : n < 9223372036854775808) : Pure Tryz.prog 94 [.v (.int .i64 (n : Int))] (intA false n) := by
  have l4 : (toL n).length ≤ 4 := toL_len_lt.2 (by omega)
  have hm := intMade false n (by omega)
  rw [intZ_of, Bool.false_and] at hm
  refine pure_intro (tok := 0) Tryz.func94 rfl Tryz.ntmps94 Tryz.results94 Tryz.call94 (by rfl) (by simp) ?_
  (focus (refine wkvp w_t (w_a (natOf n (by omega)) (w_a hm w_t)) ?_; (repeat' first | exact w_t | apply w_l); all_goals intros))
  simp (disch := omega) only [go_sem]

theorem ratUnit : Pure Tryz.prog 95 [] (lim (toL 1)) := by
  rw [toL_one]
  refine pure_intro (tok := 0) Tryz.func95 rfl Tryz.ntmps95 Tryz.results95 Tryz.call95 (by rfl) (by simp) ?_
  (focus (refine wkvp w_t w_t ?_; (repeat' first | exact w_t | apply w_l); all_goals intros))
  exact gC

theorem ratWhole (n : Nat) : Pure Tryz.prog 151 [lim (toL n)] (intA false n) := by
  refine pure_intro (tok := 0) Tryz.func151 rfl Tryz.ntmps151 Tryz.results151 Tryz.call151 (by rfl) (by simp) ?_
  (focus (refine wkvp w_t w_t ?_; (repeat' first | exact w_t | apply w_l); all_goals intros))
  simp (disch := omega) only [go_sem]

theorem ratOne (n : Nat) (hn : (toL n).length ≤ 100000000) : Pure Tryz.prog 147 [lim (toL n)] (.v (.bool (decide (n = 1)))) := by
  by_cases h0 : n = 0
  · subst h0
    rw [toL_zero]
    refine pure_intro (tok := 0) Tryz.func147 rfl Tryz.ntmps147 Tryz.results147 Tryz.call147 (by rfl) (by simp) ?_
    (focus (refine wkvp w_t w_t ?_; (repeat' first | exact w_t | apply w_l); all_goals intros))
    simp (disch := omega) only [go_sem, Bool.and_self]
  · have hd : decide (n = 1) = (((((toL (n / 65536)).length + 1 : Nat) : Int) == 1) && (((n % 65536 : Nat) : Int) == 1)) := by
      have hp := @toL_len_pos (n / 65536)
      rw [Bool.eq_iff_iff]
      simp only [decide_eq_true_eq, Bool.and_eq_true, beq_iff_eq]
      omega
    rw [toL_pos (by omega), hd]
    refine pure_intro (tok := 0) Tryz.func147 rfl Tryz.ntmps147 Tryz.results147 Tryz.call147 (by rfl) (by simp) ?_
    (focus (refine wkvp (w_a @u16s_c w_t) w_t ?_; (repeat' first | exact w_t | apply w_l); all_goals intros))
    simp (disch := omega) only [go_sem]

theorem ratPartsA (s : Bool) (n d : Nat) (h2 : (toL d).length ≤ 10000000) (h0 : d ≠ 0) : Pure Tryz.prog 82 [ratA s n d] (.tup [intA s n, lim (toL d)]) := by
  have hb : bitsN d ≠ 0 := fun e => h0 (bitsN_zero.1 e)
  refine pure_intro (tok := 0) Tryz.func82 rfl Tryz.ntmps82 Tryz.results82 Tryz.call82 (by rfl) (by simp) ?_
  (repeat' (first | (with_reducible first | refine stp ?_ | apply gx1 | apply gx2 | apply gx3 | apply gx4 | apply gx5 | apply gx6 | apply gx7 | apply gy8 | apply gz2 | apply gz3 | refine gw0 (nBits d (by omega)) ?_ ?_ | refine gw3 (nBits d (by omega)) ?_ ?_ ?_) | (with_reducible refine all_v ?_; intro _) | ((with_reducible refine gE ?_); (try simp (disch := omega) only [go_sem]) <;> first | rfl | omega) | with_reducible refine t_in_other (by decide) ?_ | ((with_reducible apply gy1); iterate 3 focus rfl) | ((with_reducible apply gy2); iterate 3 focus rfl) | ((with_reducible apply gy3); iterate 2 focus rfl) | ((with_reducible apply gy4); iterate 1 focus rfl) | ((with_reducible apply gy5); iterate 4 focus rfl) | ((with_reducible apply gy5c); iterate 4 focus rfl) | ((with_reducible apply gy6); iterate 4 focus rfl) | ((with_reducible apply d_bar); iterate 3 focus rfl) | ((with_reducible apply q_pub); iterate 1 focus rfl) | ((with_reducible apply gy7); iterate 1 focus rfl) | ((with_reducible apply gy9); (focus ((with_reducible refine gE ?_); (try simp (disch := omega) only [go_sem]) <;> rfl))) | ((with_reducible apply gz1); (focus first | rfl | (simp (disch := omega) only [go_sem]; done))) | ((with_reducible apply r_drawD (pickR []) [] [2]); (focus kernel_rfl); (focus rfl); (focus kernel_rfl); (focus (simp only [List.length_cons, List.length_nil, Nat.reduceAdd]; rfl)))))
  simp (disch := omega) only [go_sem]
theorem ratParts (q : Rat) {k : Nat} (h : Sz q k) (hk : k ≤ 10000000) : Pure Tryz.prog 82 [ratQ q] (.tup [intZ q.num, lim (toL q.den)]) :=
  ratPartsA _ _ _ (Nat.le_trans h.2 hk) q.den_nz

set_option maxHeartbeats 1000000 in
theorem ratReduced (s : Bool) (n m : Nat) (hn : (toL n).length ≤ 10000000) (hm : (toL m).length ≤ 10000000) (h0 : m ≠ 0) : Pure Tryz.prog 148 [intA s n, lim (toL m)] (ratQ (mkRat (zI s n) m)) := by
  have cn := intNorm s n (by omega)
  have hz := zI_natAbs s n
  rw [ratQ_mk _ _ h0]
  generalize zI s n = z at *
  subst hz
  have hmp := toL_len_pos.2 (Nat.pos_of_ne_zero h0)
  have g0 : Nat.gcd z.natAbs m ≠ 0 := Nat.ne_of_gt (Nat.gcd_pos_of_pos_right _ (by omega))
  have hg : (toL (Nat.gcd z.natAbs m)).length ≤ 10000000 := Nat.le_trans (lg_mono (Nat.le_of_dvd (by omega) (Nat.gcd_dvd_right _ _))) hm
  have cg := nGcd z.natAbs m (by omega) (by omega)
  have c1 := ratOne m (by omega)
  have c2 := ratOne (Nat.gcd z.natAbs m) (by omega)
  by_cases hz0 : z.natAbs = 0
  · have hzz : z = 0 := by omega
    subst hzz
    have l0 : (toL 0).length = 0 := by rw [toL_zero]; rfl
    have n0 : Int.natAbs 0 = 0 := rfl
    have hd : decide ((0 : Int) < 0) = false := rfl
    have cn : Pure Tryz.prog 176 [intA s 0] (.agg [.v (.bool false), lim (toL 0)]) := cn
    rw [n0] at hn ⊢
    rw [Nat.gcd_zero_left, Nat.zero_div, Nat.div_self (by omega), hd]
    refine pure_vkR (r := .agg [.v (.bool false), .v (.slice none 0 0), lim (toL 1)]) ?_ (.aggL (.cons (.refl _) (.cons ?_ (VkL.refl _))))
    · refine pure_intro (tok := 0) Tryz.func148 rfl Tryz.ntmps148 Tryz.results148 Tryz.call148 (by rfl) (by simp) ?_
      (focus (refine wkvp (w_a l0 w_t) (w_a (nNorm m (by omega)) (w_a cn (w_a ratUnit w_t))) ?_; (repeat' first | exact w_t | apply w_l); all_goals intros))
      simp (disch := omega) only [go_sem]
    · show Vk _ (.sl 1 (u16s (toL 0)))
      rw [toL_zero]
      exact .nil 1
  · have hzp := toL_len_pos.2 (Nat.pos_of_ne_zero hz0)
    by_cases hm1 : m = 1
    · subst hm1
      rw [Nat.gcd_one_right, Nat.div_one, Nat.div_one]
      refine pure_intro (tok := 0) Tryz.func148 rfl Tryz.ntmps148 Tryz.results148 Tryz.call148 (by rfl) (by simp) ?_
      (focus (refine wkvp w_t (w_a (nNorm 1 (by omega)) (w_a cn (w_a c1 w_t))) ?_; (repeat' first | exact w_t | apply w_l); all_goals intros))
      simp (disch := omega) only [go_sem]
    · have d1 : decide (m = 1) = false := decide_eq_false hm1
      rw [d1] at c1
      by_cases hg1 : Nat.gcd z.natAbs m = 1
      · have d2 : decide (Nat.gcd z.natAbs m = 1) = true := decide_eq_true hg1
        rw [d2] at c2
        rw [hg1, Nat.div_one, Nat.div_one]
        refine pure_intro (tok := 0) Tryz.func148 rfl Tryz.ntmps148 Tryz.results148 Tryz.call148 (by rfl) (by simp) ?_
        (focus (refine wkvp w_t (w_a (nNorm m (by omega)) (w_a cn (w_a c1 (w_a cg (w_a c2 w_t))))) ?_; (repeat' first | exact w_t | apply w_l); all_goals intros))
        simp (disch := omega) only [go_sem]
      · have d2 : decide (Nat.gcd z.natAbs m = 1) = false := decide_eq_false hg1
        rw [d2] at c2
        refine pure_intro (tok := 0) Tryz.func148 rfl Tryz.ntmps148 Tryz.results148 Tryz.call148 (by rfl) (by simp) ?_
        (focus (refine wkvd w_t (w_a (nNorm m (by omega)) (w_a cn (w_a c1 (w_a cg (w_a c2 (w_a (nDivMod z.natAbs (Nat.gcd z.natAbs m) (by omega) (by omega) g0) (w_a (nDivMod m (Nat.gcd z.natAbs m) (by omega) (by omega) g0) w_t))))))) w_t ?_; (repeat' first | exact w_t | apply w_l); all_goals intros))
        simp (disch := omega) only [go_sem]


theorem ratSign (q : Rat) {k : Nat} (h : Sz q k) (hk : k ≤ 10000000) : Pure Tryz.prog 41 [ratQ q] (.v (.int .i64 q.num.sign)) := by
  have h1 := h.1
  refine pure_intro (tok := 0) Tryz.func41 rfl Tryz.ntmps41 Tryz.results41 Tryz.call41 (by rfl) (by simp) ?_
  (focus (refine wkvp w_t (w_a (ratParts q h hk) (w_a (iSign q.num (by omega)) w_t)) ?_; (repeat' first | exact w_t | apply w_l); all_goals intros))
  simp (disch := omega) only [go_sem]


theorem ratSumA (s t : Bool) (n m : Nat) (hn : (toL n).length ≤ 100000000) (hm : (toL m).length ≤ 100000000) : Pure Tryz.prog 149 [.sl 2 [intA s n, intA t m]] (intZ (zI s n + zI t m)) := by
  have cz := iAdd0 s n hn
  have ca := iAddA (zI s n) t m (by rw [zI_natAbs]; exact hn) hm
  generalize zI s n = z at *
  generalize zI t m = w at *
  refine pure_intro (tok := 0) Tryz.func149 rfl Tryz.ntmps149 Tryz.results149 Tryz.call149 (by rfl) (by simp) ?_
  (focus (refine wkvp w_t w_t ?_; (repeat' first | exact w_t | apply w_l); all_goals intros))
  refine r_loopE (ι := Nat) (fun k e mm => k ≤ 2 ∧ e 6 = .sl 2 [intA s n, intA t m] ∧ e 7 = .v (.int .i64 2) ∧ e 8 = .v (.int .i64 (k : Int)) ∧ ∃ g2 g, e 2 = .pbox 2 g2 0 ∧ mm 2 = some (.box g2 51 [.v (.bool false), .v (.slice none 0 0)] false) ∧ e 3 = .pbox 3 g 0 ∧ mm 3 = some (.box g 51 (sumC z w k) false)) (fun k => 2 - k) 0 (by rfl) ?_ ?_
  · rintro k e mm ⟨hk, e6, e7, e8, g2, g, e2, m2, e3, m3⟩
    match k, hk with
    | 0, _ =>
      simp only [sumC] at m3
      (focus (refine wkvp (w_a e6 (w_a e7 (w_a e8 (w_a e2 (w_a m2 (w_a e3 (w_a m3 (w_a @Int.natCast_zero w_t)))))))) (w_a cz w_t) ?_; (repeat' first | exact w_t | apply w_l); all_goals intros))
      exact ⟨1, ⟨by omega, by exact gW e6, by exact gW e7, by exact gW e8, g2, g, by exact gW e2, by exact gW m2, by exact gW e3, by (simp (disch := omega) only [go_sem, m3, sumC] <;> repeat' first | rfl | refine ⟨?_, ?_⟩)⟩, by omega⟩
    | 1, _ =>
      simp only [sumC] at m3
      (focus (refine wkvp (w_a e6 (w_a e7 (w_a e8 (w_a e2 (w_a m2 (w_a e3 (w_a m3 (w_a @Int.natCast_one w_t)))))))) (w_a ca w_t) ?_; (repeat' first | exact w_t | apply w_l); all_goals intros))
      exact ⟨2, ⟨by omega, by exact gW e6, by exact gW e7, by exact gW e8, g2, g, by exact gW e2, by exact gW m2, by exact gW e3, by (simp (disch := omega) only [go_sem, m3, sumC] <;> repeat' first | rfl | refine ⟨?_, ?_⟩)⟩, by omega⟩
    | 2, _ =>
      simp only [sumC] at m3
      (focus (refine wkvp (w_a e6 (w_a e7 (w_a e8 (w_a e2 (w_a m2 (w_a e3 (w_a m3 w_t))))))) w_t ?_; (repeat' first | exact w_t | apply w_l); all_goals intros))
      simp (disch := omega) only [go_sem, e2]
  · exact ⟨by omega, by exact gC, by exact gC, by exact gC, _, _, by exact gC, by exact gC, by exact gC, by (simp (disch := omega) only [go_sem, sumC] <;> repeat' first | rfl | refine ⟨?_, ?_⟩)⟩
theorem ratSum (z w : Int) (hz : (toL z.natAbs).length ≤ 100000000) (hw : (toL w.natAbs).length ≤ 100000000) : Pure Tryz.prog 149 [.sl 2 [intZ z, intZ w]] (intZ (z + w)) := by
  have := ratSumA (decide (z < 0)) (decide (w < 0)) z.natAbs w.natAbs hz hw
  rwa [zI_abs, zI_abs] at this

end Go.Proofs.YteiopjkamgmfpaaGreat
end

section
namespace Go.Proofs.YteiopjkamgmfpaaGreat
open Go Go.RowKit Go.Pg
set_option linter.unusedSimpArgs false
set_option linter.unusedVariables false
set_option maxRecDepth 20000
attribute [local go_sem] Tryz.underlying49 Tryz.underlying3 Tryz.underlying129 Tryz.underlying91 Tryz.underlying4 Tryz.underlying51 Tryz.underlying53 Tryz.underlying35 sz3 by3 z3 szL byL zL szB zB szNat zNat szInt zInt szRat zRat Tryz.underlying193
attribute [-bool_to_prop] Bool.and_eq_decide Bool.or_eq_decide Bool.decide_beq_decide decide_eq_decide

theorem ratOf (n : Nat) (hn : n < 9223372036854775808) : Pure Tryz.prog 56 [.v (.int .i64 (n : Int))] (ratQ (n : Rat)) := by
  refine pure_intro (tok := 0) Tryz.func56 rfl Tryz.ntmps56 Tryz.results56 Tryz.call56 (by rfl) (by simp) ?_
  have hd : decide ((n : Rat).num < 0) = false := decide_eq_false (by show ¬ ((n : Int) < 0); omega)
  have hn' : (n : Rat).num.natAbs = n := Int.natAbs_natCast n
  unfold ratQ
  rw [hd, hn', Rat.den_natCast]
  (focus (refine wkvp w_t (w_a (intOf n hn) (w_a ratUnit w_t)) ?_; (repeat' first | exact w_t | apply w_l); all_goals intros))
  simp (disch := omega) only [go_sem]

theorem ratMul (a b : Rat) {j k : Nat} (ha : Sz a j) (hb : Sz b k) (hj : j ≤ 2000000) (hk : k ≤ 2000000) : Pure Tryz.prog 135 [ratQ a, ratQ b] (ratQ (a * b)) := by
  obtain ⟨a1, a2⟩ := id ha
  obtain ⟨b1, b2⟩ := id hb
  have l1 : (toL (a.num * b.num).natAbs).length ≤ j + k := by rw [Int.natAbs_mul]; exact Nat.le_trans (lg_mul _ _) (by omega)
  have l2 : (toL (a.den * b.den)).length ≤ j + k := Nat.le_trans (lg_mul _ _) (by omega)
  have c := ratReduced (decide (a.num * b.num < 0)) (a.num * b.num).natAbs (a.den * b.den) (by omega) (by omega) (Nat.mul_ne_zero a.den_nz b.den_nz)
  rw [zI_abs, ← Rat.mul_def'] at c
  refine pure_intro (tok := 0) Tryz.func135 rfl Tryz.ntmps135 Tryz.results135 Tryz.call135 (by rfl) (by simp) ?_
  (focus (refine wkvp w_t (w_a (ratParts a ha (by omega)) (w_a (ratParts b hb (by omega)) (w_a (iMul a.num b.num (by omega) (by omega)) (w_a (nMul a.den b.den (by omega) (by omega)) (w_a c w_t))))) ?_; (repeat' first | exact w_t | apply w_l); all_goals intros))
  simp (disch := omega) only [go_sem]

set_option maxHeartbeats 1000000 in
theorem ratAddA (s t : Bool) (n d m c : Nat) {j k : Nat} (a1 : (toL n).length ≤ j) (a2 : (toL d).length ≤ j) (b1 : (toL m).length ≤ k) (b2 : (toL c).length ≤ k) (hd0 : d ≠ 0) (hc0 : c ≠ 0) (hj : j ≤ 2000000) (hk : k ≤ 2000000) :
    Pure Tryz.prog 93 [ratA s n d, ratA t m c] (ratQ (mkRat (zI s n) d + mkRat (zI t m) c)) := by
  have oa := ratOne d (by omega)
  have ob := ratOne c (by omega)
  have l2 : (toL (d * c)).length ≤ j + k := Nat.le_trans (lg_mul _ _) (by omega)
  have z1 := zI_natAbs s n
  have w1 := zI_natAbs t m
  have pa := ratPartsA s n d (by omega) hd0
  have pb := ratPartsA t m c (by omega) hc0
  have eq : mkRat (zI s n) d + mkRat (zI t m) c = mkRat (zI s n * c + zI t m * d) (d * c) := Rat.mkRat_add_mkRat _ _ hd0 hc0
  have cs0 := ratSumA s t n m (by omega) (by omega)
  have cm1 : Pure Tryz.prog 150 [intA s n, intA false c] (intZ (zI s n * c)) := intMul s false n c (by omega) (by omega)
  have cm2 : Pure Tryz.prog 150 [intA t m, intA false d] (intZ (zI t m * d)) := intMul t false m d (by omega) (by omega)
  rw [eq]
  have x1 : (toL (zI s n * c).natAbs).length ≤ j + k := by
    rw [Int.natAbs_mul, Int.natAbs_natCast, z1]
    exact Nat.le_trans (lg_mul _ _) (by omega)
  have x2 : (toL (zI t m * d).natAbs).length ≤ j + k := by
    rw [Int.natAbs_mul, Int.natAbs_natCast, w1]
    exact Nat.le_trans (lg_mul _ _) (by omega)
  by_cases h1 : d = 1 ∧ c = 1
  · obtain ⟨h1, h2⟩ := h1
    have l1 : (toL (zI s n + zI t m).natAbs).length ≤ j + k + 1 := by
      have h3 := lg_mono (natAbs_add_le (zI s n) (zI t m))
      have h4 := lg_add (zI s n).natAbs (zI t m).natAbs
      rw [z1, w1] at h3 h4
      omega
    have c := ratReduced (decide (zI s n + zI t m < 0)) (zI s n + zI t m).natAbs 1 (by omega) (by rw [lg_one]; omega) (by omega)
    rw [zI_abs] at c
    subst h1; subst h2
    rw [decide_eq_true rfl] at oa ob
    have e1 : zI s n * ((1 : Nat) : Int) + zI t m * ((1 : Nat) : Int) = zI s n + zI t m := by omega
    rw [e1, Nat.mul_one]
    refine pure_intro (tok := 0) Tryz.func93 rfl Tryz.ntmps93 Tryz.results93 Tryz.call93 (by rfl) (by simp) ?_
    (repeat' (first | (with_reducible first | refine stp ?_ | apply gx1 | apply gx2 | apply gx3 | apply gx4 | apply gx5 | apply gx6 | apply gx7 | apply gy8 | apply gz2 | apply gz3 | refine gw0 (pa) ?_ ?_ | refine gw3 (pa) ?_ ?_ ?_ | refine gw0 (pb) ?_ ?_ | refine gw3 (pb) ?_ ?_ ?_ | refine gw0 (oa) ?_ ?_ | refine gw3 (oa) ?_ ?_ ?_ | refine gw0 (ob) ?_ ?_ | refine gw3 (ob) ?_ ?_ ?_ | apply gw1 (cs0) | refine gw0 (c) ?_ ?_ | refine gw3 (c) ?_ ?_ ?_) | (with_reducible refine all_v ?_; intro _) | ((with_reducible refine gE ?_); (try simp (disch := omega) only [go_sem]) <;> first | rfl | omega) | with_reducible refine t_in_other (by decide) ?_ | ((with_reducible apply gy1); iterate 3 focus rfl) | ((with_reducible apply gy2); iterate 3 focus rfl) | ((with_reducible apply gy3); iterate 2 focus rfl) | ((with_reducible apply gy4); iterate 1 focus rfl) | ((with_reducible apply gy5); iterate 4 focus rfl) | ((with_reducible apply gy5c); iterate 4 focus rfl) | ((with_reducible apply gy6); iterate 4 focus rfl) | ((with_reducible apply d_bar); iterate 3 focus rfl) | ((with_reducible apply q_pub); iterate 1 focus rfl) | ((with_reducible apply gy7); iterate 1 focus rfl) | ((with_reducible apply gy9); (focus ((with_reducible refine gE ?_); (try simp (disch := omega) only [go_sem]) <;> rfl))) | ((with_reducible apply gz1); (focus first | rfl | (simp (disch := omega) only [go_sem]; done))) | ((with_reducible apply r_drawD (pickR []) [] []); (focus kernel_rfl); (focus rfl); (focus kernel_rfl); (focus (simp only [List.length_cons, List.length_nil, Nat.reduceAdd]; rfl)))))
    simp (disch := omega) only [go_sem]
  · have l1 : (toL (zI s n * c + zI t m * d).natAbs).length ≤ j + k + 1 := by
      have h3 := lg_mono (natAbs_add_le (zI s n * c) (zI t m * d))
      have h4 := lg_add (zI s n * c).natAbs (zI t m * d).natAbs
      omega
    have cr := ratReduced (decide (zI s n * c + zI t m * d < 0)) (zI s n * c + zI t m * d).natAbs (d * c) (by omega) (by omega) (Nat.mul_ne_zero hd0 hc0)
    rw [zI_abs] at cr
    have cs := ratSum (zI s n * c) (zI t m * d) (by omega) (by omega)
    have cw1 := ratWhole c
    have cw2 := ratWhole d
    have cm := nMul d c (by omega) (by omega)
    generalize zI s n * (c : Int) = y1 at *
    generalize zI t m * (d : Int) = y2 at *
    by_cases h2 : d = 1
    · have h3 : c ≠ 1 := fun h => h1 ⟨h2, h⟩
      rw [decide_eq_true h2] at oa
      rw [decide_eq_false h3] at ob
      refine pure_intro (tok := 0) Tryz.func93 rfl Tryz.ntmps93 Tryz.results93 Tryz.call93 (by rfl) (by simp) ?_
      (repeat' (first | (with_reducible first | refine stp ?_ | apply gx1 | apply gx2 | apply gx3 | apply gx4 | apply gx5 | apply gx6 | apply gx7 | apply gy8 | apply gz2 | apply gz3 | refine gw0 (pa) ?_ ?_ | refine gw3 (pa) ?_ ?_ ?_ | refine gw0 (pb) ?_ ?_ | refine gw3 (pb) ?_ ?_ ?_ | refine gw0 (oa) ?_ ?_ | refine gw3 (oa) ?_ ?_ ?_ | refine gw0 (ob) ?_ ?_ | refine gw3 (ob) ?_ ?_ ?_ | refine gw0 (cw1) ?_ ?_ | refine gw3 (cw1) ?_ ?_ ?_ | refine gw0 (cm1) ?_ ?_ | refine gw3 (cm1) ?_ ?_ ?_ | refine gw0 (cw2) ?_ ?_ | refine gw3 (cw2) ?_ ?_ ?_ | refine gw0 (cm2) ?_ ?_ | refine gw3 (cm2) ?_ ?_ ?_ | refine gw0 (cs) ?_ ?_ | refine gw3 (cs) ?_ ?_ ?_ | refine gw0 (cm) ?_ ?_ | refine gw3 (cm) ?_ ?_ ?_ | refine gw0 (cr) ?_ ?_ | refine gw3 (cr) ?_ ?_ ?_) | (with_reducible refine all_v ?_; intro _) | ((with_reducible refine gE ?_); (try simp (disch := omega) only [go_sem]) <;> first | rfl | omega) | with_reducible refine t_in_other (by decide) ?_ | ((with_reducible apply gy1); iterate 3 focus rfl) | ((with_reducible apply gy2); iterate 3 focus rfl) | ((with_reducible apply gy3); iterate 2 focus rfl) | ((with_reducible apply gy4); iterate 1 focus rfl) | ((with_reducible apply gy5); iterate 4 focus rfl) | ((with_reducible apply gy5c); iterate 4 focus rfl) | ((with_reducible apply gy6); iterate 4 focus rfl) | ((with_reducible apply d_bar); iterate 3 focus rfl) | ((with_reducible apply q_pub); iterate 1 focus rfl) | ((with_reducible apply gy7); iterate 1 focus rfl) | ((with_reducible apply gy9); (focus ((with_reducible refine gE ?_); (try simp (disch := omega) only [go_sem]) <;> rfl))) | ((with_reducible apply gz1); (focus first | rfl | (simp (disch := omega) only [go_sem]; done))) | ((with_reducible apply r_drawD (pickR [(2, intA false c), (3, intZ y1), (6, intA false d), (7, intZ y2), (8, .sl 2 [intZ y1, intZ y2]), (9, intZ (y1 + y2)), (12, lim (toL (d * c))), (13, ratQ (mkRat (y1 + y2) (d * c)))]) [] [4]); (focus kernel_rfl); (focus rfl); (focus kernel_rfl); (focus (simp only [List.length_cons, List.length_nil, Nat.reduceAdd]; rfl)))))
      simp (disch := omega) only [go_sem]
    · rw [decide_eq_false h2] at oa
      refine pure_intro (tok := 0) Tryz.func93 rfl Tryz.ntmps93 Tryz.results93 Tryz.call93 (by rfl) (by simp) ?_
      (repeat' (first | (with_reducible first | refine stp ?_ | apply gx1 | apply gx2 | apply gx3 | apply gx4 | apply gx5 | apply gx6 | apply gx7 | apply gy8 | apply gz2 | apply gz3 | refine gw0 (pa) ?_ ?_ | refine gw3 (pa) ?_ ?_ ?_ | refine gw0 (pb) ?_ ?_ | refine gw3 (pb) ?_ ?_ ?_ | refine gw0 (oa) ?_ ?_ | refine gw3 (oa) ?_ ?_ ?_ | refine gw0 (cw1) ?_ ?_ | refine gw3 (cw1) ?_ ?_ ?_ | refine gw0 (cm1) ?_ ?_ | refine gw3 (cm1) ?_ ?_ ?_ | refine gw0 (cw2) ?_ ?_ | refine gw3 (cw2) ?_ ?_ ?_ | refine gw0 (cm2) ?_ ?_ | refine gw3 (cm2) ?_ ?_ ?_ | refine gw0 (cs) ?_ ?_ | refine gw3 (cs) ?_ ?_ ?_ | refine gw0 (cm) ?_ ?_ | refine gw3 (cm) ?_ ?_ ?_ | refine gw0 (cr) ?_ ?_ | refine gw3 (cr) ?_ ?_ ?_) | (with_reducible refine all_v ?_; intro _) | ((with_reducible refine gE ?_); (try simp (disch := omega) only [go_sem]) <;> first | rfl | omega) | with_reducible refine t_in_other (by decide) ?_ | ((with_reducible apply gy1); iterate 3 focus rfl) | ((with_reducible apply gy2); iterate 3 focus rfl) | ((with_reducible apply gy3); iterate 2 focus rfl) | ((with_reducible apply gy4); iterate 1 focus rfl) | ((with_reducible apply gy5); iterate 4 focus rfl) | ((with_reducible apply gy5c); iterate 4 focus rfl) | ((with_reducible apply gy6); iterate 4 focus rfl) | ((with_reducible apply d_bar); iterate 3 focus rfl) | ((with_reducible apply q_pub); iterate 1 focus rfl) | ((with_reducible apply gy7); iterate 1 focus rfl) | ((with_reducible apply gy9); (focus ((with_reducible refine gE ?_); (try simp (disch := omega) only [go_sem]) <;> rfl))) | ((with_reducible apply gz1); (focus first | rfl | (simp (disch := omega) only [go_sem]; done))) | ((with_reducible apply r_drawD (pickR [(2, intA false c), (3, intZ y1), (6, intA false d), (7, intZ y2), (8, .sl 2 [intZ y1, intZ y2]), (9, intZ (y1 + y2)), (12, lim (toL (d * c))), (13, ratQ (mkRat (y1 + y2) (d * c)))]) [] [4]); (focus kernel_rfl); (focus rfl); (focus kernel_rfl); (focus (simp only [List.length_cons, List.length_nil, Nat.reduceAdd]; rfl)))))
      simp (disch := omega) only [go_sem]
theorem ratAdd (a b : Rat) {j k : Nat} (ha : Sz a j) (hb : Sz b k) (hj : j ≤ 2000000) (hk : k ≤ 2000000) : Pure Tryz.prog 93 [ratQ a, ratQ b] (ratQ (a + b)) := by
  have := ratAddA (decide (a.num < 0)) (decide (b.num < 0)) a.num.natAbs a.den b.num.natAbs b.den ha.1 ha.2 hb.1 hb.2 a.den_nz b.den_nz hj hk
  rwa [zI_abs, zI_abs, Rat.mkRat_self, Rat.mkRat_self] at this

theorem ratSub (a b : Rat) {j k : Nat} (ha : Sz a j) (hb : Sz b k) (hj : j ≤ 2000000) (hk : k ≤ 2000000) : Pure Tryz.prog 134 [ratQ a, ratQ b] (ratQ (a - b)) := by
  have c := ratAddA (decide (a.num < 0)) (!decide (b.num < 0)) a.num.natAbs a.den b.num.natAbs b.den ha.1 ha.2 hb.1 hb.2 a.den_nz b.den_nz hj hk
  have e : zI (!decide (b.num < 0)) b.num.natAbs = -b.num := by
    have := zI_abs b.num
    unfold zI at *
    by_cases h : b.num < 0
    · simp only [decide_eq_true h, Bool.not_true, Bool.false_eq_true, if_false]; omega
    · simp only [decide_eq_false h, Bool.not_false, if_true]; omega
  have e2 : mkRat (-b.num) b.den = -b := by rw [← Rat.neg_mkRat, Rat.mkRat_self]
  rw [zI_abs, e, Rat.mkRat_self, e2, ← Rat.sub_eq_add_neg] at c
  refine pure_intro (tok := 0) Tryz.func134 rfl Tryz.ntmps134 Tryz.results134 Tryz.call134 (by rfl) (by simp) ?_
  (focus (refine wkvp w_t (w_a c w_t) ?_; (repeat' first | exact w_t | apply w_l); all_goals intros))
  simp (disch := omega) only [go_sem]

set_option maxHeartbeats 1000000 in
theorem ratCmp (a b : Rat) {j k : Nat} (ha : Sz a j) (hb : Sz b k) (hj : j ≤ 2000000) (hk : k ≤ 2000000) : Pure Tryz.prog 132 [ratQ a, ratQ b] (.v (.int .i64 (cmpQ a b))) := by
  obtain ⟨a1, a2⟩ := id ha
  obtain ⟨b1, b2⟩ := id hb
  have sa := ratSign a ha (by omega)
  have sb := ratSign b hb (by omega)
  have pa := ratParts a ha (by omega)
  have pb := ratParts b hb (by omega)
  have cm1 := iMulN a.num b.den (by omega) (by omega)
  have cm2 := iMulN b.num a.den (by omega) (by omega)
  have x1 : (toL (a.num * b.den).natAbs).length ≤ j + k := lg_cross a b ha hb
  have x2 : (toL (b.num * a.den).natAbs).length ≤ k + j := lg_cross b a hb ha
  have cc := iCmp (a.num * b.den) (b.num * a.den) (by omega) (by omega)
  have cw1 := ratWhole b.den
  have cw2 := ratWhole a.den
  have dp : (0 : Int) < a.den := by have := a.den_pos; omega
  have ep : (0 : Int) < b.den := by have := b.den_pos; omega
  rw [cmpQ_z]
  have sg : ∀ z : Int, (z.sign = 1 ∧ 0 < z) ∨ (z.sign = 0 ∧ z = 0) ∨ (z.sign = -1 ∧ z < 0) := by
    intro z
    rcases Int.lt_trichotomy z 0 with h | h | h
    · exact .inr (.inr ⟨Int.sign_eq_neg_one_of_neg h, h⟩)
    · exact .inr (.inl ⟨by rw [h]; rfl, h⟩)
    · exact .inl ⟨Int.sign_eq_one_of_pos h, h⟩
  have mp : ∀ z w : Int, 0 < z → 0 < w → 0 < z * w := fun z w => Int.mul_pos
  have mz : ∀ w : Int, 0 * w = 0 := fun w => Int.zero_mul w
  have mn : ∀ z w : Int, z < 0 → 0 < w → z * w < 0 := fun z w => Int.mul_neg_of_neg_of_pos
  have sA : (a.num.sign = 1 → 0 < a.num * b.den) ∧ (a.num.sign = 0 → a.num * b.den = 0) ∧ (a.num.sign = -1 → a.num * b.den < 0) := by
    rcases sg a.num with ⟨h, h'⟩ | ⟨h, h'⟩ | ⟨h, h'⟩
    · exact ⟨fun _ => mp _ _ h' ep, fun h2 => (by omega), fun h2 => (by omega)⟩
    · exact ⟨fun h2 => (by omega), fun _ => (by rw [h']; exact mz _), fun h2 => (by omega)⟩
    · exact ⟨fun h2 => (by omega), fun h2 => (by omega), fun _ => mn _ _ h' ep⟩
  have sB : (b.num.sign = 1 → 0 < b.num * a.den) ∧ (b.num.sign = 0 → b.num * a.den = 0) ∧ (b.num.sign = -1 → b.num * a.den < 0) := by
    rcases sg b.num with ⟨h, h'⟩ | ⟨h, h'⟩ | ⟨h, h'⟩
    · exact ⟨fun _ => mp _ _ h' dp, fun h2 => (by omega), fun h2 => (by omega)⟩
    · exact ⟨fun h2 => (by omega), fun _ => (by rw [h']; exact mz _), fun h2 => (by omega)⟩
    · exact ⟨fun h2 => (by omega), fun h2 => (by omega), fun _ => mn _ _ h' dp⟩
  have ga := sg a.num
  have gb := sg b.num
  generalize a.num * (b.den : Int) = y1 at *
  generalize b.num * (a.den : Int) = y2 at *
  rcases Int.lt_trichotomy a.num.sign b.num.sign with h | h | h
  · have hc : cmpZ y1 y2 = -1 := by
      unfold cmpZ
      rw [if_pos (by omega)]
    rw [hc]
    clear ga gb sA sB
    refine pure_intro (tok := 0) Tryz.func132 rfl Tryz.ntmps132 Tryz.results132 Tryz.call132 (by rfl) (by simp) ?_
    (repeat' (first | (with_reducible first | refine stp ?_ | apply gx1 | apply gx2 | apply gx3 | apply gx4 | apply gx5 | apply gx6 | apply gx7 | apply gy8 | apply gz2 | apply gz3 | refine gw0 (sa) ?_ ?_ | refine gw3 (sa) ?_ ?_ ?_ | refine gw0 (sb) ?_ ?_ | refine gw3 (sb) ?_ ?_ ?_) | (with_reducible refine all_v ?_; intro _) | ((with_reducible refine gE ?_); (try simp (disch := omega) only [go_sem]) <;> first | rfl | omega) | with_reducible refine t_in_other (by decide) ?_ | ((with_reducible apply gy1); iterate 3 focus rfl) | ((with_reducible apply gy2); iterate 3 focus rfl) | ((with_reducible apply gy3); iterate 2 focus rfl) | ((with_reducible apply gy4); iterate 1 focus rfl) | ((with_reducible apply gy5); iterate 4 focus rfl) | ((with_reducible apply gy5c); iterate 4 focus rfl) | ((with_reducible apply gy6); iterate 4 focus rfl) | ((with_reducible apply d_bar); iterate 3 focus rfl) | ((with_reducible apply q_pub); iterate 1 focus rfl) | ((with_reducible apply gy7); iterate 1 focus rfl) | ((with_reducible apply gy9); (focus ((with_reducible refine gE ?_); (try simp (disch := omega) only [go_sem]) <;> rfl))) | ((with_reducible apply gz1); (focus first | rfl | (simp (disch := omega) only [go_sem]; done))) | ((with_reducible apply r_drawD (pickR [(1, .v (.int .i64 a.num.sign)), (3, .v (.int .i64 b.num.sign))]) [] []); (focus kernel_rfl); (focus rfl); (focus kernel_rfl); (focus (simp only [List.length_cons, List.length_nil, Nat.reduceAdd]; rfl)))))
    simp (disch := omega) only [go_sem]
  · refine pure_intro (tok := 0) Tryz.func132 rfl Tryz.ntmps132 Tryz.results132 Tryz.call132 (by rfl) (by simp) ?_
    (focus (refine wkvp w_t (w_a sa (w_a sb w_t)) ?_; (repeat' first | exact w_t | apply w_l); all_goals intros))
    apply r_drawD (pickR [(1, .v (.int .i64 a.num.sign)), (3, .v (.int .i64 b.num.sign))]) [] [] (by kernel_rfl) (by rfl) (by kernel_rfl); (focus (simp only [List.length_cons, List.length_nil, Nat.reduceAdd]; rfl))
    (focus (refine wkud w_t (w_a sa (w_a sb (w_a pa (w_a pb w_t)))) ?_; (repeat' first | exact w_t | apply w_l); all_goals intros))
    apply r_drawD (pickR [(2, intA false b.den), (3, intZ y1), (6, intA false a.den), (7, intZ y2), (8, .v (.int .i64 (cmpZ y1 y2)))]) [] [] (by kernel_rfl) (by rfl) (by kernel_rfl); (focus (simp only [List.length_cons, List.length_nil, Nat.reduceAdd]; rfl))
    (focus (refine wkud w_t (w_a cw1 (w_a cm1 (w_a cw2 (w_a cm2 (w_a cc w_t))))) ?_; (repeat' first | exact w_t | apply w_l); all_goals intros))
    simp (disch := omega) only [go_sem]
  · have hc : cmpZ y1 y2 = 1 := by
      unfold cmpZ
      rw [if_neg (by omega), if_pos (by omega)]
    rw [hc]
    clear ga gb sA sB
    refine pure_intro (tok := 0) Tryz.func132 rfl Tryz.ntmps132 Tryz.results132 Tryz.call132 (by rfl) (by simp) ?_
    (repeat' (first | (with_reducible first | refine stp ?_ | apply gx1 | apply gx2 | apply gx3 | apply gx4 | apply gx5 | apply gx6 | apply gx7 | apply gy8 | apply gz2 | apply gz3 | refine gw0 (sa) ?_ ?_ | refine gw3 (sa) ?_ ?_ ?_ | refine gw0 (sb) ?_ ?_ | refine gw3 (sb) ?_ ?_ ?_) | (with_reducible refine all_v ?_; intro _) | ((with_reducible refine gE ?_); (try simp (disch := omega) only [go_sem]) <;> first | rfl | omega) | with_reducible refine t_in_other (by decide) ?_ | ((with_reducible apply gy1); iterate 3 focus rfl) | ((with_reducible apply gy2); iterate 3 focus rfl) | ((with_reducible apply gy3); iterate 2 focus rfl) | ((with_reducible apply gy4); iterate 1 focus rfl) | ((with_reducible apply gy5); iterate 4 focus rfl) | ((with_reducible apply gy5c); iterate 4 focus rfl) | ((with_reducible apply gy6); iterate 4 focus rfl) | ((with_reducible apply d_bar); iterate 3 focus rfl) | ((with_reducible apply q_pub); iterate 1 focus rfl) | ((with_reducible apply gy7); iterate 1 focus rfl) | ((with_reducible apply gy9); (focus ((with_reducible refine gE ?_); (try simp (disch := omega) only [go_sem]) <;> rfl))) | ((with_reducible apply gz1); (focus first | rfl | (simp (disch := omega) only [go_sem]; done))) | ((with_reducible apply r_drawD (pickR [(1, .v (.int .i64 a.num.sign)), (3, .v (.int .i64 b.num.sign))]) [] []); (focus kernel_rfl); (focus rfl); (focus kernel_rfl); (focus (simp only [List.length_cons, List.length_nil, Nat.reduceAdd]; rfl)))))
    simp (disch := omega) only [go_sem]


end Go.Proofs.YteiopjkamgmfpaaGreat
end

section
namespace Go.Proofs.YteiopjkamgmfpaaGreat
open Go Go.RowKit Go.Pg
set_option linter.unusedSimpArgs false
set_option linter.unusedVariables false
set_option maxRecDepth 20000
attribute [local go_sem] Tryz.underlying49 Tryz.underlying3 Tryz.underlying129 Tryz.underlying91 Tryz.underlying4 Tryz.underlying51 Tryz.underlying53 Tryz.underlying35 sz3 by3 z3 szL byL zL szB zB szNat zNat szInt zInt szRat zRat Tryz.underlying193
attribute [-bool_to_prop] Bool.and_eq_decide Bool.or_eq_decide Bool.decide_beq_decide decide_eq_decide

theorem intZ_neg {z : Int} (h : z < 0) : intZ z = intA true z.natAbs := by unfold intZ; rw [decide_eq_true h]
theorem intZ_pos {z : Int} (h : ¬ z < 0) : intZ z = intA false z.natAbs := by unfold intZ; rw [decide_eq_false h]

theorem zOf' (s : Bool) (n : Nat) (hn : (toL n).length ≤ 100000000) : Pure Tryz.prog 79 [.v (.bool s), lim (toL n)] (intZ (zI s n)) := by
  rw [intZ_of]
  have hp := @toL_len_pos n
  cases s
  · refine pure_intro (tok := 0) Tryz.func79 rfl Tryz.ntmps79 Tryz.results79 Tryz.call79 (by rfl) (by simp) ?_
    (focus (refine wkvp w_t (w_a (rNorm n hn) w_t) ?_; (repeat' first | exact w_t | apply w_l); all_goals intros))
    simp (disch := omega) only [go_sem, Bool.false_and]
  · by_cases h : 0 < n
    · have h2 := hp.2 h
      refine pure_intro (tok := 0) Tryz.func79 rfl Tryz.ntmps79 Tryz.results79 Tryz.call79 (by rfl) (by simp) ?_
      (focus (refine wkvp w_t (w_a (rNorm n hn) w_t) ?_; (repeat' first | exact w_t | apply w_l); all_goals intros))
      simp (disch := omega) only [go_sem, decide_eq_true h]
    · have h2 : ¬ 0 < (toL n).length := fun h3 => h (hp.1 h3)
      refine pure_intro (tok := 0) Tryz.func79 rfl Tryz.ntmps79 Tryz.results79 Tryz.call79 (by rfl) (by simp) ?_
      (focus (refine wkvp w_t (w_a (rNorm n hn) w_t) ?_; (repeat' first | exact w_t | apply w_l); all_goals intros))
      simp (disch := omega) only [go_sem, decide_eq_false h]

theorem zNorm (s : Bool) (n : Nat) (hn : (toL n).length ≤ 100000000) : Pure Tryz.prog 78 [intA s n] (intZ (zI s n)) := by
  refine pure_intro (tok := 0) Tryz.func78 rfl Tryz.ntmps78 Tryz.results78 Tryz.call78 (by rfl) (by simp) ?_
  (focus (refine wkvp w_t (w_a (zOf' s n hn) w_t) ?_; (repeat' first | exact w_t | apply w_l); all_goals intros))
  simp (disch := omega) only [go_sem]
theorem zNormZ (z : Int) (hz : (toL z.natAbs).length ≤ 100000000) : Pure Tryz.prog 78 [intZ z] (intZ z) := by
  have := zNorm (decide (z < 0)) z.natAbs hz
  rwa [zI_abs] at this

theorem zOf (n : Nat) (hn : n < 9223372036854775808) : Pure Tryz.prog 38 [.v (.int .i64 (n : Int))] (intA false n) := by
  have l4 : (toL n).length ≤ 4 := toL_len_lt.2 (by omega)
  have hm := zOf' false n (by omega)
  rw [intZ_of, Bool.false_and] at hm
  refine pure_intro (tok := 0) Tryz.func38 rfl Tryz.ntmps38 Tryz.results38 Tryz.call38 (by rfl) (by simp) ?_
  (focus (refine wkvp w_t (w_a (refOf n (by omega)) (w_a hm w_t)) ?_; (repeat' first | exact w_t | apply w_l); all_goals intros))
  simp (disch := omega) only [go_sem]


theorem zSign (z : Int) (hz : (toL z.natAbs).length ≤ 100000000) : Pure Tryz.prog 160 [intZ z] (.v (.int .i64 z.sign)) := by
  have cn := zNormZ z hz
  have hp := @toL_len_pos z.natAbs
  rcases Int.lt_trichotomy z 0 with h | h | h
  · rw [Int.sign_eq_neg_one_of_neg h]
    have h2 := hp.2 (by omega)
    rw [intZ_neg h] at cn ⊢
    refine pure_intro (tok := 0) Tryz.func160 rfl Tryz.ntmps160 Tryz.results160 Tryz.call160 (by rfl) (by simp) ?_
    (focus (refine wkvp w_t (w_a cn w_t) ?_; (repeat' first | exact w_t | apply w_l); all_goals intros))
    simp (disch := omega) only [go_sem]
  · have h2 : ¬ 0 < (toL z.natAbs).length := fun h3 => by have := hp.1 h3; omega
    have hs : z.sign = 0 := by rw [h]; rfl
    rw [hs]
    rw [intZ_pos (by omega)] at cn ⊢
    refine pure_intro (tok := 0) Tryz.func160 rfl Tryz.ntmps160 Tryz.results160 Tryz.call160 (by rfl) (by simp) ?_
    (focus (refine wkvp w_t (w_a cn w_t) ?_; (repeat' first | exact w_t | apply w_l); all_goals intros))
    simp (disch := omega) only [go_sem]
  · rw [Int.sign_eq_one_of_pos h]
    have h2 := hp.2 (by omega)
    rw [intZ_pos (by omega)] at cn ⊢
    refine pure_intro (tok := 0) Tryz.func160 rfl Tryz.ntmps160 Tryz.results160 Tryz.call160 (by rfl) (by simp) ?_
    (focus (refine wkvp w_t (w_a cn w_t) ?_; (repeat' first | exact w_t | apply w_l); all_goals intros))
    simp (disch := omega) only [go_sem]

theorem zCmp (z w : Int) (hz : (toL z.natAbs).length ≤ 100000000) (hw : (toL w.natAbs).length ≤ 100000000) : Pure Tryz.prog 107 [intZ z, intZ w] (.v (.int .i64 (cmpZ z w))) := by
  have c1 := zNormZ z hz
  have c2 := zNormZ w hw
  have ca := rCmp z.natAbs w.natAbs hz hw
  have cb := rCmp w.natAbs z.natAbs hw hz
  by_cases h1 : z < 0
  · by_cases h2 : w < 0
    · have hc : cmpZ z w = cmpN w.natAbs z.natAbs := by
        unfold cmpZ cmpN
        have e1 : (z < w) ↔ (w.natAbs < z.natAbs) := by omega
        have e2 : (w < z) ↔ (z.natAbs < w.natAbs) := by omega
        simp only [e1, e2]
      rw [hc]
      rw [intZ_neg h1] at c1 ⊢
      rw [intZ_neg h2] at c2 ⊢
      refine pure_intro (tok := 0) Tryz.func107 rfl Tryz.ntmps107 Tryz.results107 Tryz.call107 (by rfl) (by simp) ?_
      (repeat' (first | (with_reducible first | refine stp ?_ | apply gx1 | apply gx2 | apply gx3 | apply gx4 | apply gx5 | apply gx6 | apply gx7 | apply gy8 | apply gz2 | apply gz3 | refine gw0 (c1) ?_ ?_ | refine gw3 (c1) ?_ ?_ ?_ | refine gw0 (c2) ?_ ?_ | refine gw3 (c2) ?_ ?_ ?_ | refine gw0 (cb) ?_ ?_ | refine gw3 (cb) ?_ ?_ ?_) | (with_reducible refine all_v ?_; intro _) | ((with_reducible refine gE ?_); (try simp (disch := omega) only [go_sem]) <;> first | rfl | omega) | with_reducible refine t_in_other (by decide) ?_ | ((with_reducible apply gy1); iterate 3 focus rfl) | ((with_reducible apply gy2); iterate 3 focus rfl) | ((with_reducible apply gy3); iterate 2 focus rfl) | ((with_reducible apply gy4); iterate 1 focus rfl) | ((with_reducible apply gy5); iterate 4 focus rfl) | ((with_reducible apply gy5c); iterate 4 focus rfl) | ((with_reducible apply gy6); iterate 4 focus rfl) | ((with_reducible apply d_bar); iterate 3 focus rfl) | ((with_reducible apply q_pub); iterate 1 focus rfl) | ((with_reducible apply gy7); iterate 1 focus rfl) | ((with_reducible apply gy9); (focus ((with_reducible refine gE ?_); (try simp (disch := omega) only [go_sem]) <;> rfl))) | ((with_reducible apply gz1); (focus first | rfl | (simp (disch := omega) only [go_sem]; done))) | ((with_reducible apply r_drawD (pickR [(1, .agg [.v (.bool true), lim (toL z.natAbs)]), (3, .agg [.v (.bool true), lim (toL w.natAbs)])]) [4,5] []); (focus kernel_rfl); (focus rfl); (focus kernel_rfl); (focus (simp only [List.length_cons, List.length_nil, Nat.reduceAdd]; rfl)))))
      simp (disch := omega) only [go_sem]
    · have hc : cmpZ z w = -1 := if_pos (by omega)
      rw [hc]
      rw [intZ_neg h1] at c1 ⊢
      rw [intZ_pos h2] at c2 ⊢
      refine pure_intro (tok := 0) Tryz.func107 rfl Tryz.ntmps107 Tryz.results107 Tryz.call107 (by rfl) (by simp) ?_
      (repeat' (first | (with_reducible first | refine stp ?_ | apply gx1 | apply gx2 | apply gx3 | apply gx4 | apply gx5 | apply gx6 | apply gx7 | apply gy8 | apply gz2 | apply gz3 | refine gw0 (c1) ?_ ?_ | refine gw3 (c1) ?_ ?_ ?_ | refine gw0 (c2) ?_ ?_ | refine gw3 (c2) ?_ ?_ ?_) | (with_reducible refine all_v ?_; intro _) | ((with_reducible refine gE ?_); (try simp (disch := omega) only [go_sem]) <;> first | rfl | omega) | with_reducible refine t_in_other (by decide) ?_ | ((with_reducible apply gy1); iterate 3 focus rfl) | ((with_reducible apply gy2); iterate 3 focus rfl) | ((with_reducible apply gy3); iterate 2 focus rfl) | ((with_reducible apply gy4); iterate 1 focus rfl) | ((with_reducible apply gy5); iterate 4 focus rfl) | ((with_reducible apply gy5c); iterate 4 focus rfl) | ((with_reducible apply gy6); iterate 4 focus rfl) | ((with_reducible apply d_bar); iterate 3 focus rfl) | ((with_reducible apply q_pub); iterate 1 focus rfl) | ((with_reducible apply gy7); iterate 1 focus rfl) | ((with_reducible apply gy9); (focus ((with_reducible refine gE ?_); (try simp (disch := omega) only [go_sem]) <;> rfl))) | ((with_reducible apply gz1); (focus first | rfl | (simp (disch := omega) only [go_sem]; done))) | ((with_reducible apply r_drawD (pickR [(1, .agg [.v (.bool true), lim (toL z.natAbs)]), (3, .agg [.v (.bool false), lim (toL w.natAbs)])]) [4,5] []); (focus kernel_rfl); (focus rfl); (focus kernel_rfl); (focus (simp only [List.length_cons, List.length_nil, Nat.reduceAdd]; rfl)))))
      simp (disch := omega) only [go_sem]
  · by_cases h2 : w < 0
    · have hc : cmpZ z w = 1 := by unfold cmpZ; rw [if_neg (by omega), if_pos (by omega)]
      rw [hc]
      rw [intZ_pos h1] at c1 ⊢
      rw [intZ_neg h2] at c2 ⊢
      refine pure_intro (tok := 0) Tryz.func107 rfl Tryz.ntmps107 Tryz.results107 Tryz.call107 (by rfl) (by simp) ?_
      (repeat' (first | (with_reducible first | refine stp ?_ | apply gx1 | apply gx2 | apply gx3 | apply gx4 | apply gx5 | apply gx6 | apply gx7 | apply gy8 | apply gz2 | apply gz3 | refine gw0 (c1) ?_ ?_ | refine gw3 (c1) ?_ ?_ ?_ | refine gw0 (c2) ?_ ?_ | refine gw3 (c2) ?_ ?_ ?_) | (with_reducible refine all_v ?_; intro _) | ((with_reducible refine gE ?_); (try simp (disch := omega) only [go_sem]) <;> first | rfl | omega) | with_reducible refine t_in_other (by decide) ?_ | ((with_reducible apply gy1); iterate 3 focus rfl) | ((with_reducible apply gy2); iterate 3 focus rfl) | ((with_reducible apply gy3); iterate 2 focus rfl) | ((with_reducible apply gy4); iterate 1 focus rfl) | ((with_reducible apply gy5); iterate 4 focus rfl) | ((with_reducible apply gy5c); iterate 4 focus rfl) | ((with_reducible apply gy6); iterate 4 focus rfl) | ((with_reducible apply d_bar); iterate 3 focus rfl) | ((with_reducible apply q_pub); iterate 1 focus rfl) | ((with_reducible apply gy7); iterate 1 focus rfl) | ((with_reducible apply gy9); (focus ((with_reducible refine gE ?_); (try simp (disch := omega) only [go_sem]) <;> rfl))) | ((with_reducible apply gz1); (focus first | rfl | (simp (disch := omega) only [go_sem]; done))) | ((with_reducible apply r_drawD (pickR [(1, .agg [.v (.bool false), lim (toL z.natAbs)]), (3, .agg [.v (.bool true), lim (toL w.natAbs)])]) [4,5] []); (focus kernel_rfl); (focus rfl); (focus kernel_rfl); (focus (simp only [List.length_cons, List.length_nil, Nat.reduceAdd]; rfl)))))
      simp (disch := omega) only [go_sem]
    · have hc : cmpZ z w = cmpN z.natAbs w.natAbs := by
        unfold cmpZ cmpN
        have e1 : (z < w) ↔ (z.natAbs < w.natAbs) := by omega
        have e2 : (w < z) ↔ (w.natAbs < z.natAbs) := by omega
        simp only [e1, e2]
      rw [hc]
      rw [intZ_pos h1] at c1 ⊢
      rw [intZ_pos h2] at c2 ⊢
      refine pure_intro (tok := 0) Tryz.func107 rfl Tryz.ntmps107 Tryz.results107 Tryz.call107 (by rfl) (by simp) ?_
      (repeat' (first | (with_reducible first | refine stp ?_ | apply gx1 | apply gx2 | apply gx3 | apply gx4 | apply gx5 | apply gx6 | apply gx7 | apply gy8 | apply gz2 | apply gz3 | refine gw0 (c1) ?_ ?_ | refine gw3 (c1) ?_ ?_ ?_ | refine gw0 (c2) ?_ ?_ | refine gw3 (c2) ?_ ?_ ?_ | refine gw0 (ca) ?_ ?_ | refine gw3 (ca) ?_ ?_ ?_) | (with_reducible refine all_v ?_; intro _) | ((with_reducible refine gE ?_); (try simp (disch := omega) only [go_sem]) <;> first | rfl | omega) | with_reducible refine t_in_other (by decide) ?_ | ((with_reducible apply gy1); iterate 3 focus rfl) | ((with_reducible apply gy2); iterate 3 focus rfl) | ((with_reducible apply gy3); iterate 2 focus rfl) | ((with_reducible apply gy4); iterate 1 focus rfl) | ((with_reducible apply gy5); iterate 4 focus rfl) | ((with_reducible apply gy5c); iterate 4 focus rfl) | ((with_reducible apply gy6); iterate 4 focus rfl) | ((with_reducible apply d_bar); iterate 3 focus rfl) | ((with_reducible apply q_pub); iterate 1 focus rfl) | ((with_reducible apply gy7); iterate 1 focus rfl) | ((with_reducible apply gy9); (focus ((with_reducible refine gE ?_); (try simp (disch := omega) only [go_sem]) <;> rfl))) | ((with_reducible apply gz1); (focus first | rfl | (simp (disch := omega) only [go_sem]; done))) | ((with_reducible apply r_drawD (pickR [(1, .agg [.v (.bool false), lim (toL z.natAbs)]), (3, .agg [.v (.bool false), lim (toL w.natAbs)])]) [4,5] []); (focus kernel_rfl); (focus rfl); (focus kernel_rfl); (focus (simp only [List.length_cons, List.length_nil, Nat.reduceAdd]; rfl)))))
      simp (disch := omega) only [go_sem]

theorem zMul (s t : Bool) (n m : Nat) (hn : (toL n).length ≤ 40000000) (hm : (toL m).length ≤ 40000000) : Pure Tryz.prog 108 [intA s n, intA t m] (intZ (zI s n * zI t m)) := by
  have e : zI s n * zI t m = zI (s != t) (n * m) := by cases s <;> cases t <;> simp [zI, Int.mul_neg, Int.neg_mul]
  have lm := lg_mul n m
  have hne : (!(s == t)) = (s != t) := rfl
  rw [e]
  refine pure_intro (tok := 0) Tryz.func108 rfl Tryz.ntmps108 Tryz.results108 Tryz.call108 (by rfl) (by simp) ?_
  (repeat' (first | (with_reducible first | refine stp ?_ | apply gx1 | apply gx2 | apply gx3 | apply gx4 | apply gx5 | apply gx6 | apply gx7 | apply gy8 | apply gz2 | apply gz3 | refine gw0 (rMul n m (by omega) (by omega)) ?_ ?_ | refine gw3 (rMul n m (by omega) (by omega)) ?_ ?_ ?_ | refine gw0 (zOf' (s != t) (n * m) (by omega)) ?_ ?_ | refine gw3 (zOf' (s != t) (n * m) (by omega)) ?_ ?_ ?_) | (with_reducible refine all_v ?_; intro _) | ((with_reducible refine gE ?_); (try simp (disch := omega) only [go_sem, hne]) <;> first | rfl | omega) | with_reducible refine t_in_other (by decide) ?_ | ((with_reducible apply gy1); iterate 3 focus rfl) | ((with_reducible apply gy2); iterate 3 focus rfl) | ((with_reducible apply gy3); iterate 2 focus rfl) | ((with_reducible apply gy4); iterate 1 focus rfl) | ((with_reducible apply gy5); iterate 4 focus rfl) | ((with_reducible apply gy5c); iterate 4 focus rfl) | ((with_reducible apply gy6); iterate 4 focus rfl) | ((with_reducible apply d_bar); iterate 3 focus rfl) | ((with_reducible apply q_pub); iterate 1 focus rfl) | ((with_reducible apply gy7); iterate 1 focus rfl) | ((with_reducible apply gy9); (focus ((with_reducible refine gE ?_); (try simp (disch := omega) only [go_sem, hne]) <;> rfl))) | ((with_reducible apply gz1); (focus first | rfl | (simp (disch := omega) only [go_sem, hne]; done))) | ((with_reducible apply r_drawD (pickR [(9, lim (toL (n * m))), (10, intZ (zI (s != t) (n * m)))]) [11] []); (focus kernel_rfl); (focus rfl); (focus kernel_rfl); (focus (simp only [List.length_cons, List.length_nil, Nat.reduceAdd]; rfl)))))
  simp (disch := omega) only [go_sem]

set_option maxHeartbeats 1000000 in
theorem zAdd (s t : Bool) (n m : Nat) (hn : (toL n).length ≤ 40000000) (hm : (toL m).length ≤ 40000000) : Pure Tryz.prog 159 [intA s n, intA t m] (intZ (zI s n + zI t m)) := by
  by_cases hst : s = t
  · subst hst
    have e : zI s n + zI s m = zI s (n + m) := by cases s <;> simp [zI] <;> omega
    have la := lg_add n m
    rw [e]
    have hb : (s == s) = true := by cases s <;> rfl
    refine pure_intro (tok := 0) Tryz.func159 rfl Tryz.ntmps159 Tryz.results159 Tryz.call159 (by rfl) (by simp) ?_
    (repeat' (first | (with_reducible first | refine stp ?_ | apply gx1 | apply gx2 | apply gx3 | apply gx4 | apply gx5 | apply gx6 | apply gx7 | apply gy8 | apply gz2 | apply gz3 | refine gw0 (rAdd n m (by omega) (by omega)) ?_ ?_ | refine gw3 (rAdd n m (by omega) (by omega)) ?_ ?_ ?_ | refine gw0 (zOf' s (n + m) (by omega)) ?_ ?_ | refine gw3 (zOf' s (n + m) (by omega)) ?_ ?_ ?_) | (with_reducible refine all_v ?_; intro _) | ((with_reducible refine gE ?_); (try simp (disch := omega) only [go_sem, hb]) <;> first | rfl | omega) | with_reducible refine t_in_other (by decide) ?_ | ((with_reducible apply gy1); iterate 3 focus rfl) | ((with_reducible apply gy2); iterate 3 focus rfl) | ((with_reducible apply gy3); iterate 2 focus rfl) | ((with_reducible apply gy4); iterate 1 focus rfl) | ((with_reducible apply gy5); iterate 4 focus rfl) | ((with_reducible apply gy5c); iterate 4 focus rfl) | ((with_reducible apply gy6); iterate 4 focus rfl) | ((with_reducible apply d_bar); iterate 3 focus rfl) | ((with_reducible apply q_pub); iterate 1 focus rfl) | ((with_reducible apply gy7); iterate 1 focus rfl) | ((with_reducible apply gy9); (focus ((with_reducible refine gE ?_); (try simp (disch := omega) only [go_sem, hb]) <;> rfl))) | ((with_reducible apply gz1); (focus first | rfl | (simp (disch := omega) only [go_sem, hb]; done))) | ((with_reducible apply r_drawD (pickR [(6, lim (toL (n + m))), (7, intZ (zI s (n + m)))]) [8] []); (focus kernel_rfl); (focus rfl); (focus kernel_rfl); (focus (simp only [List.length_cons, List.length_nil, Nat.reduceAdd]; rfl)))))
    simp (disch := omega) only [go_sem]
  · have hb : (s == t) = false := by cases s <;> cases t <;> first | rfl | exact absurd rfl hst
    have ht : t = !s := by cases s <;> cases t <;> first | rfl | exact absurd rfl hst
    have c1 := rSub n m (by omega) (by omega)
    have c2 := rSub m n (by omega) (by omega)
    by_cases hlt : n < m
    · have e : zI s n + zI t m = zI t (m - n) := by rw [ht]; cases s <;> simp [zI] <;> omega
      have ls : (toL (m - n)).length ≤ 100000000 := Nat.le_trans (lg_mono (Nat.sub_le _ _)) (by omega)
      rw [if_pos hlt, if_pos hlt] at c1
      rw [if_neg (by omega), if_neg (by omega)] at c2
      rw [e]
      refine pure_intro (tok := 0) Tryz.func159 rfl Tryz.ntmps159 Tryz.results159 Tryz.call159 (by rfl) (by simp) ?_
      (focus (refine wkvd (w_a hb w_t) (w_a c1 (w_a c2 (w_a (zOf' t (m - n) ls) w_t))) w_t ?_; (repeat' first | exact w_t | apply w_l); all_goals intros))
      simp (disch := omega) only [go_sem]
    · have e : zI s n + zI t m = zI s (n - m) := by rw [ht]; cases s <;> simp [zI] <;> omega
      have ls : (toL (n - m)).length ≤ 100000000 := Nat.le_trans (lg_mono (Nat.sub_le _ _)) (by omega)
      rw [if_neg hlt, if_neg hlt] at c1
      rw [e]
      refine pure_intro (tok := 0) Tryz.func159 rfl Tryz.ntmps159 Tryz.results159 Tryz.call159 (by rfl) (by simp) ?_
      (focus (refine wkvd (w_a hb w_t) (w_a c1 (w_a (zOf' s (n - m) ls) w_t)) w_t ?_; (repeat' first | exact w_t | apply w_l); all_goals intros))
      simp (disch := omega) only [go_sem]


end Go.Proofs.YteiopjkamgmfpaaGreat
end

section
namespace Go.Proofs.YteiopjkamgmfpaaGreat
open Go Go.RowKit Go.Pg
set_option linter.unusedSimpArgs false
set_option linter.unusedVariables false
set_option maxRecDepth 20000
attribute [local go_sem] Tryz.underlying49 Tryz.underlying3 Tryz.underlying129 Tryz.underlying91 Tryz.underlying4 Tryz.underlying51 Tryz.underlying53 Tryz.underlying35 sz3 by3 z3 szL byL zL szB zB szNat zNat szInt zInt szRat zRat Tryz.underlying193
attribute [-bool_to_prop] Bool.and_eq_decide Bool.or_eq_decide Bool.decide_beq_decide decide_eq_decide

theorem gcd_le_l (n m : Nat) (h : m ≠ 0) : Nat.gcd n m ≠ 0 := Nat.ne_of_gt (Nat.gcd_pos_of_pos_right _ (Nat.pos_of_ne_zero h))
theorem intZ_div (s : Bool) (n g : Nat) (hg : g ∣ n) (h0 : g ≠ 0) : intZ (zI s (n / g)) = .agg [.v (.bool (decide (zI s n < 0))), lim (toL (n / g))] := by
  rw [intZ_of, zI_lt]
  have : (0 < n / g) ↔ (0 < n) := by
    obtain ⟨k, rfl⟩ := hg
    rw [Nat.mul_div_cancel_left _ (Nat.pos_of_ne_zero h0)]
    constructor
    · intro h; exact Nat.mul_pos (Nat.pos_of_ne_zero h0) h
    · intro h; exact Nat.pos_of_ne_zero fun e => by rw [e] at h; simp at h
  simp only [this]

set_option maxHeartbeats 1000000 in
theorem qOver (s : Bool) (n m : Nat) (hn : (toL n).length ≤ 10000000) (hm : (toL m).length ≤ 10000000) (h0 : m ≠ 0) : Pure Tryz.prog 37 [intA s n, lim (toL m)] (ratQ (mkRat (zI s n) m)) := by
  rw [ratQ_mk _ _ h0, zI_natAbs]
  have g0 := gcd_le_l n m h0
  have hgd := Nat.gcd_dvd_left n m
  have hmp := toL_len_pos.2 (Nat.pos_of_ne_zero h0)
  have hg : (toL (Nat.gcd n m)).length ≤ 10000000 := Nat.le_trans (lg_mono (Nat.le_of_dvd (by omega) (Nat.gcd_dvd_right _ _))) hm
  have hq : (toL (n / Nat.gcd n m)).length ≤ 10000000 := Nat.le_trans (lg_mono (Nat.div_le_self _ _)) hn
  have cg := rGcd n m (by omega) (by omega)
  have c1 := rDivMod n (Nat.gcd n m) (by omega) (by omega) g0
  have c2 := rDivMod m (Nat.gcd n m) (by omega) (by omega) g0
  have cn := zNorm s (n / Nat.gcd n m) (by omega)
  rw [intZ_div s n _ hgd g0] at cn
  refine pure_intro (tok := 0) Tryz.func37 rfl Tryz.ntmps37 Tryz.results37 Tryz.call37 (by rfl) (by simp) ?_
  (focus (refine wkvp w_t (w_a (rNorm m (by omega)) (w_a cg (w_a c1 (w_a c2 (w_a cn w_t))))) ?_; (repeat' first | exact w_t | apply w_l); all_goals intros))
  simp (disch := omega) only [go_sem]

theorem qNorm (q : Rat) {k : Nat} (h : Sz q k) (hk : k ≤ 10000000) : Pure Tryz.prog 106 [ratQ q] (ratQ q) := by
  have c := qOver (decide (q.num < 0)) q.num.natAbs q.den (Nat.le_trans h.1 hk) (Nat.le_trans h.2 hk) q.den_nz
  rw [zI_abs, Rat.mkRat_self] at c
  refine pure_intro (tok := 0) Tryz.func106 rfl Tryz.ntmps106 Tryz.results106 Tryz.call106 (by rfl) (by simp) ?_
  (focus (refine wkvp w_t (w_a c w_t) ?_; (repeat' first | exact w_t | apply w_l); all_goals intros))
  simp (disch := omega) only [go_sem]

theorem qWhole (n : Nat) : Pure Tryz.prog 109 [lim (toL n)] (intA false n) := by
  refine pure_intro (tok := 0) Tryz.func109 rfl Tryz.ntmps109 Tryz.results109 Tryz.call109 (by rfl) (by simp) ?_
  (focus (refine wkvp w_t w_t ?_; (repeat' first | exact w_t | apply w_l); all_goals intros))
  simp (disch := omega) only [go_sem]


theorem qOf (n : Nat) (hn : n < 9223372036854775808) : Pure Tryz.prog 15 [.v (.int .i64 (n : Int))] (ratQ (n : Rat)) := by
  have l4 : (toL n).length ≤ 4 := toL_len_lt.2 (by omega)
  have c := qOver false n 1 (by omega) (by rw [lg_one]; omega) (by omega)
  have e : mkRat (zI false n) 1 = (n : Rat) := by
    have := Rat.mkRat_self (n : Rat)
    exact this
  rw [e] at c
  refine pure_intro (tok := 0) Tryz.func15 rfl Tryz.ntmps15 Tryz.results15 Tryz.call15 (by rfl) (by simp) ?_
  (focus (refine wkvp w_t (w_a (zOf n hn) (w_a (refOf 1 (by omega)) (w_a c w_t))) ?_; (repeat' first | exact w_t | apply w_l); all_goals intros))
  simp (disch := omega) only [go_sem]

theorem qMul (a b : Rat) {j k : Nat} (ha : Sz a j) (hb : Sz b k) (hj : j ≤ 2000000) (hk : k ≤ 2000000) : Pure Tryz.prog 157 [ratQ a, ratQ b] (ratQ (a * b)) := by
  obtain ⟨a1, a2⟩ := id ha
  obtain ⟨b1, b2⟩ := id hb
  have l1 : (toL (a.num * b.num).natAbs).length ≤ j + k := by rw [Int.natAbs_mul]; exact Nat.le_trans (lg_mul _ _) (by omega)
  have l2 : (toL (a.den * b.den)).length ≤ j + k := Nat.le_trans (lg_mul _ _) (by omega)
  have c := qOver (decide (a.num * b.num < 0)) (a.num * b.num).natAbs (a.den * b.den) (by omega) (by omega) (Nat.mul_ne_zero a.den_nz b.den_nz)
  rw [zI_abs, ← Rat.mul_def'] at c
  have cz := zMul (decide (a.num < 0)) (decide (b.num < 0)) a.num.natAbs b.num.natAbs (by omega) (by omega)
  rw [zI_abs, zI_abs] at cz
  have cd := rMul a.den b.den (by omega) (by omega)
  generalize a * b = q at *
  generalize a.num * b.num = y at *
  refine pure_intro (tok := 0) Tryz.func157 rfl Tryz.ntmps157 Tryz.results157 Tryz.call157 (by rfl) (by simp) ?_
  (repeat' (first | (with_reducible first | refine stp ?_ | apply gx1 | apply gx2 | apply gx3 | apply gx4 | apply gx5 | apply gx6 | apply gx7 | apply gy8 | apply gz2 | apply gz3 | refine gw0 (cz) ?_ ?_ | refine gw3 (cz) ?_ ?_ ?_ | refine gw0 (cd) ?_ ?_ | refine gw3 (cd) ?_ ?_ ?_ | refine gw0 (c) ?_ ?_ | refine gw3 (c) ?_ ?_ ?_) | (with_reducible refine all_v ?_; intro _) | ((with_reducible refine gE ?_); (try simp (disch := omega) only [go_sem]) <;> first | rfl | omega) | with_reducible refine t_in_other (by decide) ?_ | ((with_reducible apply gy1); iterate 3 focus rfl) | ((with_reducible apply gy2); iterate 3 focus rfl) | ((with_reducible apply gy3); iterate 2 focus rfl) | ((with_reducible apply gy4); iterate 1 focus rfl) | ((with_reducible apply gy5); iterate 4 focus rfl) | ((with_reducible apply gy5c); iterate 4 focus rfl) | ((with_reducible apply gy6); iterate 4 focus rfl) | ((with_reducible apply d_bar); iterate 3 focus rfl) | ((with_reducible apply q_pub); iterate 1 focus rfl) | ((with_reducible apply gy7); iterate 1 focus rfl) | ((with_reducible apply gy9); (focus ((with_reducible refine gE ?_); (try simp (disch := omega) only [go_sem]) <;> rfl))) | ((with_reducible apply gz1); (focus first | rfl | (simp (disch := omega) only [go_sem]; done))) | ((with_reducible apply r_drawD (pickR [(4, intZ y), (9, lim (toL (a.den * b.den))), (10, ratQ q)]) [11] []); (focus kernel_rfl); (focus rfl); (focus kernel_rfl); (focus (simp only [List.length_cons, List.length_nil, Nat.reduceAdd]; rfl)))))
  simp (disch := omega) only [go_sem]

set_option maxHeartbeats 1000000 in
theorem qAdd (a b : Rat) {j k : Nat} (ha : Sz a j) (hb : Sz b k) (hj : j ≤ 2000000) (hk : k ≤ 2000000) : Pure Tryz.prog 101 [ratQ a, ratQ b] (ratQ (a + b)) := by
  obtain ⟨a1, a2⟩ := id ha
  obtain ⟨b1, b2⟩ := id hb
  have na := qNorm a ha (by omega)
  have nb := qNorm b hb (by omega)
  have cm1 := zMul (decide (a.num < 0)) false a.num.natAbs b.den (by omega) (by omega)
  have cm2 := zMul (decide (b.num < 0)) false b.num.natAbs a.den (by omega) (by omega)
  rw [zI_abs] at cm1 cm2
  have cm1 : Pure Tryz.prog 108 [intZ a.num, intA false b.den] (intZ (a.num * b.den)) := cm1
  have cm2 : Pure Tryz.prog 108 [intZ b.num, intA false a.den] (intZ (b.num * a.den)) := cm2
  have x1 : (toL (a.num * b.den).natAbs).length ≤ j + k := lg_cross a b ha hb
  have x2 : (toL (b.num * a.den).natAbs).length ≤ k + j := lg_cross b a hb ha
  have l1 : (toL (a.num * b.den + b.num * a.den).natAbs).length ≤ j + k + 1 := by
    have h3 := lg_mono (natAbs_add_le (a.num * b.den) (b.num * a.den))
    have h4 := lg_add (a.num * b.den).natAbs (b.num * a.den).natAbs
    omega
  have l2 : (toL (a.den * b.den)).length ≤ j + k := Nat.le_trans (lg_mul _ _) (by omega)
  have ca := zAdd (decide (a.num * b.den < 0)) (decide (b.num * a.den < 0)) (a.num * b.den).natAbs (b.num * a.den).natAbs (by omega) (by omega)
  rw [zI_abs, zI_abs] at ca
  have c := qOver (decide (a.num * b.den + b.num * a.den < 0)) (a.num * b.den + b.num * a.den).natAbs (a.den * b.den) (by omega) (by omega) (Nat.mul_ne_zero a.den_nz b.den_nz)
  rw [zI_abs, ← Rat.add_def'] at c
  have cw1 := qWhole b.den
  have cw2 := qWhole a.den
  have cd := rMul a.den b.den (by omega) (by omega)
  generalize a + b = q at *
  generalize a.num * (b.den : Int) = y1 at *
  generalize b.num * (a.den : Int) = y2 at *
  refine pure_intro (tok := 0) Tryz.func101 rfl Tryz.ntmps101 Tryz.results101 Tryz.call101 (by rfl) (by simp) ?_
  (focus (refine wkvp w_t w_t ?_; (repeat' first | exact w_t | apply w_l); all_goals intros))
  apply r_drawD (pickR [(1, ratQ a), (3, ratQ b)]) [4, 5] [] (by kernel_rfl) (by rfl) (by kernel_rfl); (focus (simp only [List.length_cons, List.length_nil, Nat.reduceAdd]; rfl))
  (focus (refine wkud w_t (w_a na (w_a nb w_t)) ?_; (repeat' first | exact w_t | apply w_l); all_goals intros))
  apply r_drawD (pickR [(4, intA false b.den), (5, intZ y1), (10, intA false a.den), (11, intZ y2), (12, intZ (y1 + y2)), (17, lim (toL (a.den * b.den))), (18, ratQ q)]) [19] [] (by kernel_rfl) (by rfl) (by kernel_rfl); (focus (simp only [List.length_cons, List.length_nil, Nat.reduceAdd]; rfl))
  (focus (refine wkud w_t (w_a cw1 (w_a cm1 (w_a cw2 (w_a cm2 (w_a ca (w_a cd (w_a c w_t))))))) ?_; (repeat' first | exact w_t | apply w_l); all_goals intros))
  simp (disch := omega) only [go_sem]



set_option maxHeartbeats 1000000 in
theorem qCmp (a b : Rat) {j k : Nat} (ha : Sz a j) (hb : Sz b k) (hj : j ≤ 2000000) (hk : k ≤ 2000000) : Pure Tryz.prog 66 [ratQ a, ratQ b] (.v (.int .i64 (cmpQ a b))) := by
  obtain ⟨a1, a2⟩ := id ha
  obtain ⟨b1, b2⟩ := id hb
  have na := qNorm a ha (by omega)
  have nb := qNorm b hb (by omega)
  have cm1 := zMul (decide (a.num < 0)) false a.num.natAbs b.den (by omega) (by omega)
  have cm2 := zMul (decide (b.num < 0)) false b.num.natAbs a.den (by omega) (by omega)
  rw [zI_abs] at cm1 cm2
  have cm1 : Pure Tryz.prog 108 [intZ a.num, intA false b.den] (intZ (a.num * b.den)) := cm1
  have cm2 : Pure Tryz.prog 108 [intZ b.num, intA false a.den] (intZ (b.num * a.den)) := cm2
  have x1 : (toL (a.num * b.den).natAbs).length ≤ j + k := lg_cross a b ha hb
  have x2 : (toL (b.num * a.den).natAbs).length ≤ k + j := lg_cross b a hb ha
  have cc := zCmp (a.num * b.den) (b.num * a.den) (by omega) (by omega)
  rw [cmpQ_z]
  have cw1 := qWhole b.den
  have cw2 := qWhole a.den
  generalize a.num * (b.den : Int) = y1 at *
  generalize b.num * (a.den : Int) = y2 at *
  refine pure_intro (tok := 0) Tryz.func66 rfl Tryz.ntmps66 Tryz.results66 Tryz.call66 (by rfl) (by simp) ?_
  (focus (refine wkvp w_t w_t ?_; (repeat' first | exact w_t | apply w_l); all_goals intros))
  apply r_drawD (pickR [(1, ratQ a), (3, ratQ b)]) [4, 5] [] (by kernel_rfl) (by rfl) (by kernel_rfl); (focus (simp only [List.length_cons, List.length_nil, Nat.reduceAdd]; rfl))
  (focus (refine wkud w_t (w_a na (w_a nb w_t)) ?_; (repeat' first | exact w_t | apply w_l); all_goals intros))
  apply r_drawD (pickR [(4, intA false b.den), (5, intZ y1), (10, intA false a.den), (11, intZ y2), (12, .v (.int .i64 (cmpZ y1 y2)))]) [] [] (by kernel_rfl) (by rfl) (by kernel_rfl); (focus (simp only [List.length_cons, List.length_nil, Nat.reduceAdd]; rfl))
  (focus (refine wkud w_t (w_a cw1 (w_a cm1 (w_a cw2 (w_a cm2 (w_a cc w_t))))) ?_; (repeat' first | exact w_t | apply w_l); all_goals intros))
  simp (disch := omega) only [go_sem]





theorem szPt : szOf Tryz.prog 63 = some 6 := by kernel_rfl
theorem zPt : zeroOf Tryz.prog 63 = some (.agg #[.bool false, .slice none 0 0, .slice none 0 0, .bool false, .slice none 0 0, .slice none 0 0]) := by kernel_rfl
end Go.Proofs.YteiopjkamgmfpaaGreat
end

section
namespace Go.Proofs.YteiopjkamgmfpaaGreat
open Go Go.RowKit Go.Pg
set_option linter.unusedSimpArgs false
set_option linter.unusedVariables false
set_option maxRecDepth 20000
attribute [local go_sem] Tryz.underlying49 Tryz.underlying3 Tryz.underlying129 Tryz.underlying91 Tryz.underlying4 Tryz.underlying51 Tryz.underlying53 Tryz.underlying35 sz3 by3 z3 szL byL zL szB zB szNat zNat szInt zInt szRat zRat
attribute [-bool_to_prop] Bool.and_eq_decide Bool.or_eq_decide Bool.decide_beq_decide decide_eq_decide

/-- A number as it comes in. -/
structure RQ where
  s : Bool
  l : List Nat
  d : List Nat
def RQ.lm (r : RQ) (k : Nat) : Prop := Lm r.l ∧ Lm r.d ∧ r.l.length ≤ k ∧ r.d.length ≤ k
abbrev RQ.av (r : RQ) : AV := .agg [.v (.bool r.s), lim r.l, lim r.d]
def RQ.zok (s : Bool) (l : List Nat) : Bool := valL l && !(s && decide (l.length = 0))
def RQ.ok (r : RQ) : Bool := RQ.zok r.s r.l && valL r.d && (Nat.gcd (nv r.l) (nv r.d) == 1) && decide (0 < r.d.length)
def RQ.q (r : RQ) : Rat := mkRat (zI r.s (nv r.l)) (nv r.d)
theorem RQ.ok_av {r : RQ} {k : Nat} (hl : r.lm k) (h : r.ok = true) : r.av = ratQ r.q ∧ Sz r.q k := by
  obtain ⟨s, l, d⟩ := r
  obtain ⟨h1, h2, h3, h4⟩ := hl
  simp only [RQ.ok, RQ.zok, Bool.and_eq_true, decide_eq_true_eq, Bool.not_eq_true', beq_iff_eq] at h
  obtain ⟨⟨⟨⟨v1, v2⟩, v3⟩, v4⟩, v5⟩ := h
  have e1 := (valL_iff h1).1 v1
  have e2 := (valL_iff h2).1 v3
  simp only [RQ.av, RQ.q] at *
  generalize nv l = n at *
  generalize nv d = m at *
  subst e1
  subst e2
  have hm : m ≠ 0 := by have := toL_len_pos.1 v5; omega
  have hs : decide (zI s n < 0) = s := by
    rw [zI_lt]
    cases s
    · rfl
    · have : (toL n).length ≠ 0 := by simpa using v2
      rw [decide_eq_true (toL_len_pos.1 (by omega))]
      rfl
  refine ⟨?_, Sz.mk (by rw [zI_natAbs]; exact h3) h4 (by omega)⟩
  rw [ratQ_mk _ _ hm, zI_natAbs, v4, Nat.div_one, Nat.div_one, hs]
theorem toL_inj {a b : Nat} : toL a = toL b ↔ a = b := ⟨fun h => by rw [← nv_toL a, h, nv_toL], fun h => by rw [h]⟩

theorem zRight (s : Bool) (l : List Nat) (hs : l.length ≤ 100000000) (hl : Lm l) : Pure Tryz.prog 110 [.agg [.v (.bool s), lim l]] (.v (.bool (RQ.zok s l))) := by
  have cv := refValid l (by omega) hl
  unfold RQ.zok
  generalize valL l = v at *
  cases v
  · refine pure_intro (tok := 0) Tryz.func110 rfl Tryz.ntmps110 Tryz.results110 Tryz.call110 (by rfl) (by simp) ?_
    (focus (refine wkvp (w_a @Bool.false_and w_t) (w_a cv w_t) ?_; (repeat' first | exact w_t | apply w_l); all_goals intros))
    simp (disch := omega) only [go_sem, Bool.false_and]
  · cases s
    · refine pure_intro (tok := 0) Tryz.func110 rfl Tryz.ntmps110 Tryz.results110 Tryz.call110 (by rfl) (by simp) ?_
      (focus (refine wkvp (w_a @Bool.false_and w_t) (w_a cv w_t) ?_; (repeat' first | exact w_t | apply w_l); all_goals intros))
      simp (disch := omega) only [go_sem, Bool.false_and]
    · by_cases h0 : l.length = 0
      · refine pure_intro (tok := 0) Tryz.func110 rfl Tryz.ntmps110 Tryz.results110 Tryz.call110 (by rfl) (by simp) ?_
        (focus (refine wkvp (w_a h0 (w_a @Int.natCast_zero w_t)) (w_a cv w_t) ?_; (repeat' first | exact w_t | apply w_l); all_goals intros))
        simp (disch := omega) only [go_sem, h0]
      · refine pure_intro (tok := 0) Tryz.func110 rfl Tryz.ntmps110 Tryz.results110 Tryz.call110 (by rfl) (by simp) ?_
        (focus (refine wkvp w_t (w_a cv w_t) ?_; (repeat' first | exact w_t | apply w_l); all_goals intros))
        simp (disch := omega) only [go_sem, h0, decide_eq_false h0]

set_option maxHeartbeats 1000000 in
theorem qRight (s : Bool) (l d : List Nat) (h1 : Lm l) (h2 : Lm d) (h3 : l.length ≤ 100000000) (h4 : d.length ≤ 100000000) : Pure Tryz.prog 68 [.agg [.v (.bool s), lim l, lim d]] (.v (.bool (RQ.ok ⟨s, l, d⟩))) := by
  have cz := zRight s l h3 h1
  have cv := refValid d (by omega) h2
  have cg := refGcd l d (by omega) (by omega) h1 h2
  have hgl : (toL (Nat.gcd (nv l) (nv d))).length ≤ 100000000 := by
    have l1 := toL_len_le h1
    have l2 := toL_len_le h2
    by_cases hd : nv d = 0
    · rw [hd, Nat.gcd_zero_right]; omega
    · exact Nat.le_trans (lg_mono (Nat.gcd_le_right _ (by omega))) (by omega)
  have cs := refSameN (toL (Nat.gcd (nv l) (nv d))) (toL 1) (by omega) (by rw [lg_one]; omega) (lm_toL _) (lm_toL _)
  rw [show decide (toL (Nat.gcd (nv l) (nv d)) = toL 1) = (Nat.gcd (nv l) (nv d) == 1) from by rw [Bool.eq_iff_iff, decide_eq_true_eq, beq_iff_eq]; exact toL_inj] at cs
  unfold RQ.ok
  generalize RQ.zok s l = v at *
  simp only
  generalize Nat.gcd (nv l) (nv d) = g at *
  cases v
  · refine pure_intro (tok := 0) Tryz.func68 rfl Tryz.ntmps68 Tryz.results68 Tryz.call68 (by rfl) (by simp) ?_
    (focus (refine wkvp (w_a @Bool.false_and w_t) (w_a cz w_t) ?_; (repeat' first | exact w_t | apply w_l); all_goals intros))
    simp (disch := omega) only [go_sem, Bool.false_and]
  · generalize valL d = v at *
    cases v
    · refine pure_intro (tok := 0) Tryz.func68 rfl Tryz.ntmps68 Tryz.results68 Tryz.call68 (by rfl) (by simp) ?_
      (focus (refine wkvp (w_a @Bool.false_and w_t) (w_a cz (w_a cv w_t)) ?_; (repeat' first | exact w_t | apply w_l); all_goals intros))
      simp (disch := omega) only [go_sem, Bool.false_and]
    · by_cases hg : g = 1
      · have hgb : (g == 1) = true := by rw [beq_iff_eq]; exact hg
        rw [hgb] at cs ⊢
        by_cases hd : 0 < d.length
        · rw [decide_eq_true hd]
          refine pure_intro (tok := 0) Tryz.func68 rfl Tryz.ntmps68 Tryz.results68 Tryz.call68 (by rfl) (by simp) ?_
          (focus (refine wkvp w_t (w_a cz (w_a cv (w_a cg (w_a (refOf 1 (by omega)) (w_a cs w_t))))) ?_; (repeat' first | exact w_t | apply w_l); all_goals intros))
          simp (disch := omega) only [go_sem]
        · rw [decide_eq_false hd]
          refine pure_intro (tok := 0) Tryz.func68 rfl Tryz.ntmps68 Tryz.results68 Tryz.call68 (by rfl) (by simp) ?_
          (focus (refine wkvp w_t (w_a cz (w_a cv (w_a cg (w_a (refOf 1 (by omega)) (w_a cs w_t))))) ?_; (repeat' first | exact w_t | apply w_l); all_goals intros))
          simp (disch := omega) only [go_sem, Bool.and_false]
      · have hgb : (g == 1) = false := by rw [beq_eq_false_iff_ne]; exact hg
        rw [hgb] at cs ⊢
        refine pure_intro (tok := 0) Tryz.func68 rfl Tryz.ntmps68 Tryz.results68 Tryz.call68 (by rfl) (by simp) ?_
        (focus (refine wkvp (w_a @Bool.and_false (w_a @Bool.false_and w_t)) (w_a cz (w_a cv (w_a cg (w_a (refOf 1 (by omega)) (w_a cs w_t))))) ?_; (repeat' first | exact w_t | apply w_l); all_goals intros))
        simp (disch := omega) only [go_sem, Bool.and_false, Bool.false_and]
end Go.Proofs.YteiopjkamgmfpaaGreat
end

section
namespace Go.Proofs.YteiopjkamgmfpaaGreat
open Go Go.RowKit Go.Pg
set_option linter.unusedSimpArgs false
set_option linter.unusedVariables false
set_option maxRecDepth 20000
attribute [-bool_to_prop] Bool.and_eq_decide Bool.or_eq_decide Bool.decide_beq_decide decide_eq_decide
section
variable {N n : Nat} {cs : List AV}
theorem agN16 : aggTy Tryz.prog 129 = false := by kernel_rfl
theorem cs16 : Tryz.prog.cellsOf 129 = 1 := by kernel_rfl
theorem shNat (h : Shape Tryz.prog N n 49 cs) : ∃ l : List Nat, cs = [lim l] ∧ Lm l ∧ l.length ≤ N := by
  obtain ⟨bs, rfl, hl, hq⟩ := shape_sliceOf (g := fun k : Nat => [AV.v (.int .u16 (k : Int))]) (Q := fun k => k < 65536) Tryz.underlying49 h fun m x hx => by
    obtain ⟨i, rfl, hw⟩ := shape_int Tryz.underlying129 hx
    have := wf_u16 hw
    exact ⟨i.toNat, by rw [Int.toNat_of_nonneg this.1], by omega⟩
  refine ⟨bs, ?_, hq, hl⟩
  rw [cs16]
  have : (bs.map fun b : Nat => wrapA Tryz.prog 129 [AV.v (.int .u16 (b : Int))]) = u16s bs := List.map_congr_left fun b _ => wrapA_one agN16 _
  rw [this]
theorem shInt (h : Shape Tryz.prog N n 51 cs) : ∃ (s : Bool) (l : List Nat), cs = [.v (.bool s), lim l] ∧ Lm l ∧ l.length ≤ N := by
  obtain ⟨m, rfl, hs⟩ := shape_struct Tryz.underlying51 (by kernel_rfl) h
  obtain ⟨x, y, rfl, h1, hs⟩ := hs.inv
  obtain ⟨z, y, rfl, h2, hs⟩ := hs.inv
  obtain rfl := hs.inv0
  obtain ⟨s, rfl⟩ := shape_bool Tryz.underlying4 h1
  obtain ⟨l, rfl, h3, h4⟩ := shNat h2
  exact ⟨s, l, rfl, h3, h4⟩
theorem shRat (h : Shape Tryz.prog N n 53 cs) : ∃ r : RQ, cs = [.v (.bool r.s), lim r.l, lim r.d] ∧ r.lm N := by
  obtain ⟨m, rfl, hs⟩ := shape_struct Tryz.underlying53 (by kernel_rfl) h
  obtain ⟨x, y, rfl, h1, hs⟩ := hs.inv
  obtain ⟨z, y, rfl, h2, hs⟩ := hs.inv
  obtain rfl := hs.inv0
  obtain ⟨s, l, rfl, h3, h4⟩ := shInt h1
  obtain ⟨d, rfl, h5, h6⟩ := shNat h2
  exact ⟨⟨s, l, d⟩, rfl, h3, h5, h4, h6⟩
/-- A point as it comes in. -/
structure RP where
  x : RQ
  y : RQ
abbrev RP.av (p : RP) : AV := .agg [.v (.bool p.x.s), lim p.x.l, lim p.x.d, .v (.bool p.y.s), lim p.y.l, lim p.y.d]
def RP.lm (p : RP) (k : Nat) : Prop := p.x.lm k ∧ p.y.lm k
end
end Go.Proofs.YteiopjkamgmfpaaGreat
end

section
namespace Go.Proofs.YteiopjkamgmfpaaGreat
open Go Go.RowKit Go.Pg
set_option linter.unusedSimpArgs false
set_option linter.unusedVariables false
set_option maxRecDepth 20000
attribute [-bool_to_prop] Bool.and_eq_decide Bool.or_eq_decide Bool.decide_beq_decide decide_eq_decide
abbrev iv (n : Int) : AV := .v (.int .i64 n)
abbrev strA (s : ByteArray) : AV := .v (.string s)
abbrev ivs (l : List Int) : AV := .sl 1 (l.map iv)
/-- A variable of a frame. -/
abbrev Vt := Int × Int × Int
abbrev Vt.av (v : Vt) : AV := .agg [iv v.1, iv v.2.1, iv v.2.2]
theorem getD_mapA {α : Type} {f : α → AV} {l : List α} {j : Nat} {d : α} (h : j < l.length) : (l.map f).getD j .u = f (l.getD j d) := by
  rw [List.getD_eq_getElem?_getD, List.getElem?_map, List.getElem?_eq_getElem h, List.getD_eq_getElem?_getD, List.getElem?_eq_getElem h]; rfl
theorem getD_mem {α : Type} {l : List α} {j : Nat} {d : α} (h : j < l.length) : l.getD j d ∈ l := by
  rw [List.getD_eq_getElem?_getD, List.getElem?_eq_getElem h]; exact List.getElem_mem h
theorem map_atB {α : Type} (f : α → AV) {l : List α} {k : Nat} (h : k < l.length) : (l.map f).getD k .u = f l[k] := by
  rw [List.getD_eq_getElem?_getD, List.getElem?_map, List.getElem?_eq_getElem h]; rfl
theorem szErr : szOf Tryz.prog 35 = some 1 := by kernel_rfl
theorem zErr : zeroOf Tryz.prog 35 = some (.int .i64 0) := by kernel_rfl

theorem szStr : szOf Tryz.prog 9 = some 1 := by kernel_rfl
theorem byStr : bytOf Tryz.prog 9 = some 16 := by kernel_rfl
theorem zStr : zeroOf Tryz.prog 9 = some (.string ByteArray.empty) := by kernel_rfl
theorem szVar : szOf Tryz.prog 107 = some 3 := by kernel_rfl
theorem byVar : bytOf Tryz.prog 107 = some 24 := by kernel_rfl
theorem zVar : zeroOf Tryz.prog 107 = some (.agg #[.int .i64 0, .int .i64 0, .int .i64 0]) := by kernel_rfl
theorem szFrame : szOf Tryz.prog 34 = some 2 := by kernel_rfl
theorem zFrame : zeroOf Tryz.prog 34 = some (.agg #[.slice none 0 0, .slice none 0 0]) := by kernel_rfl
theorem szFig : szOf Tryz.prog 25 = some 2 := by kernel_rfl
theorem zFig : zeroOf Tryz.prog 25 = some (.agg #[.slice none 0 0, .slice none 0 0]) := by kernel_rfl
theorem byPt : bytOf Tryz.prog 63 = some 112 := by kernel_rfl
theorem szVec : szOf Tryz.prog 135 = some 6 := by kernel_rfl
theorem zVec : zeroOf Tryz.prog 135 = some (.agg #[.bool false, .slice none 0 0, .slice none 0 0, .bool false, .slice none 0 0, .slice none 0 0]) := by kernel_rfl
theorem szTerm : szOf Tryz.prog 113 = some 4 := by kernel_rfl
theorem byTerm : bytOf Tryz.prog 113 = some 80 := by kernel_rfl
theorem zTerm : zeroOf Tryz.prog 113 = some (.agg #[.bool false, .slice none 0 0, .slice none 0 0, .slice none 0 0]) := by kernel_rfl
theorem szCoord : szOf Tryz.prog 69 = some 2 := by kernel_rfl
theorem byCoord : bytOf Tryz.prog 69 = some 48 := by kernel_rfl
theorem zCoord : zeroOf Tryz.prog 69 = some (.agg #[.slice none 0 0, .slice none 0 0]) := by kernel_rfl
theorem szStep : szOf Tryz.prog 55 = some 6 := by kernel_rfl
theorem byStep : bytOf Tryz.prog 55 = some 104 := by kernel_rfl
theorem zStep : zeroOf Tryz.prog 55 = some (.agg #[.int .i64 0, .string ByteArray.empty, .slice none 0 0, .bool false, .slice none 0 0, .slice none 0 0]) := by kernel_rfl
theorem szFact : szOf Tryz.prog 57 = some 5 := by kernel_rfl
theorem byFact : bytOf Tryz.prog 57 = some 88 := by kernel_rfl
theorem zFact : zeroOf Tryz.prog 57 = some (.agg #[.int .i64 0, .slice none 0 0, .bool false, .slice none 0 0, .slice none 0 0]) := by kernel_rfl
theorem szCond : szOf Tryz.prog 28 = some 3 := by kernel_rfl
theorem byCond : bytOf Tryz.prog 28 = some 40 := by kernel_rfl
theorem zCond : zeroOf Tryz.prog 28 = some (.agg #[.int .i64 0, .slice none 0 0, .int .i64 0]) := by kernel_rfl
theorem szCVec : szOf Tryz.prog 121 = some 2 := by kernel_rfl
theorem byCVec : bytOf Tryz.prog 121 = some 48 := by kernel_rfl
theorem zCVec : zeroOf Tryz.prog 121 = some (.agg #[.slice none 0 0, .slice none 0 0]) := by kernel_rfl
theorem szCBld : szOf Tryz.prog 120 = some 3 := by kernel_rfl
theorem byCBld : bytOf Tryz.prog 120 = some 56 := by kernel_rfl
theorem zCBld : zeroOf Tryz.prog 120 = some (.agg #[.slice none 0 0, .slice none 0 0, .int .i64 0]) := by kernel_rfl
theorem szPoly : szOf Tryz.prog 42 = some 1 := by kernel_rfl
theorem byPoly : bytOf Tryz.prog 42 = some 24 := by kernel_rfl
theorem zPoly : zeroOf Tryz.prog 42 = some (.slice none 0 0) := by kernel_rfl
theorem szMono : szOf Tryz.prog 111 = some 1 := by kernel_rfl
theorem byMono : bytOf Tryz.prog 111 = some 24 := by kernel_rfl
theorem zMono : zeroOf Tryz.prog 111 = some (.slice none 0 0) := by kernel_rfl
theorem szSlI : szOf Tryz.prog 26 = some 1 := by kernel_rfl
theorem zSlI : zeroOf Tryz.prog 26 = some (.slice none 0 0) := by kernel_rfl
theorem szSlS : szOf Tryz.prog 22 = some 1 := by kernel_rfl
theorem zSlS : zeroOf Tryz.prog 22 = some (.slice none 0 0) := by kernel_rfl
theorem szSlF : szOf Tryz.prog 23 = some 1 := by kernel_rfl
theorem zSlF : zeroOf Tryz.prog 23 = some (.slice none 0 0) := by kernel_rfl
theorem szSlC : szOf Tryz.prog 31 = some 1 := by kernel_rfl
theorem zSlC : zeroOf Tryz.prog 31 = some (.slice none 0 0) := by kernel_rfl
theorem szSlV : szOf Tryz.prog 32 = some 1 := by kernel_rfl
theorem zSlV : zeroOf Tryz.prog 32 = some (.slice none 0 0) := by kernel_rfl
theorem szSlP : szOf Tryz.prog 140 = some 1 := by kernel_rfl
theorem zSlP : zeroOf Tryz.prog 140 = some (.slice none 0 0) := by kernel_rfl
theorem szSlPt : szOf Tryz.prog 66 = some 1 := by kernel_rfl
theorem zSlPt : zeroOf Tryz.prog 66 = some (.slice none 0 0) := by kernel_rfl
theorem szSlStr : szOf Tryz.prog 60 = some 1 := by kernel_rfl
theorem zSlStr : zeroOf Tryz.prog 60 = some (.slice none 0 0) := by kernel_rfl
theorem szSlCd : szOf Tryz.prog 38 = some 1 := by kernel_rfl
theorem zSlCd : zeroOf Tryz.prog 38 = some (.slice none 0 0) := by kernel_rfl
end Go.Proofs.YteiopjkamgmfpaaGreat
end

section
namespace Go.Proofs.YteiopjkamgmfpaaGreat
open Go Go.RowKit Go.Pg Go.Pol
set_option linter.unusedSimpArgs false
set_option linter.unusedVariables false
set_option maxRecDepth 20000
attribute [-bool_to_prop] Bool.and_eq_decide Bool.or_eq_decide Bool.decide_beq_decide decide_eq_decide
/-! ### polynomials as they are kept -/
abbrev Tm := Rat × List Int
abbrev Po := List Tm
abbrev tmA (t : Tm) : AV := .agg [.v (.bool (decide (t.1.num < 0))), lim (toL t.1.num.natAbs), lim (toL t.1.den), ivs t.2]
abbrev poA (p : Po) : AV := .sl 4 (p.map tmA)
abbrev SrtM (p : Po) : Prop := Srt Can ltM p
abbrev addM (p q : Po) : Po := addP ltM p q
abbrev subM (p q : Po) : Po := subP ltM p q
abbrev mlM (p q : Po) : Po := mulR ltM mulM p q
def sclM (a : Rat) (p : Po) : Po := if a = 0 then [] else scaleP a p
/-- Coefficients of at most k limbs, monomials with exponents of at most e. -/
def PK (p : Po) (k e : Nat) : Prop := ∀ t ∈ p, Sz t.1 k ∧ t.2.length ≤ 1000 ∧ ∀ j, 0 ≤ gI t.2 j ∧ gI t.2 j ≤ (e : Int)
theorem PK.mono {p : Po} {k j e f : Nat} (h : PK p k e) (hk : k ≤ j) (he : e ≤ f) : PK p j f := fun t ht => ⟨(h t ht).1.mono hk, (h t ht).2.1, fun i => by have := (h t ht).2.2 i; omega⟩
theorem PK.sm {p : Po} {k e : Nat} (h : PK p k e) (he : e ≤ 16777216) {t : Tm} (ht : t ∈ p) : Sm t.2 := ⟨(h t ht).2.1, fun i => by have := (h t ht).2.2 i; omega⟩
theorem PK.nil {k e : Nat} : PK [] k e := fun t ht => by simp at ht
theorem PK.tail {t : Tm} {p : Po} {k e : Nat} (h : PK (t :: p) k e) : PK p k e := fun u hu => h u (.tail _ hu)
theorem PK.drop {p : Po} {k e : Nat} (h : PK p k e) (i : Nat) : PK (p.drop i) k e := fun u hu => h u (List.mem_of_mem_drop hu)
theorem PK.add {p q : Po} {j k e : Nat} (hp : PK p j e) (hq : PK q k e) : PK (addM p q) (j + k + 1) e := fun t ht => by
  rcases mem_addP' ht with h | h | ⟨s, hs, u, hu, rfl⟩
  · exact ⟨(hp t h).1.mono (by omega), (hp t h).2⟩
  · exact ⟨(hq t h).1.mono (by omega), (hq t h).2⟩
  · exact ⟨(hp s hs).1.add (hq u hu).1, (hp s hs).2⟩
theorem PK.scale {p : Po} {j k e : Nat} {a : Rat} (hp : PK p j e) (ha : Sz a k) : PK (scaleP a p) (j + k) e := fun t ht => by
  obtain ⟨s, hs, rfl⟩ := List.mem_map.1 ht
  exact ⟨(hp s hs).1.mul ha, (hp s hs).2⟩
theorem PK.times {p : Po} {t : Tm} {j k e f : Nat} (hp : PK p j e) (ht : PK [t] k f) : PK (timesP mulM p t) (j + k) (e + f) := fun u hu => by
  obtain ⟨s, hs, rfl⟩ := List.mem_map.1 hu
  have h1 := hp s hs
  have h2 := ht t (.head _)
  refine ⟨h1.1.mul h2.1, by rw [mulM_len]; have := h1.2.1; have := h2.2.1; omega, fun i => ?_⟩
  show 0 ≤ gI (mulM s.2 t.2) i ∧ gI (mulM s.2 t.2) i ≤ _
  rw [gI_zip _ rfl]
  have := h1.2.2 i
  have := h2.2.2 i
  omega
theorem lexM_cases {a b : List Int} (ha : Can a) (hb : Can b) : (ltM a b ∧ lexC a b (max a.length b.length) = -1) ∨ (¬ ltM a b ∧ ¬ ltM b a ∧ a = b ∧ lexC a b (max a.length b.length) = 0) ∨ (ltM b a ∧ ¬ ltM a b ∧ lexC a b (max a.length b.length) = 1) := by
  rcases @lexC_three a b (max a.length b.length) with ⟨h, h2⟩ | h | h
  · have e : a = b := can_ext ha hb fun j => by
      by_cases hj : j < max a.length b.length
      · exact h2 j hj
      · rw [gI_out (by omega), gI_out (by omega)]
    refine .inr (.inl ⟨?_, ?_, e, h⟩)
    · unfold ltM; rw [h]; decide
    · subst e; unfold ltM; rw [h]; decide
  · exact .inl ⟨h, h⟩
  · have h3 : ltM b a := by unfold ltM; rw [Nat.max_comm, lexC_neg, h]
    refine .inr (.inr ⟨h3, ?_, h⟩)
    unfold ltM; rw [h]; decide
theorem trim_can {l : List Int} (h : Can l) : trimI l = l := by
  unfold trimI
  rcases h.2 with h0 | h0
  · have : l = [] := List.length_eq_zero_iff.1 h0
    subst this; rfl
  · rcases Nat.eq_zero_or_pos l.length with h1 | h1
    · have : l = [] := List.length_eq_zero_iff.1 h1
      subst this; rfl
    · rw [trimN_stop h1 h0, List.take_length]
theorem can_nil : Can [] := ⟨fun j => by rw [gI_out (Nat.zero_le _)]; omega, .inl rfl⟩
theorem mulM_nil (a : List Int) : mulM a [] = a := by
  refine List.ext_getElem (by rw [mulM_len]; simp) fun j h1 h2 => ?_
  have := gI_zip (· + ·) rfl a [] j
  rw [gI_at h1, gI_at h2, gI_out (Nat.zero_le _), Int.add_zero] at this
  exact this
theorem nil_mulM (a : List Int) : mulM [] a = a := by rw [mulK.comm]; exact mulM_nil a
theorem times_unit (p : Po) (a : Rat) : timesP mulM p (a, []) = scaleP a p := by
  unfold timesP scaleP
  exact List.map_congr_left fun s _ => by rw [mulM_nil]
/-! ### variables -/
def unitM (v : Nat) : List Int := List.replicate v 0 ++ [1]
theorem unitM_len (v : Nat) : (unitM v).length = v + 1 := by simp [unitM]
theorem gI_unit (v j : Nat) : gI (unitM v) j = if j = v then 1 else 0 := by
  by_cases h : j < v + 1
  · rw [gI_at (by rw [unitM_len]; exact h)]
    unfold unitM
    rw [List.getElem_append]
    by_cases hj : j < v
    · rw [dif_pos (by simpa using hj), List.getElem_replicate, if_neg (by omega)]
    · rw [dif_neg (by simpa using hj), if_pos (by omega)]; simp
  · rw [gI_out (by rw [unitM_len]; omega), if_neg (by omega)]
theorem can_unit (v : Nat) : Can (unitM v) := by
  refine ⟨fun j => by rw [gI_unit]; split <;> omega, .inr ?_⟩
  rw [unitM_len, gI_unit, if_pos (by omega)]; omega
def varM (v : Nat) : Po := if v < 64 then [(1, unitM v)] else []
theorem varM_srt (v : Nat) : SrtM (varM v) := by
  unfold varM
  split
  · exact Srt.nil.cons (by show (1 : Rat) ≠ 0; decide) (can_unit v) (by simp)
  · exact .nil
theorem varM_pk (v : Nat) : PK (varM v) 1 1 := by
  unfold varM
  split
  · intro t ht
    rw [List.mem_singleton] at ht
    subst ht
    refine ⟨nat_sz1 1 (by omega), by show (unitM v).length ≤ 1000; rw [unitM_len]; omega, fun j => ?_⟩
    show 0 ≤ gI (unitM v) j ∧ gI (unitM v) j ≤ _
    rw [gI_unit]; split <;> omega
  · exact .nil
/-- The program's and the reference's products of a number. -/
theorem mul_const {r : Rat} (hr : r ≠ 0) {q : Po} (hq : SrtM q) : mlM [(r, [])] q = scaleP r q := mulR_unit ordM mulK nil_mulM can_nil hr hq
end Go.Proofs.YteiopjkamgmfpaaGreat
end

section
namespace Go.Proofs.YteiopjkamgmfpaaGreat
open Go Go.RowKit Go.Pg Go.Pol
set_option linter.unusedSimpArgs false
set_option linter.unusedVariables false
set_option maxRecDepth 20000
attribute [-bool_to_prop] Bool.and_eq_decide Bool.or_eq_decide Bool.decide_beq_decide decide_eq_decide
/-! ### figures as they come in -/
structure RS where
  k : Int
  nm : ByteArray
  ar : List Int
  r : RQ
structure RG where
  k : Int
  ar : List Int
  r : RQ
abbrev RS.av (s : RS) : AV := .agg [iv s.k, strA s.nm, ivs s.ar, .v (.bool s.r.s), lim s.r.l, lim s.r.d]
abbrev RG.av (g : RG) : AV := .agg [iv g.k, ivs g.ar, .v (.bool g.r.s), lim g.r.l, lim g.r.d]
abbrev figA (ss : List RS) (gs : List RG) : AV := .agg [.sl 6 (ss.map RS.av), .sl 5 (gs.map RG.av)]
def RQ.none (r : RQ) : Bool := !r.s && (decide (r.l.length = 0) && decide (r.d.length = 0))
/-! ### frames that grow -/
structure FS where
  cs : List (Po × Po)
  vs : List Vt
  fr : Nat
abbrev coA (c : Po × Po) : AV := .agg [poA c.1, poA c.2]
def FS.at (f : FS) (s : RS) (k : Nat) : Po × Po := f.cs.getD (gI s.ar k).toNat ([], [])
/-- The new variables of a step, and the coordinates of its point. -/
def FS.nxt (f : FS) (i : Nat) (s : RS) : List Vt × (Po × Po) :=
  let v := f.vs.length
  let a := f.at s 0
  let b := f.at s 1
  let c := f.at s 2
  if s.k = 1 then
    (if f.fr = 0 then ([], ([], []))
     else if f.fr = 1 then ([(1, (i : Int), 0)], (varM v, []))
     else ([(1, (i : Int), 0), (1, (i : Int), 1)], (varM v, varM (v + 1))))
  else if s.k = 2 then ([], (addM a.1 (sclM s.r.q (subM b.1 a.1)), addM a.2 (sclM s.r.q (subM b.2 a.2))))
  else if s.k = 3 then ([], (addM a.1 (subM c.1 b.1), addM a.2 (subM c.2 b.2)))
  else if s.k = 4 then ([], (addM a.1 (subM b.2 c.2), addM a.2 (subM c.1 b.1)))
  else if s.k = 5 then ([(1, (i : Int), 0)], (addM a.1 (mlM (subM b.1 a.1) (varM v)), addM a.2 (mlM (subM b.2 a.2) (varM v))))
  else if s.k = 6 then ([(1, (i : Int), 0), (2, (i : Int), 1), (2, (i : Int), 2)], (varM (v + 1), varM (v + 2)))
  else ([(2, (i : Int), 0), (2, (i : Int), 1)], (varM v, varM (v + 1)))
def FS.push (f : FS) (i : Nat) (s : RS) : FS := ⟨f.cs ++ [(f.nxt i s).2], f.vs ++ (f.nxt i s).1, if s.k = 1 then f.fr + 1 else f.fr⟩
def frN (ss : List RS) : Nat → FS
  | 0 => ⟨[], [], 0⟩
  | i + 1 => (frN ss i).push i (ss.getD i ⟨0, .empty, [], ⟨false, [], []⟩⟩)
/-- The i-th step makes too much. -/
def bigN (ss : List RS) (i : Nat) : Bool :=
  decide (64 < (frN ss (i + 1)).vs.length) || decide (4000 < ((frN ss i).nxt i (ss.getD i ⟨0, .empty, [], ⟨false, [], []⟩⟩)).2.1.length) || decide (4000 < ((frN ss i).nxt i (ss.getD i ⟨0, .empty, [], ⟨false, [], []⟩⟩)).2.2.length)
theorem frN_len (ss : List RS) : ∀ i, (frN ss i).cs.length = i
  | 0 => rfl
  | i + 1 => by show ((frN ss i).cs ++ [_]).length = i + 1; rw [List.length_append, frN_len ss i]; rfl
/-! ### what frames are made of -/
def BB (n : Nat) : Nat := 65536 ^ (3 * n)
theorem BB_pos (n : Nat) : 1 ≤ BB n := Nat.one_le_pow _ _ (by omega)
theorem BB_succ (n : Nat) : BB (n + 1) = BB n * 65536 ^ 3 := by unfold BB; rw [← Nat.pow_add]; rfl
/-- Good polynomials: denominators that divide D, numbers of a bounded size, at most v variables, to the first power. -/
def GP (n D v : Nat) (p : Po) : Prop := SrtM p ∧ ∀ t ∈ p, BQ D (BB n) t.1 ∧ t.2.length ≤ v ∧ ∀ j, gI t.2 j ≤ 1
theorem GP.nil {n D v : Nat} : GP n D v [] := ⟨.nil, fun t h => by simp at h⟩
theorem GP.mono {n D v m E w : Nat} {p : Po} (h : GP n D v p) (hn : n ≤ m) (hd : D ∣ E) (hv : v ≤ w) : GP m E w p :=
  ⟨h.1, fun t ht => ⟨(h.2 t ht).1.mono hd (Nat.pow_le_pow_right (by omega) (by omega)), by have := (h.2 t ht).2.1; omega, (h.2 t ht).2.2⟩⟩
theorem bq_sz {D B d b : Nat} {q : Rat} (h : BQ D B q) (h0 : D ≠ 0) (hd : D < 65536 ^ d) (hb : B < 65536 ^ b) : Sz q (d + b) := by
  have h1 : q.den ≤ D := Nat.le_of_dvd (Nat.pos_of_ne_zero h0) h.1
  refine ⟨toL_len_lt.2 ?_, Nat.le_trans (toL_len_lt.2 (Nat.lt_of_le_of_lt h1 hd)) (by omega)⟩
  have hp : 0 < q.den := q.den_pos
  calc q.num.natAbs ≤ B * q.den := h.2
    _ ≤ B * D := Nat.mul_le_mul_left _ h1
    _ < 65536 ^ b * 65536 ^ d := Nat.mul_lt_mul_of_lt_of_lt hb hd
    _ = 65536 ^ (d + b) := by rw [Nat.mul_comm, ← Nat.pow_add]
theorem GP.pk {n D v : Nat} {p : Po} (h : GP n D v p) (hv : v ≤ 1000) (h0 : D ≠ 0) (hd : D < 65536 ^ (2 * n + 1)) (hn : n ≤ 20) : PK p 110 1 := fun t ht => by
  obtain ⟨h1, h2, h3⟩ := h.2 t ht
  refine ⟨(bq_sz (b := 3 * n + 1) h1 h0 hd (by unfold BB; exact Nat.pow_lt_pow_right (by omega) (by omega))).mono (by omega), by omega, fun j => ⟨(h.1.1 t ht).2.1 j, h3 j⟩⟩
/-- The same with another bound of the numbers. -/
def GB (B D v : Nat) (p : Po) : Prop := SrtM p ∧ ∀ t ∈ p, BQ D B t.1 ∧ t.2.length ≤ v ∧ ∀ j, gI t.2 j ≤ 1
theorem GB.mono {B D v C E w : Nat} {p : Po} (h : GB B D v p) (hn : B ≤ C) (hd : D ∣ E) (hv : v ≤ w) : GB C E w p :=
  ⟨h.1, fun t ht => ⟨(h.2 t ht).1.mono hd hn, by have := (h.2 t ht).2.1; omega, (h.2 t ht).2.2⟩⟩
theorem GB.add {B C D v : Nat} {p q : Po} (h : GB B D v p) (k : GB C D v q) : GB (B + C) D v (addM p q) := by
  refine ⟨addP_srt ordM h.1 k.1, fun t ht => ?_⟩
  rcases mem_addP' ht with h1 | h1 | ⟨s, hs, u, hu, rfl⟩
  · exact ⟨(h.2 t h1).1.mono (Nat.dvd_refl _) (by omega), (h.2 t h1).2⟩
  · exact ⟨(k.2 t h1).1.mono (Nat.dvd_refl _) (by omega), (k.2 t h1).2⟩
  · exact ⟨(h.2 s hs).1.add (k.2 u hu).1, (h.2 s hs).2⟩
theorem GB.neg {B D v : Nat} {p : Po} (h : GB B D v p) : GB B D v (scaleP (-1) p) := by
  refine ⟨scale_srt h.1 neg1, fun t ht => ?_⟩
  obtain ⟨s, hs, rfl⟩ := List.mem_map.1 ht
  refine ⟨?_, (h.2 s hs).2⟩
  have e : s.1 * -1 = -s.1 := by grind
  show BQ D B (s.1 * -1)
  rw [e]; exact (h.2 s hs).1.neg
theorem GB.sub {B C D v : Nat} {p q : Po} (h : GB B D v p) (k : GB C D v q) : GB (B + C) D v (subM p q) := h.add k.neg
theorem GB.scl {B C D E v : Nat} {p : Po} {a : Rat} (h : GB B D v p) (ha : BQ E C a) : GB (B * C) (D * E) v (sclM a p) := by
  unfold sclM
  split
  · exact ⟨.nil, fun t h => by simp at h⟩
  · rename_i h0
    refine ⟨scale_srt h.1 h0, fun t ht => ?_⟩
    obtain ⟨s, hs, rfl⟩ := List.mem_map.1 ht
    exact ⟨(h.2 s hs).1.mul ha, (h.2 s hs).2⟩
theorem mul_var (p : Po) (v : Nat) : mlM p (varM v) = if v < 64 then timesP mulM p (1, unitM v) else [] := by
  unfold varM
  split
  · show addP ltM [] (timesP mulM p (1, unitM v)) = _
    simp [addP]
  · rfl
theorem GB.var {B D v : Nat} {p : Po} (h : GB B D v p) : GB B D (v + 1) (mlM p (varM v)) := by
  refine ⟨mulR_srt ordM mulK h.1 (varM_srt v), fun t ht => ?_⟩
  rw [mul_var] at ht
  split at ht
  · obtain ⟨s, hs, rfl⟩ := List.mem_map.1 ht
    obtain ⟨h1, h2, h3⟩ := h.2 s hs
    refine ⟨by show BQ D B (s.1 * 1); rw [Rat.mul_one]; exact h1, by show (mulM s.2 (unitM v)).length ≤ v + 1; rw [mulM_len, unitM_len]; omega, fun j => ?_⟩
    show gI (mulM s.2 (unitM v)) j ≤ 1
    rw [gI_zip _ rfl, gI_unit]
    split
    · rename_i hj
      rw [gI_out (by omega)]; omega
    · have := h3 j; omega
  · simp at ht
theorem GB.one {B D v w : Nat} (hB : 1 ≤ B) (h : v < w) : GB B D w (varM v) := by
  refine ⟨varM_srt v, fun t ht => ?_⟩
  unfold varM at ht
  split at ht
  · rw [List.mem_singleton] at ht
    subst ht
    refine ⟨BQ.int 1 (by simpa using hB), by show (unitM v).length ≤ w; rw [unitM_len]; omega, fun j => ?_⟩
    show gI (unitM v) j ≤ 1
    rw [gI_unit]; split <;> omega
  · simp at ht
theorem GB.nil {B D v : Nat} : GB B D v [] := ⟨.nil, fun t h => by simp at h⟩
/-- A frame in good order: n steps that are not free so far. -/
structure FI (f : FS) (n D : Nat) : Prop where
  D0 : D ≠ 0
  Dl : D < 65536 ^ (2 * n + 1)
  nv : f.vs.length ≤ 64
  cs : ∀ c ∈ f.cs, GP n D f.vs.length c.1 ∧ GP n D f.vs.length c.2
  ln : ∀ c ∈ f.cs, c.1.length ≤ 4000 ∧ c.2.length ≤ 4000
theorem FI.at {f : FS} {n D : Nat} (h : FI f n D) (s : RS) (k : Nat) : (GP n D f.vs.length (f.at s k).1 ∧ GP n D f.vs.length (f.at s k).2) ∧ (f.at s k).1.length ≤ 4000 ∧ (f.at s k).2.length ≤ 4000 := by
  unfold FS.at
  by_cases hk : (gI s.ar k).toNat < f.cs.length
  · have := getD_mem (d := (([], []) : Po × Po)) hk
    exact ⟨h.cs _ this, h.ln _ this⟩
  · rw [List.getD_eq_getElem?_getD, List.getElem?_eq_none (by omega)]
    exact ⟨⟨.nil, .nil⟩, by simp, by simp⟩
/-- The ratio of a step is small. -/
def RQ.bd (r : RQ) : Prop := r.ok = true → r.q.den < 65536 ^ 2 ∧ r.q.num.natAbs < 65536 ^ 2
theorem lm_bd {r : RQ} (h : r.lm 2) : r.bd := fun ho => by
  obtain ⟨-, h1, h2⟩ := RQ.ok_av h ho
  exact ⟨toL_len_lt.1 h2, toL_len_lt.1 h1⟩
theorem FI.nxt {f : FS} {n D : Nat} (h : FI f n D) (i : Nat) (s : RS) (hr : s.k = 2 → s.r.ok = true) (hb : s.r.bd) :
    ∃ E, E ≠ 0 ∧ D ∣ E ∧ E < 65536 ^ (2 * (n + if s.k = 1 then 0 else 1) + 1) ∧
      GP (n + if s.k = 1 then 0 else 1) E (f.vs ++ (f.nxt i s).1).length (f.nxt i s).2.1 ∧ GP (n + if s.k = 1 then 0 else 1) E (f.vs ++ (f.nxt i s).1).length (f.nxt i s).2.2 := by
  obtain ⟨⟨a1, a2⟩, -⟩ := h.at s 0
  obtain ⟨⟨b1, b2⟩, -⟩ := h.at s 1
  obtain ⟨⟨c1, c2⟩, -⟩ := h.at s 2
  have hB := BB_pos n
  have hS := BB_succ n
  unfold FS.nxt
  simp only
  have one : ∀ v w, v < w → GP n D w (varM v) := fun v w hv => GB.one hB hv
  have up : ∀ {E v : Nat} {p : Po} {C : Nat}, GB C E v p → C ≤ BB n * 65536 ^ 3 → GP (n + 1) E v p := fun h hc => GB.mono h (by rw [hS]; exact hc) (Nat.dvd_refl _) (Nat.le_refl _)
  have dl : D < 65536 ^ (2 * (n + 1) + 1) := Nat.lt_of_lt_of_le h.Dl (Nat.pow_le_pow_right (by omega) (by omega))
  have b3 : BB n + (BB n + BB n) ≤ BB n * 65536 ^ 3 := by
    have : BB n * 3 ≤ BB n * 65536 ^ 3 := Nat.mul_le_mul_left _ (by decide)
    omega
  by_cases k1 : s.k = 1
  · rw [if_pos k1, if_pos k1]
    refine ⟨D, h.D0, Nat.dvd_refl _, h.Dl, ?_⟩
    split
    · exact ⟨.nil, .nil⟩
    · split
      · exact ⟨one _ _ (by simp), .nil⟩
      · exact ⟨one _ _ (by simp), one _ _ (by simp)⟩
  · rw [if_neg k1, if_neg k1]
    by_cases k2 : s.k = 2
    · rw [if_pos k2]
      obtain ⟨h1, h2⟩ := hb (hr k2)
      refine ⟨D * s.r.q.den, Nat.mul_ne_zero h.D0 s.r.q.den_nz, Nat.dvd_mul_right _ _, ?_, ?_⟩
      · calc D * s.r.q.den < 65536 ^ (2 * n + 1) * 65536 ^ 2 := Nat.mul_lt_mul_of_lt_of_lt h.Dl h1
          _ = 65536 ^ (2 * (n + 1) + 1) := by rw [← Nat.pow_add]; congr 1
      · have hq : BQ s.r.q.den (65536 ^ 2) s.r.q := ⟨Nat.dvd_refl _, by have := s.r.q.den_pos; have := Nat.le_mul_of_pos_right (65536 ^ 2) this; omega⟩
        have bd : BB n + (BB n + BB n) * 65536 ^ 2 ≤ BB n * 65536 ^ 3 := by
          have e1 : (BB n + BB n) * 65536 ^ 2 = BB n * (2 * 65536 ^ 2) := by rw [← Nat.mul_two, Nat.mul_assoc]
          rw [e1]
          have : BB n * (1 + 2 * 65536 ^ 2) ≤ BB n * 65536 ^ 3 := Nat.mul_le_mul_left _ (by decide)
          omega
        rw [List.append_nil]
        exact ⟨up ((GB.mono a1 (Nat.le_refl _) (Nat.dvd_mul_right _ _) (Nat.le_refl _)).add ((GB.sub b1 a1).scl hq)) bd, up ((GB.mono a2 (Nat.le_refl _) (Nat.dvd_mul_right _ _) (Nat.le_refl _)).add ((GB.sub b2 a2).scl hq)) bd⟩
    · rw [if_neg k2]
      refine ⟨D, h.D0, Nat.dvd_refl _, dl, ?_⟩
      have one' : ∀ v w, v < w → GP (n + 1) D w (varM v) := fun v w hv => GB.one (BB_pos _) hv
      by_cases k3 : s.k = 3
      · rw [if_pos k3, List.append_nil]
        exact ⟨up (GB.add a1 (GB.sub c1 b1)) b3, up (GB.add a2 (GB.sub c2 b2)) b3⟩
      · rw [if_neg k3]
        by_cases k4 : s.k = 4
        · rw [if_pos k4, List.append_nil]
          exact ⟨up (GB.add a1 (GB.sub b2 c2)) b3, up (GB.add a2 (GB.sub c1 b1)) b3⟩
        · rw [if_neg k4]
          by_cases k5 : s.k = 5
          · rw [if_pos k5]
            have e : (f.vs ++ [(1, (i : Int), 0)]).length = f.vs.length + 1 := by simp
            rw [e]
            exact ⟨up (GB.add (GB.mono a1 (Nat.le_refl _) (Nat.dvd_refl _) (by omega)) (GB.sub b1 a1).var) b3, up (GB.add (GB.mono a2 (Nat.le_refl _) (Nat.dvd_refl _) (by omega)) (GB.sub b2 a2).var) b3⟩
          · rw [if_neg k5]
            by_cases k6 : s.k = 6
            · rw [if_pos k6]
              exact ⟨one' _ _ (by simp), one' _ _ (by simp)⟩
            · rw [if_neg k6]
              exact ⟨one' _ _ (by simp), one' _ _ (by simp)⟩
/-- How many of the first steps are not free. -/
def nfN (ss : List RS) : Nat → Nat
  | 0 => 0
  | i + 1 => nfN ss i + if (ss.getD i ⟨0, .empty, [], ⟨false, [], []⟩⟩).k = 1 then 0 else 1
theorem frN_ok (ss : List RS) (hr : ∀ s ∈ ss, s.k = 2 → s.r.ok = true) (hb : ∀ s ∈ ss, s.r.bd) : ∀ i, i ≤ ss.length → (∀ j, j < i → bigN ss j = false) → ∃ D, FI (frN ss i) (nfN ss i) D
  | 0, _, _ => ⟨1, by omega, by show 1 < 65536 ^ (2 * 0 + 1); decide, Nat.zero_le _, fun c h => by simp [frN] at h, fun c h => by simp [frN] at h⟩
  | i + 1, hi, hj => by
    obtain ⟨D, hD⟩ := frN_ok ss hr hb i (by omega) fun j h => hj j (by omega)
    have hbig := hj i (by omega)
    unfold bigN at hbig
    simp only [Bool.or_eq_false_iff, decide_eq_false_iff_not, Nat.not_lt] at hbig
    have hm : ss.getD i ⟨0, .empty, [], ⟨false, [], []⟩⟩ ∈ ss := getD_mem (by omega)
    have hs1 := hr _ hm
    have hs2 := hb _ hm
    unfold nfN
    show ∃ D, FI ((frN ss i).push i (ss.getD i ⟨0, .empty, [], ⟨false, [], []⟩⟩)) _ D
    have hv := hbig.1.1
    unfold frN at hv
    generalize ss.getD i ⟨0, .empty, [], ⟨false, [], []⟩⟩ = s at *
    obtain ⟨E, e0, e1, e2, g1, g2⟩ := hD.nxt i s hs1 hs2
    refine ⟨E, e0, e2, hv, fun c hc => ?_, fun c hc => ?_⟩
    · rcases List.mem_append.1 hc with h1 | h1
      · obtain ⟨k1, k2⟩ := hD.cs c h1
        have hl : (frN ss i).vs.length ≤ ((frN ss i).push i s).vs.length := by show _ ≤ ((frN ss i).vs ++ ((frN ss i).nxt i s).1).length; rw [List.length_append]; omega
        exact ⟨k1.mono (by omega) e1 hl, k2.mono (by omega) e1 hl⟩
      · rw [List.mem_singleton] at h1
        subst h1
        exact ⟨g1, g2⟩
    · rcases List.mem_append.1 hc with h1 | h1
      · exact hD.ln c h1
      · rw [List.mem_singleton] at h1
        subst h1
        exact ⟨hbig.1.2, hbig.2⟩
end Go.Proofs.YteiopjkamgmfpaaGreat
end

section
/- The engine, part Z: a caller's memory as its callee sees it, its names moved everywhere; boxes that hold a nil slice. -/
namespace Go.Pg
open Go Go.RowKit
set_option linter.unusedSimpArgs false
set_option linter.unusedVariables false
mutual
def AV.sh : AV → AV
  | .agg cs => .agg (AV.shL cs)
  | .tup cs => .tup (AV.shL cs)
  | .fn f cs => .fn f (AV.shL cs)
  | .ifc t x => .ifc t (AV.sh x)
  | .own k sv => .own (k + 1000) sv
  | .prow k sv m i off => .prow (k + 1000) sv m i off
  | .pbox k g off => .pbox (k + 1000) g off
  | .view k sv m i len => .view (k + 1000) sv m i len
  | .mp k g => .mp (k + 1000) g
  | .v x => .v x
  | .sl m es => .sl m es
  | .pimm cs => .pimm cs
  | .u => .u
def AV.shL : List AV → List AV
  | [] => []
  | a :: r => AV.sh a :: AV.shL r
end
theorem AV.shL_len : ∀ (l : List AV), (AV.shL l).length = l.length
  | [] => rfl
  | a :: r => by simp only [AV.shL, List.length_cons, AV.shL_len r]
theorem AV.shL_at : ∀ (l : List AV) (j : Nat), (AV.shL l)[j]? = (l[j]?).map AV.sh
  | [], j => by simp [AV.shL]
  | a :: r, 0 => by simp [AV.shL]
  | a :: r, j + 1 => by simp only [AV.shL, List.getElem?_cons_succ]; exact AV.shL_at r j
theorem AV.sh_one (a : AV) : a.sh.one = a.one := by cases a <;> simp only [AV.sh] <;> rfl
theorem Sub.agg (aS bs : List AV) (hl : aS.length = bs.length) (h : ∀ (j : Nat) (a b : AV), aS[j]? = some a → bs[j]? = some b → Sub a b) : Sub (.agg aS) (.agg bs) := fun w imm x hx => by
  obtain ⟨vs, rfl, h1, h2⟩ := hx.agg_inv
  refine .agg _ _ (by omega) fun j b y hb hy => ?_
  have hj : j < aS.length := by rw [hl]; exact (List.getElem?_eq_some_iff.1 hb).1
  exact h j aS[j] b (List.getElem?_eq_getElem hj) hb w imm y (h2 j aS[j] y (List.getElem?_eq_getElem hj) hy)
theorem Sub.fn (f : FuncId) (aS bs : List AV) (hl : aS.length = bs.length) (h : ∀ (j : Nat) (a b : AV), aS[j]? = some a → bs[j]? = some b → Sub a b) : Sub (.fn f aS) (.fn f bs) := fun w imm x hx => by
  obtain ⟨vs, rfl, h1, h2⟩ := hx.fn_inv
  refine .fn _ _ _ (by omega) fun j b y hb hy => ?_
  have hj : j < aS.length := by rw [hl]; exact (List.getElem?_eq_some_iff.1 hb).1
  exact h j aS[j] b (List.getElem?_eq_getElem hj) hb w imm y (h2 j aS[j] y (List.getElem?_eq_getElem hj) hy)
theorem Sub.ifc (t : TypeId) {a b : AV} (h : Sub a b) : Sub (.ifc t a) (.ifc t b) := fun w imm x hx => by
  obtain ⟨y, rfl, h1⟩ := hx.ifc_inv
  exact .ifc _ _ _ (h w imm y h1)
mutual
theorem AV.sub_sh : ∀ (a : AV), Sub a a.sh ∧ Sub a.sh a
  | .agg cs => by
    have h := AV.subL_sh cs
    refine ⟨Sub.agg _ _ (AV.shL_len cs).symm fun j a b h1 h2 => ?_, Sub.agg _ _ (AV.shL_len cs) fun j a b h1 h2 => ?_⟩
    · rw [AV.shL_at, h1] at h2; cases h2; exact (h a (List.mem_of_getElem? h1)).1
    · rw [AV.shL_at, h2] at h1; cases h1; exact (h b (List.mem_of_getElem? h2)).2
  | .tup cs => by
    have h := AV.subL_sh cs
    refine ⟨Sub.tup _ _ (AV.shL_len cs).symm fun j a b h1 h2 => ?_, Sub.tup _ _ (AV.shL_len cs) fun j a b h1 h2 => ?_⟩
    · rw [AV.shL_at, h1] at h2; cases h2; exact (h a (List.mem_of_getElem? h1)).1
    · rw [AV.shL_at, h2] at h1; cases h1; exact (h b (List.mem_of_getElem? h2)).2
  | .fn f cs => by
    have h := AV.subL_sh cs
    refine ⟨Sub.fn _ _ _ (AV.shL_len cs).symm fun j a b h1 h2 => ?_, Sub.fn _ _ _ (AV.shL_len cs) fun j a b h1 h2 => ?_⟩
    · rw [AV.shL_at, h1] at h2; cases h2; exact (h a (List.mem_of_getElem? h1)).1
    · rw [AV.shL_at, h2] at h1; cases h1; exact (h b (List.mem_of_getElem? h2)).2
  | .ifc t x => ⟨Sub.ifc t (AV.sub_sh x).1, Sub.ifc t (AV.sub_sh x).2⟩
  | .own k sv => ⟨Sub.own _ _ _, Sub.own _ _ _⟩
  | .prow k sv m i off => ⟨Sub.prow _ _ _ _ _ _, Sub.prow _ _ _ _ _ _⟩
  | .pbox k g off => ⟨Sub.pbox _ _ _ _, Sub.pbox _ _ _ _⟩
  | .view k sv m i len => ⟨Sub.view _ _ _ _ _ _, Sub.view _ _ _ _ _ _⟩
  | .mp k g => ⟨Sub.mp _ _ _, Sub.mp _ _ _⟩
  | .v x => ⟨Sub.refl _, Sub.refl _⟩
  | .sl m es => ⟨Sub.refl _, Sub.refl _⟩
  | .pimm cs => ⟨Sub.refl _, Sub.refl _⟩
  | .u => ⟨Sub.refl _, Sub.refl _⟩
theorem AV.subL_sh : ∀ (l : List AV) (a : AV), a ∈ l → Sub a a.sh ∧ Sub a.sh a
  | [], a, h => by simp at h
  | b :: r, a, h => by
    by_cases e : a = b
    · rw [e]; exact AV.sub_sh b
    · exact AV.subL_sh r a ((List.mem_cons.1 h).resolve_left e)
end
def Ent.sh : Ent → Ent
  | .row sv e m es pub => .row sv e m es pub
  | .box g e cs pub => .box g e (AV.shL cs) pub
  | .map g es => .map g es
theorem Ent.sh_blk (e : Ent) : e.sh.blk = e.blk := by cases e <;> rfl
theorem Ent.sh_ok {B : Nat} {w : World} {imm : Imm} {e : Ent} (h : EntOk B w imm e) : EntOk B w imm e.sh := by
  cases e with
  | row => exact h
  | box g e cs pub =>
    obtain ⟨cur, h1, h2, h3, h4, h5, h6, h7⟩ := h
    refine ⟨cur, h1, h2, by rw [AV.shL_len]; exact h3, fun x hx => ?_, fun j a x ha hx => ?_, h6, fun hp off ho => h7 hp off (by rw [AV.shL_len] at ho; exact ho)⟩
    · obtain ⟨j, hj⟩ := List.mem_iff_getElem?.1 hx
      rw [AV.shL_at] at hj
      obtain ⟨y, hy, rfl⟩ := Option.map_eq_some_iff.1 hj
      rw [AV.sh_one]; exact h4 y (List.mem_of_getElem? hy)
    · rw [AV.shL_at] at ha
      obtain ⟨y, hy, rfl⟩ := Option.map_eq_some_iff.1 ha
      exact (AV.sub_sh y).1 w imm x (h5 j y x hy hx)
  | map => exact h
theorem Ent.of_sh {B : Nat} {w : World} {imm : Imm} {e : Ent} (h : EntOk B w imm e.sh) : EntOk B w imm e := by
  cases e with
  | row => exact h
  | box g e cs pub =>
    obtain ⟨cur, h1, h2, h3, h4, h5, h6, h7⟩ := h
    refine ⟨cur, h1, h2, by rw [AV.shL_len] at h3; exact h3, fun x hx => ?_, fun j a x ha hx => ?_, h6, fun hp off ho => h7 hp off (by rw [AV.shL_len]; exact ho)⟩
    · obtain ⟨j, hj⟩ := List.mem_iff_getElem?.1 hx
      have h8 := h4 x.sh (List.mem_of_getElem? (i := j) (by rw [AV.shL_at, hj]; rfl))
      rw [AV.sh_one] at h8; exact h8
    · exact (AV.sub_sh a).2 w imm x (h5 j a.sh x (by rw [AV.shL_at, ha]; rfl) hx)
  | map => exact h
/-- A caller's memory, its names moved out of the way of the callee's own, in what it holds too. -/
def lents (σ : Mem) : Mem := fun k => if k < 1000 then none else (σ (k - 1000)).map Ent.sh
theorem lents_at {σ : Mem} {k : Nat} {e : Ent} (h : σ k = some e) : lents σ (k + 1000) = some e.sh := by
  unfold lents
  rw [if_neg (by omega), Nat.add_sub_cancel, h]; rfl
theorem lents_lt {σ : Mem} {k : Nat} (h : k < 1000) : lents σ k = none := by unfold lents; rw [if_pos h]
/-- A callee's memory holds its caller's, moved. -/
def Agr (m σ : Mem) : Prop := ∀ k, m (k + 1000) = (σ k).map Ent.sh
theorem Agr.start (σ : Mem) : Agr (lents σ) σ := fun k => by unfold lents; rw [if_neg (by omega), Nat.add_sub_cancel]
theorem Agr.own {m σ : Mem} (h : Agr m σ) {t : Nat} {x : Option Ent} (ht : t < 1000) : Agr (upd m t x) σ := fun k => by
  rw [upd_at, if_neg (by omega)]; exact h k
theorem Agr.mark {m σ : Mem} (h : Agr m σ) {t : Nat} (ht : t < 1000) : Agr (mark m t) σ := h.own ht
theorem Agr.put {m σ : Mem} (h : Agr m σ) {t k : Nat} {e e' : Ent} (ht : t = k + 1000) (he : e' = e.sh) : Agr (upd m t (some e')) (upd σ k (some e)) := fun j => by
  subst ht; subst he
  rw [upd_at, upd_at]
  by_cases hj : j = k
  · subst hj; rw [if_pos rfl, if_pos rfl]; rfl
  · rw [if_neg (by omega), if_neg hj]; exact h j
theorem upd_over {α : Type} (f : Nat → α) (k : Nat) (a b : α) : upd (upd f k a) k b = upd f k b := by
  funext j
  simp only [upd_at]
  split <;> rfl
theorem Agr.same {m σ : Mem} (h : Agr m σ) {t k : Nat} {e e' : Ent} (ht : t = k + 1000) (hk : σ k = some e) (he : e' = e.sh) : Agr (upd m t (some e')) σ := by
  have := h.put (k := k) (e := e) ht he
  rwa [show upd σ k (some e) = σ from by funext j; rw [upd_at]; split; (subst_vars; exact hk.symm); rfl] at this
/-- What a callee leaves, told in its caller's names. -/
def BackS (R : AV → Mem → Prop) (b : AV) (m : Mem) : Prop := ∃ (r : AV) (σ' : Mem), Sub b r ∧ R r σ' ∧ Agr m σ'
theorem backS {R : AV → Mem → Prop} {b r : AV} {m σ' : Mem} (h : Sub b r) (hR : R r σ') (ha : Agr m σ') : BackS R b m := ⟨r, σ', h, hR, ha⟩
theorem acall_lents {P : Program} {f n : Nat} {fn : Func} {code : Code} {rs : List ResultVar} {args : List AV} {σ : Mem} {R : AV → Mem → Prop} (hf : P.funcs[f]? = some fn) (hb : fn.body = some code) (hn : fn.ntmps = n) (hrs : fn.results = rs.toArray)
    (hc : ∀ (vs : Array Value) (w : World), (callFunc f vs).run P w = .ok (.enter f vs) w) (hfit : codeFits n code = true) (hal : args.length ≤ n)
    (h : aCode P 0 n code (Done P rs fun st b => BackS R b st.mem) ⟨fun t => (AV.shL args).getD t .u, lents σ⟩) : ACall P f args σ R := by
  have key := acall_inline (σ := lents σ) (R := BackS R) hf hb hn hrs hc hfit (by rw [AV.shL_len]; exact hal) h
  refine ⟨hc, fun c w imm vs hm hl hr => ?_⟩
  have hm' : Mx c (lents σ) w imm := by
    refine ⟨⟨fun k e hk => ?_, fun k k' e e' b h1 h2 h3 h4 => ?_, hm.ok.lt, hm.ok.spot⟩, hm.below, hm.lt, hm.old, hm.new, hm.cells⟩
    · unfold lents at hk
      split at hk
      · cases hk
      · obtain ⟨e0, h0, rfl⟩ := Option.map_eq_some_iff.1 hk
        exact Ent.sh_ok (hm.ok.ent _ _ h0)
    · unfold lents at h1 h2
      split at h1
      · cases h1
      · split at h2
        · cases h2
        · obtain ⟨e0, k0, rfl⟩ := Option.map_eq_some_iff.1 h1
          obtain ⟨e1, k1, rfl⟩ := Option.map_eq_some_iff.1 h2
          rw [Ent.sh_blk] at h3 h4
          have := hm.ok.apart _ _ _ _ b k0 k1 h3 h4
          omega
  refine (key.2 c w imm vs hm' (by rw [AV.shL_len]; exact hl) fun j a x h1 h2 => ?_).mono fun e w' he => ?_
  · rw [AV.shL_at] at h1
    obtain ⟨y, hy, rfl⟩ := Option.map_eq_some_iff.1 h1
    exact (AV.sub_sh y).1 w imm x (hr j y x hy h2)
  · obtain ⟨b, m, imm', x, rfl, ⟨r, σ', h1, h2, h3⟩, h5, h6, h7⟩ := he
    refine ⟨r, σ', imm', x, rfl, h2, h1 _ _ _ h5, ⟨⟨fun k e hk => ?_, fun k k' e e' b h1 h2 k3 k4 => ?_, h6.ok.lt, h6.ok.spot⟩, h6.below, h6.lt, h6.old, h6.new, h6.cells⟩, h7⟩
    · have := h3 k
      rw [hk] at this
      exact Ent.of_sh (h6.ok.ent _ _ this)
    · have e1 := h3 k
      have e2 := h3 k'
      rw [h1] at e1
      rw [h2] at e2
      have := h6.ok.apart _ _ _ _ b e1 e2 (by rw [Ent.sh_blk]; exact k3) (by rw [Ent.sh_blk]; exact k4)
      omega
/-- A nil slice in a box is an own row of no elements, under a name of one's choice. -/
theorem Frz.nilBox {n : Nat} {e : Nat → AV} {m : Mem} {k g : Nat} {bt : TypeId} {cs : List AV} (j t mm : Nat) (ty : TypeId) (hm : m k = some (.box g bt cs false)) (hj : cs[j]? = some (.v (.slice none 0 0))) (ht : t ≠ k) :
    Frz n ⟨e, m⟩ ⟨e, upd (upd m k (some (.box g bt (cs.set j (.own t (.slice none 0 0))) false))) t (some (.row (.slice none 0 0) ty mm [] 0))⟩ := by
  intro c a w imm h
  have h1 : Mx c (upd m k (some (.box g bt (cs.set j (.own t (.slice none 0 0))) false))) w imm := by
    have hk := h.mem.ok.ent k _ hm
    obtain ⟨cur, k1, k2, k3, k4, k5, k6, k7⟩ := hk
    refine (mem_put h.mem (World.grownBy.refl w none) (by simp) (fun _ _ => rfl) k (.box g bt (cs.set j (.own t (.slice none 0 0))) false) ⟨cur, k1, k2, by simpa using k3, fun x hx => ?_, fun i a x ha hx => ?_, k6, fun hp => by cases hp⟩ fun j2 e2 b h1 h2 h3 => ⟨by simp, ?_⟩).1
    · rcases List.mem_or_eq_of_mem_set hx with h1 | h1
      · exact k4 x h1
      · subst h1; rfl
    · rw [List.getElem?_set] at ha
      split at ha
      · rename_i hij
        subst hij
        split at ha
        · simp only [Option.some.injEq] at ha
          subst ha
          have := (k5 j _ x hj hx).v_inv
          subst this
          exact .own _ _ rfl
        · cases ha
      · exact k5 i a x ha hx
    · show some g ≠ some b
      intro hb
      exact h1 (h.mem.ok.apart j2 k e2 _ b h2 hm h3 hb)
  refine ⟨imm, h.env, h.size, h.defers, ?_⟩
  exact (mem_put h1 (World.grownBy.refl w none) (by simp) (fun _ _ => rfl) t (.row (.slice none 0 0) ty mm [] 0) ⟨[], World.ownsRow_nil w c.B ty mm, by simp, by simp, by simp [flat], by simp, fun ad _ h2 => by simp [Value.ownBlock] at h2, fun g off h1 _ => by simp [Value.ownBlock] at h1⟩ fun j e2 b _ _ _ => ⟨by simp, by simp [Ent.blk, Value.ownBlock]⟩).1
attribute [go_sem] AV.sh AV.shL Ent.sh
end Go.Pg
end

section
/- The engine, part Z1: a loop over a string's letters, in a function that has no memory of its own there. -/
namespace Go.Pg
open Go Go.RowKit Go.Lib
set_option linter.unusedSimpArgs false
set_option linter.unusedVariables false
section
variable {P : Program} {n : Nat}
theorem awp_seq {x y : Code} {Q : AE → St → Prop} {st : St} (h : AWP P n x (AE.then (AWP P n y Q) Q) st) : AWP P n (.seq x y) Q st := fun c a w imm hr => by
  refine wp_seq (Code.wp_mono (fun e a' w' hp => ?_) (h c a w imm hr))
  obtain ⟨ae, st', imm', rfl, h2, h3⟩ := hp
  cases ae with
  | normal => exact h2 c a' w' imm' h3
  | exit id => exact ⟨.exit id, st', imm', rfl, h2, h3⟩
  | ret => exact ⟨.ret, st', imm', rfl, h2, h3⟩
theorem wp_op {o : Oper} {a : Act} {w w' : World} {ops : Array Oper} {Qp : Exit → Act → World → Prop} {l : List Oper} {y : Value} (hg : o.guard = none) (hr : (execOp a.eval o).run P w = .ok (.value y) w') (h : wpList P ops Qp l (a.put o.dst y) w') : wpList P ops Qp (o :: l) a w := by
  unfold wpList
  rw [if_pos (by simp [Region.wanted, hg])]
  refine .inl ?_
  unfold Oper.wp
  rw [hr]
  exact h
theorem rebase {c : Cx} {e : Nat → AV} {a : Act} {w : World} {imm : Imm} (h : Rel c n ⟨e, noMem⟩ a w imm) : Rel ⟨w.heap.size, w, imm⟩ n ⟨e, noMem⟩ a w imm :=
  ⟨h.env, h.size, h.defers, ⟨⟨fun k e hk => by simp [noMem] at hk, fun k k' e e' b hk => by simp [noMem] at hk, h.mem.ok.lt, h.mem.ok.spot⟩, Below.refl _ _, Nat.le_refl _, fun _ h1 => h1, fun _ h1 => .inl h1, fun _ _ => rfl⟩⟩
theorem unbase {c : Cx} {st' : St} {a' : Act} {w w' : World} {imm imm' : Imm} (hm : Mx c noMem w imm) (h : Rel ⟨w.heap.size, w, imm⟩ n st' a' w' imm') (h0 : st'.mem = noMem) : Rel c n st' a' w' imm' := by
  refine ⟨h.env, h.size, h.defers, ?_⟩
  have hm' := h.mem
  rw [h0] at hm' ⊢
  exact ⟨⟨fun k e hk => by simp [noMem] at hk, fun k k' e e' b hk => by simp [noMem] at hk, hm'.ok.lt, hm'.ok.spot⟩, hm.below.trans (hm'.below.mono hm.lt), Nat.le_trans hm.lt hm'.lt, fun ad h1 => hm'.old ad (hm.old ad h1), fun ad h1 => (hm'.new ad h1).elim (hm.new ad) (fun h2 => .inr (Nat.le_trans hm.lt h2)), fun ad h1 => (hm'.cells ad (hm.old ad h1)).trans (hm.cells ad h1)⟩
/-- What stands behind a round. -/
structure ItS (c : Cx) (n : Nat) (s : ByteArray) (tI : Nat) (J : Nat → (Nat → AV) → Prop) (pos : Nat) (a : Act) (w : World) : Prop where
  h : ∃ e imm g, Rel c n ⟨e, noMem⟩ a w imm ∧ w.heap[g]? = some (.stringIter s pos) ∧ c.B ≤ g ∧ (∀ ad, imm ad → ad.block ≠ g) ∧ e tI = .v (.pointer (some ⟨g, 0, none⟩)) ∧ J pos e
theorem awp_range {s : ByteArray} {id1 id2 bid d1 tI d2 d3 : Nat} {x : Operand} {ty1 ty2 ty3 ty4 tys : TypeId} {p1 p2 p3 p4 : String} {f1 f2 f3 f4 : Array Edge} {r2 : Code} {Q : AE → St → Prop} {e : Nat → AV}
    (hx : St.ev ⟨e, noMem⟩ x = .v (.string s)) (hty : P.underlying tys = some .string) (h1 : d1 < n) (hI : tI < n) (h2 : d2 < n) (h3 : d3 < n) (hne : tI ≠ d2) (hne3 : tI ≠ d3) (hne1 : d2 ≠ d3) (hf : codeFits n r2 = true)
    (J : Nat → (Nat → AV) → Prop) (h0 : ∀ pv, J 0 (upd (upd e d1 (.v (.string s))) tI (.v pv)))
    (hstep : ∀ pos e pv, J pos e → e tI = .v pv → pos < s.size → aCode P 0 n r2 (AE.then (fun st' => st'.mem = noMem ∧ J (pos + (Utf8.decode s pos).2) st'.env ∧ st'.env tI = .v pv) fun ae st' => st'.mem = noMem ∧ AE.inBlock bid Q ae st')
      ⟨upd (upd e d2 (.tup [.v (.bool true), .v (.int .i64 pos), .v (.int .i32 (Utf8.decode s pos).1)])) d3 (.v (.bool true)), noMem⟩)
    (hw : ∀ pos, pos < s.size → 0 < (Utf8.decode s pos).2)
    (hend : ∀ pos e pv, J pos e → e tI = .v pv → ¬ pos < s.size → aCode P 0 n r2 (AE.then (fun _ => False) fun ae st' => st'.mem = noMem ∧ AE.inBlock bid Q ae st')
      ⟨upd (upd e d2 (.tup [.v (.bool false)])) d3 (.v (.bool false)), noMem⟩) :
    AWP P n (.seq (.region id1 #[⟨some d1, .move x, ty1, p1, f1, none⟩, ⟨some tI, .range tys (.tmp d1), ty2, p2, f2, none⟩] false)
      (.block bid (.loop (.seq (.region id2 #[⟨some d2, .next (.tmp tI) true, ty3, p3, f3, none⟩, ⟨some d3, .extract (.tmp d2) 0, ty4, p4, f4, none⟩] false) r2)))) Q ⟨e, noMem⟩ := by
  intro c a w imm hr
  refine wp_seq (wp_region_list ?_)
  have ex := hr.ev x
  rw [hx] at ex
  have ex := ex.v_inv
  refine wp_op rfl (y := .string s) (w' := w) (by simp [execOp, ex]) ?_
  have r1 := hr.step (dst := some d1) (av := .v (.string s)) (x := .string s) (Keeps.refl w imm) hr.mem (fun d hd => by cases hd; exact h1) (.pure (.v _))
  have e1 := (r1.ev (.tmp d1))
  have e1 : (a.put (some d1) (.string s)).eval (.tmp d1) = .string s := by
    have h9 : St.ev (St.put ⟨e, noMem⟩ (some d1) (.v (.string s))) (.tmp d1) = .v (.string s) := by simp [St.ev, St.put, upd_at]
    rw [h9] at e1
    exact e1.v_inv
  refine wp_op rfl (y := .pointer (some ⟨w.heap.size, 0, none⟩)) (w' := w.iter s 0) (by
    simp only [execOp, e1]
    exact run_v (run_range_string w tys s hty)) ?_
  have hcell : ∀ ad, imm ad → (w.iter s 0).cell? ad = w.cell? ad := fun ad h9 => World.cell?_alloc_lt w _ ad (hr.mem.ok.lt ad h9)
  have hm2 : Mx c noMem (w.iter s 0) imm := ⟨⟨fun k e hk => by simp [noMem] at hk, fun k k' e e' b hk => by simp [noMem] at hk, fun ad h9 => Nat.lt_of_lt_of_le (hr.mem.ok.lt ad h9) (World.grownBy_alloc w (.stringIter s 0) none).size, hr.mem.ok.spot⟩,
    hr.mem.below.grown (World.grownBy_alloc w (.stringIter s 0) none) hr.mem.lt (fun g hg => by cases hg), Nat.le_trans hr.mem.lt (World.grownBy_alloc w (.stringIter s 0) none).size, hr.mem.old, hr.mem.new, fun ad h9 => (hcell ad (hr.mem.old ad h9)).trans (hr.mem.cells ad h9)⟩
  have r2' := r1.step (dst := some tI) (av := .v (.pointer (some ⟨w.heap.size, 0, none⟩))) (x := .pointer (some ⟨w.heap.size, 0, none⟩)) (w' := w.iter s 0) (imm' := imm) (fun ad h9 => ⟨h9, hcell ad h9⟩) hm2 (fun d hd => by cases hd; exact hI) (.pure (.v _))
  show (Code.block bid _).wp P (post c n Q) _ _
  refine wp_block ?_
  -- the loop
  have start : ItS c n s tI J 0 ((a.put (some d1) (.string s)).put (some tI) (.pointer (some ⟨w.heap.size, 0, none⟩))) (w.iter s 0) :=
    ⟨_, imm, w.heap.size, r2', World.iter_heap w s 0, hr.mem.lt, fun ad h9 => Nat.ne_of_lt (hr.mem.ok.lt ad h9), by simp [St.put, upd_at], h0 _⟩
  generalize (a.put (some d1) (.string s)).put (some tI) (.pointer (some ⟨w.heap.size, 0, none⟩)) = a1 at start
  generalize w.iter s 0 = w1 at start
  clear r2' r1 hm2 hcell e1 ex hr
  let Qp : Exit → Act → World → Prop := Exit.inBlock bid (post c n Q)
  have lift : ∀ (ae : AE) (st' : St) (a' : Act) (w w' : World) (imm imm' : Imm), Mx c noMem w imm → Rel ⟨w.heap.size, w, imm⟩ n st' a' w' imm' → st'.mem = noMem → AE.inBlock bid Q ae st' → ae ≠ .normal → Qp ae.to a' w' := by
    intro ae st' a' w w' imm imm' hm hr h9 hq hn
    have hr' := unbase hm hr h9
    cases ae with
    | normal => exact absurd rfl hn
    | exit i =>
      show Exit.inBlock bid (post c n Q) (.exit i) a' w'
      simp only [AE.inBlock] at hq
      by_cases hi : i = bid
      · subst hi
        rw [if_pos rfl] at hq
        simp only [Exit.inBlock, if_true]
        exact ⟨.normal, st', imm', rfl, hq, hr'⟩
      · rw [if_neg hi] at hq
        simp only [Exit.inBlock, if_neg hi]
        exact ⟨.exit i, st', imm', rfl, hq, hr'⟩
    | ret => exact ⟨.ret, st', imm', rfl, hq, hr'⟩
  have round : ∀ pos a w, ItS c n s tI J pos a w → (Code.seq (.region id2 #[⟨some d2, .next (.tmp tI) true, ty3, p3, f3, none⟩, ⟨some d3, .extract (.tmp d2) 0, ty4, p4, f4, none⟩] false) r2).wp P
      (Exit.then (fun a w => ∃ pos', ItS c n s tI J pos' a w ∧ s.size - pos' < s.size - pos) Qp) a w := by
    rintro pos a w ⟨e, imm, g, hr, hg, hB, hng, heI, hJ⟩
    have eI := hr.ev (.tmp tI)
    have eI : a.eval (.tmp tI) = .pointer (some ⟨g, 0, none⟩) := by
      rw [show St.ev ⟨e, noMem⟩ (.tmp tI) = _ from heI] at eI
      exact eI.v_inv
    refine wp_seq (wp_region_list ?_)
    have glt : g < w.heap.size := (Array.getElem?_eq_some_iff.1 hg).1
    by_cases hp : pos < s.size
    · refine wp_op rfl (y := .tuple #[.bool true, .int .i64 pos, .int .i32 (Utf8.decode s pos).1]) (w' := w.iterAt g s (pos + (Utf8.decode s pos).2)) (by
        simp only [execOp, eI]
        exact run_v (run_next_any_at w g s pos _ hg hp)) ?_
      have hgrow : w.grownBy (w.iterAt g s (pos + (Utf8.decode s pos).2)) (some g) := by
        refine ⟨rfl, rfl, rfl, ?_, fun k hk hne => ?_⟩
        · simp [World.iterAt]
        · simp only [World.iterAt]
          rw [Array.getElem?_setIfInBounds_ne (fun h9 => hne (by rw [h9]))]
      have hcell : ∀ ad, imm ad → (w.iterAt g s (pos + (Utf8.decode s pos).2)).cell? ad = w.cell? ad := fun ad h9 => grown_cell hgrow (hr.mem.ok.lt ad h9) (fun h8 => hng ad h9 (by cases h8; rfl))
      have hm2 : Mx c noMem (w.iterAt g s (pos + (Utf8.decode s pos).2)) imm := ⟨⟨fun k e hk => by simp [noMem] at hk, fun k k' e e' b hk => by simp [noMem] at hk, fun ad h9 => Nat.lt_of_lt_of_le (hr.mem.ok.lt ad h9) hgrow.size, hr.mem.ok.spot⟩,
        hr.mem.below.grown hgrow hr.mem.lt (fun g' hg' => by cases hg'; exact hB), Nat.le_trans hr.mem.lt hgrow.size, hr.mem.old, hr.mem.new, fun ad h9 => (hcell ad (hr.mem.old ad h9)).trans (hr.mem.cells ad h9)⟩
      have q1 := hr.step (dst := some d2) (av := .tup [.v (.bool true), .v (.int .i64 pos), .v (.int .i32 (Utf8.decode s pos).1)]) (x := .tuple #[.bool true, .int .i64 pos, .int .i32 (Utf8.decode s pos).1]) (imm' := imm) (fun ad h9 => ⟨h9, hcell ad h9⟩) hm2 (fun d hd => by cases hd; exact h2)
        (.pure (.tup _ _ rfl fun j a x k1 k2 => by
          match j with
          | 0 => simp at k1 k2; subst k1; subst k2; exact .v _
          | 1 => simp at k1 k2; subst k1; subst k2; exact .v _
          | 2 => simp at k1 k2; subst k1; subst k2; exact .v _
          | j + 3 => simp at k1))
      have v2 := q1.env d2
      have v2 : (a.put (some d2) (.tuple #[.bool true, .int .i64 pos, .int .i32 (Utf8.decode s pos).1])).eval (.tmp d2) = .tuple #[.bool true, .int .i64 pos, .int .i32 (Utf8.decode s pos).1] := by
        show (a.put (some d2) _).tmps.getD d2 undef = _
        rw [Act.put_getD a d2 _ (by rw [hr.size]; exact h2), if_pos rfl]
      refine wp_op rfl (y := .bool true) (w' := w.iterAt g s (pos + (Utf8.decode s pos).2)) (by
        simp only [execOp, v2]
        simp [Instr.extract]) ?_
      have q2 := q1.step (dst := some d3) (av := .v (.bool true)) (x := .bool true) (Keeps.refl _ imm) hm2 (fun d hd => by cases hd; exact h3) (.pure (.v _))
      have hst := hstep pos e _ hJ heI hp
      have q3 := rebase q2
      refine Code.wp_mono (fun ee a' w' hpost => ?_) (aCode_sound r2 _ _ hf hst _ _ _ _ q3)
      obtain ⟨ae, st', imm', rfl, hq, hrel⟩ := hpost
      cases ae with
      | normal =>
        obtain ⟨hm, hJ', hpv⟩ := hq
        have hr' := unbase hm2 hrel hm
        refine ⟨pos + (Utf8.decode s pos).2, ⟨st'.env, imm', g, ?_, ?_, hB, fun ad h9 => ?_, hpv, hJ'⟩, by have := hw pos hp; omega⟩
        · obtain ⟨en, me⟩ := st'
          simp only at hm
          subst hm
          exact hr'
        · rw [hrel.mem.below.block g (Nat.lt_of_lt_of_le glt hgrow.size)]
          exact iterAt_heap w g s pos _ hg
        · rcases hrel.mem.new ad h9 with h8 | h8
          · exact hng ad h8
          · have : (w.iterAt g s (pos + (Utf8.decode s pos).2)).heap.size ≤ ad.block := h8
            have := hgrow.size
            omega
      | exit i => exact lift (.exit i) st' a' _ w' imm imm' hm2 hrel hq.1 hq.2 (by simp)
      | ret => exact lift .ret st' a' _ w' imm imm' hm2 hrel hq.1 hq.2 (by simp)
    · refine wp_op rfl (y := .tuple #[.bool false]) (w' := w) (by
        simp only [execOp, eI]
        exact run_v (run_next_end_at w g s pos _ hg hp)) ?_
      have q1 := hr.step (dst := some d2) (av := .tup [.v (.bool false)]) (x := .tuple #[.bool false]) (Keeps.refl w imm) hr.mem (fun d hd => by cases hd; exact h2)
        (.pure (.tup _ _ rfl fun j a x k1 k2 => by
          match j with
          | 0 => simp at k1 k2; subst k1; subst k2; exact .v _
          | j + 1 => simp at k1))
      have v2 : (a.put (some d2) (.tuple #[.bool false])).eval (.tmp d2) = .tuple #[.bool false] := by
        show (a.put (some d2) _).tmps.getD d2 undef = _
        rw [Act.put_getD a d2 _ (by rw [hr.size]; exact h2), if_pos rfl]
      refine wp_op rfl (y := .bool false) (w' := w) (by
        simp only [execOp, v2]
        simp [Instr.extract]) ?_
      have q2 := q1.step (dst := some d3) (av := .v (.bool false)) (x := .bool false) (Keeps.refl _ imm) hr.mem (fun d hd => by cases hd; exact h3) (.pure (.v _))
      have hst := hend pos e _ hJ heI hp
      have q3 := rebase q2
      refine Code.wp_mono (fun ee a' w' hpost => ?_) (aCode_sound r2 _ _ hf hst _ _ _ _ q3)
      obtain ⟨ae, st', imm', rfl, hq, hrel⟩ := hpost
      cases ae with
      | normal => exact hq.elim
      | exit i => exact lift (.exit i) st' a' _ w' imm imm' hr.mem hrel hq.1 hq.2 (by simp)
      | ret => exact lift .ret st' a' _ w' imm imm' hr.mem hrel hq.1 hq.2 (by simp)
  intro b k cs
  have key : ∀ m pos a w, s.size - pos = m → ItS c n s tI J pos a w →
      ∃ ee a' w', Qp ee a' w' ∧ Arrives P (lone (b.at a (.code (Code.seq (.region id2 #[⟨some d2, .next (.tmp tI) true, ty3, p3, f3, none⟩, ⟨some d3, .extract (.tmp d2) 0, ty4, p4, f4, none⟩] false) r2) :: .inLoop (Code.seq (.region id2 #[⟨some d2, .next (.tmp tI) true, ty3, p3, f3, none⟩, ⟨some d3, .extract (.tmp d2) 0, ty4, p4, f4, none⟩] false) r2) :: k)) cs w) b k cs ee a' w' := by
    intro m
    induction m using Nat.strongRecOn with
    | _ m ih =>
      intro pos a w hm hI'
      obtain ⟨ee, a₁, w₁, hq, harr⟩ := round pos a w hI' b (.inLoop _ :: k) cs
      cases ee with
      | normal =>
        obtain ⟨pos', h8, h9⟩ := hq
        obtain ⟨e₂, a₂, w₂, hq₂, harr₂⟩ := ih (s.size - pos') (hm ▸ h9) pos' a₁ w₁ rfl h8
        exact ⟨e₂, a₂, w₂, hq₂, .of_steps (Steps.trans harr (.one step_inLoop)) harr₂⟩
      | exit id => exact ⟨.exit id, a₁, w₁, hq, .pass (x := .inLoop _) rfl (fun _ _ => .inl (by simp)) harr⟩
      | goto l => exact ⟨.goto l, a₁, w₁, hq, .pass (x := .inLoop _) rfl (fun _ _ => .inl (by simp)) harr⟩
      | ret => exact ⟨.ret, a₁, w₁, hq, .pass (x := .inLoop _) rfl (fun _ _ => .inl (by simp)) harr⟩
      | panic ch => exact ⟨.panic ch, a₁, w₁, hq, .pass (x := .inLoop _) rfl (fun _ _ => .inl (by simp)) harr⟩
      | outgrown => exact ⟨.outgrown, a₁, w₁, hq, .pass (x := .inLoop _) rfl (fun _ _ => .inl (by simp)) harr⟩
  obtain ⟨ee, a', w', hq, harr⟩ := key _ 0 a1 w1 rfl start
  exact ⟨ee, a', w', hq, .of_steps (.one step_loop) harr⟩
theorem pure_introW {f : FuncId} {fn : Func} {code : Code} {rs : List ResultVar} {args : List AV} {r : AV} (hf : P.funcs[f]? = some fn) (hb : fn.body = some code) (hn : fn.ntmps = n) (hrs : fn.results = rs.toArray)
    (hc : ∀ (vs : Array Value) (w : World), (callFunc f vs).run P w = .ok (.enter f vs) w) (hal : args.length ≤ n)
    (h : AWP P n code (Done P rs fun st => pubRet st r) ⟨fun t => args.getD t .u, noMem⟩) : Pure P f args r := by
  refine ⟨hc, fun w imm vs himm hl hr => ?_⟩
  refine calls_of_wp hf hb ?_
  let c : Cx := ⟨w.heap.size, w, imm⟩
  have hrel : Rel c n ⟨fun t => args.getD t .u, noMem⟩ { tmps := vs ++ Array.replicate (fn.ntmps - vs.size) undef, defers := [] } w imm := by
    refine ⟨fun t => ?_, by simp [hn]; omega, rfl, ⟨⟨fun k e hk => by simp [noMem] at hk, fun k k' e e' b hk => by simp [noMem] at hk, fun ad h1 => (himm ad h1).1, fun ad h1 => (himm ad h1).2⟩, Below.refl _ _, Nat.le_refl _, fun _ h1 => h1, fun _ h1 => .inl h1, fun _ _ => rfl⟩⟩
    simp only [List.getD_eq_getElem?_getD]
    rcases Nat.lt_or_ge t args.length with ht | ht
    · have ht2 : t < vs.size := by omega
      rw [List.getElem?_eq_getElem ht, Array.getD_eq_getD_getElem?, Array.getElem?_append_left ht2, Array.getElem?_eq_getElem ht2]
      exact .pure (hr t _ _ (List.getElem?_eq_getElem ht) (Array.getElem?_eq_getElem ht2))
    · rw [List.getElem?_eq_none ht]
      exact .pure (.u _)
  refine Code.wp_mono (fun e a' w' hp => ?_) (h c _ w imm hrel)
  obtain ⟨ae, st', imm', rfl, hdone, hrel'⟩ := hp
  have hret := done_ret hdone
  have hae : ∀ id, ae ≠ .exit id := by rintro id rfl; exact hdone
  obtain ⟨y, b, hrun, ⟨hpo, hpv⟩, hrs'⟩ := ret_run hrs hrel' hret
  obtain ⟨i2, hm2, hk2⟩ := marks_ok b.toks hrel'.mem
  have hrd := pub_rd hm2 (hk2.rs hrs') hpo
  rw [hpv] at hrd
  have fin : a'.defers = [] ∧ ∃ v, (results fn a'.tmps).run P w' = .ok v w' ∧ (fun e w' => ∃ x imm', e = Ending.returned x ∧ Rd w' imm' r x ∧ (∀ ad, imm ad → imm' ad) ∧ (∀ ad, imm' ad → (imm ad ∨ w.heap.size ≤ ad.block) ∧ ad.block < w'.heap.size ∧ ad.spot = none) ∧ Below w.heap.size w w') (Ending.returned v) w' :=
    ⟨hrel'.defers, y, hrun, y, i2, rfl, hrd, hm2.old, fun ad h1 => ⟨hm2.new ad h1, hm2.ok.lt ad h1, hm2.ok.spot ad h1⟩, hm2.below⟩
  cases ae with
  | normal => exact fin
  | ret => exact fin
  | exit id => exact absurd rfl (hae id)
theorem decode_pos (s : ByteArray) (i : Nat) : 0 < (Utf8.decode s i).2 := by
  unfold Utf8.decode
  simp only
  repeat' split
  all_goals simp
end
end Go.Pg
end

section
namespace Go.Proofs.YteiopjkamgmfpaaGreat
open Go Go.RowKit Go.Pg
set_option linter.unusedSimpArgs false
set_option linter.unusedVariables false
set_option maxRecDepth 20000
attribute [local go_sem] Tryz.underlying3 Tryz.underlying4 Tryz.underlying5 Tryz.underlying9 Tryz.underlying60 sz3 by3 z3 szStr byStr zStr
attribute [-bool_to_prop] Bool.and_eq_decide Bool.or_eq_decide Bool.decide_beq_decide decide_eq_decide
/-! ### names -/
def kwL : List ByteArray := [
  ⟨#[97, 110, 103, 108, 101]⟩,
  ⟨#[97, 112, 101, 120]⟩,
  ⟨#[98, 105, 115, 101, 99, 116, 111, 114]⟩,
  ⟨#[99, 101, 110, 116, 101, 114]⟩,
  ⟨#[99, 105, 114, 99, 108, 101]⟩,
  ⟨#[99, 105, 114, 99, 117, 109]⟩,
  ⟨#[99, 111, 108, 108, 105, 110, 101, 97, 114]⟩,
  ⟨#[99, 111, 109, 109, 111, 110]⟩,
  ⟨#[99, 111, 110, 99, 121, 99, 108, 105, 99]⟩,
  ⟨#[99, 111, 110, 103, 114, 117, 101, 110, 116]⟩,
  ⟨#[99, 114, 111, 115, 115]⟩,
  ⟨#[99, 117, 116]⟩,
  ⟨#[100, 105, 118, 105, 100, 101]⟩,
  ⟨#[102, 111, 111, 116]⟩,
  ⟨#[108, 105, 110, 101]⟩,
  ⟨#[109, 101, 101, 116]⟩,
  ⟨#[109, 105, 100, 112, 111, 105, 110, 116]⟩,
  ⟨#[109, 105, 114, 114, 111, 114]⟩,
  ⟨#[111, 110]⟩,
  ⟨#[111, 116, 104, 101, 114]⟩,
  ⟨#[112, 97, 114, 97, 108, 108, 101, 108]⟩,
  ⟨#[112, 101, 114, 112, 101, 110, 100, 105, 99, 117, 108, 97, 114]⟩,
  ⟨#[112, 111, 105, 110, 116, 115]⟩,
  ⟨#[112, 114, 111, 118, 101]⟩,
  ⟨#[114, 97, 116, 105, 111]⟩,
  ⟨#[114, 101, 102, 108, 101, 99, 116]⟩,
  ⟨#[115, 97, 109, 101]⟩,
  ⟨#[115, 104, 105, 102, 116]⟩,
  ⟨#[116, 117, 114, 110]⟩]
def letB (c : Nat) : Bool := decide (97 ≤ c ∧ c ≤ 122) || decide (65 ≤ c ∧ c ≤ 90)
def digB (c : Nat) : Bool := decide (48 ≤ c ∧ c ≤ 57)
/-- The k-th byte. -/
def gB (s : ByteArray) (k : Nat) : Nat := (s.data.toList.getD k 0).toNat
theorem gB_lt (s : ByteArray) (k : Nat) : gB s k < 256 := UInt8.toNat_lt _
def namB (s : ByteArray) : Bool := decide (0 < s.size ∧ s.size ≤ 20) && (letB (gB s 0) && ((List.range s.size).all (fun k => letB (gB s k) || digB (gB s k)) && !(kwL.any fun w => w.toList == s.toList)))
theorem str_nil (s : ByteArray) : (s.toList == (⟨#[]⟩ : ByteArray).toList) = decide (s.size = 0) := by
  rw [ByteArray.toList_eq, ByteArray.toList_eq, Bool.eq_iff_iff, beq_iff_eq, decide_eq_true_eq]
  constructor
  · intro h
    have := congrArg List.length h
    exact this
  · intro h
    exact List.length_eq_zero_iff.1 h
/-- A byte as it is read. -/
theorem gB_at (s : ByteArray) (k : Nat) : ((s.data.toList.getD k 0).toNat : Int) = (gB s k : Int) := rfl
def kinB (c : Nat) : Int := if c = 32 ∨ c = 9 ∨ c = 13 ∨ c = 10 then 1 else if letB c = true then 2 else if digB c = true then 3 else if c = 40 ∨ c = 41 ∨ c = 44 ∨ c = 59 ∨ c = 47 ∨ c = 45 then 4 else if c = 58 then 5 else if c = 35 then 6 else 0
theorem kinB_let (c : Nat) : kinB c = 2 ↔ letB c = true := by
  unfold kinB letB
  simp only [Bool.or_eq_true, decide_eq_true_eq]
  repeat' split
  all_goals omega
theorem kinB_dig (c : Nat) : kinB c = 3 ↔ digB c = true := by
  unfold kinB letB digB
  simp only [Bool.or_eq_true, decide_eq_true_eq]
  repeat' split
  all_goals omega
set_option maxHeartbeats 4000000 in
theorem nmKind (c : Nat) (hc : c < 256) : Pure Tryz.prog 168 [.v (.int .u8 (c : Int))] (iv (kinB c)) := by
  unfold kinB letB digB
  simp only [Bool.or_eq_true, decide_eq_true_eq]
  refine pure_intro (tok := 0) Tryz.func168 rfl Tryz.ntmps168 Tryz.results168 Tryz.call168 (by rfl) (by simp) ?_
  (focus (refine wklp w_t w_t w_t (w_r 0) ?_; (repeat' first | exact w_t | apply w_l); all_goals intros))
  all_goals (congr 2; repeat' split)
  all_goals (first | rfl | omega)
theorem exists_end (s : ByteArray) : ∀ n, n ≤ s.size → ∃ k, k ≤ n ∧ (∀ j, j < k → (letB (gB s j) || digB (gB s j)) = true) ∧ (k < n → (letB (gB s k) || digB (gB s k)) = false)
  | 0, _ => ⟨0, by omega, fun j h => by omega, fun h => by omega⟩
  | n + 1, h => by
    obtain ⟨k, h1, h2, h3⟩ := exists_end s n (by omega)
    by_cases hk : k < n
    · exact ⟨k, by omega, h2, fun _ => h3 hk⟩
    · have : k = n := by omega
      subst this
      cases hb : (letB (gB s k) || digB (gB s k)) with
      | true => exact ⟨k + 1, by omega, fun j hj => by by_cases e : j = k; rw [e]; exact hb; exact h2 j (by omega), fun h => by omega⟩
      | false => exact ⟨k, by omega, h2, fun _ => hb⟩
set_option maxHeartbeats 4000000 in
theorem nmEnd (s : ByteArray) (hs : s.size ≤ 1000000000) : ∃ n : Nat, Pure Tryz.prog 169 [strA s, iv 0, .v (.bool true)] (iv n) ∧ n ≤ s.size ∧ (n = s.size ↔ (List.range s.size).all (fun k => letB (gB s k) || digB (gB s k)) = true) := by
  obtain ⟨n, h1, h2, h3⟩ := exists_end s s.size (Nat.le_refl _)
  refine ⟨n, ?_, h1, ?_⟩
  · refine pure_intro (tok := 0) Tryz.func169 rfl Tryz.ntmps169 Tryz.results169 Tryz.call169 (by rfl) (by simp) ?_
    (focus (refine wkap w_t w_t (w_r 0) ?_; (repeat' first | exact w_t | apply w_l); all_goals intros))
    refine r_loopE (ι := Nat) (fun i e m => i ≤ n ∧ e 0 = strA s ∧ e 1 = iv i ∧ e 2 = .v (.bool true)) (fun i => n - i) 0 (by rfl) ?_ ?_
    · rintro i e m ⟨hi, e0, e1, e2⟩
      have hk := nmKind (gB s i) (gB_lt s i)
      have kl := kinB_let (gB s i)
      have kd := kinB_dig (gB s i)
      by_cases hlt : i < n
      · have hb := h2 i hlt
        rw [Bool.or_eq_true, ← kl, ← kd] at hb
        clear kl kd
        have hg := gB_at s i
        generalize kinB (gB s i) = x at *
        rcases hb with hb | hb
        · subst hb
          (focus (refine wkap (w_a e0 (w_a e1 (w_a e2 (w_a hg w_t)))) (w_a hk w_t) (w_r 0) ?_; (repeat' first | exact w_t | apply w_l); all_goals intros))
          exact ⟨i + 1, ⟨by omega, by exact gW e0, by exact gS, by exact gW e2⟩, by omega⟩
        · subst hb
          (focus (refine wkap (w_a e0 (w_a e1 (w_a e2 (w_a hg w_t)))) (w_a hk w_t) (w_r 0) ?_; (repeat' first | exact w_t | apply w_l); all_goals intros))
          exact ⟨i + 1, ⟨by omega, by exact gW e0, by exact gS, by exact gW e2⟩, by omega⟩
      · have hin : i = n := by omega
        subst hin
        by_cases hsz : i < s.size
        · have hb := h3 hsz
          rw [Bool.or_eq_false_iff] at hb
          have b1 : kinB (gB s i) ≠ 2 := fun h => by rw [kl.1 h] at hb; exact absurd hb.1 (by decide)
          have b2 : kinB (gB s i) ≠ 3 := fun h => by rw [kd.1 h] at hb; exact absurd hb.2 (by decide)
          clear kl kd
          have hg := gB_at s i
          generalize kinB (gB s i) = x at *
          (focus (refine wklp (w_a e0 (w_a e1 (w_a e2 (w_a hg w_t)))) (w_a hk w_t) w_t (w_r 0) ?_; (repeat' first | exact w_t | apply w_l); all_goals intros))
        · (focus (refine wklp (w_a e0 (w_a e1 (w_a e2 w_t))) w_t w_t (w_r 0) ?_; (repeat' first | exact w_t | apply w_l); all_goals intros))
    · exact ⟨Nat.zero_le _, by exact gC, by exact gC, by exact gC⟩
  · rw [List.all_eq_true]
    constructor
    · intro h x hx
      exact h2 x (by rw [h]; exact List.mem_range.1 hx)
    · intro h
      rcases Nat.lt_or_ge n s.size with h4 | h4
      · have := h n (List.mem_range.2 h4)
        rw [h3 h4] at this; cases this
      · omega
set_option maxHeartbeats 4000000 in
theorem nmKeys : Pure Tryz.prog 170 [] (.sl 1 (kwL.map strA)) := by
  unfold kwL
  refine pure_intro (tok := 0) Tryz.func170 rfl Tryz.ntmps170 Tryz.results170 Tryz.call170 (by rfl) (by simp) ?_
  (focus (refine wklp w_t w_t w_t (w_r 0) ?_; (repeat' first | exact w_t | apply w_l); all_goals intros))
set_option maxHeartbeats 4000000 in
theorem rnKeys : Pure Tryz.prog 115 [] (.sl 1 (kwL.map strA)) := by
  unfold kwL
  refine pure_intro (tok := 0) Tryz.func115 rfl Tryz.ntmps115 Tryz.results115 Tryz.call115 (by rfl) (by simp) ?_
  (focus (refine wklp w_t w_t w_t (w_r 0) ?_; (repeat' first | exact w_t | apply w_l); all_goals intros))
theorem rnLetter (c : Nat) (hc : c < 256) : Pure Tryz.prog 113 [.v (.int .u8 (c : Int))] (.v (.bool (letB c))) := by
  unfold letB
  refine pure_intro (tok := 0) Tryz.func113 rfl Tryz.ntmps113 Tryz.results113 Tryz.call113 (by rfl) (by simp) ?_
  (focus (refine wklp w_t w_t w_t (w_r 0) ?_; (repeat' first | exact w_t | apply w_l); all_goals intros))
theorem rnDigit (c : Nat) (hc : c < 256) : Pure Tryz.prog 114 [.v (.int .u8 (c : Int))] (.v (.bool (digB c))) := by
  unfold digB
  refine pure_intro (tok := 0) Tryz.func114 rfl Tryz.ntmps114 Tryz.results114 Tryz.call114 (by rfl) (by simp) ?_
  (focus (refine wklp w_t w_t w_t (w_r 0) ?_; (repeat' first | exact w_t | apply w_l); all_goals intros))
end Go.Proofs.YteiopjkamgmfpaaGreat
end

section
namespace Go.Proofs.YteiopjkamgmfpaaGreat
open Go Go.RowKit Go.Pg Go.Pol
set_option linter.unusedSimpArgs false
set_option linter.unusedVariables false
set_option maxRecDepth 20000
attribute [-bool_to_prop] Bool.and_eq_decide Bool.or_eq_decide Bool.decide_beq_decide decide_eq_decide
/-! ### errors -/
def arS (k : Int) : Int :=
  if k = 1 then 0 else if k = 2 ∨ k = 5 ∨ k = 6 ∨ k = 14 then 2 else if k = 3 ∨ k = 4 ∨ k = 7 ∨ k = 8 ∨ k = 10 ∨ k = 11 then 3 else if k = 9 ∨ k = 12 ∨ k = 13 then 4 else -1
def arG (k : Int) : Int :=
  if k = 8 then 2 else if k = 1 ∨ k = 5 then 3 else if k = 2 ∨ k = 3 ∨ k = 4 ∨ k = 6 ∨ k = 9 then 4 else if k = 7 then 8 else 0
def outB (n : Int) (l : List Int) : Bool := l.any fun a => decide (a < 0) || decide (n ≤ a)
abbrev RS.zero : RS := ⟨0, .empty, [], ⟨false, [], []⟩⟩
def errS (ss : List RS) (i : Nat) : Int :=
  let s := ss.getD i RS.zero
  if arS s.k < 0 then 8
  else if (s.ar.length : Int) ≠ arS s.k then 1
  else if outB (i : Int) s.ar = true then 2
  else if (s.k = 2 ∧ s.r.ok = false) ∨ (s.k ≠ 2 ∧ s.r.none = false) then 1
  else if s.nm.size = 0 then 0
  else if namB s.nm = false then 6
  else if (ss.take i).any (fun t => t.nm.toList == s.nm.toList) = true then 7
  else 0
def errG (g : RG) (n : Nat) : Int :=
  if arG g.k = 0 then 8
  else if (g.ar.length : Int) ≠ arG g.k then 1
  else if outB (n : Int) g.ar = true then 2
  else if (g.k = 9 ∧ g.r.ok = false) ∨ (g.k ≠ 9 ∧ g.r.none = false) then 1
  else 0
/-- The first that is not 0. -/
def fstE (f : Nat → Int) : Nat → Int
  | 0 => 0
  | n + 1 => if fstE f n ≠ 0 then fstE f n else f n
theorem fstE_zero {f : Nat → Int} : ∀ {n : Nat}, (∀ j, j < n → f j = 0) → fstE f n = 0
  | 0, _ => rfl
  | n + 1, h => by
    unfold fstE
    rw [if_neg (by rw [fstE_zero fun j hj => h j (by omega)]; simp)]
    exact h n (by omega)
theorem fstE_at {f : Nat → Int} {i : Nat} (h : ∀ j, j < i → f j = 0) (hi : f i ≠ 0) : ∀ {n : Nat}, i < n → fstE f n = f i
  | 0, hn => by omega
  | n + 1, hn => by
    unfold fstE
    by_cases e : i = n
    · subst e
      rw [if_neg (by rw [fstE_zero h]; simp)]
    · have := fstE_at h hi (n := n) (by omega)
      rw [this, if_pos hi]
theorem fstE_all {f : Nat → Int} : ∀ {n : Nat}, fstE f n = 0 → ∀ j, j < n → f j = 0
  | 0, _, j, hj => by omega
  | n + 1, h, j, hj => by
    unfold fstE at h
    split at h
    · rename_i h1; exact absurd h h1
    · rename_i h1
      by_cases e : j = n
      · subst e; exact h
      · exact fstE_all (n := n) (by rcases Decidable.em (fstE f n = 0) with h2 | h2; exact h2; exact absurd h2 h1) j (by omega)
def figE (ss : List RS) (gs : List RG) : Int :=
  if 40 < ss.length ∨ 8 < gs.length then 4
  else if fstE (errS ss) ss.length ≠ 0 then fstE (errS ss) ss.length
  else fstE (fun i => errG (gs.getD i ⟨0, [], ⟨false, [], []⟩⟩) ss.length) gs.length
/-- The frame of a figure, or its error. -/
def frame (ss : List RS) (gs : List RG) : List (Po × Po) × List Vt × Int :=
  if figE ss gs ≠ 0 then ([], [], figE ss gs)
  else if (List.range ss.length).any (bigN ss) = true then ([], [], 4)
  else ((frN ss ss.length).cs, (frN ss ss.length).vs, 0)
theorem outB_in {n : Int} {l : List Int} (h : outB n l = false) {k : Nat} (hk : k < l.length) : 0 ≤ gI l k ∧ gI l k < n := by
  unfold outB at h
  rw [List.any_eq_false] at h
  have := h (gI l k) (by rw [gI_at hk]; exact List.getElem_mem hk)
  simp only [Bool.or_eq_true, decide_eq_true_eq] at this
  omega
/-- What a step in order is like. -/
theorem errS_ok {ss : List RS} {i : Nat} (hi : i < ss.length) (h : errS ss i = 0) : 0 ≤ arS ss[i].k ∧ (ss[i].ar.length : Int) = arS ss[i].k ∧ (∀ k, k < ss[i].ar.length → 0 ≤ gI ss[i].ar k ∧ gI ss[i].ar k < (i : Int)) ∧ (ss[i].k = 2 → ss[i].r.ok = true) := by
  unfold errS at h
  rw [show ss.getD i RS.zero = ss[i] from by rw [List.getD_eq_getElem?_getD, List.getElem?_eq_getElem hi]; rfl] at h
  generalize ss[i] = s at *
  simp only at h
  split at h
  · omega
  · split at h
    · omega
    · split at h
      · omega
      · split at h
        · omega
        · rename_i h1 h2 h3 h4
          refine ⟨by omega, by omega, fun k hk => outB_in (by simpa using h3) hk, fun h5 => ?_⟩
          cases h6 : s.r.ok with
          | true => rfl
          | false => exact absurd (.inl ⟨h5, h6⟩) h4
end Go.Proofs.YteiopjkamgmfpaaGreat
end

section
namespace Go.Proofs.YteiopjkamgmfpaaGreat
open Go Go.RowKit Go.Pg
set_option linter.unusedSimpArgs false
set_option linter.unusedVariables false
set_option maxRecDepth 20000
attribute [local go_sem] Tryz.underlying3 Tryz.underlying4 Tryz.underlying9 Tryz.underlying26 Tryz.underlying60 Tryz.underlying35 Tryz.underlying28 sz3 by3 z3 szB zB szErr zErr szStr byStr zStr szSlI zSlI szSlStr zSlStr szCond byCond zCond
attribute [-bool_to_prop] Bool.and_eq_decide Bool.or_eq_decide Bool.decide_beq_decide decide_eq_decide
/-! ### conditions, and their texts -/
structure RC where
  k : Int
  ar : List Int
  st : Int
abbrev RC.av (c : RC) : AV := .agg [iv c.k, ivs c.ar, iv c.st]
def cAr (k : Int) : Int := if k = 1 then 2 else if k = 2 then 3 else if k = 3 then 4 else if k = 4 then 0 else -1
theorem cAr_le (k : Int) : cAr k ≤ 4 := by unfold cAr; repeat' split
                                           all_goals omega
def cErr (k : Int) (ar : List Int) (n : Nat) : Int := if cAr k < 0 then 8 else if (ar.length : Int) ≠ cAr k then 1 else if outB n ar = true then 2 else 0
theorem z_ne : (⟨#[32, 33, 61, 32]⟩ : ByteArray).size = 4 := rfl
theorem z_cm : (⟨#[44, 32]⟩ : ByteArray).size = 2 := rfl
theorem z_nc : (⟨#[32, 97, 114, 101, 32, 110, 111, 116, 32, 99, 111, 108, 108, 105, 110, 101, 97, 114]⟩ : ByteArray).size = 18 := rfl
theorem z_an : (⟨#[32, 97, 110, 100, 32]⟩ : ByteArray).size = 5 := rfl
theorem z_np : (⟨#[32, 97, 114, 101, 32, 110, 111, 116, 32, 112, 97, 114, 97, 108, 108, 101, 108]⟩ : ByteArray).size = 17 := rfl
theorem z_sl : (⟨#[115, 108, 111, 112, 101, 32, 111, 102, 32]⟩ : ByteArray).size = 9 := rfl
theorem z_lp : (⟨#[40]⟩ : ByteArray).size = 1 := rfl
theorem z_rp : (⟨#[41]⟩ : ByteArray).size = 1 := rfl
theorem z_sp : (⟨#[32]⟩ : ByteArray).size = 1 := rfl
theorem z_em : (⟨#[]⟩ : ByteArray).size = 0 := rfl
def lineB (a b : ByteArray) : ByteArray := if 1 < a.size ∨ 1 < b.size then ⟨#[40]⟩ ++ a ++ ⟨#[32]⟩ ++ b ++ ⟨#[41]⟩ else a ++ b
theorem lineB_sz {a b : ByteArray} (ha : a.size ≤ 1000) (hb : b.size ≤ 1000) : (lineB a b).size ≤ 2003 := by
  unfold lineB
  split
  · simp only [ByteArray.size_append, z_lp, z_sp, z_rp]; omega
  · simp only [ByteArray.size_append]; omega
def cTxt (k : Int) (x y z w : ByteArray) : ByteArray :=
  if k = 1 then x ++ ⟨#[32, 33, 61, 32]⟩ ++ y
  else if k = 2 then x ++ ⟨#[44, 32]⟩ ++ y ++ ⟨#[44, 32]⟩ ++ z ++ ⟨#[32, 97, 114, 101, 32, 110, 111, 116, 32, 99, 111, 108, 108, 105, 110, 101, 97, 114]⟩
  else lineB x y ++ ⟨#[32, 97, 110, 100, 32]⟩ ++ lineB z w ++ ⟨#[32, 97, 114, 101, 32, 110, 111, 116, 32, 112, 97, 114, 97, 108, 108, 101, 108]⟩
abbrev nmA (ss : List ByteArray) (j : Int) : ByteArray := ss.getD j.toNat ByteArray.empty
def cRes (c : RC) (ss : List ByteArray) : AV :=
  if cErr c.k c.ar ss.length ≠ 0 then .tup [strA ⟨#[]⟩, iv (cErr c.k c.ar ss.length)]
  else if c.k = 4 then (if c.st < 0 ∨ (ss.length : Int) ≤ c.st then .tup [strA ⟨#[]⟩, iv 2] else .tup [strA (⟨#[115, 108, 111, 112, 101, 32, 111, 102, 32]⟩ ++ nmA ss c.st), iv 0])
  else .tup [strA (cTxt c.k (nmA ss (gI c.ar 0)) (nmA ss (gI c.ar 1)) (nmA ss (gI c.ar 2)) (nmA ss (gI c.ar 3))), iv 0]
/-- What a condition in order is like. -/
theorem cErr_ok {k : Int} {ar : List Int} {n : Nat} (h : cErr k ar n = 0) :
    (k = 1 ∧ ∃ a b : Nat, ar = [(a : Int), (b : Int)] ∧ a < n ∧ b < n) ∨ (k = 2 ∧ ∃ a b c : Nat, ar = [(a : Int), (b : Int), (c : Int)] ∧ a < n ∧ b < n ∧ c < n) ∨ (k = 3 ∧ ∃ a b c d : Nat, ar = [(a : Int), (b : Int), (c : Int), (d : Int)] ∧ a < n ∧ b < n ∧ c < n ∧ d < n) ∨ (k = 4 ∧ ar = []) := by
  unfold cErr at h
  split at h
  · omega
  · split at h
    · omega
    · split at h
      · omega
      · rename_i h1 h2 h3
        have hin : ∀ j, j < ar.length → 0 ≤ gI ar j ∧ gI ar j < (n : Int) := fun j hj => outB_in (by simpa using h3) hj
        have hl : (ar.length : Int) = cAr k := by omega
        clear h2 h3 h
        unfold cAr at h1 hl
        have nat : ∀ a : Int, 0 ≤ a ∧ a < (n : Int) → ∃ m : Nat, a = m ∧ m < n := fun a ha => ⟨a.toNat, by omega, by omega⟩
        split at hl
        · rename_i k1
          match ar, hl, hin with
          | [a, b], _, hin =>
            obtain ⟨a', rfl, ha⟩ := nat a (hin 0 (by simp))
            obtain ⟨b', rfl, hb⟩ := nat b (hin 1 (by simp))
            exact .inl ⟨k1, a', b', rfl, ha, hb⟩
        · split at hl
          · rename_i k1
            match ar, hl, hin with
            | [a, b, c], _, hin =>
              obtain ⟨a', rfl, ha⟩ := nat a (hin 0 (by simp))
              obtain ⟨b', rfl, hb⟩ := nat b (hin 1 (by simp))
              obtain ⟨c', rfl, hc⟩ := nat c (hin 2 (by simp))
              exact .inr (.inl ⟨k1, a', b', c', rfl, ha, hb, hc⟩)
          · split at hl
            · rename_i k1
              match ar, hl, hin with
              | [a, b, c, d], _, hin =>
                obtain ⟨a', rfl, ha⟩ := nat a (hin 0 (by simp))
                obtain ⟨b', rfl, hb⟩ := nat b (hin 1 (by simp))
                obtain ⟨c', rfl, hc⟩ := nat c (hin 2 (by simp))
                obtain ⟨d', rfl, hd⟩ := nat d (hin 3 (by simp))
                exact .inr (.inr (.inl ⟨k1, a', b', c', d', rfl, ha, hb, hc, hd⟩))
            · split at hl
              · rename_i k1
                exact .inr (.inr (.inr ⟨k1, List.length_eq_zero_iff.1 (by omega)⟩))
              · omega
theorem nm_at {ss : List ByteArray} {j : Nat} (h : j < ss.length) : (ss.map strA).getD j .u = strA (ss.getD j ByteArray.empty) := by
  rw [List.getD_eq_getElem?_getD, List.getElem?_map, List.getElem?_eq_getElem h, List.getD_eq_getElem?_getD, List.getElem?_eq_getElem h]; rfl
theorem nm_sz {ss : List ByteArray} (h : ∀ s ∈ ss, s.size ≤ 1000) (j : Nat) : (ss.getD j ByteArray.empty).size ≤ 1000 := by
  rw [List.getD_eq_getElem?_getD]
  rcases Nat.lt_or_ge j ss.length with h1 | h1
  · rw [List.getElem?_eq_getElem h1]; exact h _ (List.getElem_mem h1)
  · rw [List.getElem?_eq_none h1]; exact Nat.zero_le _
theorem cnAr (k : Int) : Pure Tryz.prog 74 [iv k] (iv (cAr k)) := by
  unfold cAr
  refine pure_intro (tok := 0) Tryz.func74 rfl Tryz.ntmps74 Tryz.results74 Tryz.call74 (by rfl) (by simp) ?_
  (focus (refine wklp w_t w_t w_t (w_r 0) ?_; (repeat' first | exact w_t | apply w_l); all_goals intros))
  all_goals (congr 2; repeat' split)
  all_goals (first | rfl | omega)
set_option maxHeartbeats 4000000 in
theorem cnChk (k : Int) (ar : List Int) (st : Int) (n : Nat) (hn : n ≤ 1000000000) : Pure Tryz.prog 34 [.agg [iv k, ivs ar, iv st], iv n] (iv (cErr k ar n)) := by
  have ca := cnAr k
  have hle := cAr_le k
  unfold cErr
  generalize cAr k = a at *
  have hla : (ar.map iv).length = ar.length := List.length_map ..
  by_cases w1 : a < 0
  · rw [if_pos w1]
    refine pure_intro (tok := 0) Tryz.func34 rfl Tryz.ntmps34 Tryz.results34 Tryz.call34 (by rfl) (by simp) ?_
    (focus (refine wklp (w_a hla w_t) (w_a ca w_t) w_t (w_r 0) ?_; (repeat' first | exact w_t | apply w_l); all_goals intros))
  · rw [if_neg w1]
    by_cases w2 : (ar.length : Int) ≠ a
    · rw [if_pos w2]
      refine pure_intro (tok := 0) Tryz.func34 rfl Tryz.ntmps34 Tryz.results34 Tryz.call34 (by rfl) (by simp) ?_
      (focus (refine wklp (w_a hla w_t) (w_a ca w_t) w_t (w_r 0) ?_; (repeat' first | exact w_t | apply w_l); all_goals intros))
    · rw [if_neg w2]
      have w3 : (ar.length : Int) = a := by omega
      clear w1 w2 hla
      subst w3
      have hv1 : outB n ar = true → (if outB (n : Int) ar = true then (2 : Int) else 0) = 2 := fun h => if_pos h
      have hv2 : outB n ar = false → (if outB (n : Int) ar = true then (2 : Int) else 0) = 0 := fun h => if_neg (by rw [h]; simp)
      generalize (if outB (n : Int) ar = true then (2 : Int) else 0) = v at *
      match ar, hle with
      | [], _ =>
        rw [hv2 rfl]
        refine pure_intro (tok := 0) Tryz.func34 rfl Tryz.ntmps34 Tryz.results34 Tryz.call34 (by rfl) (by simp) ?_
        (focus (refine wklp w_t (w_a ca w_t) w_t (w_r 5) ?_; (repeat' first | exact w_t | apply w_l); all_goals intros))
      | [x], _ =>
        simp only [outB, List.any_cons, List.any_nil, Bool.or_false, Bool.or_eq_true, decide_eq_true_eq, Bool.or_eq_false_iff, decide_eq_false_iff_not] at hv1 hv2
        refine pure_intro (tok := 0) Tryz.func34 rfl Tryz.ntmps34 Tryz.results34 Tryz.call34 (by rfl) (by simp) ?_
        (focus (refine wklp w_t (w_a ca w_t) w_t (w_r 5) ?_; (repeat' first | exact w_t | apply w_l); all_goals intros))
        all_goals (congr 2; first | exact (hv1 (by omega)).symm | exact (hv2 (by omega)).symm)
      | [x, y], _ =>
        simp only [outB, List.any_cons, List.any_nil, Bool.or_false, Bool.or_eq_true, decide_eq_true_eq, Bool.or_eq_false_iff, decide_eq_false_iff_not] at hv1 hv2
        refine pure_intro (tok := 0) Tryz.func34 rfl Tryz.ntmps34 Tryz.results34 Tryz.call34 (by rfl) (by simp) ?_
        (focus (refine wklp w_t (w_a ca w_t) w_t (w_r 5) ?_; (repeat' first | exact w_t | apply w_l); all_goals intros))
        all_goals (congr 2; first | exact (hv1 (by omega)).symm | exact (hv2 (by omega)).symm)
      | [x, y, z], _ =>
        simp only [outB, List.any_cons, List.any_nil, Bool.or_false, Bool.or_eq_true, decide_eq_true_eq, Bool.or_eq_false_iff, decide_eq_false_iff_not] at hv1 hv2
        refine pure_intro (tok := 0) Tryz.func34 rfl Tryz.ntmps34 Tryz.results34 Tryz.call34 (by rfl) (by simp) ?_
        (focus (refine wklp w_t (w_a ca w_t) w_t (w_r 5) ?_; (repeat' first | exact w_t | apply w_l); all_goals intros))
        all_goals (congr 2; first | exact (hv1 (by omega)).symm | exact (hv2 (by omega)).symm)
      | [x, y, z, w], _ =>
        simp only [outB, List.any_cons, List.any_nil, Bool.or_false, Bool.or_eq_true, decide_eq_true_eq, Bool.or_eq_false_iff, decide_eq_false_iff_not] at hv1 hv2
        refine pure_intro (tok := 0) Tryz.func34 rfl Tryz.ntmps34 Tryz.results34 Tryz.call34 (by rfl) (by simp) ?_
        (focus (refine wklp w_t (w_a ca w_t) w_t (w_r 5) ?_; (repeat' first | exact w_t | apply w_l); all_goals intros))
        all_goals (congr 2; first | exact (hv1 (by omega)).symm | exact (hv2 (by omega)).symm)
end Go.Proofs.YteiopjkamgmfpaaGreat
end

section
namespace Go.Proofs.YteiopjkamgmfpaaGreat
open Go Go.RowKit Go.Pg
set_option linter.unusedSimpArgs false
set_option linter.unusedVariables false
set_option maxRecDepth 20000
attribute [local go_sem] Tryz.underlying3 Tryz.underlying4 Tryz.underlying129 Tryz.underlying9 Tryz.underlying26 Tryz.underlying35 Tryz.underlying53 Tryz.underlying51 Tryz.underlying49 Tryz.underlying55 Tryz.underlying22 Tryz.underlying25 Tryz.underlying57 Tryz.underlying23 Tryz.underlying34 Tryz.underlying31 Tryz.underlying32 Tryz.underlying28 Tryz.underlying38 sz3 by3 z3 szB zB szErr zErr szStr byStr zStr szL byL zL szRat zRat szInt zInt szNat zNat szStep byStep zStep szFig zFig szSlI zSlI szSlS zSlS szFact byFact zFact szSlF zSlF szFrame zFrame szSlC zSlC szSlV zSlV szCond byCond zCond szSlCd zSlCd
attribute [-bool_to_prop] Bool.and_eq_decide Bool.or_eq_decide Bool.decide_beq_decide decide_eq_decide
/-! ### the condition of a step -/
def cHas (k : Int) : Bool := decide (6 ≤ k ∧ k ≤ 14)
def cOf (s : RS) (i : Nat) : RC :=
  if s.k = 6 then ⟨4, [], i⟩
  else if s.k = 7 ∨ s.k = 8 then ⟨1, [gI s.ar 1, gI s.ar 2], i⟩
  else if s.k = 9 then ⟨3, s.ar, i⟩
  else if s.k = 10 ∨ s.k = 12 ∨ s.k = 14 then ⟨1, [gI s.ar 0, gI s.ar 1], i⟩
  else if s.k = 11 then ⟨2, s.ar, i⟩
  else if s.k = 13 then ⟨1, [gI s.ar 0, gI s.ar 2], i⟩
  else ⟨0, [], 0⟩
theorem vk_cond (k : Int) (i : Int) (b : Bool) : Vk (.tup [.agg [iv k, .v (.slice none 0 0), iv i], .v (.bool b)]) (.tup [(RC.mk k [] i).av, .v (.bool b)]) :=
  Vk.tupL (.cons (Vk.aggL (.cons (.refl _) (.cons (.nil 1) (.cons (.refl _) .nil)))) (.cons (.refl _) .nil))
theorem len2 {ar : List Int} (h : (ar.length : Int) = 2) : ∃ x y, ar = [x, y] := by
  match ar, h with
  | [x, y], _ => exact ⟨x, y, rfl⟩
theorem len3 {ar : List Int} (h : (ar.length : Int) = 3) : ∃ x y z, ar = [x, y, z] := by
  match ar, h with
  | [x, y, z], _ => exact ⟨x, y, z, rfl⟩
theorem len4 {ar : List Int} (h : (ar.length : Int) = 4) : ∃ x y z w, ar = [x, y, z, w] := by
  match ar, h with
  | [x, y, z, w], _ => exact ⟨x, y, z, w, rfl⟩
set_option maxHeartbeats 8000000 in
theorem cnStep (s : RS) (i : Nat) (hl : (s.ar.length : Int) = arS s.k) : Pure Tryz.prog 33 [s.av, iv i] (.tup [(cOf s i).av, .v (.bool (cHas s.k))]) := by
  obtain ⟨k, nm, ar, ⟨rs, rl, rd⟩⟩ := s
  simp only at *
  by_cases k6 : k = 6
  · subst k6
    refine pure_vkR (r := .tup [.agg [iv 4, .v (.slice none 0 0), iv i], .v (.bool true)]) ?_ (vk_cond 4 i true)
    refine pure_intro (tok := 0) Tryz.func33 rfl Tryz.ntmps33 Tryz.results33 Tryz.call33 (by rfl) (by simp) ?_
    (focus (refine wkld w_t w_t w_t w_t ?_; (repeat' first | exact w_t | apply w_l); all_goals intros))
  by_cases k7 : k = 7
  · subst k7
    obtain ⟨x, y, z, rfl⟩ := len3 (by simpa [arS] using hl)
    unfold cOf cHas
    simp [gI]
    refine pure_intro (tok := 0) Tryz.func33 rfl Tryz.ntmps33 Tryz.results33 Tryz.call33 (by rfl) (by simp) ?_
    (focus (refine wkld w_t w_t w_t (w_a (w_d 9 [] [8] [27]) w_t) ?_; (repeat' first | exact w_t | apply w_l); all_goals intros))
  by_cases k8 : k = 8
  · subst k8
    obtain ⟨x, y, z, rfl⟩ := len3 (by simpa [arS] using hl)
    unfold cOf cHas
    simp [gI]
    refine pure_intro (tok := 0) Tryz.func33 rfl Tryz.ntmps33 Tryz.results33 Tryz.call33 (by rfl) (by simp) ?_
    (focus (refine wkld w_t w_t w_t (w_a (w_d 9 [] [8] [27]) w_t) ?_; (repeat' first | exact w_t | apply w_l); all_goals intros))
  by_cases k9 : k = 9
  · subst k9
    obtain ⟨x, y, z, w, rfl⟩ := len4 (by simpa [arS] using hl)
    unfold cOf cHas
    simp [gI]
    refine pure_intro (tok := 0) Tryz.func33 rfl Tryz.ntmps33 Tryz.results33 Tryz.call33 (by rfl) (by simp) ?_
    (focus (refine wkld w_t w_t w_t w_t ?_; (repeat' first | exact w_t | apply w_l); all_goals intros))
  by_cases k10 : k = 10
  · subst k10
    obtain ⟨x, y, z, rfl⟩ := len3 (by simpa [arS] using hl)
    unfold cOf cHas
    simp [gI]
    refine pure_intro (tok := 0) Tryz.func33 rfl Tryz.ntmps33 Tryz.results33 Tryz.call33 (by rfl) (by simp) ?_
    (focus (refine wkld w_t w_t w_t (w_a (w_d 16 [] [8] [47]) w_t) ?_; (repeat' first | exact w_t | apply w_l); all_goals intros))
  by_cases k11 : k = 11
  · subst k11
    obtain ⟨x, y, z, rfl⟩ := len3 (by simpa [arS] using hl)
    unfold cOf cHas
    simp [gI]
    refine pure_intro (tok := 0) Tryz.func33 rfl Tryz.ntmps33 Tryz.results33 Tryz.call33 (by rfl) (by simp) ?_
    (focus (refine wkld w_t w_t w_t w_t ?_; (repeat' first | exact w_t | apply w_l); all_goals intros))
  by_cases k12 : k = 12
  · subst k12
    obtain ⟨x, y, z, w, rfl⟩ := len4 (by simpa [arS] using hl)
    unfold cOf cHas
    simp [gI]
    refine pure_intro (tok := 0) Tryz.func33 rfl Tryz.ntmps33 Tryz.results33 Tryz.call33 (by rfl) (by simp) ?_
    (focus (refine wkld w_t w_t w_t (w_a (w_d 16 [] [8] [47]) w_t) ?_; (repeat' first | exact w_t | apply w_l); all_goals intros))
  by_cases k13 : k = 13
  · subst k13
    obtain ⟨x, y, z, w, rfl⟩ := len4 (by simpa [arS] using hl)
    unfold cOf cHas
    simp [gI]
    refine pure_intro (tok := 0) Tryz.func33 rfl Tryz.ntmps33 Tryz.results33 Tryz.call33 (by rfl) (by simp) ?_
    (focus (refine wkld w_t w_t w_t (w_a (w_d 21 [] [8] [65]) w_t) ?_; (repeat' first | exact w_t | apply w_l); all_goals intros))
  by_cases k14 : k = 14
  · subst k14
    obtain ⟨x, y, rfl⟩ := len2 (by simpa [arS] using hl)
    unfold cOf cHas
    simp [gI]
    refine pure_intro (tok := 0) Tryz.func33 rfl Tryz.ntmps33 Tryz.results33 Tryz.call33 (by rfl) (by simp) ?_
    (focus (refine wkld w_t w_t w_t (w_a (w_d 16 [] [8] [47]) w_t) ?_; (repeat' first | exact w_t | apply w_l); all_goals intros))
  have e1 : cOf ⟨k, nm, ar, ⟨rs, rl, rd⟩⟩ i = ⟨0, [], 0⟩ := by unfold cOf; simp [k6, k7, k8, k9, k10, k11, k12, k13, k14]
  have e2 : cHas k = false := by unfold cHas; rw [decide_eq_false_iff_not]; omega
  rw [e1]
  simp only [e2]
  refine pure_vkR (r := .tup [.agg [iv 0, .v (.slice none 0 0), iv 0], .v (.bool false)]) ?_ (vk_cond 0 0 false)
  clear e1 e2
  refine pure_intro (tok := 0) Tryz.func33 rfl Tryz.ntmps33 Tryz.results33 Tryz.call33 (by rfl) (by simp) ?_
  (focus (refine wkld w_t w_t w_t w_t ?_; (repeat' first | exact w_t | apply w_l); all_goals intros))
set_option maxHeartbeats 8000000 in
theorem rkStep (ss : List RS) (gs : List RG) (i : Nat) (s : RS) (hi : i < ss.length) (hs : ss[i] = s) (hl : (s.ar.length : Int) = arS s.k) : Pure Tryz.prog 19 [figA ss gs, iv i] (.tup [(cOf s i).av, .v (.bool (cHas s.k))]) := by
  have hg : (ss.map RS.av).getD i .u = s.av := by rw [map_atB RS.av hi, hs]
  have hls : (ss.map RS.av).length = ss.length := List.length_map ..
  show Pure _ _ [.agg [.sl 6 (ss.map RS.av), .sl 5 (gs.map RG.av)], iv i] _
  clear hs
  generalize ss.map RS.av = M at *
  generalize gs.map RG.av = N at *
  obtain ⟨k, nm, ar, ⟨rs, rl, rd⟩⟩ := s
  simp only at *
  by_cases k6 : k = 6
  · subst k6
    refine pure_vkR (r := .tup [.agg [iv 4, .v (.slice none 0 0), iv i], .v (.bool true)]) ?_ (vk_cond 4 i true)
    refine pure_intro (tok := 0) Tryz.func19 rfl Tryz.ntmps19 Tryz.results19 Tryz.call19 (by rfl) (by simp) ?_
    (focus (refine wkld (w_a hls (w_a hg w_t)) w_t w_t w_t ?_; (repeat' first | exact w_t | apply w_l); all_goals intros))
  by_cases k7 : k = 7
  · subst k7
    obtain ⟨x, y, z, rfl⟩ := len3 (by simpa [arS] using hl)
    unfold cOf cHas
    simp [gI]
    refine pure_intro (tok := 0) Tryz.func19 rfl Tryz.ntmps19 Tryz.results19 Tryz.call19 (by rfl) (by simp) ?_
    (focus (refine wkld (w_a hls (w_a hg w_t)) w_t w_t (w_a (w_d 7 [] [9] [32]) w_t) ?_; (repeat' first | exact w_t | apply w_l); all_goals intros))
  by_cases k8 : k = 8
  · subst k8
    obtain ⟨x, y, z, rfl⟩ := len3 (by simpa [arS] using hl)
    unfold cOf cHas
    simp [gI]
    refine pure_intro (tok := 0) Tryz.func19 rfl Tryz.ntmps19 Tryz.results19 Tryz.call19 (by rfl) (by simp) ?_
    (focus (refine wkld (w_a hls (w_a hg w_t)) w_t w_t (w_a (w_d 7 [] [9] [32]) w_t) ?_; (repeat' first | exact w_t | apply w_l); all_goals intros))
  by_cases k9 : k = 9
  · subst k9
    obtain ⟨x, y, z, w, rfl⟩ := len4 (by simpa [arS] using hl)
    unfold cOf cHas
    simp [gI]
    refine pure_intro (tok := 0) Tryz.func19 rfl Tryz.ntmps19 Tryz.results19 Tryz.call19 (by rfl) (by simp) ?_
    (focus (refine wkld (w_a hls (w_a hg w_t)) w_t w_t (w_a (w_d 9 [] [15] [49]) w_t) ?_; (repeat' first | exact w_t | apply w_l); all_goals intros))
  by_cases k10 : k = 10
  · subst k10
    obtain ⟨x, y, z, rfl⟩ := len3 (by simpa [arS] using hl)
    unfold cOf cHas
    simp [gI]
    refine pure_intro (tok := 0) Tryz.func19 rfl Tryz.ntmps19 Tryz.results19 Tryz.call19 (by rfl) (by simp) ?_
    (focus (refine wkld (w_a hls (w_a hg w_t)) w_t w_t (w_a (w_d 13 [] [9] [62]) w_t) ?_; (repeat' first | exact w_t | apply w_l); all_goals intros))
  by_cases k11 : k = 11
  · subst k11
    obtain ⟨x, y, z, rfl⟩ := len3 (by simpa [arS] using hl)
    unfold cOf cHas
    simp [gI]
    refine pure_intro (tok := 0) Tryz.func19 rfl Tryz.ntmps19 Tryz.results19 Tryz.call19 (by rfl) (by simp) ?_
    (focus (refine wkld (w_a hls (w_a hg w_t)) w_t w_t (w_a (w_d 15 [] [12] [76]) w_t) ?_; (repeat' first | exact w_t | apply w_l); all_goals intros))
  by_cases k12 : k = 12
  · subst k12
    obtain ⟨x, y, z, w, rfl⟩ := len4 (by simpa [arS] using hl)
    unfold cOf cHas
    simp [gI]
    refine pure_intro (tok := 0) Tryz.func19 rfl Tryz.ntmps19 Tryz.results19 Tryz.call19 (by rfl) (by simp) ?_
    (focus (refine wkld (w_a hls (w_a hg w_t)) w_t w_t (w_a (w_d 13 [] [9] [62]) w_t) ?_; (repeat' first | exact w_t | apply w_l); all_goals intros))
  by_cases k13 : k = 13
  · subst k13
    obtain ⟨x, y, z, w, rfl⟩ := len4 (by simpa [arS] using hl)
    unfold cOf cHas
    simp [gI]
    refine pure_intro (tok := 0) Tryz.func19 rfl Tryz.ntmps19 Tryz.results19 Tryz.call19 (by rfl) (by simp) ?_
    (focus (refine wkld (w_a hls (w_a hg w_t)) w_t w_t (w_a (w_d 17 [] [9] [87]) w_t) ?_; (repeat' first | exact w_t | apply w_l); all_goals intros))
  by_cases k14 : k = 14
  · subst k14
    obtain ⟨x, y, rfl⟩ := len2 (by simpa [arS] using hl)
    unfold cOf cHas
    simp [gI]
    refine pure_intro (tok := 0) Tryz.func19 rfl Tryz.ntmps19 Tryz.results19 Tryz.call19 (by rfl) (by simp) ?_
    (focus (refine wkld (w_a hls (w_a hg w_t)) w_t w_t (w_a (w_d 13 [] [9] [62]) w_t) ?_; (repeat' first | exact w_t | apply w_l); all_goals intros))
  have e1 : cOf ⟨k, nm, ar, ⟨rs, rl, rd⟩⟩ i = ⟨0, [], 0⟩ := by unfold cOf; simp [k6, k7, k8, k9, k10, k11, k12, k13, k14]
  have e2 : cHas k = false := by unfold cHas; rw [decide_eq_false_iff_not]; omega
  rw [e1]
  simp only [e2]
  refine pure_vkR (r := .tup [.agg [iv 0, .v (.slice none 0 0), iv 0], .v (.bool false)]) ?_ (vk_cond 0 0 false)
  clear e1 e2
  refine pure_intro (tok := 0) Tryz.func19 rfl Tryz.ntmps19 Tryz.results19 Tryz.call19 (by rfl) (by simp) ?_
  (focus (refine wkld (w_a hls (w_a hg w_t)) w_t w_t w_t ?_; (repeat' first | exact w_t | apply w_l); all_goals intros))
def sameC (a b : RC) : Bool := decide (a.k = b.k) && (decide (a.st = b.st) && decide (a.ar = b.ar))
set_option maxHeartbeats 4000000 in
theorem cnSame (a b : RC) (h1 : a.ar.length ≤ 1000000000) (h2 : b.ar.length ≤ 1000000000) : Pure Tryz.prog 50 [a.av, b.av] (.v (.bool (sameC a b))) := by
  obtain ⟨k, ar, st⟩ := a
  obtain ⟨k', ar', st'⟩ := b
  unfold sameC
  simp only at *
  show Pure _ _ [.agg [iv k, .sl 1 (ar.map iv), iv st], .agg [iv k', .sl 1 (ar'.map iv), iv st']] _
  have l1 : (ar.map iv).length = ar.length := List.length_map ..
  have l2 : (ar'.map iv).length = ar'.length := List.length_map ..
  by_cases hk : k = k'
  · by_cases hs : st = st'
    · by_cases hl : ar.length = ar'.length
      · have g1 : ∀ i (h : i < ar.length), (ar.map iv).getD i .u = iv (gI ar i) := fun i h => by rw [map_atB iv h, gI_at h]
        have g2 : ∀ i (h : i < ar.length), (ar'.map iv).getD i .u = iv (gI ar' i) := fun i h => by rw [map_atB iv (by omega), gI_at (by omega)]
        have hne : ∀ i, i < ar.length → gI ar i ≠ gI ar' i → decide (ar = ar') = false := fun i hi h => decide_eq_false fun e => h (by rw [e])
        have heq : (∀ i, i < ar.length → gI ar i = gI ar' i) → decide (ar = ar') = true := fun h => decide_eq_true (List.ext_getElem hl fun i h3 h4 => by have := h i h3; rwa [gI_at h3, gI_at h4] at this)
        subst hk hs
        simp only [decide_true, Bool.true_and]
        generalize decide (ar = ar') = v at *
        generalize ar.map iv = A at *
        generalize ar'.map iv = B at *
        rw [← hl] at l2
        generalize ar.length = n at *
        refine pure_intro (tok := 0) Tryz.func50 rfl Tryz.ntmps50 Tryz.results50 Tryz.call50 (by rfl) (by simp) ?_
        (focus (refine wkad (w_a l1 (w_a l2 w_t)) w_t w_t ?_; (repeat' first | exact w_t | apply w_l); all_goals intros))
        all_goals rename_i ga gb
        refine r_loopE (ι := Nat) (fun i e m => i ≤ n ∧ e 2 = .pbox 2 ga 0 ∧ m 2 = some (.box ga 28 [iv k, .sl 1 A, iv st] false) ∧ e 3 = .pbox 3 gb 0 ∧ m 3 = some (.box gb 28 [iv k, .sl 1 B, iv st] false) ∧ e 28 = .sl 1 A ∧ e 29 = iv n ∧ e 30 = iv i ∧ ∀ j, j < i → gI ar j = gI ar' j) (fun i => n - i) 0 (by rfl) ?_ ?_
        · rintro i e m ⟨hi, e2, m2, e3, m3, e28, e29, e30, hj⟩
          by_cases hlt : i < n
          · have x1 := g1 i hlt
            have x2 := g2 i hlt
            have hnx : gI ar i = gI ar' i → ∀ j, j < i + 1 → gI ar j = gI ar' j := fun h j hjj => by
              by_cases e : j = i
              · rw [e]; exact h
              · exact hj j (by omega)
            have hn := hne i hlt
            clear hj heq hne g1 g2
            by_cases hx : gI ar i = gI ar' i
            · have := hnx hx
              rw [← hx] at x2
              clear hnx hn
              generalize gI ar i = x at *
              (focus (refine wkad (w_a e2 (w_a m2 (w_a e3 (w_a m3 (w_a e28 (w_a e29 (w_a e30 (w_a l1 (w_a l2 (w_a x1 (w_a x2 w_t))))))))))) w_t w_t ?_; (repeat' first | exact w_t | apply w_l); all_goals intros))
              exact ⟨i + 1, ⟨by omega, by exact gW e2, by exact gW m2, by exact gW e3, by exact gW m3, by exact gW e28, by exact gW e29, by exact gS, this⟩, by omega⟩
            · rw [hn hx]
              clear hnx hn
              generalize gI ar i = x at *
              generalize gI ar' i = y at *
              (focus (refine wkad (w_a e2 (w_a m2 (w_a e3 (w_a m3 (w_a e28 (w_a e29 (w_a e30 (w_a l1 (w_a l2 (w_a x1 (w_a x2 w_t))))))))))) w_t w_t ?_; (repeat' first | exact w_t | apply w_l); all_goals intros))
              all_goals (all_goals (try simp (disch := omega) only [go_sem, decide_eq_true, decide_eq_false, if_pos, if_neg, Int.reduceAdd, Int.reduceSub, Int.reduceToNat, Int.zero_add])); (all_goals first | done | rfl | (congr 2; first | done | omega | (rw [Bool.eq_iff_iff]; simp only [bool_to_prop, Bool.false_eq_true, iff_true, true_iff, iff_false, false_iff]; omega)) | skip)
          · rw [heq fun j h => hj j (by omega)]
            clear hj heq hne g1 g2
            (focus (refine wkld (w_a e2 (w_a m2 (w_a e3 (w_a m3 (w_a e28 (w_a e29 (w_a e30 (w_a l1 (w_a l2 w_t))))))))) w_t w_t w_t ?_; (repeat' first | exact w_t | apply w_l); all_goals intros))
        · exact ⟨Nat.zero_le _, by exact gC, by exact gC, by exact gC, by exact gC, by exact gC, by exact gW l1, by exact gC, fun j h => by omega⟩
      · have : decide (ar = ar') = false := decide_eq_false fun e => hl (by rw [e])
        rw [this, Bool.and_false, Bool.and_false]
        subst hk hs
        refine pure_intro (tok := 0) Tryz.func50 rfl Tryz.ntmps50 Tryz.results50 Tryz.call50 (by rfl) (by simp) ?_
        (focus (refine wkad (w_a l1 (w_a l2 w_t)) w_t w_t ?_; (repeat' first | exact w_t | apply w_l); all_goals intros))
        all_goals (all_goals (try simp (disch := omega) only [go_sem, decide_eq_true, decide_eq_false, if_pos, if_neg, Int.reduceAdd, Int.reduceSub, Int.reduceToNat, Int.zero_add])); (all_goals first | done | rfl | (congr 2; first | done | omega | (rw [Bool.eq_iff_iff]; simp only [bool_to_prop, Bool.false_eq_true, iff_true, true_iff, iff_false, false_iff]; omega)) | skip)
    · rw [decide_eq_false hs, Bool.false_and, Bool.and_false]
      subst hk
      refine pure_intro (tok := 0) Tryz.func50 rfl Tryz.ntmps50 Tryz.results50 Tryz.call50 (by rfl) (by simp) ?_
      (focus (refine wkad (w_a l1 (w_a l2 w_t)) w_t w_t ?_; (repeat' first | exact w_t | apply w_l); all_goals intros))
      all_goals (all_goals (try simp (disch := omega) only [go_sem, decide_eq_true, decide_eq_false, if_pos, if_neg, Int.reduceAdd, Int.reduceSub, Int.reduceToNat, Int.zero_add])); (all_goals first | done | rfl | (congr 2; first | done | omega | (rw [Bool.eq_iff_iff]; simp only [bool_to_prop, Bool.false_eq_true, iff_true, true_iff, iff_false, false_iff]; omega)) | skip)
  · rw [decide_eq_false hk, Bool.false_and]
    refine pure_intro (tok := 0) Tryz.func50 rfl Tryz.ntmps50 Tryz.results50 Tryz.call50 (by rfl) (by simp) ?_
    (focus (refine wkad (w_a l1 (w_a l2 w_t)) w_t w_t ?_; (repeat' first | exact w_t | apply w_l); all_goals intros))
    all_goals (all_goals (try simp (disch := omega) only [go_sem, decide_eq_true, decide_eq_false, if_pos, if_neg, Int.reduceAdd, Int.reduceSub, Int.reduceToNat, Int.zero_add])); (all_goals first | done | rfl | (congr 2; first | done | omega | (rw [Bool.eq_iff_iff]; simp only [bool_to_prop, Bool.false_eq_true, iff_true, true_iff, iff_false, false_iff]; omega)) | skip)
set_option maxHeartbeats 4000000 in
theorem rkSame (a b : RC) (h1 : a.ar.length ≤ 1000000000) (h2 : b.ar.length ≤ 1000000000) : Pure Tryz.prog 17 [a.av, b.av] (.v (.bool (sameC a b))) := by
  obtain ⟨k, ar, st⟩ := a
  obtain ⟨k', ar', st'⟩ := b
  unfold sameC
  simp only at *
  show Pure _ _ [.agg [iv k, .sl 1 (ar.map iv), iv st], .agg [iv k', .sl 1 (ar'.map iv), iv st']] _
  have l1 : (ar.map iv).length = ar.length := List.length_map ..
  have l2 : (ar'.map iv).length = ar'.length := List.length_map ..
  by_cases hk : k = k'
  · by_cases hs : st = st'
    · by_cases hl : ar.length = ar'.length
      · have g1 : ∀ i (h : i < ar.length), (ar.map iv).getD i .u = iv (gI ar i) := fun i h => by rw [map_atB iv h, gI_at h]
        have g2 : ∀ i (h : i < ar.length), (ar'.map iv).getD i .u = iv (gI ar' i) := fun i h => by rw [map_atB iv (by omega), gI_at (by omega)]
        have hne : ∀ i, i < ar.length → gI ar i ≠ gI ar' i → decide (ar = ar') = false := fun i hi h => decide_eq_false fun e => h (by rw [e])
        have heq : (∀ i, i < ar.length → gI ar i = gI ar' i) → decide (ar = ar') = true := fun h => decide_eq_true (List.ext_getElem hl fun i h3 h4 => by have := h i h3; rwa [gI_at h3, gI_at h4] at this)
        subst hk hs
        simp only [decide_true, Bool.true_and]
        generalize decide (ar = ar') = v at *
        generalize ar.map iv = A at *
        generalize ar'.map iv = B at *
        rw [← hl] at l2
        generalize ar.length = n at *
        refine pure_intro (tok := 0) Tryz.func17 rfl Tryz.ntmps17 Tryz.results17 Tryz.call17 (by rfl) (by simp) ?_
        (focus (refine wkad (w_a l1 (w_a l2 w_t)) w_t w_t ?_; (repeat' first | exact w_t | apply w_l); all_goals intros))
        all_goals rename_i ga gb
        refine r_loopE (ι := Nat) (fun i e m => i ≤ n ∧ e 2 = .pbox 2 ga 0 ∧ m 2 = some (.box ga 28 [iv k, .sl 1 A, iv st] false) ∧ e 3 = .pbox 3 gb 0 ∧ m 3 = some (.box gb 28 [iv k, .sl 1 B, iv st] false) ∧ e 5 = iv i ∧ ∀ j, j < i → gI ar j = gI ar' j) (fun i => n - i) 0 (by rfl) ?_ ?_
        · rintro i e m ⟨hi, e2, m2, e3, m3, e5, hj⟩
          by_cases hlt : i < n
          · have x1 := g1 i hlt
            have x2 := g2 i hlt
            have hnx : gI ar i = gI ar' i → ∀ j, j < i + 1 → gI ar j = gI ar' j := fun h j hjj => by
              by_cases e : j = i
              · rw [e]; exact h
              · exact hj j (by omega)
            have hn := hne i hlt
            clear hj heq hne g1 g2
            by_cases hx : gI ar i = gI ar' i
            · have := hnx hx
              rw [← hx] at x2
              clear hnx hn
              generalize gI ar i = x at *
              (focus (refine wkad (w_a e2 (w_a m2 (w_a e3 (w_a m3 (w_a e5 (w_a l1 (w_a l2 (w_a x1 (w_a x2 w_t))))))))) w_t w_t ?_; (repeat' first | exact w_t | apply w_l); all_goals intros))
              exact ⟨i + 1, ⟨by omega, by exact gW e2, by exact gW m2, by exact gW e3, by exact gW m3, by exact gS, this⟩, by omega⟩
            · rw [hn hx]
              clear hnx hn
              generalize gI ar i = x at *
              generalize gI ar' i = y at *
              (focus (refine wkad (w_a e2 (w_a m2 (w_a e3 (w_a m3 (w_a e5 (w_a l1 (w_a l2 (w_a x1 (w_a x2 w_t))))))))) w_t w_t ?_; (repeat' first | exact w_t | apply w_l); all_goals intros))
              all_goals (all_goals (try simp (disch := omega) only [go_sem, decide_eq_true, decide_eq_false, if_pos, if_neg, Int.reduceAdd, Int.reduceSub, Int.reduceToNat, Int.zero_add])); (all_goals first | done | rfl | (congr 2; first | done | omega | (rw [Bool.eq_iff_iff]; simp only [bool_to_prop, Bool.false_eq_true, iff_true, true_iff, iff_false, false_iff]; omega)) | skip)
          · rw [heq fun j h => hj j (by omega)]
            clear hj heq hne g1 g2
            (focus (refine wkld (w_a e2 (w_a m2 (w_a e3 (w_a m3 (w_a e5 (w_a l1 (w_a l2 w_t))))))) w_t w_t w_t ?_; (repeat' first | exact w_t | apply w_l); all_goals intros))
        · exact ⟨Nat.zero_le _, by exact gC, by exact gC, by exact gC, by exact gC, by exact gC, fun j h => by omega⟩
      · have : decide (ar = ar') = false := decide_eq_false fun e => hl (by rw [e])
        rw [this, Bool.and_false, Bool.and_false]
        subst hk hs
        refine pure_intro (tok := 0) Tryz.func17 rfl Tryz.ntmps17 Tryz.results17 Tryz.call17 (by rfl) (by simp) ?_
        (focus (refine wkad (w_a l1 (w_a l2 w_t)) w_t w_t ?_; (repeat' first | exact w_t | apply w_l); all_goals intros))
        all_goals (all_goals (try simp (disch := omega) only [go_sem, decide_eq_true, decide_eq_false, if_pos, if_neg, Int.reduceAdd, Int.reduceSub, Int.reduceToNat, Int.zero_add])); (all_goals first | done | rfl | (congr 2; first | done | omega | (rw [Bool.eq_iff_iff]; simp only [bool_to_prop, Bool.false_eq_true, iff_true, true_iff, iff_false, false_iff]; omega)) | skip)
    · rw [decide_eq_false hs, Bool.false_and, Bool.and_false]
      subst hk
      refine pure_intro (tok := 0) Tryz.func17 rfl Tryz.ntmps17 Tryz.results17 Tryz.call17 (by rfl) (by simp) ?_
      (focus (refine wkad (w_a l1 (w_a l2 w_t)) w_t w_t ?_; (repeat' first | exact w_t | apply w_l); all_goals intros))
      all_goals (all_goals (try simp (disch := omega) only [go_sem, decide_eq_true, decide_eq_false, if_pos, if_neg, Int.reduceAdd, Int.reduceSub, Int.reduceToNat, Int.zero_add])); (all_goals first | done | rfl | (congr 2; first | done | omega | (rw [Bool.eq_iff_iff]; simp only [bool_to_prop, Bool.false_eq_true, iff_true, true_iff, iff_false, false_iff]; omega)) | skip)
  · rw [decide_eq_false hk, Bool.false_and]
    refine pure_intro (tok := 0) Tryz.func17 rfl Tryz.ntmps17 Tryz.results17 Tryz.call17 (by rfl) (by simp) ?_
    (focus (refine wkad (w_a l1 (w_a l2 w_t)) w_t w_t ?_; (repeat' first | exact w_t | apply w_l); all_goals intros))
    all_goals (all_goals (try simp (disch := omega) only [go_sem, decide_eq_true, decide_eq_false, if_pos, if_neg, Int.reduceAdd, Int.reduceSub, Int.reduceToNat, Int.zero_add])); (all_goals first | done | rfl | (congr 2; first | done | omega | (rw [Bool.eq_iff_iff]; simp only [bool_to_prop, Bool.false_eq_true, iff_true, true_iff, iff_false, false_iff]; omega)) | skip)
end Go.Proofs.YteiopjkamgmfpaaGreat
end

section
namespace Go.Proofs.YteiopjkamgmfpaaGreat
open Go Go.RowKit Go.Pg
set_option linter.unusedSimpArgs false
set_option linter.unusedVariables false
set_option maxRecDepth 20000
attribute [local go_sem] Tryz.underlying3 Tryz.underlying4 Tryz.underlying5 Tryz.underlying9 Tryz.underlying60 sz3 by3 z3 szStr byStr zStr
attribute [-bool_to_prop] Bool.and_eq_decide Bool.or_eq_decide Bool.decide_beq_decide decide_eq_decide
theorem kwL_len : kwL.length = 29 := rfl
set_option maxHeartbeats 4000000 in
theorem nmName (s : ByteArray) (hs : s.size ≤ 1000000000) : Pure Tryz.prog 141 [strA s] (.v (.bool (namB s))) := by
  have he := str_nil s
  unfold namB
  by_cases h0 : 0 < s.size ∧ s.size ≤ 20
  · rw [decide_eq_true h0, Bool.true_and]
    have h00 : (decide (s.size = 0)) = false := decide_eq_false (by omega)
    rw [h00] at he
    have hk := nmKind (gB s 0) (gB_lt s 0)
    have hg := gB_at s 0
    have kl := kinB_let (gB s 0)
    cases hl : letB (gB s 0) with
    | false =>
      have hx : kinB (gB s 0) ≠ 2 := fun h => by rw [kl.1 h] at hl; cases hl
      clear kl
      rw [Bool.false_and]
      generalize kinB (gB s 0) = x at *
      refine pure_intro (tok := 0) Tryz.func141 rfl Tryz.ntmps141 Tryz.results141 Tryz.call141 (by rfl) (by simp) ?_
      (focus (refine wklp (w_a he (w_a hg w_t)) (w_a hk w_t) w_t (w_r 0) ?_; (repeat' first | exact w_t | apply w_l); all_goals intros))
    | true =>
      have hx : kinB (gB s 0) = 2 := kl.2 hl
      rw [hx] at hk
      rw [Bool.true_and]
      obtain ⟨n, ce, hn, hall⟩ := nmEnd s hs
      cases ha : (List.range s.size).all (fun k => letB (gB s k) || digB (gB s k)) with
      | false =>
        have hlt : n < s.size := by
          rcases Nat.lt_or_ge n s.size with h | h
          · exact h
          · rw [hall.1 (by omega)] at ha; cases ha
        rw [Bool.false_and]
        clear hall ha
        refine pure_intro (tok := 0) Tryz.func141 rfl Tryz.ntmps141 Tryz.results141 Tryz.call141 (by rfl) (by simp) ?_
        (focus (refine wklp (w_a he (w_a hg w_t)) (w_a hk (w_a ce w_t)) w_t (w_r 0) ?_; (repeat' first | exact w_t | apply w_l); all_goals intros))
      | true =>
        have hnn : n = s.size := hall.2 ha
        subst hnn
        rw [Bool.true_and]
        clear hall ha hl hx kl
        have ck := nmKeys
        refine pure_intro (tok := 0) Tryz.func141 rfl Tryz.ntmps141 Tryz.results141 Tryz.call141 (by rfl) (by simp) ?_
        (focus (refine wkap (w_a he (w_a hg (w_a @l_map (w_a @kwL_len w_t)))) (w_a hk (w_a ce (w_a ck w_t))) (w_r 0) ?_; (repeat' first | exact w_t | apply w_l); all_goals intros))
        refine r_loopE (ι := Nat) (fun i e m => i ≤ 29 ∧ e 0 = strA s ∧ e 25 = .sl 1 (kwL.map strA) ∧ e 26 = iv 29 ∧ e 27 = iv i ∧ (kwL.take i).any (fun w => w.toList == s.toList) = false) (fun i => 29 - i) 0 (by rfl) ?_ ?_
        · rintro i e m ⟨hi, e0, e25, e26, e27, hno⟩
          by_cases hlt : i < 29
          · have hlt' : i < kwL.length := by rw [kwL_len]; exact hlt
            have hgk := map_atB strA hlt'
            have hsn : kwL.take (i + 1) = kwL.take i ++ [kwL[i]] := List.take_succ_eq_append_getElem hlt'
            have hmem : kwL[i] ∈ kwL := List.getElem_mem hlt'
            generalize kwL[i] = w at *
            cases hw : (w.toList == s.toList) with
            | true =>
              have : kwL.any (fun w => w.toList == s.toList) = true := List.any_eq_true.2 ⟨w, hmem, hw⟩
              rw [this]
              (focus (refine wklp (w_a e0 (w_a e25 (w_a e26 (w_a e27 (w_a hgk (w_a hw (w_a @l_map (w_a @kwL_len w_t)))))))) w_t (w_a @Bool.not_true w_t) (w_r 0) ?_; (repeat' first | exact w_t | apply w_l); all_goals intros))
            | false =>
              (focus (refine wkap (w_a e0 (w_a e25 (w_a e26 (w_a e27 (w_a hgk (w_a hw (w_a @l_map (w_a @kwL_len w_t)))))))) w_t (w_r 0) ?_; (repeat' first | exact w_t | apply w_l); all_goals intros))
              exact ⟨i + 1, ⟨by omega, by exact gW e0, by exact gW e25, by exact gW e26, by exact gS, by rw [hsn, List.any_append, hno]; simp [hw]⟩, by omega⟩
          · have hi2 : i = 29 := by omega
            subst hi2
            rw [show kwL.take 29 = kwL from by rw [← kwL_len, List.take_length]] at hno
            rw [hno]
            (focus (refine wklp (w_a e0 (w_a e25 (w_a e26 (w_a e27 w_t)))) w_t (w_a @Bool.not_false w_t) (w_r 0) ?_; (repeat' first | exact w_t | apply w_l); all_goals intros))
        · exact ⟨Nat.zero_le _, by exact gC, by exact gC, by (simp (disch := omega) only [go_sem, List.length_map, kwL_len] <;> repeat' first | rfl | refine ⟨?_, ?_⟩), by exact gC, by simp⟩
  · rw [decide_eq_false h0, Bool.false_and]
    by_cases h1 : s.size = 0
    · rw [decide_eq_true h1] at he
      refine pure_intro (tok := 0) Tryz.func141 rfl Tryz.ntmps141 Tryz.results141 Tryz.call141 (by rfl) (by simp) ?_
      (focus (refine wklp (w_a he w_t) w_t w_t (w_r 0) ?_; (repeat' first | exact w_t | apply w_l); all_goals intros))
    · rw [decide_eq_false h1] at he
      refine pure_intro (tok := 0) Tryz.func141 rfl Tryz.ntmps141 Tryz.results141 Tryz.call141 (by rfl) (by simp) ?_
      (focus (refine wklp (w_a he w_t) w_t w_t (w_r 0) ?_; (repeat' first | exact w_t | apply w_l); all_goals intros))
theorem decode_1 (s : ByteArray) (k : Nat) (hk : k < s.size) (h : gB s k < 128) : (Utf8.decode s k).2 = 1 := by
  have e : (s[k]'hk).toNat = gB s k := by
    unfold gB
    rw [List.getD_eq_getElem?_getD, List.getElem?_eq_getElem (by simpa using hk)]
    rfl
  rw [decode_ascii s k hk (by omega)]
theorem ld_ascii {c : Nat} (h : (letB c || digB c) = true) : c < 128 := by
  unfold letB digB at h
  simp only [Bool.or_eq_true, decide_eq_true_eq] at h
  omega
set_option maxHeartbeats 4000000 in
theorem rnName (s : ByteArray) (hs : s.size ≤ 1000000000) : Pure Tryz.prog 70 [strA s] (.v (.bool (namB s))) := by
  have he := str_nil s
  unfold namB
  by_cases h0 : 0 < s.size ∧ s.size ≤ 20
  · rw [decide_eq_true h0, Bool.true_and]
    have h00 : (decide (s.size = 0)) = false := decide_eq_false (by omega)
    rw [h00] at he
    have hk := rnLetter (gB s 0) (gB_lt s 0)
    have hg := gB_at s 0
    cases hl : letB (gB s 0) with
    | false =>
      rw [hl] at hk
      rw [Bool.false_and]
      refine pure_intro (tok := 0) Tryz.func70 rfl Tryz.ntmps70 Tryz.results70 Tryz.call70 (by rfl) (by simp) ?_
      (focus (refine wklp (w_a he (w_a hg w_t)) (w_a hk w_t) w_t (w_r 0) ?_; (repeat' first | exact w_t | apply w_l); all_goals intros))
    | true =>
      rw [hl] at hk
      rw [Bool.true_and]
      obtain ⟨n, h1, h2, h3⟩ := exists_end s s.size (Nat.le_refl _)
      have hall : (List.range s.size).all (fun k => letB (gB s k) || digB (gB s k)) = decide (n = s.size) := by
        rw [Bool.eq_iff_iff, List.all_eq_true, decide_eq_true_eq]
        constructor
        · intro h
          rcases Nat.lt_or_ge n s.size with h4 | h4
          · have := h n (List.mem_range.2 h4)
            rw [h3 h4] at this; cases this
          · omega
        · intro h x hx
          exact h2 x (by rw [h]; exact List.mem_range.1 hx)
      rw [hall]
      have ck := rnKeys
      refine pure_introW (rs := [.tmp 2]) Tryz.func70 rfl Tryz.ntmps70 Tryz.results70 Tryz.call70 (by simp) ?_
      refine awp_seq (aCode_sound (tok := 0) _ _ _ (by rfl) ?_)
      (focus (refine wkap w_t w_t (w_r 0) ?_; (repeat' first | exact w_t | apply w_l); all_goals intros))
      refine awp_seq (aCode_sound (tok := 0) _ _ _ (by rfl) ?_)
      (focus (refine wkap (w_a he (w_a hg w_t)) (w_a hk w_t) (w_r 0) ?_; (repeat' first | exact w_t | apply w_l); all_goals intros))
      refine awp_seq ?_
      clear hk hg he hall
      refine awp_range (s := s) (by exact gC) Tryz.underlying9 (by omega) (by omega) (by omega) (by omega) (by omega) (by omega) (by omega) (by rfl) (fun pos e => pos ≤ n ∧ e 0 = strA s) ?_ ?_ (fun pos _ => decode_pos s pos) ?_
      · intro pv
        exact ⟨Nat.zero_le _, by exact gC⟩
      · rintro pos e pv ⟨hp, e0⟩ epv hlt
        have hkl := rnLetter (gB s pos) (gB_lt s pos)
        have hkd := rnDigit (gB s pos) (gB_lt s pos)
        have hg := gB_at s pos
        by_cases hpn : pos < n
        · have hb := h2 pos hpn
          have hd := decode_1 s pos hlt (ld_ascii hb)
          rw [hd]
          generalize (Utf8.decode s pos).1 = cc
          cases hl2 : letB (gB s pos) with
          | true =>
            rw [hl2] at hkl
            (focus (refine wkap (w_a e0 (w_a hg w_t)) (w_a hkl (w_a hkd w_t)) (w_r 0) ?_; (repeat' first | exact w_t | apply w_l); all_goals intros))
            exact ⟨rfl, ⟨by omega, by exact gW e0⟩, by exact gW epv⟩
          | false =>
            rw [hl2, Bool.false_or] at hb
            rw [hl2] at hkl
            rw [hb] at hkd
            (focus (refine wkap (w_a e0 (w_a hg w_t)) (w_a hkl (w_a hkd w_t)) (w_r 0) ?_; (repeat' first | exact w_t | apply w_l); all_goals intros))
            exact ⟨rfl, ⟨by omega, by exact gW e0⟩, by exact gW epv⟩
        · have hpe : pos = n := by omega
          subst hpe
          have hb := h3 hlt
          rw [Bool.or_eq_false_iff] at hb
          rw [hb.1] at hkl
          rw [hb.2] at hkd
          have hne : decide (pos = s.size) = false := decide_eq_false (by omega)
          rw [hne]
          generalize (Utf8.decode s pos).1 = cc
          generalize (Utf8.decode s pos).2 = cw
          (focus (refine wkap (w_a e0 (w_a hg w_t)) (w_a hkl (w_a hkd w_t)) (w_r 0) ?_; (repeat' first | exact w_t | apply w_l); all_goals intros))
          refine ⟨rfl, ?_⟩
          (focus (refine wklp w_t w_t w_t (w_r 0) ?_; (repeat' first | exact w_t | apply w_l); all_goals intros))
      · rintro pos e pv ⟨hp, e0⟩ epv hlt
        have hpe : n = s.size := by omega
        rw [decide_eq_true hpe, Bool.true_and]
        (focus (refine wkap (w_a e0 w_t) w_t (w_r 0) ?_; (repeat' first | exact w_t | apply w_l); all_goals intros))
        refine ⟨rfl, ?_⟩
        refine t_in_exit (t_then ?_)
        refine aCode_sound (tok := 0) _ _ _ (by rfl) ?_
        (focus (refine wkap (w_a e0 (w_a @l_map (w_a @kwL_len w_t))) (w_a ck w_t) (w_r 0) ?_; (repeat' first | exact w_t | apply w_l); all_goals intros))
        refine r_loopE (ι := Nat) (fun i e m => i ≤ 29 ∧ e 0 = strA s ∧ e 36 = .sl 1 (kwL.map strA) ∧ e 37 = iv 29 ∧ e 38 = iv i ∧ (kwL.take i).any (fun w => w.toList == s.toList) = false) (fun i => 29 - i) 0 (by rfl) ?_ ?_
        · rintro i e m ⟨hi, e0, e25, e26, e27, hno⟩
          by_cases hlt : i < 29
          · have hlt' : i < kwL.length := by rw [kwL_len]; exact hlt
            have hgk := map_atB strA hlt'
            have hsn : kwL.take (i + 1) = kwL.take i ++ [kwL[i]] := List.take_succ_eq_append_getElem hlt'
            have hmem : kwL[i] ∈ kwL := List.getElem_mem hlt'
            generalize kwL[i] = w at *
            have hsy : (s.toList == w.toList) = (w.toList == s.toList) := by rw [Bool.eq_iff_iff, beq_iff_eq, beq_iff_eq]; exact eq_comm
            cases hw : (w.toList == s.toList) with
            | true =>
              have : kwL.any (fun w => w.toList == s.toList) = true := List.any_eq_true.2 ⟨w, hmem, hw⟩
              rw [this]
              rw [hw] at hsy
              (focus (refine wklp (w_a e0 (w_a e25 (w_a e26 (w_a e27 (w_a hgk (w_a hsy (w_a @l_map (w_a @kwL_len w_t)))))))) w_t (w_a @Bool.not_true w_t) (w_r 0) ?_; (repeat' first | exact w_t | apply w_l); all_goals intros))
            | false =>
              rw [hw] at hsy
              (focus (refine wkap (w_a e0 (w_a e25 (w_a e26 (w_a e27 (w_a hgk (w_a hsy (w_a @l_map (w_a @kwL_len w_t)))))))) w_t (w_r 0) ?_; (repeat' first | exact w_t | apply w_l); all_goals intros))
              exact ⟨i + 1, ⟨by omega, by exact gW e0, by exact gW e25, by exact gW e26, by exact gS, by rw [hsn, List.any_append, hno]; simp [hw]⟩, by omega⟩
          · have hi2 : i = 29 := by omega
            subst hi2
            rw [show kwL.take 29 = kwL from by rw [← kwL_len, List.take_length]] at hno
            rw [hno]
            (focus (refine wklp (w_a e0 (w_a e25 (w_a e26 (w_a e27 w_t)))) w_t (w_a @Bool.not_false w_t) (w_r 0) ?_; (repeat' first | exact w_t | apply w_l); all_goals intros))
        · exact ⟨Nat.zero_le _, by exact gW e0, by exact gC, by (simp (disch := omega) only [go_sem, List.length_map, kwL_len] <;> repeat' first | rfl | refine ⟨?_, ?_⟩), by exact gC, by simp⟩
  · rw [decide_eq_false h0, Bool.false_and]
    by_cases h1 : s.size = 0
    · rw [decide_eq_true h1] at he
      refine pure_intro (tok := 0) Tryz.func70 rfl Tryz.ntmps70 Tryz.results70 Tryz.call70 (by rfl) (by simp) ?_
      (focus (refine wklp (w_a he w_t) w_t w_t (w_r 0) ?_; (repeat' first | exact w_t | apply w_l); all_goals intros))
    · rw [decide_eq_false h1] at he
      refine pure_intro (tok := 0) Tryz.func70 rfl Tryz.ntmps70 Tryz.results70 Tryz.call70 (by rfl) (by simp) ?_
      (focus (refine wklp (w_a he w_t) w_t w_t (w_r 0) ?_; (repeat' first | exact w_t | apply w_l); all_goals intros))
end Go.Proofs.YteiopjkamgmfpaaGreat
end

section
namespace Go.Proofs.YteiopjkamgmfpaaGreat
open Go Go.RowKit Go.Pg Go.Pol
set_option linter.unusedSimpArgs false
set_option linter.unusedVariables false
set_option maxRecDepth 20000
attribute [local go_sem] Tryz.underlying3 Tryz.underlying4 Tryz.underlying129 Tryz.underlying9 Tryz.underlying26 Tryz.underlying35 Tryz.underlying53 Tryz.underlying51 Tryz.underlying49 Tryz.underlying55 Tryz.underlying22 Tryz.underlying57 Tryz.underlying23 Tryz.underlying25 sz3 by3 z3 szB zB szL byL zL szErr zErr szStr byStr zStr szRat zRat szInt zInt szNat zNat szStep byStep zStep szFact byFact zFact szFig zFig szSlI zSlI szSlS zSlS szSlF zSlF
attribute [-bool_to_prop] Bool.and_eq_decide Bool.or_eq_decide Bool.decide_beq_decide decide_eq_decide
theorem irRaw (s : Bool) (l : List Nat) (hl : Lm l) (hs : l.length ≤ 100000000) : Pure Tryz.prog 166 [.agg [.v (.bool s), lim l]] (.v (.bool (RQ.zok s l))) := by
  unfold RQ.zok valL
  by_cases h : l.length = 0
  · rw [decide_eq_true h, Bool.true_or, Bool.true_and, Bool.and_true]
    cases s
    · refine pure_intro (tok := 0) Tryz.func166 rfl Tryz.ntmps166 Tryz.results166 Tryz.call166 (by rfl) (by simp) ?_
      (focus (refine wklp (w_a @u16s_len w_t) w_t w_t (w_r 0) ?_; (repeat' first | exact w_t | apply w_l); all_goals intros))
    · refine pure_intro (tok := 0) Tryz.func166 rfl Tryz.ntmps166 Tryz.results166 Tryz.call166 (by rfl) (by simp) ?_
      (focus (refine wklp (w_a @u16s_len w_t) w_t w_t (w_r 0) ?_; (repeat' first | exact w_t | apply w_l); all_goals intros))
  · rw [decide_eq_false h, Bool.false_or, Bool.and_false, Bool.not_false, Bool.and_true]
    have ei : (l.length : Int) - 1 = ((l.length - 1 : Nat) : Int) := by omega
    have hlm := gN_lt hl (l.length - 1)
    by_cases hg : gN l (l.length - 1) = 0
    · rw [decide_eq_true hg]
      cases s
      · refine pure_intro (tok := 0) Tryz.func166 rfl Tryz.ntmps166 Tryz.results166 Tryz.call166 (by rfl) (by simp) ?_
        (focus (refine wklp (w_a ei (w_a @u16s_len w_t)) w_t (w_a @Bool.not_true w_t) (w_r 0) ?_; (repeat' first | exact w_t | apply w_l); all_goals intros))
      · refine pure_intro (tok := 0) Tryz.func166 rfl Tryz.ntmps166 Tryz.results166 Tryz.call166 (by rfl) (by simp) ?_
        (focus (refine wklp (w_a ei (w_a @u16s_len w_t)) w_t (w_a @Bool.not_true w_t) (w_r 0) ?_; (repeat' first | exact w_t | apply w_l); all_goals intros))
    · rw [decide_eq_false hg]
      cases s
      · refine pure_intro (tok := 0) Tryz.func166 rfl Tryz.ntmps166 Tryz.results166 Tryz.call166 (by rfl) (by simp) ?_
        (focus (refine wklp (w_a ei (w_a @u16s_len w_t)) w_t (w_a @Bool.not_false w_t) (w_r 0) ?_; (repeat' first | exact w_t | apply w_l); all_goals intros))
      · refine pure_intro (tok := 0) Tryz.func166 rfl Tryz.ntmps166 Tryz.results166 Tryz.call166 (by rfl) (by simp) ?_
        (focus (refine wklp (w_a ei (w_a @u16s_len w_t)) w_t (w_a @Bool.not_false w_t) (w_r 0) ?_; (repeat' first | exact w_t | apply w_l); all_goals intros))
theorem rtRight (r : RQ) (h : r.lm 100000000) : Pure Tryz.prog 139 [r.av] (.v (.bool r.ok)) := by
  obtain ⟨s, l, d⟩ := r
  obtain ⟨h1, h2, h3, h4⟩ := h
  simp only at h1 h2 h3 h4
  have c1 := irRaw s l h1 h3
  unfold RQ.ok
  simp only
  generalize RQ.zok s l = z at *
  by_cases hd : d.length = 0
  · have : decide (0 < d.length) = false := decide_eq_false (by omega)
    rw [this, Bool.and_false]
    cases z
    · refine pure_intro (tok := 0) Tryz.func139 rfl Tryz.ntmps139 Tryz.results139 Tryz.call139 (by rfl) (by simp) ?_
      (focus (refine wklp (w_a @u16s_len w_t) (w_a c1 w_t) w_t (w_r 0) ?_; (repeat' first | exact w_t | apply w_l); all_goals intros))
    · refine pure_intro (tok := 0) Tryz.func139 rfl Tryz.ntmps139 Tryz.results139 Tryz.call139 (by rfl) (by simp) ?_
      (focus (refine wklp (w_a @u16s_len w_t) (w_a c1 w_t) w_t (w_r 0) ?_; (repeat' first | exact w_t | apply w_l); all_goals intros))
  · have : decide (0 < d.length) = true := decide_eq_true (by omega)
    rw [this, Bool.and_true]
    have ei : (d.length : Int) - 1 = ((d.length - 1 : Nat) : Int) := by omega
    have hlm := gN_lt h2 (d.length - 1)
    cases z with
    | false =>
      rw [Bool.false_and, Bool.false_and]
      refine pure_intro (tok := 0) Tryz.func139 rfl Tryz.ntmps139 Tryz.results139 Tryz.call139 (by rfl) (by simp) ?_
      (focus (refine wklp (w_a @u16s_len w_t) (w_a c1 w_t) w_t (w_r 0) ?_; (repeat' first | exact w_t | apply w_l); all_goals intros))
    | true =>
      rw [Bool.true_and]
      by_cases hg : gN d (d.length - 1) = 0
      · have : valL d = false := by unfold valL; rw [decide_eq_false hd, decide_eq_true hg]; rfl
        rw [this, Bool.false_and]
        refine pure_intro (tok := 0) Tryz.func139 rfl Tryz.ntmps139 Tryz.results139 Tryz.call139 (by rfl) (by simp) ?_
        (focus (refine wklp (w_a ei (w_a @u16s_len w_t)) (w_a c1 w_t) w_t (w_r 0) ?_; (repeat' first | exact w_t | apply w_l); all_goals intros))
      · have hv : valL d = true := by unfold valL; rw [decide_eq_false hd, decide_eq_false hg]; rfl
        rw [hv, Bool.true_and]
        have hdt := (valL_iff h2).1 hv
        have l4 : (toL (nv d)).length ≤ 100000000 := by rw [← hdt]; exact h4
        have c2 := ratOne (nv d) l4
        have c3 := natGcd l d (by omega) (by omega) h1 h2
        have n0 : nv d ≠ 0 := by
          intro h0
          rw [h0, toL_zero] at hdt
          rw [hdt] at hd; exact hd rfl
        have gl : (toL (Nat.gcd (nv l) (nv d))).length ≤ 100000000 := Nat.le_trans (lg_mono (Nat.gcd_le_right _ (by omega))) l4
        have c4 := ratOne (Nat.gcd (nv l) (nv d)) gl
        rw [← hdt] at c2
        have hb : (Nat.gcd (nv l) (nv d) == 1) = decide (Nat.gcd (nv l) (nv d) = 1) := by rw [Bool.eq_iff_iff, beq_iff_eq, decide_eq_true_eq]
        rw [hb]
        by_cases h1d : nv d = 1
        · rw [decide_eq_true h1d] at c2
          rw [decide_eq_true (show Nat.gcd (nv l) (nv d) = 1 by rw [h1d, Nat.gcd_one_right])]
          clear c3 c4 hdt
          refine pure_intro (tok := 0) Tryz.func139 rfl Tryz.ntmps139 Tryz.results139 Tryz.call139 (by rfl) (by simp) ?_
          (focus (refine wklp (w_a ei (w_a @u16s_len w_t)) (w_a c1 (w_a c2 w_t)) (w_a @decide_true w_t) (w_r 0) ?_; (repeat' first | exact w_t | apply w_l); all_goals intros))
        · rw [decide_eq_false h1d] at c2
          clear hdt hb gl
          generalize decide (Nat.gcd (nv l) (nv d) = 1) = v at *
          generalize toL (Nat.gcd (nv l) (nv d)) = lg' at *
          refine pure_intro (tok := 0) Tryz.func139 rfl Tryz.ntmps139 Tryz.results139 Tryz.call139 (by rfl) (by simp) ?_
          (focus (refine wklp (w_a ei (w_a @u16s_len w_t)) (w_a c1 (w_a c2 (w_a c3 (w_a c4 w_t)))) w_t (w_r 0) ?_; (repeat' first | exact w_t | apply w_l); all_goals intros))
set_option maxHeartbeats 4000000 in
theorem lwAr (k : Int) : Pure Tryz.prog 136 [iv k] (iv (arS k)) := by
  unfold arS
  refine pure_intro (tok := 0) Tryz.func136 rfl Tryz.ntmps136 Tryz.results136 Tryz.call136 (by rfl) (by simp) ?_
  (focus (refine wklp w_t w_t w_t (w_r 0) ?_; (repeat' first | exact w_t | apply w_l); all_goals intros))
  all_goals (congr 2; repeat' split)
  all_goals (first | rfl | omega)
theorem lwNone (r : RQ) : Pure Tryz.prog 140 [r.av] (.v (.bool r.none)) := by
  obtain ⟨s, l, d⟩ := r
  unfold RQ.none
  simp only
  cases s
  · refine pure_intro (tok := 0) Tryz.func140 rfl Tryz.ntmps140 Tryz.results140 Tryz.call140 (by rfl) (by simp) ?_
    (focus (refine wklp (w_a @u16s_len w_t) w_t w_t (w_r 0) ?_; (repeat' first | exact w_t | apply w_l); all_goals intros))
  · refine pure_intro (tok := 0) Tryz.func140 rfl Tryz.ntmps140 Tryz.results140 Tryz.call140 (by rfl) (by simp) ?_
    (focus (refine wklp (w_a @u16s_len w_t) w_t w_t (w_r 0) ?_; (repeat' first | exact w_t | apply w_l); all_goals intros))
set_option maxHeartbeats 4000000 in
theorem rlAr (k : Int) : Pure Tryz.prog 67 [iv k] (iv (arS k)) := by
  unfold arS
  refine pure_intro (tok := 0) Tryz.func67 rfl Tryz.ntmps67 Tryz.results67 Tryz.call67 (by rfl) (by simp) ?_
  (focus (refine wklp w_t w_t w_t (w_r 0) ?_; (repeat' first | exact w_t | apply w_l); all_goals intros))
  all_goals (congr 2; repeat' split)
  all_goals (first | rfl | omega)
theorem rlNone (r : RQ) : Pure Tryz.prog 69 [r.av] (.v (.bool r.none)) := by
  obtain ⟨s, l, d⟩ := r
  unfold RQ.none
  simp only
  cases s
  · refine pure_intro (tok := 0) Tryz.func69 rfl Tryz.ntmps69 Tryz.results69 Tryz.call69 (by rfl) (by simp) ?_
    (focus (refine wklp (w_a @u16s_len w_t) w_t w_t (w_r 0) ?_; (repeat' first | exact w_t | apply w_l); all_goals intros))
  · refine pure_intro (tok := 0) Tryz.func69 rfl Tryz.ntmps69 Tryz.results69 Tryz.call69 (by rfl) (by simp) ?_
    (focus (refine wklp (w_a @u16s_len w_t) w_t w_t (w_r 0) ?_; (repeat' first | exact w_t | apply w_l); all_goals intros))
set_option maxHeartbeats 4000000 in
theorem prAr (k : Int) : Pure Tryz.prog 144 [iv k] (iv (arG k)) := by
  unfold arG
  refine pure_intro (tok := 0) Tryz.func144 rfl Tryz.ntmps144 Tryz.results144 Tryz.call144 (by rfl) (by simp) ?_
  (focus (refine wklp w_t w_t w_t (w_r 0) ?_; (repeat' first | exact w_t | apply w_l); all_goals intros))
  all_goals (congr 2; repeat' split)
  all_goals (first | rfl | omega)
theorem prNone (r : RQ) : Pure Tryz.prog 145 [r.av] (.v (.bool r.none)) := by
  obtain ⟨s, l, d⟩ := r
  unfold RQ.none
  simp only
  cases s
  · refine pure_intro (tok := 0) Tryz.func145 rfl Tryz.ntmps145 Tryz.results145 Tryz.call145 (by rfl) (by simp) ?_
    (focus (refine wklp (w_a @u16s_len w_t) w_t w_t (w_r 0) ?_; (repeat' first | exact w_t | apply w_l); all_goals intros))
  · refine pure_intro (tok := 0) Tryz.func145 rfl Tryz.ntmps145 Tryz.results145 Tryz.call145 (by rfl) (by simp) ?_
    (focus (refine wklp (w_a @u16s_len w_t) w_t w_t (w_r 0) ?_; (repeat' first | exact w_t | apply w_l); all_goals intros))
set_option maxHeartbeats 4000000 in
theorem rrAr (k : Int) : Pure Tryz.prog 71 [iv k] (iv (arG k)) := by
  unfold arG
  refine pure_intro (tok := 0) Tryz.func71 rfl Tryz.ntmps71 Tryz.results71 Tryz.call71 (by rfl) (by simp) ?_
  (focus (refine wklp w_t w_t w_t (w_r 0) ?_; (repeat' first | exact w_t | apply w_l); all_goals intros))
  all_goals (congr 2; repeat' split)
  all_goals (first | rfl | omega)
theorem rrNone (r : RQ) : Pure Tryz.prog 72 [r.av] (.v (.bool r.none)) := by
  obtain ⟨s, l, d⟩ := r
  unfold RQ.none
  simp only
  cases s
  · refine pure_intro (tok := 0) Tryz.func72 rfl Tryz.ntmps72 Tryz.results72 Tryz.call72 (by rfl) (by simp) ?_
    (focus (refine wklp (w_a @u16s_len w_t) w_t w_t (w_r 0) ?_; (repeat' first | exact w_t | apply w_l); all_goals intros))
  · refine pure_intro (tok := 0) Tryz.func72 rfl Tryz.ntmps72 Tryz.results72 Tryz.call72 (by rfl) (by simp) ?_
    (focus (refine wklp (w_a @u16s_len w_t) w_t w_t (w_r 0) ?_; (repeat' first | exact w_t | apply w_l); all_goals intros))
/-- The first element of a kind. -/
theorem exists_fst {α : Type} (F : α → Bool) (l : List α) : ∃ n, n ≤ l.length ∧ (∀ j (h : j < l.length), j < n → F l[j] = false) ∧ (∀ h : n < l.length, F l[n] = true) ∧ l.any F = decide (n < l.length) := by
  induction l with
  | nil => exact ⟨0, by simp, by simp, by simp, by simp⟩
  | cons a l ih =>
    obtain ⟨n, h1, h2, h3, h4⟩ := ih
    cases ha : F a with
    | true => exact ⟨0, by simp, fun j h h' => by omega, fun _ => ha, by simp [ha]⟩
    | false =>
      refine ⟨n + 1, by simpa using h1, fun j h h' => ?_, fun h => h3 (by simpa using h), by simp [ha, h4]⟩
      cases j with
      | zero => exact ha
      | succ j => exact h2 j (by simpa using h) (by omega)
theorem ck1 (a i : Int) : Pure Tryz.prog 138 [iv a, .pimm [iv i]] (.v (.bool (decide (a < 0) || decide (i ≤ a)))) := by
  refine pure_intro (tok := 0) Tryz.func138 rfl Tryz.ntmps138 Tryz.results138 Tryz.call138 (by rfl) (by simp) ?_
  (focus (refine wklp w_t w_t w_t (w_r 0) ?_; (repeat' first | exact w_t | apply w_l); all_goals intros))
theorem slIdx1 (l : List Int) (i : Int) (hl : l.length ≤ 1000000000) : ∃ z : Int, Pure Tryz.prog 165 [ivs l, .fn 138 [.pimm [iv i]]] (iv z) ∧ decide (0 ≤ z) = outB i l := by
  obtain ⟨n, h1, h2, h3, h4⟩ := exists_fst (fun a => decide (a < 0) || decide (i ≤ a)) l
  refine ⟨if n < l.length then (n : Int) else -1, ?_, ?_⟩
  · refine pure_intro (tok := 0) Tryz.func165 rfl Tryz.ntmps165 Tryz.results165 Tryz.call165 (by rfl) (by simp) ?_
    (focus (refine wkap (w_a @l_map w_t) w_t (w_r 0) ?_; (repeat' first | exact w_t | apply w_l); all_goals intros))
    refine r_loopE (ι := Nat) (fun k e m => k ≤ n ∧ e 0 = ivs l ∧ e 1 = .fn 138 [.pimm [iv i]] ∧ e 7 = iv l.length ∧ e 8 = iv k) (fun k => n - k) 0 (by rfl) ?_ ?_
    · rintro k e m ⟨hk, e0, e1, e7, e8⟩
      by_cases hlt : k < l.length
      · have hg := map_atB iv hlt
        by_cases hkn : k < n
        · have hb := h2 k hlt hkn
          have c := ck1 l[k] i
          rw [hb] at c
          clear hb
          generalize l[k] = a at *
          (focus (refine wkap (w_a e0 (w_a e1 (w_a e7 (w_a e8 (w_a hg (w_a @l_map w_t)))))) (w_a c w_t) (w_r 0) ?_; (repeat' first | exact w_t | apply w_l); all_goals intros))
          exact ⟨k + 1, ⟨by omega, by exact gW e0, by exact gW e1, by exact gW e7, by exact gS⟩, by omega⟩
        · have hkn : k = n := by omega
          subst hkn
          have hb := h3 hlt
          have c := ck1 l[k] i
          rw [hb] at c
          rw [if_pos hlt]
          clear hb
          generalize l[k] = a at *
          (focus (refine wklp (w_a e0 (w_a e1 (w_a e7 (w_a e8 (w_a hg (w_a @l_map w_t)))))) (w_a c w_t) w_t (w_r 0) ?_; (repeat' first | exact w_t | apply w_l); all_goals intros))
      · rw [if_neg (by omega)]
        (focus (refine wklp (w_a e0 (w_a e1 (w_a e7 (w_a e8 (w_a @l_map w_t))))) w_t w_t (w_r 0) ?_; (repeat' first | exact w_t | apply w_l); all_goals intros))
    · exact ⟨Nat.zero_le _, by exact gC, by exact gC, by (simp (disch := omega) only [go_sem, List.length_map] <;> repeat' first | rfl | refine ⟨?_, ?_⟩), by exact gC⟩
  · unfold outB
    rw [h4, Bool.eq_iff_iff, decide_eq_true_eq, decide_eq_true_eq]
    split <;> omega
theorem slCon1 (l : List Int) (i : Int) (hl : l.length ≤ 1000000000) : Pure Tryz.prog 137 [ivs l, .fn 138 [.pimm [iv i]]] (.v (.bool (outB i l))) := by
  obtain ⟨z, c, hz⟩ := slIdx1 l i hl
  rw [← hz]
  refine pure_intro (tok := 0) Tryz.func137 rfl Tryz.ntmps137 Tryz.results137 Tryz.call137 (by rfl) (by simp) ?_
  (focus (refine wklp w_t (w_a c w_t) w_t (w_r 0) ?_; (repeat' first | exact w_t | apply w_l); all_goals intros))
theorem ck2 (t s : RS) : Pure Tryz.prog 143 [t.av, .pimm [iv s.k, strA s.nm, ivs s.ar, .v (.bool s.r.s), lim s.r.l, lim s.r.d]] (.v (.bool (t.nm.toList == s.nm.toList))) := by
  obtain ⟨a, b, c, d⟩ := t
  obtain ⟨a', b', c', d'⟩ := s
  refine pure_intro (tok := 0) Tryz.func143 rfl Tryz.ntmps143 Tryz.results143 Tryz.call143 (by rfl) (by simp) ?_
  (focus (refine wklp w_t w_t w_t (w_r 0) ?_; (repeat' first | exact w_t | apply w_l); all_goals intros))
theorem slIdx2 (l : List RS) (s : RS) (hl : l.length ≤ 1000000000) : ∃ z : Int, Pure Tryz.prog 171 [.sl 6 (l.map RS.av), .fn 143 [.pimm [iv s.k, strA s.nm, ivs s.ar, .v (.bool s.r.s), lim s.r.l, lim s.r.d]]] (iv z) ∧ decide (0 ≤ z) = l.any (fun t => t.nm.toList == s.nm.toList) := by
  obtain ⟨n, h1, h2, h3, h4⟩ := exists_fst (fun t : RS => t.nm.toList == s.nm.toList) l
  refine ⟨if n < l.length then (n : Int) else -1, ?_, ?_⟩
  · refine pure_intro (tok := 0) Tryz.func171 rfl Tryz.ntmps171 Tryz.results171 Tryz.call171 (by rfl) (by simp) ?_
    (focus (refine wkap (w_a @l_map w_t) w_t (w_r 0) ?_; (repeat' first | exact w_t | apply w_l); all_goals intros))
    refine r_loopE (ι := Nat) (fun k e m => k ≤ n ∧ e 0 = .sl 6 (l.map RS.av) ∧ e 1 = .fn 143 [.pimm [iv s.k, strA s.nm, ivs s.ar, .v (.bool s.r.s), lim s.r.l, lim s.r.d]] ∧ e 7 = iv l.length ∧ e 8 = iv k) (fun k => n - k) 0 (by rfl) ?_ ?_
    · rintro k e m ⟨hk, e0, e1, e7, e8⟩
      by_cases hlt : k < l.length
      · have hg := map_atB RS.av hlt
        by_cases hkn : k < n
        · have hb := h2 k hlt hkn
          have c := ck2 l[k] s
          rw [hb] at c
          clear hb
          generalize l[k] = a at *
          obtain ⟨a1, a2, a3, a4⟩ := a
          (focus (refine wkap (w_a e0 (w_a e1 (w_a e7 (w_a e8 (w_a hg (w_a @l_map w_t)))))) (w_a c w_t) (w_r 0) ?_; (repeat' first | exact w_t | apply w_l); all_goals intros))
          exact ⟨k + 1, ⟨by omega, by exact gW e0, by exact gW e1, by exact gW e7, by exact gS⟩, by omega⟩
        · have hkn : k = n := by omega
          subst hkn
          have hb := h3 hlt
          have c := ck2 l[k] s
          rw [hb] at c
          rw [if_pos hlt]
          clear hb
          generalize l[k] = a at *
          obtain ⟨a1, a2, a3, a4⟩ := a
          (focus (refine wklp (w_a e0 (w_a e1 (w_a e7 (w_a e8 (w_a hg (w_a @l_map w_t)))))) (w_a c w_t) w_t (w_r 0) ?_; (repeat' first | exact w_t | apply w_l); all_goals intros))
      · rw [if_neg (by omega)]
        (focus (refine wklp (w_a e0 (w_a e1 (w_a e7 (w_a e8 (w_a @l_map w_t))))) w_t w_t (w_r 0) ?_; (repeat' first | exact w_t | apply w_l); all_goals intros))
    · exact ⟨Nat.zero_le _, by exact gC, by exact gC, by (simp (disch := omega) only [go_sem, List.length_map] <;> repeat' first | rfl | refine ⟨?_, ?_⟩), by exact gC⟩
  · rw [h4, Bool.eq_iff_iff, decide_eq_true_eq, decide_eq_true_eq]
    split <;> omega
theorem slCon2 (l : List RS) (s : RS) (hl : l.length ≤ 1000000000) : Pure Tryz.prog 142 [.sl 6 (l.map RS.av), .fn 143 [.pimm [iv s.k, strA s.nm, ivs s.ar, .v (.bool s.r.s), lim s.r.l, lim s.r.d]]] (.v (.bool (l.any (fun t => t.nm.toList == s.nm.toList)))) := by
  obtain ⟨z, c, hz⟩ := slIdx2 l s hl
  rw [← hz]
  refine pure_intro (tok := 0) Tryz.func142 rfl Tryz.ntmps142 Tryz.results142 Tryz.call142 (by rfl) (by simp) ?_
  (focus (refine wklp w_t (w_a c w_t) w_t (w_r 0) ?_; (repeat' first | exact w_t | apply w_l); all_goals intros))
end Go.Proofs.YteiopjkamgmfpaaGreat
end

section
namespace Go.Proofs.YteiopjkamgmfpaaGreat
open Go Go.RowKit Go.Pg Go.Pol
set_option linter.unusedSimpArgs false
set_option linter.unusedVariables false
set_option maxRecDepth 20000
attribute [local go_sem] Tryz.underlying3 Tryz.underlying4 Tryz.underlying129 Tryz.underlying9 Tryz.underlying26 Tryz.underlying35 Tryz.underlying53 Tryz.underlying51 Tryz.underlying49 Tryz.underlying55 Tryz.underlying22 Tryz.underlying57 Tryz.underlying23 Tryz.underlying25 sz3 by3 z3 szB zB szL byL zL szErr zErr szStr byStr zStr szRat zRat szInt zInt szNat zNat szStep byStep zStep szFact byFact zFact szFig zFig szSlI zSlI szSlS zSlS szSlF zSlF
attribute [-bool_to_prop] Bool.and_eq_decide Bool.or_eq_decide Bool.decide_beq_decide decide_eq_decide
/-- Sizes that machines hold. -/
def RS.sm (s : RS) : Prop := s.r.lm 100000000 ∧ s.nm.size ≤ 1000000000 ∧ s.ar.length ≤ 1000000000
def RG.sm (g : RG) : Prop := g.r.lm 100000000 ∧ g.ar.length ≤ 1000000000
set_option maxHeartbeats 8000000 in
theorem lwCheck (ss : List RS) (i : Nat) (hi : i < ss.length) (hl : ss.length ≤ 1000000000) (hs : ∀ s ∈ ss, s.sm) : Pure Tryz.prog 87 [.sl 6 (ss.map RS.av), iv i] (iv (errS ss i)) := by
  have hg := map_atB RS.av hi
  have hsm := hs _ (List.getElem_mem hi)
  have e0 : errS ss i = errS ss i := rfl
  unfold errS at e0 ⊢
  rw [show ss.getD i RS.zero = ss[i] from by rw [List.getD_eq_getElem?_getD, List.getElem?_eq_getElem hi]; rfl]
  clear e0
  have htk : (ss.map RS.av).take i = (ss.take i).map RS.av := (List.map_take ..).symm
  have c2 := slCon2 (ss.take i) ss[i] (by rw [List.length_take]; omega)
  rw [← htk] at c2
  have hlm : (ss.map RS.av).length = ss.length := List.length_map ..
  generalize ss.map RS.av = M at *
  generalize ss[i] = s at *
  clear htk
  clear hs
  obtain ⟨h1, h2, h3⟩ := hsm
  have ca := lwAr s.k
  have cr := rtRight s.r h1
  have cn := lwNone s.r
  have cm := nmName s.nm h2
  have c1 := slCon1 s.ar i h3
  have hst := str_nil s.nm
  have hla : (s.ar.map iv).length = s.ar.length := List.length_map ..
  obtain ⟨k, nm, ar, r, rl, rd⟩ := s
  simp only at *
  generalize (ss.take i).any (fun t => t.nm.toList == nm.toList) = any at *
  generalize arS k = a at *
  generalize outB (i : Int) ar = o at *
  generalize RQ.ok ⟨r, rl, rd⟩ = ok at *
  generalize RQ.none ⟨r, rl, rd⟩ = no at *
  generalize namB nm = nb at *
  by_cases w1 : a < 0
  · rw [if_pos w1]
    refine pure_intro (tok := 0) Tryz.func87 rfl Tryz.ntmps87 Tryz.results87 Tryz.call87 (by rfl) (by simp) ?_
    (focus (refine wklp (w_a hg (w_a hlm (w_a hla w_t))) (w_a ca w_t) w_t (w_r 0) ?_; (repeat' first | exact w_t | apply w_l); all_goals intros))
  · rw [if_neg w1]
    by_cases w2 : (ar.length : Int) ≠ a
    · rw [if_pos w2]
      refine pure_intro (tok := 0) Tryz.func87 rfl Tryz.ntmps87 Tryz.results87 Tryz.call87 (by rfl) (by simp) ?_
      (focus (refine wklp (w_a hg (w_a hlm (w_a hla w_t))) (w_a ca w_t) w_t (w_r 0) ?_; (repeat' first | exact w_t | apply w_l); all_goals intros))
    · rw [if_neg w2]
      cases o with
      | true =>
        rw [if_pos rfl]
        refine pure_intro (tok := 0) Tryz.func87 rfl Tryz.ntmps87 Tryz.results87 Tryz.call87 (by rfl) (by simp) ?_
        (focus (refine wkax (w_a hg (w_a hlm (w_a hla w_t))) (w_a ca w_t) w_t (w_a c1 w_t) w_t w_t (w_r 0) ?_; (repeat' first | exact w_t | apply w_l); all_goals intros))
        (all_goals (try simp (disch := omega) only [go_sem, decide_eq_true, decide_eq_false, if_pos, if_neg, Int.reduceAdd, Int.reduceSub, Int.reduceToNat, Int.zero_add])); (all_goals first | done | rfl | (congr 2; first | done | omega | (rw [Bool.eq_iff_iff]; simp only [bool_to_prop, Bool.false_eq_true, iff_true, true_iff, iff_false, false_iff]; omega)) | skip)
      | false =>
        rw [if_neg (by decide)]
        by_cases w3 : (k = 2 ∧ ok = false) ∨ (k ≠ 2 ∧ no = false)
        · rw [if_pos w3]
          rcases w3 with ⟨hk, rfl⟩ | ⟨hk, rfl⟩
          · subst hk
            refine pure_intro (tok := 0) Tryz.func87 rfl Tryz.ntmps87 Tryz.results87 Tryz.call87 (by rfl) (by simp) ?_
            (focus (refine wkax (w_a hg (w_a hlm (w_a hla w_t))) (w_a ca (w_a cr w_t)) w_t (w_a c1 w_t) w_t w_t (w_r 0) ?_; (repeat' first | exact w_t | apply w_l); all_goals intros))
            (all_goals (try simp (disch := omega) only [go_sem, decide_eq_true, decide_eq_false, if_pos, if_neg, Int.reduceAdd, Int.reduceSub, Int.reduceToNat, Int.zero_add])); (all_goals first | done | rfl | (congr 2; first | done | omega | (rw [Bool.eq_iff_iff]; simp only [bool_to_prop, Bool.false_eq_true, iff_true, true_iff, iff_false, false_iff]; omega)) | skip)
          · refine pure_intro (tok := 0) Tryz.func87 rfl Tryz.ntmps87 Tryz.results87 Tryz.call87 (by rfl) (by simp) ?_
            (focus (refine wkax (w_a hg (w_a hlm (w_a hla w_t))) (w_a ca (w_a cn w_t)) w_t (w_a c1 w_t) w_t w_t (w_r 0) ?_; (repeat' first | exact w_t | apply w_l); all_goals intros))
            (all_goals (try simp (disch := omega) only [go_sem, decide_eq_true, decide_eq_false, if_pos, if_neg, Int.reduceAdd, Int.reduceSub, Int.reduceToNat, Int.zero_add])); (all_goals first | done | rfl | (congr 2; first | done | omega | (rw [Bool.eq_iff_iff]; simp only [bool_to_prop, Bool.false_eq_true, iff_true, true_iff, iff_false, false_iff]; omega)) | skip)
        · rw [if_neg w3]
          have w4 : (k = 2 ∧ ok = true) ∨ (k ≠ 2 ∧ no = true) := by
            by_cases hk : k = 2
            · cases ok
              · exact absurd (.inl ⟨hk, rfl⟩) w3
              · exact .inl ⟨hk, rfl⟩
            · cases no
              · exact absurd (.inr ⟨hk, rfl⟩) w3
              · exact .inr ⟨hk, rfl⟩
          clear w3
          by_cases w5 : nm.size = 0
          · rw [if_pos w5]
            rw [decide_eq_true w5] at hst
            rcases w4 with ⟨hk, rfl⟩ | ⟨hk, rfl⟩
            · subst hk
              refine pure_intro (tok := 0) Tryz.func87 rfl Tryz.ntmps87 Tryz.results87 Tryz.call87 (by rfl) (by simp) ?_
              (focus (refine wkax (w_a hg (w_a hlm (w_a hla (w_a hst w_t)))) (w_a ca (w_a cr w_t)) w_t (w_a c1 w_t) w_t w_t (w_r 0) ?_; (repeat' first | exact w_t | apply w_l); all_goals intros))
              (all_goals (try simp (disch := omega) only [go_sem, decide_eq_true, decide_eq_false, if_pos, if_neg, Int.reduceAdd, Int.reduceSub, Int.reduceToNat, Int.zero_add])); (all_goals first | done | rfl | (congr 2; first | done | omega | (rw [Bool.eq_iff_iff]; simp only [bool_to_prop, Bool.false_eq_true, iff_true, true_iff, iff_false, false_iff]; omega)) | skip)
            · refine pure_intro (tok := 0) Tryz.func87 rfl Tryz.ntmps87 Tryz.results87 Tryz.call87 (by rfl) (by simp) ?_
              (focus (refine wkax (w_a hg (w_a hlm (w_a hla (w_a hst w_t)))) (w_a ca (w_a cn w_t)) w_t (w_a c1 w_t) w_t w_t (w_r 0) ?_; (repeat' first | exact w_t | apply w_l); all_goals intros))
              (all_goals (try simp (disch := omega) only [go_sem, decide_eq_true, decide_eq_false, if_pos, if_neg, Int.reduceAdd, Int.reduceSub, Int.reduceToNat, Int.zero_add])); (all_goals first | done | rfl | (congr 2; first | done | omega | (rw [Bool.eq_iff_iff]; simp only [bool_to_prop, Bool.false_eq_true, iff_true, true_iff, iff_false, false_iff]; omega)) | skip)
          · rw [if_neg w5]
            rw [decide_eq_false w5] at hst
            cases nb with
            | false =>
              rw [if_pos rfl]
              rcases w4 with ⟨hk, rfl⟩ | ⟨hk, rfl⟩
              · subst hk
                refine pure_intro (tok := 0) Tryz.func87 rfl Tryz.ntmps87 Tryz.results87 Tryz.call87 (by rfl) (by simp) ?_
                (focus (refine wkax (w_a hg (w_a hlm (w_a hla (w_a hst w_t)))) (w_a ca (w_a cr (w_a cm w_t))) w_t (w_a c1 w_t) w_t w_t (w_r 0) ?_; (repeat' first | exact w_t | apply w_l); all_goals intros))
                (all_goals (try simp (disch := omega) only [go_sem, decide_eq_true, decide_eq_false, if_pos, if_neg, Int.reduceAdd, Int.reduceSub, Int.reduceToNat, Int.zero_add])); (all_goals first | done | rfl | (congr 2; first | done | omega | (rw [Bool.eq_iff_iff]; simp only [bool_to_prop, Bool.false_eq_true, iff_true, true_iff, iff_false, false_iff]; omega)) | skip)
              · refine pure_intro (tok := 0) Tryz.func87 rfl Tryz.ntmps87 Tryz.results87 Tryz.call87 (by rfl) (by simp) ?_
                (focus (refine wkax (w_a hg (w_a hlm (w_a hla (w_a hst w_t)))) (w_a ca (w_a cn (w_a cm w_t))) w_t (w_a c1 w_t) w_t w_t (w_r 0) ?_; (repeat' first | exact w_t | apply w_l); all_goals intros))
                (all_goals (try simp (disch := omega) only [go_sem, decide_eq_true, decide_eq_false, if_pos, if_neg, Int.reduceAdd, Int.reduceSub, Int.reduceToNat, Int.zero_add])); (all_goals first | done | rfl | (congr 2; first | done | omega | (rw [Bool.eq_iff_iff]; simp only [bool_to_prop, Bool.false_eq_true, iff_true, true_iff, iff_false, false_iff]; omega)) | skip)
            | true =>
              rw [if_neg (by decide)]
              rcases w4 with ⟨hk, rfl⟩ | ⟨hk, rfl⟩
              · subst hk
                cases any
                · refine pure_intro (tok := 0) Tryz.func87 rfl Tryz.ntmps87 Tryz.results87 Tryz.call87 (by rfl) (by simp) ?_
                  (focus (refine wkax (w_a hg (w_a hlm (w_a hla (w_a hst (w_a @l_drop0 w_t))))) (w_a ca (w_a cr (w_a cm w_t))) w_t (w_a c1 (w_a c2 w_t)) w_t w_t (w_r 0) ?_; (repeat' first | exact w_t | apply w_l); all_goals intros))
                  (all_goals (try simp (disch := omega) only [go_sem, decide_eq_true, decide_eq_false, if_pos, if_neg, Int.reduceAdd, Int.reduceSub, Int.reduceToNat, Int.zero_add])); (all_goals first | done | rfl | (congr 2; first | done | omega | (rw [Bool.eq_iff_iff]; simp only [bool_to_prop, Bool.false_eq_true, iff_true, true_iff, iff_false, false_iff]; omega)) | skip)
                · refine pure_intro (tok := 0) Tryz.func87 rfl Tryz.ntmps87 Tryz.results87 Tryz.call87 (by rfl) (by simp) ?_
                  (focus (refine wkax (w_a hg (w_a hlm (w_a hla (w_a hst (w_a @l_drop0 w_t))))) (w_a ca (w_a cr (w_a cm w_t))) w_t (w_a c1 (w_a c2 w_t)) w_t w_t (w_r 0) ?_; (repeat' first | exact w_t | apply w_l); all_goals intros))
                  (all_goals (try simp (disch := omega) only [go_sem, decide_eq_true, decide_eq_false, if_pos, if_neg, Int.reduceAdd, Int.reduceSub, Int.reduceToNat, Int.zero_add])); (all_goals first | done | rfl | (congr 2; first | done | omega | (rw [Bool.eq_iff_iff]; simp only [bool_to_prop, Bool.false_eq_true, iff_true, true_iff, iff_false, false_iff]; omega)) | skip)
              · cases any
                · refine pure_intro (tok := 0) Tryz.func87 rfl Tryz.ntmps87 Tryz.results87 Tryz.call87 (by rfl) (by simp) ?_
                  (focus (refine wkax (w_a hg (w_a hlm (w_a hla (w_a hst (w_a @l_drop0 w_t))))) (w_a ca (w_a cn (w_a cm w_t))) w_t (w_a c1 (w_a c2 w_t)) w_t w_t (w_r 0) ?_; (repeat' first | exact w_t | apply w_l); all_goals intros))
                  (all_goals (try simp (disch := omega) only [go_sem, decide_eq_true, decide_eq_false, if_pos, if_neg, Int.reduceAdd, Int.reduceSub, Int.reduceToNat, Int.zero_add])); (all_goals first | done | rfl | (congr 2; first | done | omega | (rw [Bool.eq_iff_iff]; simp only [bool_to_prop, Bool.false_eq_true, iff_true, true_iff, iff_false, false_iff]; omega)) | skip)
                · refine pure_intro (tok := 0) Tryz.func87 rfl Tryz.ntmps87 Tryz.results87 Tryz.call87 (by rfl) (by simp) ?_
                  (focus (refine wkax (w_a hg (w_a hlm (w_a hla (w_a hst (w_a @l_drop0 w_t))))) (w_a ca (w_a cn (w_a cm w_t))) w_t (w_a c1 (w_a c2 w_t)) w_t w_t (w_r 0) ?_; (repeat' first | exact w_t | apply w_l); all_goals intros))
                  (all_goals (try simp (disch := omega) only [go_sem, decide_eq_true, decide_eq_false, if_pos, if_neg, Int.reduceAdd, Int.reduceSub, Int.reduceToNat, Int.zero_add])); (all_goals first | done | rfl | (congr 2; first | done | omega | (rw [Bool.eq_iff_iff]; simp only [bool_to_prop, Bool.false_eq_true, iff_true, true_iff, iff_false, false_iff]; omega)) | skip)
theorem outB_take {n : Int} {l : List Int} {k : Nat} (hk : k < l.length) : outB n (l.take (k + 1)) = (outB n (l.take k) || (decide (l[k] < 0) || decide (n ≤ l[k]))) := by
  unfold outB
  rw [List.take_succ_eq_append_getElem hk, List.any_append, List.any_cons, List.any_nil, Bool.or_false]
theorem outB_at {n : Int} {l : List Int} {k : Nat} (hk : k < l.length) (h : (decide (l[k] < 0) || decide (n ≤ l[k])) = true) : outB n l = true := List.any_eq_true.2 ⟨l[k], List.getElem_mem hk, h⟩
set_option maxHeartbeats 8000000 in
theorem prRight (g : RG) (n : Nat) (hn : n ≤ 1000000000) (hs : g.sm) : Pure Tryz.prog 88 [g.av, iv n] (iv (errG g n)) := by
  obtain ⟨h1, h3⟩ := hs
  unfold errG
  have ca := prAr g.k
  have cr : Pure Tryz.prog 139 [g.r.av] (.v (.bool g.r.ok)) := rtRight g.r h1
  have cn := prNone g.r
  have hla : (g.ar.map iv).length = g.ar.length := List.length_map ..
  obtain ⟨k, ar, r, rl, rd⟩ := g
  simp only at *
  generalize arG k = a at *
  generalize RQ.ok ⟨r, rl, rd⟩ = ok at *
  generalize RQ.none ⟨r, rl, rd⟩ = no at *
  by_cases w1 : a = 0
  · rw [if_pos w1]
    subst w1
    refine pure_intro (tok := 0) Tryz.func88 rfl Tryz.ntmps88 Tryz.results88 Tryz.call88 (by rfl) (by simp) ?_
    (focus (refine wklp (w_a hla w_t) (w_a ca w_t) w_t (w_r 0) ?_; (repeat' first | exact w_t | apply w_l); all_goals intros))
  · rw [if_neg w1]
    by_cases w2 : (ar.length : Int) ≠ a
    · rw [if_pos w2]
      refine pure_intro (tok := 0) Tryz.func88 rfl Tryz.ntmps88 Tryz.results88 Tryz.call88 (by rfl) (by simp) ?_
      (focus (refine wklp (w_a hla w_t) (w_a ca w_t) w_t (w_r 0) ?_; (repeat' first | exact w_t | apply w_l); all_goals intros))
    · rw [if_neg w2]
      refine pure_intro (tok := 0) Tryz.func88 rfl Tryz.ntmps88 Tryz.results88 Tryz.call88 (by rfl) (by simp) ?_
      (focus (refine wkap (w_a hla w_t) (w_a ca w_t) (w_r 0) ?_; (repeat' first | exact w_t | apply w_l); all_goals intros))
      rename_i g2
      refine r_loopE (ι := Nat) (fun i e m => i ≤ ar.length ∧ e 1 = iv n ∧ e 2 = .pbox 2 g2 0 ∧ m 2 = some (.box g2 57 [iv k, ivs ar, .v (.bool r), lim rl, lim rd] false) ∧ e 19 = ivs ar ∧ e 20 = iv ar.length ∧ e 21 = iv i ∧ outB n (ar.take i) = false) (fun i => ar.length - i) 0 (by rfl) ?_ ?_
      · rintro i e m ⟨hi, e1, e2, m2, ea, en, ei, hno⟩
        by_cases hlt : i < ar.length
        · have hg := map_atB iv hlt
          have hst := outB_take (n := n) hlt
          have hat := outB_at (n := n) hlt
          rw [hno, Bool.false_or] at hst
          generalize ar[i] = x at *
          by_cases hx : x < 0 ∨ (n : Int) ≤ x
          · have hb : (decide (x < 0) || decide ((n : Int) ≤ x)) = true := by simpa using hx
            rw [if_pos (hat hb)]
            clear hat hst hb
            rcases hx with hx | hx
            · (focus (refine wklp (w_a e1 (w_a e2 (w_a m2 (w_a ea (w_a en (w_a ei (w_a hg (w_a hla w_t)))))))) w_t w_t (w_r 0) ?_; (repeat' first | exact w_t | apply w_l); all_goals intros))
            · (focus (refine wklp (w_a e1 (w_a e2 (w_a m2 (w_a ea (w_a en (w_a ei (w_a hg (w_a hla w_t)))))))) w_t w_t (w_r 0) ?_; (repeat' first | exact w_t | apply w_l); all_goals intros))
          · have hb : (decide (x < 0) || decide ((n : Int) ≤ x)) = false := by simpa using hx
            rw [hb] at hst
            clear hat hb
            (focus (refine wkap (w_a e1 (w_a e2 (w_a m2 (w_a ea (w_a en (w_a ei (w_a hg (w_a hla w_t)))))))) w_t (w_r 0) ?_; (repeat' first | exact w_t | apply w_l); all_goals intros))
            exact ⟨i + 1, ⟨by omega, by exact gW e1, by exact gW e2, by exact gW m2, by exact gW ea, by exact gW en, by exact gS, hst⟩, by omega⟩
        · have hi2 : i = ar.length := by omega
          subst hi2
          rw [List.take_length] at hno
          rw [hno, if_neg (by decide)]
          by_cases hk : k = 9
          · subst hk
            cases ok
            · rw [if_pos (by simp)]
              (focus (refine wklp (w_a e1 (w_a e2 (w_a m2 (w_a ea (w_a en (w_a ei (w_a hla w_t))))))) (w_a cr (w_a cn w_t)) w_t (w_r 0) ?_; (repeat' first | exact w_t | apply w_l); all_goals intros))
            · rw [if_neg (by simp)]
              (focus (refine wklp (w_a e1 (w_a e2 (w_a m2 (w_a ea (w_a en (w_a ei (w_a hla w_t))))))) (w_a cr (w_a cn w_t)) w_t (w_r 0) ?_; (repeat' first | exact w_t | apply w_l); all_goals intros))
          · cases no
            · rw [if_pos (by simp [hk])]
              (focus (refine wklp (w_a e1 (w_a e2 (w_a m2 (w_a ea (w_a en (w_a ei (w_a hla w_t))))))) (w_a cr (w_a cn w_t)) w_t (w_r 0) ?_; (repeat' first | exact w_t | apply w_l); all_goals intros))
            · rw [if_neg (by simp [hk])]
              (focus (refine wklp (w_a e1 (w_a e2 (w_a m2 (w_a ea (w_a en (w_a ei (w_a hla w_t))))))) (w_a cr (w_a cn w_t)) w_t (w_r 0) ?_; (repeat' first | exact w_t | apply w_l); all_goals intros))
      · exact ⟨Nat.zero_le _, by exact gC, by exact gC, by exact gC, by exact gC, by exact gW hla, by exact gC, by simp [outB]⟩
set_option maxHeartbeats 8000000 in
theorem rrRight (g : RG) (n : Nat) (hn : n ≤ 1000000000) (hs : g.sm) : Pure Tryz.prog 30 [g.av, iv n] (iv (errG g n)) := by
  obtain ⟨h1, h3⟩ := hs
  unfold errG
  have ca := rrAr g.k
  have cr : Pure Tryz.prog 68 [g.r.av] (.v (.bool g.r.ok)) := qRight g.r.s g.r.l g.r.d h1.1 h1.2.1 h1.2.2.1 h1.2.2.2
  have cn := rrNone g.r
  have hla : (g.ar.map iv).length = g.ar.length := List.length_map ..
  obtain ⟨k, ar, r, rl, rd⟩ := g
  simp only at *
  generalize arG k = a at *
  generalize RQ.ok ⟨r, rl, rd⟩ = ok at *
  generalize RQ.none ⟨r, rl, rd⟩ = no at *
  by_cases w1 : a = 0
  · rw [if_pos w1]
    subst w1
    refine pure_intro (tok := 0) Tryz.func30 rfl Tryz.ntmps30 Tryz.results30 Tryz.call30 (by rfl) (by simp) ?_
    (focus (refine wkld (w_a hla w_t) (w_a ca w_t) w_t w_t ?_; (repeat' first | exact w_t | apply w_l); all_goals intros))
  · rw [if_neg w1]
    by_cases w2 : (ar.length : Int) ≠ a
    · rw [if_pos w2]
      refine pure_intro (tok := 0) Tryz.func30 rfl Tryz.ntmps30 Tryz.results30 Tryz.call30 (by rfl) (by simp) ?_
      (focus (refine wkld (w_a hla w_t) (w_a ca w_t) w_t (w_a (w_d 3 [(5, iv a)] [] []) w_t) ?_; (repeat' first | exact w_t | apply w_l); all_goals intros))
    · rw [if_neg w2]
      refine pure_intro (tok := 0) Tryz.func30 rfl Tryz.ntmps30 Tryz.results30 Tryz.call30 (by rfl) (by simp) ?_
      (focus (refine wkad (w_a hla w_t) (w_a ca w_t) (w_a (w_d 3 [(5, iv a)] [] []) w_t) ?_; (repeat' first | exact w_t | apply w_l); all_goals intros))
      rename_i g2
      refine r_loopE (ι := Nat) (fun i e m => i ≤ ar.length ∧ e 1 = iv n ∧ e 2 = .pbox 2 g2 0 ∧ m 2 = some (.box g2 57 [iv k, ivs ar, .v (.bool r), lim rl, lim rd] false) ∧ e 19 = ivs ar ∧ e 20 = iv ar.length ∧ e 21 = iv i ∧ outB n (ar.take i) = false) (fun i => ar.length - i) 0 (by rfl) ?_ ?_
      · rintro i e m ⟨hi, e1, e2, m2, ea, en, ei, hno⟩
        by_cases hlt : i < ar.length
        · have hg := map_atB iv hlt
          have hst := outB_take (n := n) hlt
          have hat := outB_at (n := n) hlt
          rw [hno, Bool.false_or] at hst
          generalize ar[i] = x at *
          by_cases hx : x < 0 ∨ (n : Int) ≤ x
          · have hb : (decide (x < 0) || decide ((n : Int) ≤ x)) = true := by simpa using hx
            rw [if_pos (hat hb)]
            clear hat hst hb
            rcases hx with hx | hx
            · (focus (refine wkld (w_a e1 (w_a e2 (w_a m2 (w_a ea (w_a en (w_a ei (w_a hg (w_a hla w_t)))))))) w_t w_t w_t ?_; (repeat' first | exact w_t | apply w_l); all_goals intros))
            · (focus (refine wkld (w_a e1 (w_a e2 (w_a m2 (w_a ea (w_a en (w_a ei (w_a hg (w_a hla w_t)))))))) w_t w_t w_t ?_; (repeat' first | exact w_t | apply w_l); all_goals intros))
          · have hb : (decide (x < 0) || decide ((n : Int) ≤ x)) = false := by simpa using hx
            rw [hb] at hst
            clear hat hb
            (focus (refine wkad (w_a e1 (w_a e2 (w_a m2 (w_a ea (w_a en (w_a ei (w_a hg (w_a hla w_t)))))))) w_t w_t ?_; (repeat' first | exact w_t | apply w_l); all_goals intros))
            exact ⟨i + 1, ⟨by omega, by exact gW e1, by exact gW e2, by exact gW m2, by exact gW ea, by exact gW en, by exact gS, hst⟩, by omega⟩
        · have hi2 : i = ar.length := by omega
          subst hi2
          rw [List.take_length] at hno
          rw [hno, if_neg (by decide)]
          by_cases hk : k = 9
          · subst hk
            cases ok
            · rw [if_pos (by simp)]
              (focus (refine wkld (w_a e1 (w_a e2 (w_a m2 (w_a ea (w_a en (w_a ei (w_a hla w_t))))))) (w_a cr (w_a cn w_t)) w_t w_t ?_; (repeat' first | exact w_t | apply w_l); all_goals intros))
            · rw [if_neg (by simp)]
              (focus (refine wkld (w_a e1 (w_a e2 (w_a m2 (w_a ea (w_a en (w_a ei (w_a hla w_t))))))) (w_a cr (w_a cn w_t)) w_t w_t ?_; (repeat' first | exact w_t | apply w_l); all_goals intros))
          · cases no
            · rw [if_pos (by simp [hk])]
              (focus (refine wkld (w_a e1 (w_a e2 (w_a m2 (w_a ea (w_a en (w_a ei (w_a hla w_t))))))) (w_a cr (w_a cn w_t)) w_t w_t ?_; (repeat' first | exact w_t | apply w_l); all_goals intros))
            · rw [if_neg (by simp [hk])]
              (focus (refine wkld (w_a e1 (w_a e2 (w_a m2 (w_a ea (w_a en (w_a ei (w_a hla w_t))))))) (w_a cr (w_a cn w_t)) w_t w_t ?_; (repeat' first | exact w_t | apply w_l); all_goals intros))
      · exact ⟨Nat.zero_le _, by exact gC, by exact gC, by exact gC, by exact gC, by exact gW hla, by exact gC, by simp [outB]⟩
set_option maxHeartbeats 8000000 in
theorem lwRight (ss : List RS) (gs : List RG) (h1 : ss.length ≤ 1000000000) (h2 : gs.length ≤ 1000000000) (hs : ∀ s ∈ ss, s.sm) (hg : ∀ g ∈ gs, g.sm) : Pure Tryz.prog 49 [figA ss gs] (iv (figE ss gs)) := by
  have hls : (ss.map RS.av).length = ss.length := List.length_map ..
  have hlg : (gs.map RG.av).length = gs.length := List.length_map ..
  have eg : ∀ i (h : i < gs.length), (gs.map RG.av).getD i .u = gs[i].av := fun i h => map_atB RG.av h
  have eg2 : ∀ i (h : i < gs.length), gs.getD i ⟨0, [], ⟨false, [], []⟩⟩ = gs[i] := fun i h => by rw [List.getD_eq_getElem?_getD, List.getElem?_eq_getElem h]; rfl
  have cc : ∀ i, i < ss.length → Pure Tryz.prog 87 [.sl 6 (ss.map RS.av), iv i] (iv (errS ss i)) := fun i hi => lwCheck ss i hi h1 hs
  have cg : ∀ i (h : i < gs.length), Pure Tryz.prog 88 [gs[i].av, iv ss.length] (iv (errG gs[i] ss.length)) := fun i h => prRight gs[i] ss.length h1 (hg _ (List.getElem_mem h))
  unfold figE
  show Pure _ _ [.agg [.sl 6 (ss.map RS.av), .sl 5 (gs.map RG.av)]] _
  generalize ss.map RS.av = M at *
  generalize gs.map RG.av = N at *
  by_cases hb : 40 < ss.length ∨ 8 < gs.length
  · rw [if_pos hb]
    refine pure_intro (tok := 0) Tryz.func49 rfl Tryz.ntmps49 Tryz.results49 Tryz.call49 (by rfl) (by simp) ?_
    (focus (refine wklp (w_a hls (w_a hlg w_t)) w_t w_t (w_r 0) ?_; (repeat' first | exact w_t | apply w_l); all_goals intros))
  · rw [if_neg hb]
    refine pure_intro (tok := 0) Tryz.func49 rfl Tryz.ntmps49 Tryz.results49 Tryz.call49 (by rfl) (by simp) ?_
    (focus (refine wkap (w_a hls (w_a hlg w_t)) w_t (w_r 0) ?_; (repeat' first | exact w_t | apply w_l); all_goals intros))
    rename_i g1
    refine r_loopE (ι := Nat) (fun i e m => i ≤ ss.length ∧ e 1 = .pbox 1 g1 0 ∧ m 1 = some (.box g1 25 [.sl 6 M, .sl 5 N] false) ∧ e 20 = iv ss.length ∧ e 21 = iv i ∧ ∀ j, j < i → errS ss j = 0) (fun i => ss.length - i) 0 (by rfl) ?_ ?_
    · rintro i e m ⟨hi, e1, m1, e20, e21, hz⟩
      by_cases hlt : i < ss.length
      · have c := cc i hlt
        by_cases he : errS ss i = 0
        · rw [he] at c
          (focus (refine wkap (w_a e1 (w_a m1 (w_a e20 (w_a e21 (w_a hls (w_a hlg w_t)))))) (w_a c w_t) (w_r 0) ?_; (repeat' first | exact w_t | apply w_l); all_goals intros))
          exact ⟨i + 1, ⟨by omega, by exact gW e1, by exact gW m1, by exact gW e20, by exact gS, fun j hj => by by_cases e : j = i; rw [e]; exact he; exact hz j (by omega)⟩, by omega⟩
        · rw [fstE_at hz he hlt, if_pos he]
          generalize errS ss i = z at *
          (focus (refine wklp (w_a e1 (w_a m1 (w_a e20 (w_a e21 (w_a hls (w_a hlg w_t)))))) (w_a c w_t) w_t (w_r 0) ?_; (repeat' first | exact w_t | apply w_l); all_goals intros))
      · have hi2 : i = ss.length := by omega
        subst hi2
        rw [fstE_zero hz, if_neg (by simp)]
        (focus (refine wkap (w_a e1 (w_a m1 (w_a e20 (w_a e21 (w_a hls (w_a hlg w_t)))))) w_t (w_r 0) ?_; (repeat' first | exact w_t | apply w_l); all_goals intros))
        refine r_loopE (ι := Nat) (fun i e m => i ≤ gs.length ∧ e 1 = .pbox 1 g1 0 ∧ m 1 = some (.box g1 25 [.sl 6 M, .sl 5 N] false) ∧ e 33 = .sl 5 N ∧ e 34 = iv gs.length ∧ e 35 = iv i ∧ ∀ j, j < i → errG (gs.getD j ⟨0, [], ⟨false, [], []⟩⟩) ss.length = 0) (fun i => gs.length - i) 0 (by rfl) ?_ ?_
        · rintro i e m ⟨hi, e1, m1, e33, e34, e35, hz⟩
          by_cases hlt : i < gs.length
          · have c := cg i hlt
            have hgi := eg i hlt
            have hgj := eg2 i hlt
            have hfa := @fstE_at (fun i => errG (gs.getD i ⟨0, [], ⟨false, [], []⟩⟩) ss.length) i hz
            simp only [hgj] at hfa
            generalize gs[i] = G at *
            by_cases he : errG G ss.length = 0
            · rw [he] at c
              clear hfa
              obtain ⟨k, ar, r, rl, rd⟩ := G
              (focus (refine wkap (w_a e1 (w_a m1 (w_a e33 (w_a e34 (w_a e35 (w_a hls (w_a hlg (w_a hgi w_t)))))))) (w_a c w_t) (w_r 0) ?_; (repeat' first | exact w_t | apply w_l); all_goals intros))
              exact ⟨i + 1, ⟨by omega, by exact gW e1, by exact gW m1, by exact gW e33, by exact gW e34, by exact gS, fun j hj => by by_cases e : j = i; rw [e, hgj]; exact he; exact hz j (by omega)⟩, by omega⟩
            · rw [hfa he hlt]
              clear hfa
              generalize errG G ss.length = z at *
              obtain ⟨k, ar, r, rl, rd⟩ := G
              (focus (refine wklp (w_a e1 (w_a m1 (w_a e33 (w_a e34 (w_a e35 (w_a hls (w_a hlg (w_a hgi w_t)))))))) (w_a c w_t) w_t (w_r 0) ?_; (repeat' first | exact w_t | apply w_l); all_goals intros))
          · have hi2 : i = gs.length := by omega
            subst hi2
            rw [fstE_zero hz]
            (focus (refine wklp (w_a e1 (w_a m1 (w_a e33 (w_a e34 (w_a e35 (w_a hls (w_a hlg w_t))))))) w_t w_t (w_r 0) ?_; (repeat' first | exact w_t | apply w_l); all_goals intros))
        · exact ⟨Nat.zero_le _, by exact gW e1, by exact gW m1, by exact gC, by exact gW hlg, by exact gC, fun j hj => by omega⟩
    · exact ⟨Nat.zero_le _, by exact gC, by exact gC, by exact gW hls, by exact gC, fun j hj => by omega⟩
set_option maxHeartbeats 8000000 in
theorem rlCheck (ss : List RS) (i : Nat) (hi : i < ss.length) (hl : ss.length ≤ 1000000000) (hs : ∀ s ∈ ss, s.sm) : Pure Tryz.prog 29 [.sl 6 (ss.map RS.av), iv i] (iv (errS ss i)) := by
  have hg := map_atB RS.av hi
  have hsm := hs _ (List.getElem_mem hi)
  unfold errS
  rw [show ss.getD i RS.zero = ss[i] from by rw [List.getD_eq_getElem?_getD, List.getElem?_eq_getElem hi]; rfl]
  have hgt : ∀ k, k < i → ∃ t : RS, ((ss.map RS.av).take i).getD k .u = t.av ∧ (ss.take i)[k]? = some t := fun k hk => by
    refine ⟨ss[k], ?_, ?_⟩
    · rw [List.getD_eq_getElem?_getD, List.getElem?_take, if_pos hk, List.getElem?_map, List.getElem?_eq_getElem (by omega)]; rfl
    · rw [List.getElem?_take, if_pos hk, List.getElem?_eq_getElem (by omega)]
  have hlm : (ss.map RS.av).length = ss.length := List.length_map ..
  have hlt : (ss.take i).length = i := by rw [List.length_take]; omega
  generalize ss.map RS.av = M at *
  generalize ss[i] = s at *
  generalize ss.take i = T at *
  clear hs
  obtain ⟨h1, h2, h3⟩ := hsm
  have ca := rlAr s.k
  have cr : Pure Tryz.prog 68 [s.r.av] (.v (.bool s.r.ok)) := qRight s.r.s s.r.l s.r.d h1.1 h1.2.1 h1.2.2.1 h1.2.2.2
  have cn := rlNone s.r
  have cm := rnName s.nm h2
  have hst := str_nil s.nm
  have hla : (s.ar.map iv).length = s.ar.length := List.length_map ..
  obtain ⟨k, nm, ar, r, rl, rd⟩ := s
  simp only at *
  generalize arS k = a at *
  generalize RQ.ok ⟨r, rl, rd⟩ = ok at *
  generalize RQ.none ⟨r, rl, rd⟩ = no at *
  generalize namB nm = nb at *
  by_cases w1 : a < 0
  · rw [if_pos w1]
    refine pure_intro (tok := 0) Tryz.func29 rfl Tryz.ntmps29 Tryz.results29 Tryz.call29 (by rfl) (by simp) ?_
    (focus (refine wkld (w_a hg (w_a hlm (w_a hla w_t))) (w_a ca w_t) w_t w_t ?_; (repeat' first | exact w_t | apply w_l); all_goals intros))
  · rw [if_neg w1]
    by_cases w2 : (ar.length : Int) ≠ a
    · rw [if_pos w2]
      refine pure_intro (tok := 0) Tryz.func29 rfl Tryz.ntmps29 Tryz.results29 Tryz.call29 (by rfl) (by simp) ?_
      (focus (refine wkld (w_a hg (w_a hlm (w_a hla w_t))) (w_a ca w_t) w_t (w_a (w_d 4 [(5, iv a)] [] []) w_t) ?_; (repeat' first | exact w_t | apply w_l); all_goals intros))
    · rw [if_neg w2]
      refine pure_intro (tok := 0) Tryz.func29 rfl Tryz.ntmps29 Tryz.results29 Tryz.call29 (by rfl) (by simp) ?_
      (focus (refine wkad (w_a hg (w_a hlm (w_a hla w_t))) (w_a ca w_t) (w_a (w_d 4 [(5, iv a)] [] []) w_t) ?_; (repeat' first | exact w_t | apply w_l); all_goals intros))
      rename_i g5
      refine r_loopE (ι := Nat) (fun x e m => x ≤ ar.length ∧ e 0 = .sl 6 M ∧ e 1 = iv i ∧ e 5 = .pbox 5 g5 0 ∧ m 5 = some (.box g5 55 [iv k, strA nm, ivs ar, .v (.bool r), lim rl, lim rd] false) ∧ e 26 = ivs ar ∧ e 27 = iv ar.length ∧ e 28 = iv x ∧ outB i (ar.take x) = false) (fun x => ar.length - x) 0 (by rfl) ?_ ?_
      · rintro x e m ⟨hx, e0, e1, e5, m5, e26, e27, e28, hno⟩
        by_cases hlt2 : x < ar.length
        · have hga := map_atB iv hlt2
          have hso := outB_take (n := (i : Int)) hlt2
          have hat := outB_at (n := (i : Int)) hlt2
          rw [hno, Bool.false_or] at hso
          generalize ar[x] = y at *
          by_cases hy : y < 0 ∨ (i : Int) ≤ y
          · have hb : (decide (y < 0) || decide ((i : Int) ≤ y)) = true := by simpa using hy
            rw [if_pos (hat hb)]
            clear hat hso hb
            rcases hy with hy | hy
            · (focus (refine wkld (w_a e0 (w_a e1 (w_a e5 (w_a m5 (w_a e26 (w_a e27 (w_a e28 (w_a hga (w_a hla w_t))))))))) w_t w_t w_t ?_; (repeat' first | exact w_t | apply w_l); all_goals intros))
            · (focus (refine wkld (w_a e0 (w_a e1 (w_a e5 (w_a m5 (w_a e26 (w_a e27 (w_a e28 (w_a hga (w_a hla w_t))))))))) w_t w_t w_t ?_; (repeat' first | exact w_t | apply w_l); all_goals intros))
          · have hb : (decide (y < 0) || decide ((i : Int) ≤ y)) = false := by simpa using hy
            rw [hb] at hso
            clear hat hb
            (focus (refine wkad (w_a e0 (w_a e1 (w_a e5 (w_a m5 (w_a e26 (w_a e27 (w_a e28 (w_a hga (w_a hla w_t))))))))) w_t w_t ?_; (repeat' first | exact w_t | apply w_l); all_goals intros))
            exact ⟨x + 1, ⟨by omega, by exact gW e0, by exact gW e1, by exact gW e5, by exact gW m5, by exact gW e26, by exact gW e27, by exact gS, hso⟩, by omega⟩
        · have hi2 : x = ar.length := by omega
          subst hi2
          rw [List.take_length] at hno
          rw [hno, if_neg (by decide)]
          by_cases w3 : (k = 2 ∧ ok = false) ∨ (k ≠ 2 ∧ no = false)
          · rw [if_pos w3]
            rcases w3 with ⟨hk, rfl⟩ | ⟨hk, rfl⟩
            · subst hk
              (focus (refine wkld (w_a e0 (w_a e1 (w_a e5 (w_a m5 (w_a e26 (w_a e27 (w_a e28 (w_a hla w_t)))))))) (w_a cr w_t) w_t w_t ?_; (repeat' first | exact w_t | apply w_l); all_goals intros))
            · (focus (refine wkld (w_a e0 (w_a e1 (w_a e5 (w_a m5 (w_a e26 (w_a e27 (w_a e28 (w_a hla w_t)))))))) (w_a cn w_t) w_t w_t ?_; (repeat' first | exact w_t | apply w_l); all_goals intros))
          · rw [if_neg w3]
            have w4 : (k = 2 ∧ ok = true) ∨ (k ≠ 2 ∧ no = true) := by
              by_cases hk : k = 2
              · cases ok
                · exact absurd (.inl ⟨hk, rfl⟩) w3
                · exact .inl ⟨hk, rfl⟩
              · cases no
                · exact absurd (.inr ⟨hk, rfl⟩) w3
                · exact .inr ⟨hk, rfl⟩
            clear w3
            have rest : ∀ (e : Nat → AV) (m : Mem), e 0 = .sl 6 M → e 1 = iv i → e 5 = .pbox 5 g5 0 → m 5 = some (.box g5 55 [iv k, strA nm, ivs ar, .v (.bool r), lim rl, lim rd] false) → True := fun _ _ _ _ _ _ => trivial
            clear rest
            by_cases w5 : nm.size = 0
            · rw [if_pos w5]
              rw [decide_eq_true w5] at hst
              rcases w4 with ⟨hk, rfl⟩ | ⟨hk, rfl⟩
              · subst hk
                (focus (refine wkld (w_a e0 (w_a e1 (w_a e5 (w_a m5 (w_a e26 (w_a e27 (w_a e28 (w_a hla (w_a hst w_t))))))))) (w_a cr w_t) w_t w_t ?_; (repeat' first | exact w_t | apply w_l); all_goals intros))
              · (focus (refine wkld (w_a e0 (w_a e1 (w_a e5 (w_a m5 (w_a e26 (w_a e27 (w_a e28 (w_a hla (w_a hst w_t))))))))) (w_a cn w_t) w_t w_t ?_; (repeat' first | exact w_t | apply w_l); all_goals intros))
            · rw [if_neg w5]
              rw [decide_eq_false w5] at hst
              cases nb with
              | false =>
                rw [if_pos rfl]
                rcases w4 with ⟨hk, rfl⟩ | ⟨hk, rfl⟩
                · subst hk
                  (focus (refine wkld (w_a e0 (w_a e1 (w_a e5 (w_a m5 (w_a e26 (w_a e27 (w_a e28 (w_a hla (w_a hst w_t))))))))) (w_a cr (w_a cm w_t)) w_t w_t ?_; (repeat' first | exact w_t | apply w_l); all_goals intros))
                · (focus (refine wkld (w_a e0 (w_a e1 (w_a e5 (w_a m5 (w_a e26 (w_a e27 (w_a e28 (w_a hla (w_a hst w_t))))))))) (w_a cn (w_a cm w_t)) w_t w_t ?_; (repeat' first | exact w_t | apply w_l); all_goals intros))
              | true =>
                rw [if_neg (by decide)]
                rcases w4 with ⟨hk, rfl⟩ | ⟨hk, rfl⟩
                all_goals first | (subst hk; (focus (refine wkad (w_a e0 (w_a e1 (w_a e5 (w_a m5 (w_a e26 (w_a e27 (w_a e28 (w_a hla (w_a hlm (w_a hst (w_a @l_drop0 (w_a @l_take w_t)))))))))))) (w_a cr (w_a cm w_t)) w_t ?_; (repeat' first | exact w_t | apply w_l); all_goals intros))) | (focus (refine wkad (w_a e0 (w_a e1 (w_a e5 (w_a m5 (w_a e26 (w_a e27 (w_a e28 (w_a hla (w_a hlm (w_a hst (w_a @l_drop0 (w_a @l_take w_t)))))))))))) (w_a cn (w_a cm w_t)) w_t ?_; (repeat' first | exact w_t | apply w_l); all_goals intros))
                all_goals
                  refine r_loopE (ι := Nat) (fun x e m => x ≤ i ∧ e 5 = .pbox 5 g5 0 ∧ (∃ k, m 5 = some (.box g5 55 [iv k, strA nm, ivs ar, .v (.bool r), lim rl, lim rd] false)) ∧ e 69 = .sl 6 (M.take i) ∧ e 70 = iv i ∧ e 71 = iv x ∧ (T.take x).any (fun t => t.nm.toList == nm.toList) = false) (fun x => i - x) 0 (by rfl) ?_ ?_
                  · rintro x e m ⟨hx, e5, ⟨k, m5⟩, e69, e70, e71, hnq⟩
                    by_cases hlt2 : x < i
                    · obtain ⟨t, ht, ht2⟩ := hgt x hlt2
                      have htl : x < T.length := by omega
                      have htx : T[x] = t := by rw [List.getElem?_eq_getElem htl] at ht2; cases ht2; rfl
                      have hsn : T.take (x + 1) = T.take x ++ [t] := by rw [List.take_succ_eq_append_getElem htl, htx]
                      have hmem : t ∈ T := by rw [← htx]; exact List.getElem_mem htl
                      obtain ⟨tk, tn, ta, tr, tl, td⟩ := t
                      have hll : (M.take i).length = i := by rw [List.length_take]; omega
                      cases hw : (tn.toList == nm.toList) with
                      | true =>
                        have hany : T.any (fun t => t.nm.toList == nm.toList) = true := List.any_eq_true.2 ⟨_, hmem, hw⟩
                        rw [if_pos hany]
                        (focus (refine wkld (w_a e5 (w_a m5 (w_a e69 (w_a e70 (w_a e71 (w_a ht (w_a hw (w_a hll w_t)))))))) w_t w_t w_t ?_; (repeat' first | exact w_t | apply w_l); all_goals intros))
                      | false =>
                        (focus (refine wkad (w_a e5 (w_a m5 (w_a e69 (w_a e70 (w_a e71 (w_a ht (w_a hw (w_a hll w_t)))))))) w_t w_t ?_; (repeat' first | exact w_t | apply w_l); all_goals intros))
                        exact ⟨x + 1, ⟨by omega, by exact gW e5, ⟨k, by exact gW m5⟩, by exact gW e69, by exact gW e70, by exact gS, by rw [hsn, List.any_append, hnq]; simp [hw]⟩, by omega⟩
                    · have hxi : x = i := by omega
                      subst hxi
                      rw [show T.take x = T from by rw [← hlt, List.take_length]] at hnq
                      rw [hnq, if_neg (by decide)]
                      (focus (refine wkld (w_a e5 (w_a m5 (w_a e69 (w_a e70 (w_a e71 w_t))))) w_t w_t w_t ?_; (repeat' first | exact w_t | apply w_l); all_goals intros))
                  · exact ⟨Nat.zero_le _, by exact gW e5, ⟨_, by exact gW m5⟩, by exact gC, by (simp (disch := omega) only [go_sem, List.length_take, hlm, Nat.min_eq_left] <;> repeat' first | rfl | refine ⟨?_, ?_⟩), by exact gC, by simp⟩
      · exact ⟨Nat.zero_le _, by exact gC, by exact gC, by exact gC, by exact gC, by exact gC, by exact gW hla, by exact gC, by simp [outB]⟩
set_option maxHeartbeats 8000000 in
theorem rlRight (ss : List RS) (gs : List RG) (h1 : ss.length ≤ 1000000000) (h2 : gs.length ≤ 1000000000) (hs : ∀ s ∈ ss, s.sm) (hg : ∀ g ∈ gs, g.sm) : Pure Tryz.prog 11 [figA ss gs] (iv (figE ss gs)) := by
  have hls : (ss.map RS.av).length = ss.length := List.length_map ..
  have hlg : (gs.map RG.av).length = gs.length := List.length_map ..
  have eg : ∀ i (h : i < gs.length), (gs.map RG.av).getD i .u = gs[i].av := fun i h => map_atB RG.av h
  have eg2 : ∀ i (h : i < gs.length), gs.getD i ⟨0, [], ⟨false, [], []⟩⟩ = gs[i] := fun i h => by rw [List.getD_eq_getElem?_getD, List.getElem?_eq_getElem h]; rfl
  have cc : ∀ i, i < ss.length → Pure Tryz.prog 29 [.sl 6 (ss.map RS.av), iv i] (iv (errS ss i)) := fun i hi => rlCheck ss i hi h1 hs
  have cg : ∀ i (h : i < gs.length), Pure Tryz.prog 30 [gs[i].av, iv ss.length] (iv (errG gs[i] ss.length)) := fun i h => rrRight gs[i] ss.length h1 (hg _ (List.getElem_mem h))
  unfold figE
  show Pure _ _ [.agg [.sl 6 (ss.map RS.av), .sl 5 (gs.map RG.av)]] _
  generalize ss.map RS.av = M at *
  generalize gs.map RG.av = N at *
  by_cases hb : 40 < ss.length ∨ 8 < gs.length
  · rw [if_pos hb]
    refine pure_intro (tok := 0) Tryz.func11 rfl Tryz.ntmps11 Tryz.results11 Tryz.call11 (by rfl) (by simp) ?_
    (focus (refine wklp (w_a hls (w_a hlg w_t)) w_t w_t (w_r 0) ?_; (repeat' first | exact w_t | apply w_l); all_goals intros))
  · rw [if_neg hb]
    refine pure_intro (tok := 0) Tryz.func11 rfl Tryz.ntmps11 Tryz.results11 Tryz.call11 (by rfl) (by simp) ?_
    (focus (refine wkap (w_a hls (w_a hlg w_t)) w_t (w_r 0) ?_; (repeat' first | exact w_t | apply w_l); all_goals intros))
    rename_i g1
    refine r_loopE (ι := Nat) (fun i e m => i ≤ ss.length ∧ e 1 = .pbox 1 g1 0 ∧ m 1 = some (.box g1 25 [.sl 6 M, .sl 5 N] false) ∧ e 20 = iv ss.length ∧ e 21 = iv i ∧ ∀ j, j < i → errS ss j = 0) (fun i => ss.length - i) 0 (by rfl) ?_ ?_
    · rintro i e m ⟨hi, e1, m1, e20, e21, hz⟩
      by_cases hlt : i < ss.length
      · have c := cc i hlt
        by_cases he : errS ss i = 0
        · rw [he] at c
          (focus (refine wkap (w_a e1 (w_a m1 (w_a e20 (w_a e21 (w_a hls (w_a hlg w_t)))))) (w_a c w_t) (w_r 0) ?_; (repeat' first | exact w_t | apply w_l); all_goals intros))
          exact ⟨i + 1, ⟨by omega, by exact gW e1, by exact gW m1, by exact gW e20, by exact gS, fun j hj => by by_cases e : j = i; rw [e]; exact he; exact hz j (by omega)⟩, by omega⟩
        · rw [fstE_at hz he hlt, if_pos he]
          generalize errS ss i = z at *
          (focus (refine wklp (w_a e1 (w_a m1 (w_a e20 (w_a e21 (w_a hls (w_a hlg w_t)))))) (w_a c w_t) w_t (w_r 0) ?_; (repeat' first | exact w_t | apply w_l); all_goals intros))
      · have hi2 : i = ss.length := by omega
        subst hi2
        rw [fstE_zero hz, if_neg (by simp)]
        (focus (refine wkap (w_a e1 (w_a m1 (w_a e20 (w_a e21 (w_a hls (w_a hlg w_t)))))) w_t (w_r 0) ?_; (repeat' first | exact w_t | apply w_l); all_goals intros))
        refine r_loopE (ι := Nat) (fun i e m => i ≤ gs.length ∧ e 1 = .pbox 1 g1 0 ∧ m 1 = some (.box g1 25 [.sl 6 M, .sl 5 N] false) ∧ e 33 = .sl 5 N ∧ e 34 = iv gs.length ∧ e 35 = iv i ∧ ∀ j, j < i → errG (gs.getD j ⟨0, [], ⟨false, [], []⟩⟩) ss.length = 0) (fun i => gs.length - i) 0 (by rfl) ?_ ?_
        · rintro i e m ⟨hi, e1, m1, e33, e34, e35, hz⟩
          by_cases hlt : i < gs.length
          · have c := cg i hlt
            have hgi := eg i hlt
            have hgj := eg2 i hlt
            have hfa := @fstE_at (fun i => errG (gs.getD i ⟨0, [], ⟨false, [], []⟩⟩) ss.length) i hz
            simp only [hgj] at hfa
            generalize gs[i] = G at *
            by_cases he : errG G ss.length = 0
            · rw [he] at c
              clear hfa
              obtain ⟨k, ar, r, rl, rd⟩ := G
              (focus (refine wkap (w_a e1 (w_a m1 (w_a e33 (w_a e34 (w_a e35 (w_a hls (w_a hlg (w_a hgi w_t)))))))) (w_a c w_t) (w_r 0) ?_; (repeat' first | exact w_t | apply w_l); all_goals intros))
              exact ⟨i + 1, ⟨by omega, by exact gW e1, by exact gW m1, by exact gW e33, by exact gW e34, by exact gS, fun j hj => by by_cases e : j = i; rw [e, hgj]; exact he; exact hz j (by omega)⟩, by omega⟩
            · rw [hfa he hlt]
              clear hfa
              generalize errG G ss.length = z at *
              obtain ⟨k, ar, r, rl, rd⟩ := G
              (focus (refine wklp (w_a e1 (w_a m1 (w_a e33 (w_a e34 (w_a e35 (w_a hls (w_a hlg (w_a hgi w_t)))))))) (w_a c w_t) w_t (w_r 0) ?_; (repeat' first | exact w_t | apply w_l); all_goals intros))
          · have hi2 : i = gs.length := by omega
            subst hi2
            rw [fstE_zero hz]
            (focus (refine wklp (w_a e1 (w_a m1 (w_a e33 (w_a e34 (w_a e35 (w_a hls (w_a hlg w_t))))))) w_t w_t (w_r 0) ?_; (repeat' first | exact w_t | apply w_l); all_goals intros))
        · exact ⟨Nat.zero_le _, by exact gW e1, by exact gW m1, by exact gC, by exact gW hlg, by exact gC, fun j hj => by omega⟩
    · exact ⟨Nat.zero_le _, by exact gC, by exact gC, by exact gW hls, by exact gC, fun j hj => by omega⟩
end Go.Proofs.YteiopjkamgmfpaaGreat
end

section
namespace Go.Proofs.YteiopjkamgmfpaaGreat
open Go Go.RowKit Go.Pg Go.Pol
set_option linter.unusedSimpArgs false
set_option linter.unusedVariables false
set_option maxRecDepth 20000
attribute [local go_sem] Tryz.underlying3 Tryz.underlying4 Tryz.underlying53 Tryz.underlying51 Tryz.underlying49 Tryz.underlying113 Tryz.underlying41 Tryz.underlying111 Tryz.underlying42 Tryz.underlying140 sz3 by3 z3 szRat zRat szInt zInt szNat zNat szTerm byTerm zTerm szMono byMono zMono szPoly byPoly zPoly
attribute [-bool_to_prop] Bool.and_eq_decide Bool.or_eq_decide Bool.decide_beq_decide decide_eq_decide
theorem sgn_ne {q : Rat} : (q.num.sign = 0) = (q = 0) := by rw [Int.sign_eq_zero_iff_zero, Rat.num_eq_zero]
theorem poLex (s t : Tm) (hs : Sm s.2) (ht : Sm t.2) : Pure Tryz.prog 97 [tmA s, tmA t] (iv (lexC s.2 t.2 (max s.2.length t.2.length))) := by
  have c : Pure Tryz.prog 155 [ivs s.2, ivs t.2, iv 0] (iv (cmpI s.2 t.2 0)) := monCmp s.2 t.2 0 hs ht
  have e : cmpI s.2 t.2 0 = lexC s.2 t.2 (max s.2.length t.2.length) := by unfold cmpI; rw [if_neg (by omega)]
  rw [e] at c
  obtain ⟨q, a⟩ := s
  obtain ⟨r, b⟩ := t
  simp only at *
  generalize lexC a b (max a.length b.length) = x at *
  refine pure_intro (tok := 0) Tryz.func97 rfl Tryz.ntmps97 Tryz.results97 Tryz.call97 (by rfl) (by simp) ?_
  (focus (refine wklp w_t (w_a c w_t) w_t (w_r 0) ?_; (repeat' first | exact w_t | apply w_l); all_goals intros))
set_option maxHeartbeats 1000000 in
theorem poAdded (s t : Tm) {j k : Nat} (hs : Sz s.1 j) (ht : Sz t.1 k) (hj : j ≤ 1000000) (hk : k ≤ 1000000) : Pure Tryz.prog 98 [tmA s, tmA t] (.tup [tmA (s.1 + t.1, s.2), .v (.bool (!decide ((s.1 + t.1).num.sign = 0)))]) := by
  have c := ratAdd s.1 t.1 hs ht (by omega) (by omega)
  have cs := ratSign (s.1 + t.1) (hs.add ht) (by omega)
  obtain ⟨q, a⟩ := s
  obtain ⟨r, b⟩ := t
  simp only at *
  generalize q + r = x at *
  refine pure_intro (tok := 0) Tryz.func98 rfl Tryz.ntmps98 Tryz.results98 Tryz.call98 (by rfl) (by simp) ?_
  (repeat' (first | (with_reducible first | refine stp ?_ | apply gx1 | apply gx2 | apply gx3 | apply gx4 | apply gx5 | apply gx6 | apply gx7 | apply gy8 | apply gz2 | apply gz3 | refine gw0 (c) ?_ ?_ | refine gw3 (c) ?_ ?_ ?_ | refine gw0 (cs) ?_ ?_ | refine gw3 (cs) ?_ ?_ ?_) | (with_reducible refine all_v ?_; intro _) | ((with_reducible refine gE ?_); (try simp (disch := omega) only [go_sem]) <;> first | rfl | omega) | with_reducible refine t_in_other (by decide) ?_ | ((with_reducible apply gy1); iterate 3 focus rfl) | ((with_reducible apply gy2); iterate 3 focus rfl) | ((with_reducible apply gy3); iterate 2 focus rfl) | ((with_reducible apply gy4); iterate 1 focus rfl) | ((with_reducible apply gy5); iterate 4 focus rfl) | ((with_reducible apply gy5c); iterate 4 focus rfl) | ((with_reducible apply gy6); iterate 4 focus rfl) | ((with_reducible apply d_bar); iterate 3 focus rfl) | ((with_reducible apply q_pub); iterate 1 focus rfl) | ((with_reducible apply gy7); iterate 1 focus rfl) | ((with_reducible apply gy9); (focus ((with_reducible refine gE ?_); (try simp (disch := omega) only [go_sem]) <;> rfl))) | ((with_reducible apply gz1); (focus first | rfl | (simp (disch := omega) only [go_sem]; done))) | ((with_reducible apply r_drawD (pickR [(5, .v (.int .i64 x.num.sign))]) [] [4]); (focus kernel_rfl); (focus rfl); (focus kernel_rfl); (focus (simp only [List.length_cons, List.length_nil, Nat.reduceAdd]; rfl)))))
  (all_goals (try simp (disch := omega) only [go_sem, decide_eq_true, decide_eq_false, if_pos, if_neg, Int.reduceAdd, Int.reduceSub, Int.reduceToNat, Int.zero_add])); (all_goals first | done | rfl | (congr 2; first | done | omega | (rw [Bool.eq_iff_iff]; simp only [bool_to_prop, Bool.false_eq_true, iff_true, true_iff, iff_false, false_iff]; omega)) | skip)
theorem addM_step {p q : Po} {i k : Nat} (hi : i < p.length) (hk : k < q.length) : addM (p.drop i) (q.drop k) =
    if ltM q[k].2 p[i].2 then p[i] :: addM (p.drop (i + 1)) (q.drop k) else if ltM p[i].2 q[k].2 then q[k] :: addM (p.drop i) (q.drop (k + 1))
    else if p[i].1 + q[k].1 = 0 then addM (p.drop (i + 1)) (q.drop (k + 1)) else (p[i].1 + q[k].1, p[i].2) :: addM (p.drop (i + 1)) (q.drop (k + 1)) := by
  rw [List.drop_eq_getElem_cons hi, List.drop_eq_getElem_cons hk]
  rw [show addM (p[i] :: p.drop (i + 1)) (q[k] :: q.drop (k + 1)) = _ from by unfold addM; rw [addP]]
theorem addM_end {p q : Po} {i k : Nat} (h : p.length ≤ i ∨ q.length ≤ k) : addM (p.drop i) (q.drop k) = p.drop i ++ q.drop k := by
  rcases h with h | h
  · rw [List.drop_eq_nil_of_le h]; simp [addM, addP]
  · rw [List.drop_eq_nil_of_le h, List.append_nil]; exact addP_nil _
set_option maxHeartbeats 4000000 in
theorem poMerge (p q : Po) {j k e : Nat} (hp : PK p j e) (hq : PK q k e) (sp : SrtM p) (sq : SrtM q) (lp : p.length ≤ 1000000) (lq : q.length ≤ 1000000) (hj : j ≤ 1000000) (hk : k ≤ 1000000) (he : e ≤ 16777216) :
    Pure Tryz.prog 96 [poA p, poA q, .fn 97 [], .fn 98 []] (poA (addM p q)) := by
  refine pure_intro (tok := 0) Tryz.func96 rfl Tryz.ntmps96 Tryz.results96 Tryz.call96 (by rfl) (by simp) ?_
  (focus (refine wkad (w_a @l_map w_t) w_t w_t ?_; (repeat' first | exact w_t | apply w_l); all_goals intros))
  rename_i sv0
  refine r_loopE (ι := Nat × Nat) (fun x e m => x.1 ≤ p.length ∧ x.2 ≤ q.length ∧ e 0 = poA p ∧ e 1 = poA q ∧ e 2 = .fn 97 [] ∧ e 3 = .fn 98 [] ∧ e 10 = iv x.1 ∧ e 11 = iv x.2 ∧ ∃ sv out, e 9 = .own 20 sv ∧ m 20 = some (.row sv 113 4 (out.map tmA) 0) ∧ out.length ≤ x.1 + x.2 ∧ addM p q = out ++ addM (p.drop x.1) (q.drop x.2)) (fun x => p.length + q.length - (x.1 + x.2)) (0, 0) (by rfl) ?_ ?_
  · rintro ⟨i, l⟩ e m ⟨hi, hl, e0, e1, e2, e3, e10, e11, sv, out, e9, em, ho, hs⟩
    simp only at hi hl e10 e11 ho hs
    by_cases hil : i < p.length ∧ l < q.length
    · obtain ⟨hi2, hl2⟩ := hil
      have hg := map_atB tmA hi2
      have hh := map_atB tmA hl2
      have st := addM_step hi2 hl2
      have ms := hp _ (List.getElem_mem hi2)
      have mt := hq _ (List.getElem_mem hl2)
      have m1 := hp.sm he (List.getElem_mem hi2)
      have m2 := hq.sm he (List.getElem_mem hl2)
      have d1 := sp.dom _ (List.getElem_mem hi2)
      have d2 := sq.dom _ (List.getElem_mem hl2)
      generalize p[i] = s at *
      generalize q[l] = t at *
      have cl := poLex s t m1 m2
      have ca := poAdded s t ms.1 mt.1 hj hk
      have hlen : (out.map tmA).length = out.length := List.length_map ..
      rw [st] at hs
      rcases lexM_cases d1 d2 with ⟨h1, h2⟩ | ⟨h1, h1', h2, h3⟩ | ⟨h1, h1', h2⟩
      · have h3 : ¬ ltM t.2 s.2 := fun h => ordM.irr _ (ordM.tr _ _ _ h h1)
        rw [if_neg h3, if_pos h1] at hs
        rw [h2] at cl
        clear st ms mt m1 m2 d1 d2 ca
        (focus (refine wkad (w_a e0 (w_a e1 (w_a e2 (w_a e3 (w_a e9 (w_a e10 (w_a e11 (w_a em (w_a hg (w_a hh (w_a @l_map w_t))))))))))) (w_a cl w_t) (w_a (w_d 4 [(9, iv (-1))] [] []) w_t) ?_; (repeat' first | exact w_t | apply w_l); all_goals intros))
        refine ⟨(i, l + 1), ⟨by simp only; omega, by simp only; omega, by exact gW e0, by exact gW e1, by exact gW e2, by exact gW e3, by exact gW e10, by exact gS, _, out ++ [t], by exact gC, by (simp (disch := omega) only [go_sem, List.map_append] <;> repeat' first | rfl | refine ⟨?_, ?_⟩), by simp only [List.length_append, List.length_cons, List.length_nil]; omega, by rw [hs, List.append_assoc]; rfl⟩, by simp only; omega⟩
      · rw [if_neg h1', if_neg h1] at hs
        rw [h3] at cl
        by_cases hz : s.1 + t.1 = 0
        · rw [if_pos hz] at hs
          rw [decide_eq_true (show (s.1 + t.1).num.sign = 0 by rw [sgn_ne]; exact hz)] at ca
          clear st ms mt m1 m2 d1 d2
          generalize (s.1 + t.1) = z at *
          (focus (refine wkad (w_a e0 (w_a e1 (w_a e2 (w_a e3 (w_a e9 (w_a e10 (w_a e11 (w_a em (w_a hg (w_a hh (w_a @l_map (w_a @Bool.not_true w_t)))))))))))) (w_a cl (w_a ca w_t)) (w_a (w_d 4 [(9, iv 0)] [] []) (w_a (w_d 5 [(9, .tup [tmA (z, s.2), .v (.bool false)])] [] [13]) w_t)) ?_; (repeat' first | exact w_t | apply w_l); all_goals intros))
          refine ⟨(i + 1, l + 1), ⟨by simp only; omega, by simp only; omega, by exact gW e0, by exact gW e1, by exact gW e2, by exact gW e3, by exact gS, by exact gS, _, out, by exact gW e9, by exact gW em, by simp only; omega, hs⟩, by simp only; omega⟩
        · rw [if_neg hz] at hs
          rw [decide_eq_false (show ¬ (s.1 + t.1).num.sign = 0 by rw [sgn_ne]; exact hz)] at ca
          clear st ms mt m1 m2 d1 d2
          generalize (s.1 + t.1) = z at *
          (focus (refine wkad (w_a e0 (w_a e1 (w_a e2 (w_a e3 (w_a e9 (w_a e10 (w_a e11 (w_a em (w_a hg (w_a hh (w_a @l_map (w_a @Bool.not_false w_t)))))))))))) (w_a cl (w_a ca w_t)) (w_a (w_d 4 [(9, iv 0)] [] []) (w_a (w_d 5 [(9, .tup [tmA (z, s.2), .v (.bool true)])] [] [13]) w_t)) ?_; (repeat' first | exact w_t | apply w_l); all_goals intros))
          refine ⟨(i + 1, l + 1), ⟨by simp only; omega, by simp only; omega, by exact gW e0, by exact gW e1, by exact gW e2, by exact gW e3, by exact gS, by exact gS, _, out ++ [(z, s.2)], by exact gC, by (simp (disch := omega) only [go_sem, List.map_append] <;> repeat' first | rfl | refine ⟨?_, ?_⟩), by simp only [List.length_append, List.length_cons, List.length_nil]; omega, by rw [hs, List.append_assoc]; rfl⟩, by simp only; omega⟩
      · rw [if_pos h1] at hs
        rw [h2] at cl
        clear st ms mt m1 m2 d1 d2 ca
        (focus (refine wkad (w_a e0 (w_a e1 (w_a e2 (w_a e3 (w_a e9 (w_a e10 (w_a e11 (w_a em (w_a hg (w_a hh (w_a @l_map w_t))))))))))) (w_a cl w_t) (w_a (w_d 4 [(9, iv 1)] [] []) w_t) ?_; (repeat' first | exact w_t | apply w_l); all_goals intros))
        refine ⟨(i + 1, l), ⟨by simp only; omega, by simp only; omega, by exact gW e0, by exact gW e1, by exact gW e2, by exact gW e3, by exact gS, by exact gW e11, _, out ++ [s], by exact gC, by (simp (disch := omega) only [go_sem, List.map_append] <;> repeat' first | rfl | refine ⟨?_, ?_⟩), by simp only [List.length_append, List.length_cons, List.length_nil]; omega, by rw [hs, List.append_assoc]; rfl⟩, by simp only; omega⟩
    · rw [addM_end (by omega)] at hs
      rw [hs]
      clear hs
      have tp : (p.map tmA).take p.length = p.map tmA := by rw [← List.length_map (f := tmA), List.take_length]
      have tq : (q.map tmA).take q.length = q.map tmA := by rw [← List.length_map (f := tmA), List.take_length]
      by_cases hi2 : i < p.length
      · have hl2 : l = q.length := by omega
        subst hl2
        (focus (refine wkad (w_a e0 (w_a e1 (w_a e2 (w_a e3 (w_a e9 (w_a e10 (w_a e11 (w_a em (w_a @l_map (w_a @l_drop (w_a @l_app (w_a @l_take (w_a @Nat.min_self (w_a tp (w_a tq w_t))))))))))))))) w_t w_t ?_; (repeat' first | exact w_t | apply w_l); all_goals intros))
        (all_goals (try simp (disch := omega) only [go_sem, List.append_assoc, tp, tq, decide_eq_true, decide_eq_false, if_pos, if_neg, Int.reduceAdd, Int.reduceSub, Int.reduceToNat, Int.zero_add])); (all_goals first | done | rfl | (congr 2; first | done | omega | (rw [Bool.eq_iff_iff]; simp only [bool_to_prop, Bool.false_eq_true, iff_true, true_iff, iff_false, false_iff]; omega)) | skip)
        all_goals exact congrArg (AV.sl 4) (by simp only [List.map_append, List.map_drop])
      · (focus (refine wkad (w_a e0 (w_a e1 (w_a e2 (w_a e3 (w_a e9 (w_a e10 (w_a e11 (w_a em (w_a @l_map (w_a @l_drop (w_a @l_app (w_a @l_take (w_a @Nat.min_self (w_a tp (w_a tq w_t))))))))))))))) w_t w_t ?_; (repeat' first | exact w_t | apply w_l); all_goals intros))
        (all_goals (try simp (disch := omega) only [go_sem, List.append_assoc, tp, tq, decide_eq_true, decide_eq_false, if_pos, if_neg, Int.reduceAdd, Int.reduceSub, Int.reduceToNat, Int.zero_add])); (all_goals first | done | rfl | (congr 2; first | done | omega | (rw [Bool.eq_iff_iff]; simp only [bool_to_prop, Bool.false_eq_true, iff_true, true_iff, iff_false, false_iff]; omega)) | skip)
        all_goals exact congrArg (AV.sl 4) (by simp only [List.map_append, List.map_drop])
  · exact ⟨Nat.zero_le _, Nat.zero_le _, by exact gC, by exact gC, by exact gC, by exact gC, by exact gC, by exact gC, _, [], by exact gC, by (simp (disch := omega) only [go_sem, List.map_nil, List.replicate_zero] <;> repeat' first | rfl | refine ⟨?_, ?_⟩), by simp, by simp⟩
end Go.Proofs.YteiopjkamgmfpaaGreat
end

section
namespace Go.Proofs.YteiopjkamgmfpaaGreat
open Go Go.RowKit Go.Pg Go.Pol
set_option linter.unusedSimpArgs false
set_option linter.unusedVariables false
set_option maxRecDepth 20000
attribute [local go_sem] Tryz.underlying3 Tryz.underlying4 Tryz.underlying53 Tryz.underlying51 Tryz.underlying49 Tryz.underlying113 Tryz.underlying41 Tryz.underlying111 Tryz.underlying42 Tryz.underlying140 sz3 by3 z3 szRat zRat szInt zInt szNat zNat szTerm byTerm zTerm szMono byMono zMono szPoly byPoly zPoly
attribute [-bool_to_prop] Bool.and_eq_decide Bool.or_eq_decide Bool.decide_beq_decide decide_eq_decide
theorem poAdd (p q : Po) {j k e : Nat} (hp : PK p j e) (hq : PK q k e) (sp : SrtM p) (sq : SrtM q) (lp : p.length ≤ 1000000) (lq : q.length ≤ 1000000) (hj : j ≤ 1000000) (hk : k ≤ 1000000) (he : e ≤ 16777216) :
    Pure Tryz.prog 57 [poA p, poA q] (poA (addM p q)) := by
  have c := poMerge p q hp hq sp sq lp lq hj hk he
  generalize addM p q = r at *
  refine pure_intro (tok := 0) Tryz.func57 rfl Tryz.ntmps57 Tryz.results57 Tryz.call57 (by rfl) (by simp) ?_
  (focus (refine wklp w_t (w_a c w_t) w_t (w_r 0) ?_; (repeat' first | exact w_t | apply w_l); all_goals intros))
theorem poTimes1 {p : Po} {t : Tm} {i : Nat} (hi : i < p.length) : timesP mulM (p.take (i + 1)) t = timesP mulM (p.take i) t ++ [(p[i].1 * t.1, mulM p[i].2 t.2)] := by
  unfold timesP
  rw [List.take_succ_eq_append_getElem hi, List.map_append]; rfl
theorem timesP_len (p : Po) (t : Tm) : (timesP mulM p t).length = p.length := by unfold timesP; simp
set_option maxHeartbeats 4000000 in
theorem poTimes (p : Po) (t : Tm) {j k e f : Nat} (hp : PK p j e) (ht : PK [t] k f) (sp : SrtM p) (h0 : t.1 ≠ 0) (hd : Can t.2) (lp : p.length ≤ 1000000) (hj : j ≤ 1000000) (hk : k ≤ 1000000) (he : e ≤ 16777216) (hf : f ≤ 16777216) :
    Pure Tryz.prog 90 [poA p, .agg [.v (.bool (decide (t.1.num < 0))), lim (toL t.1.num.natAbs), lim (toL t.1.den), ivs t.2]] (poA (timesP mulM p t)) := by
  refine pure_intro (tok := 0) Tryz.func90 rfl Tryz.ntmps90 Tryz.results90 Tryz.call90 (by rfl) (by simp) ?_
  (focus (refine wkad (w_a @l_map w_t) w_t w_t ?_; (repeat' first | exact w_t | apply w_l); all_goals intros))
  rename_i g3 sv0
  refine r_loopE (ι := Nat) (fun i e m => i ≤ p.length ∧ e 3 = .pbox 3 g3 0 ∧ m 3 = some (.box g3 113 [.v (.bool (decide (t.1.num < 0))), lim (toL t.1.num.natAbs), lim (toL t.1.den), ivs t.2] false) ∧ e 12 = poA p ∧ e 13 = iv p.length ∧ e 14 = iv i ∧ ∃ sv, e 5 = .own 11 sv ∧ m 11 = some (.row sv 113 4 ((timesP mulM (p.take i) t).map tmA) 0)) (fun i => p.length - i) 0 (by rfl) ?_ ?_
  · rintro i e m ⟨hi, e3, m3, e12, e13, e14, sv, e5, m11⟩
    by_cases hlt : i < p.length
    · have hg := map_atB tmA hlt
      have hs := poTimes1 (t := t) hlt
      have ms := hp _ (List.getElem_mem hlt)
      have m1 := hp.sm he (List.getElem_mem hlt)
      have m2 := ht.sm hf (.head _)
      have d1 := sp.dom _ (List.getElem_mem hlt)
      have n1 := (sp.1 _ (List.getElem_mem hlt)).1
      have mt := (ht t (.head _)).1
      have hl : (timesP mulM (p.take i) t).length ≤ 1000000 := by rw [timesP_len, List.length_take]; omega
      generalize p[i] = s at *
      have c1 := ratMul s.1 t.1 ms.1 mt (by omega) (by omega)
      have c2 := ratSign (s.1 * t.1) (ms.1.mul mt) (by omega)
      have c3 : Pure Tryz.prog 146 [ivs s.2, ivs t.2] (ivs (trimI (mulM s.2 t.2))) := monMul s.2 t.2 m1.wd m2.wd
      rw [trim_can (mulK.dom _ _ d1 hd)] at c3
      have nz : ¬ (s.1 * t.1).num.sign = 0 := by
        rw [sgn_ne]; intro h
        rcases Rat.mul_eq_zero.1 h with h | h
        · exact n1 h
        · exact h0 h
      have nz2 : (!decide ((s.1 * t.1).num.sign = 0)) = true := by rw [decide_eq_false nz]; rfl
      obtain ⟨s1, s2⟩ := s
      simp only at *
      clear ms m1 m2 d1 n1 mt
      generalize s1 * t.1 = z at *
      generalize mulM s2 t.2 = w at *
      generalize timesP mulM (p.take i) t = out at *
      (focus (refine wkad (w_a e3 (w_a m3 (w_a e12 (w_a e13 (w_a e14 (w_a e5 (w_a m11 (w_a hg (w_a @l_map (w_a nz2 w_t)))))))))) (w_a c1 (w_a c2 (w_a c3 w_t))) (w_a (w_d 7 [(6, ivs w)] [9, 1009] [11, 34]) w_t) ?_; (repeat' first | exact w_t | apply w_l); all_goals intros))
      exact ⟨i + 1, ⟨by omega, by exact gW e3, by exact gW m3, by exact gW e12, by exact gW e13, by exact gS, _, by exact gC, by rw [hs, List.map_append]; exact gC⟩, by omega⟩
    · have hi2 : i = p.length := by omega
      subst hi2
      rw [List.take_length] at m11
      (focus (refine wkld (w_a e3 (w_a m3 (w_a e12 (w_a e13 (w_a e14 (w_a e5 (w_a m11 (w_a @l_map w_t)))))))) w_t (w_a m11 w_t) w_t ?_; (repeat' first | exact w_t | apply w_l); all_goals intros))
  · exact ⟨Nat.zero_le _, by exact gC, by exact gC, by exact gC, by (simp (disch := omega) only [go_sem, List.length_map] <;> repeat' first | rfl | refine ⟨?_, ?_⟩), by exact gC, _, by exact gC, by (simp (disch := omega) only [go_sem, List.take_zero, timesP, List.map_nil, List.replicate_zero] <;> repeat' first | rfl | refine ⟨?_, ?_⟩)⟩
set_option maxHeartbeats 4000000 in
theorem poTimesN (p : Po) (t : Tm) (hn : t.2 = []) {j k e f : Nat} (hp : PK p j e) (ht : PK [t] k f) (sp : SrtM p) (h0 : t.1 ≠ 0) (hd : Can t.2) (lp : p.length ≤ 1000000) (hj : j ≤ 1000000) (hk : k ≤ 1000000) (he : e ≤ 16777216) (hf : f ≤ 16777216) :
    Pure Tryz.prog 90 [poA p, .agg [.v (.bool (decide (t.1.num < 0))), lim (toL t.1.num.natAbs), lim (toL t.1.den), .v (.slice none 0 0)]] (poA (timesP mulM p t)) := by
  refine pure_intro (tok := 0) Tryz.func90 rfl Tryz.ntmps90 Tryz.results90 Tryz.call90 (by rfl) (by simp) ?_
  (focus (refine wkad (w_a @l_map w_t) w_t w_t ?_; (repeat' first | exact w_t | apply w_l); all_goals intros))
  rename_i g3 sv0
  refine r_loopE (ι := Nat) (fun i e m => i ≤ p.length ∧ e 3 = .pbox 3 g3 0 ∧ m 3 = some (.box g3 113 [.v (.bool (decide (t.1.num < 0))), lim (toL t.1.num.natAbs), lim (toL t.1.den), .v (.slice none 0 0)] false) ∧ e 12 = poA p ∧ e 13 = iv p.length ∧ e 14 = iv i ∧ ∃ sv, e 5 = .own 11 sv ∧ m 11 = some (.row sv 113 4 ((timesP mulM (p.take i) t).map tmA) 0)) (fun i => p.length - i) 0 (by rfl) ?_ ?_
  · rintro i e m ⟨hi, e3, m3, e12, e13, e14, sv, e5, m11⟩
    by_cases hlt : i < p.length
    · have hg := map_atB tmA hlt
      have hs := poTimes1 (t := t) hlt
      have ms := hp _ (List.getElem_mem hlt)
      have m1 := hp.sm he (List.getElem_mem hlt)
      have m2 := ht.sm hf (.head _)
      have d1 := sp.dom _ (List.getElem_mem hlt)
      have n1 := (sp.1 _ (List.getElem_mem hlt)).1
      have mt := (ht t (.head _)).1
      have hl : (timesP mulM (p.take i) t).length ≤ 1000000 := by rw [timesP_len, List.length_take]; omega
      generalize p[i] = s at *
      have c1 := ratMul s.1 t.1 ms.1 mt (by omega) (by omega)
      have c2 := ratSign (s.1 * t.1) (ms.1.mul mt) (by omega)
      have c3 : Pure Tryz.prog 146 [ivs s.2, ivs t.2] (ivs (trimI (mulM s.2 t.2))) := monMul s.2 t.2 m1.wd m2.wd
      rw [trim_can (mulK.dom _ _ d1 hd)] at c3
      have nz : ¬ (s.1 * t.1).num.sign = 0 := by
        rw [sgn_ne]; intro h
        rcases Rat.mul_eq_zero.1 h with h | h
        · exact n1 h
        · exact h0 h
      have nz2 : (!decide ((s.1 * t.1).num.sign = 0)) = true := by rw [decide_eq_false nz]; rfl
      have c3 : Pure Tryz.prog 146 [ivs s.2, .v (.slice none 0 0)] (ivs (mulM s.2 t.2)) := by
        rw [hn] at c3 ⊢
        exact pure_vkA c3 (.cons (.refl _) (.cons (.nil 1) .nil))
      obtain ⟨s1, s2⟩ := s
      simp only at *
      clear ms m1 m2 d1 n1 mt
      generalize s1 * t.1 = z at *
      generalize mulM s2 t.2 = w at *
      generalize timesP mulM (p.take i) t = out at *
      (focus (refine wkad (w_a e3 (w_a m3 (w_a e12 (w_a e13 (w_a e14 (w_a e5 (w_a m11 (w_a hg (w_a @l_map (w_a nz2 w_t)))))))))) (w_a c1 (w_a c2 (w_a c3 w_t))) (w_a (w_d 7 [(6, ivs w)] [9, 1009] [11, 34]) w_t) ?_; (repeat' first | exact w_t | apply w_l); all_goals intros))
      exact ⟨i + 1, ⟨by omega, by exact gW e3, by exact gW m3, by exact gW e12, by exact gW e13, by exact gS, _, by exact gC, by rw [hs, List.map_append]; exact gC⟩, by omega⟩
    · have hi2 : i = p.length := by omega
      subst hi2
      rw [List.take_length] at m11
      (focus (refine wkld (w_a e3 (w_a m3 (w_a e12 (w_a e13 (w_a e14 (w_a e5 (w_a m11 (w_a @l_map w_t)))))))) w_t (w_a m11 w_t) w_t ?_; (repeat' first | exact w_t | apply w_l); all_goals intros))
  · exact ⟨Nat.zero_le _, by exact gC, by exact gC, by exact gC, by (simp (disch := omega) only [go_sem, List.length_map] <;> repeat' first | rfl | refine ⟨?_, ?_⟩), by exact gC, _, by exact gC, by (simp (disch := omega) only [go_sem, List.take_zero, timesP, List.map_nil, List.replicate_zero] <;> repeat' first | rfl | refine ⟨?_, ?_⟩)⟩
end Go.Proofs.YteiopjkamgmfpaaGreat
end

section
namespace Go.Proofs.YteiopjkamgmfpaaGreat
open Go Go.RowKit Go.Pg
set_option linter.unusedSimpArgs false
set_option linter.unusedVariables false
set_option maxRecDepth 20000
attribute [local go_sem] Tryz.underlying3 Tryz.underlying2 Tryz.underlying91 Tryz.underlying129 Tryz.underlying4 Tryz.underlying53 Tryz.underlying49 Tryz.underlying51 sz3 by3 z3 szL byL zL szRat zRat szNat zNat szInt zInt
attribute [-bool_to_prop] Bool.and_eq_decide Bool.or_eq_decide Bool.decide_beq_decide decide_eq_decide
theorem intOfM : Pure Tryz.prog 94 [iv (-1)] (intZ (-1)) := by
  have hm := intMade true 1 (by rw [lg_one]; omega)
  have hn := natOf 1 (by omega)
  rw [show zI true 1 = -1 from rfl] at hm
  rw [show intZ (-1) = .agg [.v (.bool true), lim (toL 1)] from rfl] at hm ⊢
  generalize toL 1 = l at *
  refine pure_intro (tok := 0) Tryz.func94 rfl Tryz.ntmps94 Tryz.results94 Tryz.call94 (by rfl) (by simp) ?_
  (focus (refine wklp w_t (w_a hn (w_a hm w_t)) w_t (w_r 0) ?_; (repeat' first | exact w_t | apply w_l); all_goals intros))
theorem ratOfM : Pure Tryz.prog 56 [iv (-1)] (ratQ (-1)) := by
  have c := intOfM
  rw [show intZ (-1) = .agg [.v (.bool true), lim (toL 1)] from rfl] at c
  rw [show ratQ (-1) = .agg [.v (.bool true), lim (toL 1), lim (toL 1)] from rfl]
  have u := ratUnit
  generalize toL 1 = l at *
  refine pure_intro (tok := 0) Tryz.func56 rfl Tryz.ntmps56 Tryz.results56 Tryz.call56 (by rfl) (by simp) ?_
  (focus (refine wklp w_t (w_a c (w_a u w_t)) w_t (w_r 0) ?_; (repeat' first | exact w_t | apply w_l); all_goals intros))
theorem zOfM : Pure Tryz.prog 38 [iv (-1)] (intZ (-1)) := by
  have hm := zOf' true 1 (by rw [lg_one]; omega)
  have h0 := refOf 0 (by omega)
  have h1 := refOf 1 (by omega)
  have ha := rAdd 0 1 (by rw [toL_zero]; simp) (by rw [lg_one]; omega)
  rw [show zI true 1 = -1 from rfl] at hm
  rw [show 0 + 1 = 1 from rfl] at ha
  rw [show intZ (-1) = .agg [.v (.bool true), lim (toL 1)] from rfl] at hm ⊢
  generalize toL 1 = l at *
  generalize toL 0 = k at *
  refine pure_intro (tok := 0) Tryz.func38 rfl Tryz.ntmps38 Tryz.results38 Tryz.call38 (by rfl) (by simp) ?_
  (focus (refine wklp w_t (w_a h0 (w_a h1 (w_a ha (w_a hm w_t)))) w_t (w_r 0) ?_; (repeat' first | exact w_t | apply w_l); all_goals intros))
theorem qOfM : Pure Tryz.prog 15 [iv (-1)] (ratQ (-1)) := by
  have c := zOfM
  have h1 := refOf 1 (by omega)
  have co : Pure Tryz.prog 37 [.agg [.v (.bool true), lim (toL 1)], lim (toL 1)] (ratQ (mkRat (zI true 1) 1)) := qOver true 1 1 (by rw [lg_one]; omega) (by rw [lg_one]; omega) (by omega)
  rw [show mkRat (zI true 1) 1 = (-1 : Rat) from rfl] at co
  rw [show intZ (-1) = .agg [.v (.bool true), lim (toL 1)] from rfl] at c
  rw [show ratQ (-1) = .agg [.v (.bool true), lim (toL 1), lim (toL 1)] from rfl] at *
  generalize toL 1 = l at *
  refine pure_intro (tok := 0) Tryz.func15 rfl Tryz.ntmps15 Tryz.results15 Tryz.call15 (by rfl) (by simp) ?_
  (focus (refine wklp w_t (w_a c (w_a h1 (w_a co w_t))) w_t (w_r 0) ?_; (repeat' first | exact w_t | apply w_l); all_goals intros))
end Go.Proofs.YteiopjkamgmfpaaGreat
end
