/- Contracts of the functions that the law reaches, and the rules by which they are walked. They say what a call hands back for every input within the bounds that each names; no other condition. -/
import Derived.Test.YtjiffehkemeloaaBd3
section
namespace Go.Proofs.Ytjiffehkemeloaa
open Go Go.RowKit Go.Pg
set_option linter.unusedSimpArgs false
set_option linter.unusedVariables false
set_option maxRecDepth 20000

/-- What reads like a also reads like b, inside structs too. -/
inductive Vk : AV → AV → Prop
  | refl (a : AV) : Vk a a
  | nil (m : Nat) : Vk (.v (.slice none 0 0)) (.sl m [])
  | agg (xs ys : List AV) (hl : xs.length = ys.length) (h : ∀ (j : Nat) (a b : AV), xs[j]? = some a → ys[j]? = some b → Vk a b) : Vk (.agg xs) (.agg ys)
  | tup (xs ys : List AV) (hl : xs.length = ys.length) (h : ∀ (j : Nat) (a b : AV), xs[j]? = some a → ys[j]? = some b → Vk a b) : Vk (.tup xs) (.tup ys)
theorem Vk.rd {w : World} {imm : Imm} {a b : AV} (h : Vk a b) : ∀ {x : Value}, Rd w imm a x → Rd w imm b x := by
  induction h with
  | refl a => exact fun h => h
  | nil m =>
    intro x h
    cases h
    exact .sl m [] none 0 (fun _ => undef) (by simp) (by simp) (Nat.le_refl _) (by simp) (by simp) (by simp [flat])
  | agg xs ys hl _ ih =>
    intro x h
    cases h with
    | agg _ vs hl2 hr =>
      refine .agg ys vs (by omega) fun j b x h1 h2 => ?_
      have hj : j < xs.length := by rw [hl]; exact (List.getElem?_eq_some_iff.1 h1).1
      exact ih j xs[j] b (List.getElem?_eq_getElem hj) h1 (hr j xs[j] x (List.getElem?_eq_getElem hj) h2)
  | tup xs ys hl _ ih =>
    intro x h
    cases h with
    | tup _ vs hl2 hr =>
      refine .tup ys vs (by omega) fun j b x h1 h2 => ?_
      have hj : j < xs.length := by rw [hl]; exact (List.getElem?_eq_some_iff.1 h1).1
      exact ih j xs[j] b (List.getElem?_eq_getElem hj) h1 (hr j xs[j] x (List.getElem?_eq_getElem hj) h2)
/-- Likewise for lists. -/
def VkL (xs ys : List AV) : Prop := xs.length = ys.length ∧ ∀ (j : Nat) (a b : AV), xs[j]? = some a → ys[j]? = some b → Vk a b
theorem VkL.nil : VkL [] [] := ⟨rfl, fun j a b h => by simp at h⟩
theorem VkL.cons {a b : AV} {xs ys : List AV} (h : Vk a b) (t : VkL xs ys) : VkL (a :: xs) (b :: ys) := by
  refine ⟨by simp [t.1], fun j x y h1 h2 => ?_⟩
  cases j with
  | zero => simp at h1 h2; subst h1; subst h2; exact h
  | succ j => exact t.2 j x y (by simpa using h1) (by simpa using h2)
theorem VkL.refl (xs : List AV) : VkL xs xs := ⟨rfl, fun j a b h1 h2 => by rw [h1] at h2; cases h2; exact .refl _⟩
theorem Vk.aggL {xs ys : List AV} (h : VkL xs ys) : Vk (.agg xs) (.agg ys) := .agg xs ys h.1 h.2
theorem Vk.tupL {xs ys : List AV} (h : VkL xs ys) : Vk (.tup xs) (.tup ys) := .tup xs ys h.1 h.2
theorem pure_vk {P : Program} {f : FuncId} {args args' : List AV} {r r' : AV} (h : Pure P f args' r) (ha : VkL args args') (hw : Vk r r') : Pure P f args r' := by
  refine ⟨h.1, fun w imm vs h1 h2 h3 => (h.2 w imm vs h1 (by rw [← ha.1]; exact h2) fun j b x e1 e2 => ?_).mono fun e w' he => ?_⟩
  · have hj : j < args.length := by rw [ha.1]; exact (List.getElem?_eq_some_iff.1 e1).1
    exact (ha.2 j args[j] b (List.getElem?_eq_getElem hj) e1).rd (h3 j args[j] x (List.getElem?_eq_getElem hj) e2)
  · obtain ⟨x, imm', e1, e2, e3⟩ := he
    exact ⟨x, imm', e1, hw.rd e2, e3⟩
theorem pure_vkA {P : Program} {f : FuncId} {args args' : List AV} {r : AV} (h : Pure P f args' r) (ha : VkL args args') : Pure P f args r := pure_vk h ha (.refl _)
theorem pure_vkR {P : Program} {f : FuncId} {args : List AV} {r r' : AV} (h : Pure P f args r) (hw : Vk r r') : Pure P f args r' := pure_vk h (.refl _) hw

theorem lg_mul (n m : Nat) : (toL (n * m)).length ≤ (toL n).length + (toL m).length := by
  rw [toL_len_lt, Nat.pow_add]
  exact Nat.mul_lt_mul'' (toL_len_lt.1 (Nat.le_refl _)) (toL_len_lt.1 (Nat.le_refl _))
theorem lg_add (n m : Nat) : (toL (n + m)).length ≤ max ((toL n).length) ((toL m).length) + 1 := by
  rw [toL_len_lt, Nat.pow_succ]
  have h1 := toL_len_lt.1 (Nat.le_max_left ((toL n).length) ((toL m).length))
  have h2 := toL_len_lt.1 (Nat.le_max_right ((toL n).length) ((toL m).length))
  generalize 65536 ^ max ((toL n).length) ((toL m).length) = p at *
  omega
theorem lg_mono {n m : Nat} (h : n ≤ m) : (toL n).length ≤ (toL m).length := toL_len_mono h
theorem lg_one : (toL 1).length = 1 := by rw [toL_pos (by omega)]; simp [toL_zero]
theorem toL_one : toL 1 = [1] := by rw [toL_pos (by omega)]; simp [toL_zero]

/-- A rational number. -/
abbrev ratQ (q : Rat) : AV := .agg [.v (.bool (decide (q.num < 0))), lim (toL q.num.natAbs), lim (toL q.den)]
/-- Sign, and what is above and below the line, in any form. -/
abbrev ratA (s : Bool) (n d : Nat) : AV := .agg [.v (.bool s), lim (toL n), lim (toL d)]
/-- Numbers of at most k limbs above and below the line. -/
def Sz (q : Rat) (k : Nat) : Prop := (toL q.num.natAbs).length ≤ k ∧ (toL q.den).length ≤ k
theorem Sz.mono {q : Rat} {k j : Nat} (h : Sz q k) (hk : k ≤ j) : Sz q j := ⟨Nat.le_trans h.1 hk, Nat.le_trans h.2 hk⟩
theorem ratQ_mk (z : Int) (m : Nat) (hm : m ≠ 0) : ratQ (mkRat z m) = .agg [.v (.bool (decide (z < 0))), lim (toL (z.natAbs / Nat.gcd z.natAbs m)), lim (toL (m / Nat.gcd z.natAbs m))] := by
  unfold ratQ
  rw [Rat.num_mkRat, Rat.den_mkRat, if_neg hm, if_neg hm, Nat.gcd_comm m z.natAbs]
  have hg : 0 < Nat.gcd z.natAbs m := Nat.gcd_pos_of_pos_right _ (by omega)
  have hd : ((Nat.gcd z.natAbs m : Nat) : Int) ∣ z := Int.ofNat_dvd_left.2 (Nat.gcd_dvd_left _ _)
  generalize Nat.gcd z.natAbs m = g at *
  obtain ⟨k, hk⟩ := hd
  have hgz : (g : Int) ≠ 0 := by omega
  have e1 : z / (g : Int) = k := by rw [hk, Int.mul_ediv_cancel_left _ hgz]
  have e2 : z.natAbs / g = k.natAbs := by rw [hk, Int.natAbs_mul, Int.natAbs_natCast, Nat.mul_div_cancel_left _ hg]
  have e3 : (z < 0) ↔ (k < 0) := by
    rw [hk]
    constructor
    · intro h
      rcases (by omega : k < 0 ∨ 0 ≤ k) with h1 | h1
      · exact h1
      · have := Int.mul_nonneg (show (0 : Int) ≤ g by omega) h1
        omega
    · intro h
      exact Int.mul_neg_of_pos_of_neg (by omega) h
  rw [e1, e2]
  simp only [e3]
theorem Sz.mk {z : Int} {m k : Nat} (hz : (toL z.natAbs).length ≤ k) (hm : (toL m).length ≤ k) (hk : 1 ≤ k) : Sz (mkRat z m) k := by
  unfold Sz
  rw [Rat.num_mkRat, Rat.den_mkRat]
  by_cases h : m = 0
  · rw [if_pos h, if_pos h]
    refine ⟨?_, by rw [lg_one]; exact hk⟩
    show (toL 0).length ≤ k
    rw [toL_zero]; simp
  · rw [if_neg h, if_neg h]
    refine ⟨Nat.le_trans (lg_mono ?_) hz, Nat.le_trans (lg_mono (Nat.div_le_self _ _)) hm⟩
    have hd : ((Nat.gcd m z.natAbs : Nat) : Int) ∣ z := Int.ofNat_dvd_left.2 (Nat.gcd_dvd_right _ _)
    have hg : 0 < Nat.gcd m z.natAbs := Nat.gcd_pos_of_pos_left _ (by omega)
    generalize Nat.gcd m z.natAbs = g at *
    obtain ⟨c, hc⟩ := hd
    rw [hc, Int.mul_ediv_cancel_left _ (by omega), Int.natAbs_mul, Int.natAbs_natCast]
    exact Nat.le_mul_of_pos_left _ hg
theorem natAbs_add_le (a b : Int) : (a + b).natAbs ≤ a.natAbs + b.natAbs := by omega
theorem Sz.pos {q : Rat} {k : Nat} (h : Sz q k) : 1 ≤ k := by
  have h1 := toL_len_pos.2 q.den_pos
  have h2 := h.2
  omega
theorem lg_cross (a b : Rat) {j k : Nat} (ha : Sz a j) (hb : Sz b k) : (toL (a.num * b.den).natAbs).length ≤ j + k := by
  rw [Int.natAbs_mul, Int.natAbs_natCast]
  exact Nat.le_trans (lg_mul _ _) (Nat.add_le_add ha.1 hb.2)
theorem Sz.mul {a b : Rat} {j k : Nat} (ha : Sz a j) (hb : Sz b k) : Sz (a * b) (j + k) := by
  rw [Rat.mul_def']
  refine Sz.mk ?_ (Nat.le_trans (lg_mul _ _) (Nat.add_le_add ha.2 hb.2)) (by have := ha.pos; omega)
  rw [Int.natAbs_mul]
  exact Nat.le_trans (lg_mul _ _) (Nat.add_le_add ha.1 hb.1)
theorem Sz.add {a b : Rat} {j k : Nat} (ha : Sz a j) (hb : Sz b k) : Sz (a + b) (j + k + 1) := by
  rw [Rat.add_def']
  refine Sz.mk ?_ (Nat.le_trans (lg_mul _ _) (by have := ha.2; have := hb.2; omega)) (by omega)
  have h1 := lg_cross a b ha hb
  have h2 := lg_cross b a hb ha
  have h3 := lg_mono (natAbs_add_le (a.num * b.den) (b.num * a.den))
  have h4 := lg_add (a.num * b.den).natAbs (b.num * a.den).natAbs
  omega
theorem Sz.neg {a : Rat} {j : Nat} (ha : Sz a j) : Sz (-a) j := by
  unfold Sz
  rw [Rat.neg_num, Rat.neg_den, Int.natAbs_neg]
  exact ha
theorem Sz.sub {a b : Rat} {j k : Nat} (ha : Sz a j) (hb : Sz b k) : Sz (a - b) (j + k + 1) := by
  rw [Rat.sub_eq_add_neg]
  exact ha.add hb.neg
theorem Sz.inv {a : Rat} {j : Nat} (ha : Sz a j) : Sz (a⁻¹) j := by
  unfold Sz
  rw [Rat.num_inv, Rat.den_inv]
  by_cases h : a.num = 0
  · rw [if_pos h, h]
    refine ⟨?_, by rw [lg_one]; exact ha.pos⟩
    have : (Int.sign 0 * (a.den : Int)).natAbs = 0 := by simp
    rw [this]
    show (toL 0).length ≤ j
    rw [toL_zero]; simp
  · rw [if_neg h]
    refine ⟨?_, ha.1⟩
    rw [Int.natAbs_mul, Int.natAbs_natCast, Int.natAbs_sign_of_ne_zero h, Nat.one_mul]
    exact ha.2
theorem Sz.div {a b : Rat} {j k : Nat} (ha : Sz a j) (hb : Sz b k) : Sz (a / b) (j + k) := ha.mul hb.inv
theorem Sz.int {z : Int} {k : Nat} (h : (toL z.natAbs).length ≤ k) (hk : 1 ≤ k) : Sz (z : Rat) k := ⟨h, by show (toL 1).length ≤ k; rw [lg_one]; exact hk⟩

/-- The order of two rational numbers. -/
def cmpQ (a b : Rat) : Int := if a < b then -1 else if b < a then 1 else 0
theorem cmpQ_z (a b : Rat) : cmpQ a b = cmpZ (a.num * b.den) (b.num * a.den) := by
  unfold cmpQ cmpZ
  simp only [Rat.lt_iff]

theorem iMul (z w : Int) (hz : (toL z.natAbs).length ≤ 100000000) (hw : (toL w.natAbs).length ≤ 100000000) : Pure Try.prog 47 [intZ z, intZ w] (intZ (z * w)) := by
  have := intMul (decide (z < 0)) (decide (w < 0)) z.natAbs w.natAbs hz hw
  rwa [zI_abs, zI_abs] at this
theorem iMulN (z : Int) (d : Nat) (hz : (toL z.natAbs).length ≤ 100000000) (hw : (toL d).length ≤ 100000000) : Pure Try.prog 47 [intZ z, intA false d] (intZ (z * d)) := by
  have := intMul (decide (z < 0)) false z.natAbs d hz hw
  rw [zI_abs] at this
  exact this
theorem iAdd (z w : Int) (hz : (toL z.natAbs).length ≤ 100000000) (hw : (toL w.natAbs).length ≤ 100000000) : Pure Try.prog 81 [intZ z, intZ w] (intZ (z + w)) := by
  have := intAdd (decide (z < 0)) (decide (w < 0)) z.natAbs w.natAbs hz hw
  rwa [zI_abs, zI_abs] at this
theorem iAddA (z : Int) (t : Bool) (m : Nat) (hz : (toL z.natAbs).length ≤ 100000000) (hm : (toL m).length ≤ 100000000) : Pure Try.prog 81 [intZ z, intA t m] (intZ (z + zI t m)) := by
  have := intAdd (decide (z < 0)) t z.natAbs m hz hm
  rwa [zI_abs] at this
theorem iAdd0 (t : Bool) (m : Nat) (hm : (toL m).length ≤ 100000000) : Pure Try.prog 81 [.agg [.v (.bool false), .v (.slice none 0 0)], intA t m] (intZ (zI t m)) := by
  have h := iAddA 0 t m (by show (toL 0).length ≤ _; rw [toL_zero]; simp) hm
  rw [Int.zero_add] at h
  refine pure_vkA h (.cons (.aggL (.cons (.refl _) (.cons ?_ .nil))) (.cons (.refl _) .nil))
  show Vk _ (.sl 1 (u16s (toL 0)))
  rw [toL_zero]
  exact .nil 1
theorem iCmp (z w : Int) (hz : (toL z.natAbs).length ≤ 100000000) (hw : (toL w.natAbs).length ≤ 100000000) : Pure Try.prog 72 [intZ z, intZ w] (.v (.int .i64 (cmpZ z w))) := by
  have := intCmp (decide (z < 0)) (decide (w < 0)) z.natAbs w.natAbs hz hw
  rwa [zI_abs, zI_abs] at this
theorem iSign (z : Int) (hz : (toL z.natAbs).length ≤ 100000000) : Pure Try.prog 73 [intZ z] (.v (.int .i64 z.sign)) := by
  have := intSign (decide (z < 0)) z.natAbs hz
  rwa [zI_abs] at this
theorem iDivMod (z : Int) (m : Nat) (hz : (toL z.natAbs).length ≤ 10000000) (hm : (toL m).length ≤ 10000000) (h0 : m ≠ 0) : Pure Try.prog 83 [intZ z, intA false m] (.tup [intZ (z / m), intZ (z % m), .v (.int .i64 0)]) := by
  have := intDivMod (decide (z < 0)) z.natAbs m hz hm h0
  rwa [zI_abs] at this
def sumC (z w : Int) : Nat → List AV
  | 0 => [.v (.bool false), .v (.slice none 0 0)]
  | 1 => [.v (.bool (decide (z < 0))), lim (toL z.natAbs)]
  | _ => [.v (.bool (decide (z + w < 0))), lim (toL (z + w).natAbs)]
theorem u16s_c (x : Nat) (l : List Nat) : u16s (x :: l) = AV.v (.int .u16 (x : Int)) :: u16s l := rfl
theorem szShape : szOf Try.prog 93 = some 2 := by kernel_rfl
theorem zShape : zeroOf Try.prog 93 = some (.agg #[.int .i64 0, .int .u16 0]) := by kernel_rfl
theorem eqShape : eqTy Try.prog 93 = true := by kernel_rfl
end Go.Proofs.Ytjiffehkemeloaa
end

section
namespace Go.Proofs.Ytjiffehkemeloaa
open Go Go.RowKit Go.Pg
set_option linter.unusedSimpArgs false
set_option linter.unusedVariables false
set_option maxRecDepth 20000
attribute [local go_sem] Try.underlying31 Try.underlying3 Try.underlying78 Try.underlying72 Try.underlying4 Try.underlying33 Try.underlying35 Try.underlying25 Try.underlying93 sz3 by3 z3 szL byL zL szB zB szNat zNat szInt zInt szRat zRat szShape zShape eqShape Try.underlying94
theorem intOf (n : Nat) (hn : n < 9223372036854775808) : Pure Try.prog 42 [.v (.int .i64 (n : Int))] (intA false n) := by
  have l4 : (toL n).length ≤ 4 := toL_len_lt.2 (by omega)
  have hm := intMade false n (by omega)
  rw [intZ_of, Bool.false_and] at hm
  refine pure_intro (tok := 0) Try.func42 rfl Try.ntmps42 Try.results42 Try.call42 (by rfl) (by simp) ?_
  (repeat' (first | (with_reducible first | refine stp ?_ | apply gx1 | apply gx2 | apply gx3 | apply gx4 | apply gx5 | apply gx6 | apply gx7 | refine gw0 (natOf n (by omega)) ?_ ?_ | refine gw0 (hm) ?_ ?_) | (with_reducible refine all_v ?_; intro _) | ((with_reducible refine gE ?_); (try simp (disch := omega) only [go_sem, ↓reduceIte, Nat.reduceAdd, Nat.reduceSub, Nat.reduceMul, Nat.reduceEqDiff, Nat.reduceLT, Nat.reduceLeDiff, Nat.reduceBEq, Int.reduceNeg, Int.reduceLT, Int.reduceLE, Int.reduceEq, reduceCtorEq]) <;> first | rfl | omega) | with_reducible refine t_in_other (by decide) ?_))
  simp (disch := omega) only [go_sem, ↓reduceIte, Nat.reduceAdd, Nat.reduceSub, Nat.reduceMul, Nat.reduceEqDiff, Nat.reduceLT, Nat.reduceLeDiff, Nat.reduceBEq, Int.reduceNeg, Int.reduceLT, Int.reduceLE, Int.reduceEq, reduceCtorEq]

theorem ratUnit : Pure Try.prog 50 [] (lim (toL 1)) := by
  rw [toL_one]
  refine pure_intro (tok := 0) Try.func50 rfl Try.ntmps50 Try.results50 Try.call50 (by rfl) (by simp) ?_
  (repeat' (first | (with_reducible first | refine stp ?_ | apply gx1 | apply gx2 | apply gx3 | apply gx4 | apply gx5 | apply gx6 | apply gx7) | (with_reducible refine all_v ?_; intro _) | ((with_reducible refine gE ?_); (try simp (disch := omega) only [go_sem, ↓reduceIte, Nat.reduceAdd, Nat.reduceSub, Nat.reduceMul, Nat.reduceEqDiff, Nat.reduceLT, Nat.reduceLeDiff, Nat.reduceBEq, Int.reduceNeg, Int.reduceLT, Int.reduceLE, Int.reduceEq, reduceCtorEq]) <;> first | rfl | omega) | with_reducible refine t_in_other (by decide) ?_))
  exact gC

theorem ratWhole (n : Nat) : Pure Try.prog 48 [lim (toL n)] (intA false n) := by
  refine pure_intro (tok := 0) Try.func48 rfl Try.ntmps48 Try.results48 Try.call48 (by rfl) (by simp) ?_
  (repeat' (first | (with_reducible first | refine stp ?_ | apply gx1 | apply gx2 | apply gx3 | apply gx4 | apply gx5 | apply gx6 | apply gx7) | (with_reducible refine all_v ?_; intro _) | ((with_reducible refine gE ?_); (try simp (disch := omega) only [go_sem, ↓reduceIte, Nat.reduceAdd, Nat.reduceSub, Nat.reduceMul, Nat.reduceEqDiff, Nat.reduceLT, Nat.reduceLeDiff, Nat.reduceBEq, Int.reduceNeg, Int.reduceLT, Int.reduceLE, Int.reduceEq, reduceCtorEq]) <;> first | rfl | omega) | with_reducible refine t_in_other (by decide) ?_))
  simp (disch := omega) only [go_sem, ↓reduceIte, Nat.reduceAdd, Nat.reduceSub, Nat.reduceMul, Nat.reduceEqDiff, Nat.reduceLT, Nat.reduceLeDiff, Nat.reduceBEq, Int.reduceNeg, Int.reduceLT, Int.reduceLE, Int.reduceEq, reduceCtorEq]

theorem ratOne (n : Nat) (hn : (toL n).length ≤ 100000000) : Pure Try.prog 44 [lim (toL n)] (.v (.bool (decide (n = 1)))) := by
  by_cases h0 : n = 0
  · subst h0
    rw [toL_zero]
    refine pure_intro (tok := 0) Try.func44 rfl Try.ntmps44 Try.results44 Try.call44 (by rfl) (by simp) ?_
    (repeat' (first | (with_reducible first | refine stp ?_ | apply gx1 | apply gx2 | apply gx3 | apply gx4 | apply gx5 | apply gx6 | apply gx7 | apply gy8 | apply gz2 | apply gz3) | (with_reducible refine all_v ?_; intro _) | ((with_reducible refine gE ?_); (try simp (disch := omega) only [go_sem, ↓reduceIte, Nat.reduceAdd, Nat.reduceSub, Nat.reduceMul, Nat.reduceEqDiff, Nat.reduceLT, Nat.reduceLeDiff, Nat.reduceBEq, Int.reduceNeg, Int.reduceLT, Int.reduceLE, Int.reduceEq, reduceCtorEq]) <;> first | rfl | omega) | with_reducible refine t_in_other (by decide) ?_ | ((with_reducible apply gy1); iterate 3 focus rfl) | ((with_reducible apply gy2); iterate 3 focus rfl) | ((with_reducible apply gy3); iterate 2 focus rfl) | ((with_reducible apply gy4); iterate 1 focus rfl) | ((with_reducible apply gy5); iterate 4 focus rfl) | ((with_reducible apply gy6); iterate 4 focus rfl) | ((with_reducible apply d_bar); iterate 3 focus rfl) | ((with_reducible apply q_pub); iterate 1 focus rfl) | ((with_reducible apply gy7); iterate 1 focus rfl) | ((with_reducible apply gy9); (focus ((with_reducible refine gE ?_); (try simp (disch := omega) only [go_sem, ↓reduceIte, Nat.reduceAdd, Nat.reduceSub, Nat.reduceMul, Nat.reduceEqDiff, Nat.reduceLT, Nat.reduceLeDiff, Nat.reduceBEq, Int.reduceNeg, Int.reduceLT, Int.reduceLE, Int.reduceEq, reduceCtorEq]) <;> rfl))) | ((with_reducible apply gz1); (focus first | rfl | (simp (disch := omega) only [go_sem, ↓reduceIte, Nat.reduceAdd, Nat.reduceSub, Nat.reduceMul, Nat.reduceEqDiff, Nat.reduceLT, Nat.reduceLeDiff, Nat.reduceBEq, Int.reduceNeg, Int.reduceLT, Int.reduceLE, Int.reduceEq, reduceCtorEq]; done))) | ((with_reducible apply r_drawD (pickR []) [] []); (focus kernel_rfl); (focus rfl); (focus kernel_rfl); (focus (simp only [List.length_cons, List.length_nil, Nat.reduceAdd]; rfl)))))
    simp (disch := omega) only [go_sem, ↓reduceIte, Nat.reduceAdd, Nat.reduceSub, Nat.reduceMul, Nat.reduceEqDiff, Nat.reduceLT, Nat.reduceLeDiff, Nat.reduceBEq, Int.reduceNeg, Int.reduceLT, Int.reduceLE, Int.reduceEq, reduceCtorEq, Bool.and_self]
  · have hd : decide (n = 1) = (((((toL (n / 65536)).length + 1 : Nat) : Int) == 1) && (((n % 65536 : Nat) : Int) == 1)) := by
      have hp := @toL_len_pos (n / 65536)
      rw [Bool.eq_iff_iff]
      simp only [decide_eq_true_eq, Bool.and_eq_true, beq_iff_eq]
      omega
    rw [toL_pos (by omega), hd]
    refine pure_intro (tok := 0) Try.func44 rfl Try.ntmps44 Try.results44 Try.call44 (by rfl) (by simp) ?_
    (repeat' (first | (with_reducible first | refine stp ?_ | apply gx1 | apply gx2 | apply gx3 | apply gx4 | apply gx5 | apply gx6 | apply gx7 | apply gy8 | apply gz2 | apply gz3) | (with_reducible refine all_v ?_; intro _) | ((with_reducible refine gE ?_); (try simp (disch := omega) only [go_sem, ↓reduceIte, Nat.reduceAdd, Nat.reduceSub, Nat.reduceMul, Nat.reduceEqDiff, Nat.reduceLT, Nat.reduceLeDiff, Nat.reduceBEq, Int.reduceNeg, Int.reduceLT, Int.reduceLE, Int.reduceEq, reduceCtorEq, u16s_c]) <;> first | rfl | omega) | with_reducible refine t_in_other (by decide) ?_ | ((with_reducible apply gy1); iterate 3 focus rfl) | ((with_reducible apply gy2); iterate 3 focus rfl) | ((with_reducible apply gy3); iterate 2 focus rfl) | ((with_reducible apply gy4); iterate 1 focus rfl) | ((with_reducible apply gy5); iterate 4 focus rfl) | ((with_reducible apply gy6); iterate 4 focus rfl) | ((with_reducible apply d_bar); iterate 3 focus rfl) | ((with_reducible apply q_pub); iterate 1 focus rfl) | ((with_reducible apply gy7); iterate 1 focus rfl) | ((with_reducible apply gy9); (focus ((with_reducible refine gE ?_); (try simp (disch := omega) only [go_sem, ↓reduceIte, Nat.reduceAdd, Nat.reduceSub, Nat.reduceMul, Nat.reduceEqDiff, Nat.reduceLT, Nat.reduceLeDiff, Nat.reduceBEq, Int.reduceNeg, Int.reduceLT, Int.reduceLE, Int.reduceEq, reduceCtorEq, u16s_c]) <;> rfl))) | ((with_reducible apply gz1); (focus first | rfl | (simp (disch := omega) only [go_sem, ↓reduceIte, Nat.reduceAdd, Nat.reduceSub, Nat.reduceMul, Nat.reduceEqDiff, Nat.reduceLT, Nat.reduceLeDiff, Nat.reduceBEq, Int.reduceNeg, Int.reduceLT, Int.reduceLE, Int.reduceEq, reduceCtorEq, u16s_c]; done))) | ((with_reducible apply r_drawD (pickR []) [] []); (focus kernel_rfl); (focus rfl); (focus kernel_rfl); (focus (simp only [List.length_cons, List.length_nil, Nat.reduceAdd]; rfl)))))
    simp (disch := omega) only [go_sem, ↓reduceIte, Nat.reduceAdd, Nat.reduceSub, Nat.reduceMul, Nat.reduceEqDiff, Nat.reduceLT, Nat.reduceLeDiff, Nat.reduceBEq, Int.reduceNeg, Int.reduceLT, Int.reduceLE, Int.reduceEq, reduceCtorEq]

theorem ratPartsA (s : Bool) (n d : Nat) (h2 : (toL d).length ≤ 10000000) (h0 : d ≠ 0) : Pure Try.prog 43 [ratA s n d] (.tup [intA s n, lim (toL d)]) := by
  have hb : bitsN d ≠ 0 := fun e => h0 (bitsN_zero.1 e)
  refine pure_intro (tok := 0) Try.func43 rfl Try.ntmps43 Try.results43 Try.call43 (by rfl) (by simp) ?_
  (repeat' (first | (with_reducible first | refine stp ?_ | apply gx1 | apply gx2 | apply gx3 | apply gx4 | apply gx5 | apply gx6 | apply gx7 | apply gy8 | apply gz2 | apply gz3 | refine gw0 (nBits d (by omega)) ?_ ?_ | refine gw3 (nBits d (by omega)) ?_ ?_ ?_) | (with_reducible refine all_v ?_; intro _) | ((with_reducible refine gE ?_); (try simp (disch := omega) only [go_sem, ↓reduceIte, Nat.reduceAdd, Nat.reduceSub, Nat.reduceMul, Nat.reduceEqDiff, Nat.reduceLT, Nat.reduceLeDiff, Nat.reduceBEq, Int.reduceNeg, Int.reduceLT, Int.reduceLE, Int.reduceEq, reduceCtorEq]) <;> first | rfl | omega) | with_reducible refine t_in_other (by decide) ?_ | ((with_reducible apply gy1); iterate 3 focus rfl) | ((with_reducible apply gy2); iterate 3 focus rfl) | ((with_reducible apply gy3); iterate 2 focus rfl) | ((with_reducible apply gy4); iterate 1 focus rfl) | ((with_reducible apply gy5); iterate 4 focus rfl) | ((with_reducible apply gy6); iterate 4 focus rfl) | ((with_reducible apply d_bar); iterate 3 focus rfl) | ((with_reducible apply q_pub); iterate 1 focus rfl) | ((with_reducible apply gy7); iterate 1 focus rfl) | ((with_reducible apply gy9); (focus ((with_reducible refine gE ?_); (try simp (disch := omega) only [go_sem, ↓reduceIte, Nat.reduceAdd, Nat.reduceSub, Nat.reduceMul, Nat.reduceEqDiff, Nat.reduceLT, Nat.reduceLeDiff, Nat.reduceBEq, Int.reduceNeg, Int.reduceLT, Int.reduceLE, Int.reduceEq, reduceCtorEq]) <;> rfl))) | ((with_reducible apply gz1); (focus first | rfl | (simp (disch := omega) only [go_sem, ↓reduceIte, Nat.reduceAdd, Nat.reduceSub, Nat.reduceMul, Nat.reduceEqDiff, Nat.reduceLT, Nat.reduceLeDiff, Nat.reduceBEq, Int.reduceNeg, Int.reduceLT, Int.reduceLE, Int.reduceEq, reduceCtorEq]; done))) | ((with_reducible apply r_drawD (pickR []) [] [2]); (focus kernel_rfl); (focus rfl); (focus kernel_rfl); (focus (simp only [List.length_cons, List.length_nil, Nat.reduceAdd]; rfl)))))
  simp (disch := omega) only [go_sem, ↓reduceIte, Nat.reduceAdd, Nat.reduceSub, Nat.reduceMul, Nat.reduceEqDiff, Nat.reduceLT, Nat.reduceLeDiff, Nat.reduceBEq, Int.reduceNeg, Int.reduceLT, Int.reduceLE, Int.reduceEq, reduceCtorEq]
theorem ratParts (q : Rat) {k : Nat} (h : Sz q k) (hk : k ≤ 10000000) : Pure Try.prog 43 [ratQ q] (.tup [intZ q.num, lim (toL q.den)]) :=
  ratPartsA _ _ _ (Nat.le_trans h.2 hk) q.den_nz

set_option maxHeartbeats 1000000 in
theorem ratReduced (s : Bool) (n m : Nat) (hn : (toL n).length ≤ 10000000) (hm : (toL m).length ≤ 10000000) (h0 : m ≠ 0) : Pure Try.prog 45 [intA s n, lim (toL m)] (ratQ (mkRat (zI s n) m)) := by
  have cn := intNorm s n (by omega)
  have hz := zI_natAbs s n
  rw [ratQ_mk _ _ h0]
  generalize zI s n = z at *
  subst hz
  have hmp := toL_len_pos.2 (Nat.pos_of_ne_zero h0)
  have g0 : Nat.gcd z.natAbs m ≠ 0 := Nat.ne_of_gt (Nat.gcd_pos_of_pos_right _ (by omega))
  have hg : (toL (Nat.gcd z.natAbs m)).length ≤ 10000000 := Nat.le_trans (lg_mono (Nat.le_of_dvd (by omega) (Nat.gcd_dvd_right _ _))) hm
  have cg := nGcd z.natAbs m (by omega) (by omega)
  have c1 := ratOne m (by omega)
  have c2 := ratOne (Nat.gcd z.natAbs m) (by omega)
  by_cases hz0 : z.natAbs = 0
  · have hzz : z = 0 := by omega
    subst hzz
    have l0 : (toL 0).length = 0 := by rw [toL_zero]; rfl
    have n0 : Int.natAbs 0 = 0 := rfl
    have hd : decide ((0 : Int) < 0) = false := rfl
    have cn : Pure Try.prog 78 [intA s 0] (.agg [.v (.bool false), lim (toL 0)]) := cn
    rw [n0] at hn ⊢
    rw [Nat.gcd_zero_left, Nat.zero_div, Nat.div_self (by omega), hd]
    refine pure_vkR (r := .agg [.v (.bool false), .v (.slice none 0 0), lim (toL 1)]) ?_ (.aggL (.cons (.refl _) (.cons ?_ (VkL.refl _))))
    · refine pure_intro (tok := 0) Try.func45 rfl Try.ntmps45 Try.results45 Try.call45 (by rfl) (by simp) ?_
      (repeat' (first | (with_reducible first | refine stp ?_ | apply gx1 | apply gx2 | apply gx3 | apply gx4 | apply gx5 | apply gx6 | apply gx7 | apply gy8 | apply gz2 | apply gz3 | refine gw0 (nNorm m (by omega)) ?_ ?_ | refine gw3 (nNorm m (by omega)) ?_ ?_ ?_ | refine gw0 (cn) ?_ ?_ | refine gw3 (cn) ?_ ?_ ?_ | refine gw0 (ratUnit) ?_ ?_ | refine gw3 (ratUnit) ?_ ?_ ?_) | (with_reducible refine all_v ?_; intro _) | ((with_reducible refine gE ?_); (try simp (disch := omega) only [go_sem, ↓reduceIte, Nat.reduceAdd, Nat.reduceSub, Nat.reduceMul, Nat.reduceEqDiff, Nat.reduceLT, Nat.reduceLeDiff, Nat.reduceBEq, Int.reduceNeg, Int.reduceLT, Int.reduceLE, Int.reduceEq, reduceCtorEq, l0]) <;> first | rfl | omega) | with_reducible refine t_in_other (by decide) ?_ | ((with_reducible apply gy1); iterate 3 focus rfl) | ((with_reducible apply gy2); iterate 3 focus rfl) | ((with_reducible apply gy3); iterate 2 focus rfl) | ((with_reducible apply gy4); iterate 1 focus rfl) | ((with_reducible apply gy5); iterate 4 focus rfl) | ((with_reducible apply gy6); iterate 4 focus rfl) | ((with_reducible apply d_bar); iterate 3 focus rfl) | ((with_reducible apply q_pub); iterate 1 focus rfl) | ((with_reducible apply gy7); iterate 1 focus rfl) | ((with_reducible apply gy9); (focus ((with_reducible refine gE ?_); (try simp (disch := omega) only [go_sem, ↓reduceIte, Nat.reduceAdd, Nat.reduceSub, Nat.reduceMul, Nat.reduceEqDiff, Nat.reduceLT, Nat.reduceLeDiff, Nat.reduceBEq, Int.reduceNeg, Int.reduceLT, Int.reduceLE, Int.reduceEq, reduceCtorEq, l0]) <;> rfl))) | ((with_reducible apply gz1); (focus first | rfl | (simp (disch := omega) only [go_sem, ↓reduceIte, Nat.reduceAdd, Nat.reduceSub, Nat.reduceMul, Nat.reduceEqDiff, Nat.reduceLT, Nat.reduceLeDiff, Nat.reduceBEq, Int.reduceNeg, Int.reduceLT, Int.reduceLE, Int.reduceEq, reduceCtorEq, l0]; done))) | ((with_reducible apply r_drawD (pickR []) [] []); (focus kernel_rfl); (focus rfl); (focus kernel_rfl); (focus (simp only [List.length_cons, List.length_nil, Nat.reduceAdd]; rfl)))))
      simp (disch := omega) only [go_sem, ↓reduceIte, Nat.reduceAdd, Nat.reduceSub, Nat.reduceMul, Nat.reduceEqDiff, Nat.reduceLT, Nat.reduceLeDiff, Nat.reduceBEq, Int.reduceNeg, Int.reduceLT, Int.reduceLE, Int.reduceEq, reduceCtorEq]
    · show Vk _ (.sl 1 (u16s (toL 0)))
      rw [toL_zero]
      exact .nil 1
  · have hzp := toL_len_pos.2 (Nat.pos_of_ne_zero hz0)
    by_cases hm1 : m = 1
    · subst hm1
      rw [Nat.gcd_one_right, Nat.div_one, Nat.div_one]
      refine pure_intro (tok := 0) Try.func45 rfl Try.ntmps45 Try.results45 Try.call45 (by rfl) (by simp) ?_
      (repeat' (first | (with_reducible first | refine stp ?_ | apply gx1 | apply gx2 | apply gx3 | apply gx4 | apply gx5 | apply gx6 | apply gx7 | apply gy8 | apply gz2 | apply gz3 | refine gw0 (nNorm 1 (by omega)) ?_ ?_ | refine gw3 (nNorm 1 (by omega)) ?_ ?_ ?_ | refine gw0 (cn) ?_ ?_ | refine gw3 (cn) ?_ ?_ ?_ | refine gw0 (c1) ?_ ?_ | refine gw3 (c1) ?_ ?_ ?_) | (with_reducible refine all_v ?_; intro _) | ((with_reducible refine gE ?_); (try simp (disch := omega) only [go_sem, ↓reduceIte, Nat.reduceAdd, Nat.reduceSub, Nat.reduceMul, Nat.reduceEqDiff, Nat.reduceLT, Nat.reduceLeDiff, Nat.reduceBEq, Int.reduceNeg, Int.reduceLT, Int.reduceLE, Int.reduceEq, reduceCtorEq]) <;> first | rfl | omega) | with_reducible refine t_in_other (by decide) ?_ | ((with_reducible apply gy1); iterate 3 focus rfl) | ((with_reducible apply gy2); iterate 3 focus rfl) | ((with_reducible apply gy3); iterate 2 focus rfl) | ((with_reducible apply gy4); iterate 1 focus rfl) | ((with_reducible apply gy5); iterate 4 focus rfl) | ((with_reducible apply gy6); iterate 4 focus rfl) | ((with_reducible apply d_bar); iterate 3 focus rfl) | ((with_reducible apply q_pub); iterate 1 focus rfl) | ((with_reducible apply gy7); iterate 1 focus rfl) | ((with_reducible apply gy9); (focus ((with_reducible refine gE ?_); (try simp (disch := omega) only [go_sem, ↓reduceIte, Nat.reduceAdd, Nat.reduceSub, Nat.reduceMul, Nat.reduceEqDiff, Nat.reduceLT, Nat.reduceLeDiff, Nat.reduceBEq, Int.reduceNeg, Int.reduceLT, Int.reduceLE, Int.reduceEq, reduceCtorEq]) <;> rfl))) | ((with_reducible apply gz1); (focus first | rfl | (simp (disch := omega) only [go_sem, ↓reduceIte, Nat.reduceAdd, Nat.reduceSub, Nat.reduceMul, Nat.reduceEqDiff, Nat.reduceLT, Nat.reduceLeDiff, Nat.reduceBEq, Int.reduceNeg, Int.reduceLT, Int.reduceLE, Int.reduceEq, reduceCtorEq]; done))) | ((with_reducible apply r_drawD (pickR []) [] []); (focus kernel_rfl); (focus rfl); (focus kernel_rfl); (focus (simp only [List.length_cons, List.length_nil, Nat.reduceAdd]; rfl)))))
      simp (disch := omega) only [go_sem, ↓reduceIte, Nat.reduceAdd, Nat.reduceSub, Nat.reduceMul, Nat.reduceEqDiff, Nat.reduceLT, Nat.reduceLeDiff, Nat.reduceBEq, Int.reduceNeg, Int.reduceLT, Int.reduceLE, Int.reduceEq, reduceCtorEq]
    · have d1 : decide (m = 1) = false := decide_eq_false hm1
      rw [d1] at c1
      by_cases hg1 : Nat.gcd z.natAbs m = 1
      · have d2 : decide (Nat.gcd z.natAbs m = 1) = true := decide_eq_true hg1
        rw [d2] at c2
        rw [hg1, Nat.div_one, Nat.div_one]
        refine pure_intro (tok := 0) Try.func45 rfl Try.ntmps45 Try.results45 Try.call45 (by rfl) (by simp) ?_
        (repeat' (first | (with_reducible first | refine stp ?_ | apply gx1 | apply gx2 | apply gx3 | apply gx4 | apply gx5 | apply gx6 | apply gx7 | apply gy8 | apply gz2 | apply gz3 | refine gw0 (nNorm m (by omega)) ?_ ?_ | refine gw3 (nNorm m (by omega)) ?_ ?_ ?_ | refine gw0 (cn) ?_ ?_ | refine gw3 (cn) ?_ ?_ ?_ | refine gw0 (c1) ?_ ?_ | refine gw3 (c1) ?_ ?_ ?_ | refine gw0 (cg) ?_ ?_ | refine gw3 (cg) ?_ ?_ ?_ | refine gw0 (c2) ?_ ?_ | refine gw3 (c2) ?_ ?_ ?_) | (with_reducible refine all_v ?_; intro _) | ((with_reducible refine gE ?_); (try simp (disch := omega) only [go_sem, ↓reduceIte, Nat.reduceAdd, Nat.reduceSub, Nat.reduceMul, Nat.reduceEqDiff, Nat.reduceLT, Nat.reduceLeDiff, Nat.reduceBEq, Int.reduceNeg, Int.reduceLT, Int.reduceLE, Int.reduceEq, reduceCtorEq]) <;> first | rfl | omega) | with_reducible refine t_in_other (by decide) ?_ | ((with_reducible apply gy1); iterate 3 focus rfl) | ((with_reducible apply gy2); iterate 3 focus rfl) | ((with_reducible apply gy3); iterate 2 focus rfl) | ((with_reducible apply gy4); iterate 1 focus rfl) | ((with_reducible apply gy5); iterate 4 focus rfl) | ((with_reducible apply gy6); iterate 4 focus rfl) | ((with_reducible apply d_bar); iterate 3 focus rfl) | ((with_reducible apply q_pub); iterate 1 focus rfl) | ((with_reducible apply gy7); iterate 1 focus rfl) | ((with_reducible apply gy9); (focus ((with_reducible refine gE ?_); (try simp (disch := omega) only [go_sem, ↓reduceIte, Nat.reduceAdd, Nat.reduceSub, Nat.reduceMul, Nat.reduceEqDiff, Nat.reduceLT, Nat.reduceLeDiff, Nat.reduceBEq, Int.reduceNeg, Int.reduceLT, Int.reduceLE, Int.reduceEq, reduceCtorEq]) <;> rfl))) | ((with_reducible apply gz1); (focus first | rfl | (simp (disch := omega) only [go_sem, ↓reduceIte, Nat.reduceAdd, Nat.reduceSub, Nat.reduceMul, Nat.reduceEqDiff, Nat.reduceLT, Nat.reduceLeDiff, Nat.reduceBEq, Int.reduceNeg, Int.reduceLT, Int.reduceLE, Int.reduceEq, reduceCtorEq]; done))) | ((with_reducible apply r_drawD (pickR []) [] []); (focus kernel_rfl); (focus rfl); (focus kernel_rfl); (focus (simp only [List.length_cons, List.length_nil, Nat.reduceAdd]; rfl)))))
        simp (disch := omega) only [go_sem, ↓reduceIte, Nat.reduceAdd, Nat.reduceSub, Nat.reduceMul, Nat.reduceEqDiff, Nat.reduceLT, Nat.reduceLeDiff, Nat.reduceBEq, Int.reduceNeg, Int.reduceLT, Int.reduceLE, Int.reduceEq, reduceCtorEq]
      · have d2 : decide (Nat.gcd z.natAbs m = 1) = false := decide_eq_false hg1
        rw [d2] at c2
        refine pure_intro (tok := 0) Try.func45 rfl Try.ntmps45 Try.results45 Try.call45 (by rfl) (by simp) ?_
        (repeat' (first | (with_reducible first | refine stp ?_ | apply gx1 | apply gx2 | apply gx3 | apply gx4 | apply gx5 | apply gx6 | apply gx7 | apply gy8 | apply gz2 | apply gz3 | refine gw0 (nNorm m (by omega)) ?_ ?_ | refine gw3 (nNorm m (by omega)) ?_ ?_ ?_ | refine gw0 (cn) ?_ ?_ | refine gw3 (cn) ?_ ?_ ?_ | refine gw0 (c1) ?_ ?_ | refine gw3 (c1) ?_ ?_ ?_ | refine gw0 (cg) ?_ ?_ | refine gw3 (cg) ?_ ?_ ?_ | refine gw0 (c2) ?_ ?_ | refine gw3 (c2) ?_ ?_ ?_ | refine gw0 (nDivMod z.natAbs (Nat.gcd z.natAbs m) (by omega) (by omega) g0) ?_ ?_ | refine gw3 (nDivMod z.natAbs (Nat.gcd z.natAbs m) (by omega) (by omega) g0) ?_ ?_ ?_ | refine gw0 (nDivMod m (Nat.gcd z.natAbs m) (by omega) (by omega) g0) ?_ ?_ | refine gw3 (nDivMod m (Nat.gcd z.natAbs m) (by omega) (by omega) g0) ?_ ?_ ?_) | (with_reducible refine all_v ?_; intro _) | ((with_reducible refine gE ?_); (try simp (disch := omega) only [go_sem, ↓reduceIte, Nat.reduceAdd, Nat.reduceSub, Nat.reduceMul, Nat.reduceEqDiff, Nat.reduceLT, Nat.reduceLeDiff, Nat.reduceBEq, Int.reduceNeg, Int.reduceLT, Int.reduceLE, Int.reduceEq, reduceCtorEq]) <;> first | rfl | omega) | with_reducible refine t_in_other (by decide) ?_ | ((with_reducible apply gy1); iterate 3 focus rfl) | ((with_reducible apply gy2); iterate 3 focus rfl) | ((with_reducible apply gy3); iterate 2 focus rfl) | ((with_reducible apply gy4); iterate 1 focus rfl) | ((with_reducible apply gy5); iterate 4 focus rfl) | ((with_reducible apply gy6); iterate 4 focus rfl) | ((with_reducible apply d_bar); iterate 3 focus rfl) | ((with_reducible apply q_pub); iterate 1 focus rfl) | ((with_reducible apply gy7); iterate 1 focus rfl) | ((with_reducible apply gy9); (focus ((with_reducible refine gE ?_); (try simp (disch := omega) only [go_sem, ↓reduceIte, Nat.reduceAdd, Nat.reduceSub, Nat.reduceMul, Nat.reduceEqDiff, Nat.reduceLT, Nat.reduceLeDiff, Nat.reduceBEq, Int.reduceNeg, Int.reduceLT, Int.reduceLE, Int.reduceEq, reduceCtorEq]) <;> rfl))) | ((with_reducible apply gz1); (focus first | rfl | (simp (disch := omega) only [go_sem, ↓reduceIte, Nat.reduceAdd, Nat.reduceSub, Nat.reduceMul, Nat.reduceEqDiff, Nat.reduceLT, Nat.reduceLeDiff, Nat.reduceBEq, Int.reduceNeg, Int.reduceLT, Int.reduceLE, Int.reduceEq, reduceCtorEq]; done))) | ((with_reducible apply r_drawD (pickR []) [] []); (focus kernel_rfl); (focus rfl); (focus kernel_rfl); (focus (simp only [List.length_cons, List.length_nil, Nat.reduceAdd]; rfl)))))
        simp (disch := omega) only [go_sem, ↓reduceIte, Nat.reduceAdd, Nat.reduceSub, Nat.reduceMul, Nat.reduceEqDiff, Nat.reduceLT, Nat.reduceLeDiff, Nat.reduceBEq, Int.reduceNeg, Int.reduceLT, Int.reduceLE, Int.reduceEq, reduceCtorEq]

set_option maxHeartbeats 1000000 in
theorem ratMake (z w : Int) (hz : (toL z.natAbs).length ≤ 10000000) (hw : (toL w.natAbs).length ≤ 10000000) (h0 : w ≠ 0) : Pure Try.prog 41 [intZ z, intZ w] (.tup [ratQ (Rat.divInt z w), .v (.int .i64 0)]) := by
  have e : Rat.divInt z w = mkRat (zI (decide (z < 0) != decide (w < 0)) z.natAbs) w.natAbs := by
    have ez := zI_abs z
    unfold zI at ez ⊢
    rcases (by omega : w < 0 ∨ 0 < w) with h | h
    · rw [decide_eq_true h]
      have hw1 : w = -((w.natAbs : Nat) : Int) := by omega
      rw [show Rat.divInt z w = Rat.divInt z (-((w.natAbs : Nat) : Int)) by rw [← hw1], Rat.divInt_neg', Rat.divInt_ofNat]
      congr 1
      by_cases h1 : z < 0
      · simp only [decide_eq_true h1, bne_self_eq_false, Bool.false_eq_true, if_false]; omega
      · simp only [decide_eq_false h1, Bool.false_bne, if_true]; omega
    · rw [decide_eq_false (by omega : ¬ w < 0)]
      have hw1 : w = ((w.natAbs : Nat) : Int) := by omega
      rw [show Rat.divInt z w = Rat.divInt z ((w.natAbs : Nat) : Int) by rw [← hw1], Rat.divInt_ofNat]
      congr 1
      by_cases h1 : z < 0
      · simp only [decide_eq_true h1, Bool.bne_false, if_true]; omega
      · simp only [decide_eq_false h1, bne_self_eq_false, Bool.false_eq_true, if_false]; omega
  have c := ratReduced (decide (z < 0) != decide (w < 0)) z.natAbs w.natAbs hz hw (by omega)
  rw [← e] at c
  have cs := iSign w (by omega)
  have hs : w.sign ≠ 0 := fun h => h0 (Int.sign_eq_zero_iff_zero.1 h)
  refine pure_intro (tok := 0) Try.func41 rfl Try.ntmps41 Try.results41 Try.call41 (by rfl) (by simp) ?_
  have hne (a b : Bool) : (!(a == b)) = (a != b) := rfl
  (repeat' (first | (with_reducible first | refine stp ?_ | apply gx1 | apply gx2 | apply gx3 | apply gx4 | apply gx5 | apply gx6 | apply gx7 | apply gy8 | apply gz2 | apply gz3 | refine gw0 (cs) ?_ ?_ | refine gw3 (cs) ?_ ?_ ?_ | refine gw0 (c) ?_ ?_ | refine gw3 (c) ?_ ?_ ?_) | (with_reducible refine all_v ?_; intro _) | ((with_reducible refine gE ?_); (try simp (disch := omega) only [go_sem, ↓reduceIte, Nat.reduceAdd, Nat.reduceSub, Nat.reduceMul, Nat.reduceEqDiff, Nat.reduceLT, Nat.reduceLeDiff, Nat.reduceBEq, Int.reduceNeg, Int.reduceLT, Int.reduceLE, Int.reduceEq, reduceCtorEq, hne]) <;> first | rfl | omega) | with_reducible refine t_in_other (by decide) ?_ | ((with_reducible apply gy1); iterate 3 focus rfl) | ((with_reducible apply gy2); iterate 3 focus rfl) | ((with_reducible apply gy3); iterate 2 focus rfl) | ((with_reducible apply gy4); iterate 1 focus rfl) | ((with_reducible apply gy5); iterate 4 focus rfl) | ((with_reducible apply gy6); iterate 4 focus rfl) | ((with_reducible apply d_bar); iterate 3 focus rfl) | ((with_reducible apply q_pub); iterate 1 focus rfl) | ((with_reducible apply gy7); iterate 1 focus rfl) | ((with_reducible apply gy9); (focus ((with_reducible refine gE ?_); (try simp (disch := omega) only [go_sem, ↓reduceIte, Nat.reduceAdd, Nat.reduceSub, Nat.reduceMul, Nat.reduceEqDiff, Nat.reduceLT, Nat.reduceLeDiff, Nat.reduceBEq, Int.reduceNeg, Int.reduceLT, Int.reduceLE, Int.reduceEq, reduceCtorEq, hne]) <;> rfl))) | ((with_reducible apply gz1); (focus first | rfl | (simp (disch := omega) only [go_sem, ↓reduceIte, Nat.reduceAdd, Nat.reduceSub, Nat.reduceMul, Nat.reduceEqDiff, Nat.reduceLT, Nat.reduceLeDiff, Nat.reduceBEq, Int.reduceNeg, Int.reduceLT, Int.reduceLE, Int.reduceEq, reduceCtorEq, hne]; done))) | ((with_reducible apply r_drawD (pickR []) [] []); (focus kernel_rfl); (focus rfl); (focus kernel_rfl); (focus (simp only [List.length_cons, List.length_nil, Nat.reduceAdd]; rfl)))))
  simp (disch := omega) only [go_sem, ↓reduceIte, Nat.reduceAdd, Nat.reduceSub, Nat.reduceMul, Nat.reduceEqDiff, Nat.reduceLT, Nat.reduceLeDiff, Nat.reduceBEq, Int.reduceNeg, Int.reduceLT, Int.reduceLE, Int.reduceEq, reduceCtorEq]
theorem ratMake0 (z w : Int) (hw : w = 0) : Pure Try.prog 41 [intZ z, intZ w] (.tup [.agg [.v (.bool false), .v (.slice none 0 0), .v (.slice none 0 0)], .v (.int .i64 3)]) := by
  subst hw
  have cs := iSign 0 (by show (toL 0).length ≤ _; rw [toL_zero]; simp)
  have hs : Int.sign 0 = 0 := rfl
  rw [hs] at cs
  have cs : Pure Try.prog 73 [.agg [.v (.bool false), lim (toL (Int.natAbs 0))]] (.v (.int .i64 0)) := cs
  refine pure_intro (tok := 0) Try.func41 rfl Try.ntmps41 Try.results41 Try.call41 (by rfl) (by simp) ?_
  (repeat' (first | (with_reducible first | refine stp ?_ | apply gx1 | apply gx2 | apply gx3 | apply gx4 | apply gx5 | apply gx6 | apply gx7 | apply gy8 | apply gz2 | apply gz3 | refine gw0 (cs) ?_ ?_ | refine gw3 (cs) ?_ ?_ ?_) | (with_reducible refine all_v ?_; intro _) | ((with_reducible refine gE ?_); (try simp (disch := omega) only [go_sem, ↓reduceIte, Nat.reduceAdd, Nat.reduceSub, Nat.reduceMul, Nat.reduceEqDiff, Nat.reduceLT, Nat.reduceLeDiff, Nat.reduceBEq, Int.reduceNeg, Int.reduceLT, Int.reduceLE, Int.reduceEq, reduceCtorEq]) <;> first | rfl | omega) | with_reducible refine t_in_other (by decide) ?_ | ((with_reducible apply gy1); iterate 3 focus rfl) | ((with_reducible apply gy2); iterate 3 focus rfl) | ((with_reducible apply gy3); iterate 2 focus rfl) | ((with_reducible apply gy4); iterate 1 focus rfl) | ((with_reducible apply gy5); iterate 4 focus rfl) | ((with_reducible apply gy6); iterate 4 focus rfl) | ((with_reducible apply d_bar); iterate 3 focus rfl) | ((with_reducible apply q_pub); iterate 1 focus rfl) | ((with_reducible apply gy7); iterate 1 focus rfl) | ((with_reducible apply gy9); (focus ((with_reducible refine gE ?_); (try simp (disch := omega) only [go_sem, ↓reduceIte, Nat.reduceAdd, Nat.reduceSub, Nat.reduceMul, Nat.reduceEqDiff, Nat.reduceLT, Nat.reduceLeDiff, Nat.reduceBEq, Int.reduceNeg, Int.reduceLT, Int.reduceLE, Int.reduceEq, reduceCtorEq]) <;> rfl))) | ((with_reducible apply gz1); (focus first | rfl | (simp (disch := omega) only [go_sem, ↓reduceIte, Nat.reduceAdd, Nat.reduceSub, Nat.reduceMul, Nat.reduceEqDiff, Nat.reduceLT, Nat.reduceLeDiff, Nat.reduceBEq, Int.reduceNeg, Int.reduceLT, Int.reduceLE, Int.reduceEq, reduceCtorEq]; done))) | ((with_reducible apply r_drawD (pickR []) [] []); (focus kernel_rfl); (focus rfl); (focus kernel_rfl); (focus (simp only [List.length_cons, List.length_nil, Nat.reduceAdd]; rfl)))))
  simp (disch := omega) only [go_sem, ↓reduceIte, Nat.reduceAdd, Nat.reduceSub, Nat.reduceMul, Nat.reduceEqDiff, Nat.reduceLT, Nat.reduceLeDiff, Nat.reduceBEq, Int.reduceNeg, Int.reduceLT, Int.reduceLE, Int.reduceEq, reduceCtorEq]

theorem ratSign (q : Rat) {k : Nat} (h : Sz q k) (hk : k ≤ 10000000) : Pure Try.prog 71 [ratQ q] (.v (.int .i64 q.num.sign)) := by
  have h1 := h.1
  refine pure_intro (tok := 0) Try.func71 rfl Try.ntmps71 Try.results71 Try.call71 (by rfl) (by simp) ?_
  (repeat' (first | (with_reducible first | refine stp ?_ | apply gx1 | apply gx2 | apply gx3 | apply gx4 | apply gx5 | apply gx6 | apply gx7 | apply gy8 | apply gz2 | apply gz3 | refine gw0 (ratParts q h hk) ?_ ?_ | refine gw3 (ratParts q h hk) ?_ ?_ ?_ | refine gw0 (iSign q.num (by omega)) ?_ ?_ | refine gw3 (iSign q.num (by omega)) ?_ ?_ ?_) | (with_reducible refine all_v ?_; intro _) | ((with_reducible refine gE ?_); (try simp (disch := omega) only [go_sem, ↓reduceIte, Nat.reduceAdd, Nat.reduceSub, Nat.reduceMul, Nat.reduceEqDiff, Nat.reduceLT, Nat.reduceLeDiff, Nat.reduceBEq, Int.reduceNeg, Int.reduceLT, Int.reduceLE, Int.reduceEq, reduceCtorEq]) <;> first | rfl | omega) | with_reducible refine t_in_other (by decide) ?_ | ((with_reducible apply gy1); iterate 3 focus rfl) | ((with_reducible apply gy2); iterate 3 focus rfl) | ((with_reducible apply gy3); iterate 2 focus rfl) | ((with_reducible apply gy4); iterate 1 focus rfl) | ((with_reducible apply gy5); iterate 4 focus rfl) | ((with_reducible apply gy6); iterate 4 focus rfl) | ((with_reducible apply d_bar); iterate 3 focus rfl) | ((with_reducible apply q_pub); iterate 1 focus rfl) | ((with_reducible apply gy7); iterate 1 focus rfl) | ((with_reducible apply gy9); (focus ((with_reducible refine gE ?_); (try simp (disch := omega) only [go_sem, ↓reduceIte, Nat.reduceAdd, Nat.reduceSub, Nat.reduceMul, Nat.reduceEqDiff, Nat.reduceLT, Nat.reduceLeDiff, Nat.reduceBEq, Int.reduceNeg, Int.reduceLT, Int.reduceLE, Int.reduceEq, reduceCtorEq]) <;> rfl))) | ((with_reducible apply gz1); (focus first | rfl | (simp (disch := omega) only [go_sem, ↓reduceIte, Nat.reduceAdd, Nat.reduceSub, Nat.reduceMul, Nat.reduceEqDiff, Nat.reduceLT, Nat.reduceLeDiff, Nat.reduceBEq, Int.reduceNeg, Int.reduceLT, Int.reduceLE, Int.reduceEq, reduceCtorEq]; done))) | ((with_reducible apply r_drawD (pickR []) [] []); (focus kernel_rfl); (focus rfl); (focus kernel_rfl); (focus (simp only [List.length_cons, List.length_nil, Nat.reduceAdd]; rfl)))))
  simp (disch := omega) only [go_sem, ↓reduceIte, Nat.reduceAdd, Nat.reduceSub, Nat.reduceMul, Nat.reduceEqDiff, Nat.reduceLT, Nat.reduceLeDiff, Nat.reduceBEq, Int.reduceNeg, Int.reduceLT, Int.reduceLE, Int.reduceEq, reduceCtorEq]

theorem ratFloor (q : Rat) {k : Nat} (h : Sz q k) (hk : k ≤ 10000000) : Pure Try.prog 51 [ratQ q] (intZ q.floor) := by
  have h1 := h.1
  have h2 := h.2
  have cd := iDivMod q.num q.den (by omega) (by omega) q.den_nz
  rw [Rat.floor_def]
  generalize q.num / (q.den : Int) = fz at *
  generalize q.num % (q.den : Int) = fr at *
  refine pure_intro (tok := 0) Try.func51 rfl Try.ntmps51 Try.results51 Try.call51 (by rfl) (by simp) ?_
  (repeat' (first | (with_reducible first | refine stp ?_ | apply gx1 | apply gx2 | apply gx3 | apply gx4 | apply gx5 | apply gx6 | apply gx7 | apply gy8 | apply gz2 | apply gz3 | refine gw0 (ratParts q h hk) ?_ ?_ | refine gw3 (ratParts q h hk) ?_ ?_ ?_ | refine gw0 (ratWhole q.den) ?_ ?_ | refine gw3 (ratWhole q.den) ?_ ?_ ?_ | refine gw0 (cd) ?_ ?_ | refine gw3 (cd) ?_ ?_ ?_) | (with_reducible refine all_v ?_; intro _) | ((with_reducible refine gE ?_); (try simp (disch := omega) only [go_sem, ↓reduceIte, Nat.reduceAdd, Nat.reduceSub, Nat.reduceMul, Nat.reduceEqDiff, Nat.reduceLT, Nat.reduceLeDiff, Nat.reduceBEq, Int.reduceNeg, Int.reduceLT, Int.reduceLE, Int.reduceEq, reduceCtorEq]) <;> first | rfl | omega) | with_reducible refine t_in_other (by decide) ?_ | ((with_reducible apply gy1); iterate 3 focus rfl) | ((with_reducible apply gy2); iterate 3 focus rfl) | ((with_reducible apply gy3); iterate 2 focus rfl) | ((with_reducible apply gy4); iterate 1 focus rfl) | ((with_reducible apply gy5); iterate 4 focus rfl) | ((with_reducible apply gy6); iterate 4 focus rfl) | ((with_reducible apply d_bar); iterate 3 focus rfl) | ((with_reducible apply q_pub); iterate 1 focus rfl) | ((with_reducible apply gy7); iterate 1 focus rfl) | ((with_reducible apply gy9); (focus ((with_reducible refine gE ?_); (try simp (disch := omega) only [go_sem, ↓reduceIte, Nat.reduceAdd, Nat.reduceSub, Nat.reduceMul, Nat.reduceEqDiff, Nat.reduceLT, Nat.reduceLeDiff, Nat.reduceBEq, Int.reduceNeg, Int.reduceLT, Int.reduceLE, Int.reduceEq, reduceCtorEq]) <;> rfl))) | ((with_reducible apply gz1); (focus first | rfl | (simp (disch := omega) only [go_sem, ↓reduceIte, Nat.reduceAdd, Nat.reduceSub, Nat.reduceMul, Nat.reduceEqDiff, Nat.reduceLT, Nat.reduceLeDiff, Nat.reduceBEq, Int.reduceNeg, Int.reduceLT, Int.reduceLE, Int.reduceEq, reduceCtorEq]; done))) | ((with_reducible apply r_drawD (pickR [(2, intA false q.den), (3, .tup [intZ fz, intZ fr, .v (.int .i64 0)])]) [] [5,6]); (focus kernel_rfl); (focus rfl); (focus kernel_rfl); (focus (simp only [List.length_cons, List.length_nil, Nat.reduceAdd]; rfl)))))
  simp (disch := omega) only [go_sem, ↓reduceIte, Nat.reduceAdd, Nat.reduceSub, Nat.reduceMul, Nat.reduceEqDiff, Nat.reduceLT, Nat.reduceLeDiff, Nat.reduceBEq, Int.reduceNeg, Int.reduceLT, Int.reduceLE, Int.reduceEq, reduceCtorEq]

theorem ratSumA (s t : Bool) (n m : Nat) (hn : (toL n).length ≤ 100000000) (hm : (toL m).length ≤ 100000000) : Pure Try.prog 46 [.sl 2 [intA s n, intA t m]] (intZ (zI s n + zI t m)) := by
  have cz := iAdd0 s n hn
  have ca := iAddA (zI s n) t m (by rw [zI_natAbs]; exact hn) hm
  generalize zI s n = z at *
  generalize zI t m = w at *
  refine pure_intro (tok := 0) Try.func46 rfl Try.ntmps46 Try.results46 Try.call46 (by rfl) (by simp) ?_
  (repeat' (first | (with_reducible first | refine stp ?_ | apply gx1 | apply gx2 | apply gx3 | apply gx4 | apply gx5 | apply gx6 | apply gx7 | apply gy8 | apply gz2 | apply gz3) | (with_reducible refine all_v ?_; intro _) | ((with_reducible refine gE ?_); (try simp (disch := omega) only [go_sem, ↓reduceIte, Nat.reduceAdd, Nat.reduceSub, Nat.reduceMul, Nat.reduceEqDiff, Nat.reduceLT, Nat.reduceLeDiff, Nat.reduceBEq, Int.reduceNeg, Int.reduceLT, Int.reduceLE, Int.reduceEq, reduceCtorEq]) <;> first | rfl | omega) | with_reducible refine t_in_other (by decide) ?_ | ((with_reducible apply gy1); iterate 3 focus rfl) | ((with_reducible apply gy2); iterate 3 focus rfl) | ((with_reducible apply gy3); iterate 2 focus rfl) | ((with_reducible apply gy4); iterate 1 focus rfl) | ((with_reducible apply gy5); iterate 4 focus rfl) | ((with_reducible apply gy6); iterate 4 focus rfl) | ((with_reducible apply d_bar); iterate 3 focus rfl) | ((with_reducible apply q_pub); iterate 1 focus rfl) | ((with_reducible apply gy7); iterate 1 focus rfl) | ((with_reducible apply gy9); (focus ((with_reducible refine gE ?_); (try simp (disch := omega) only [go_sem, ↓reduceIte, Nat.reduceAdd, Nat.reduceSub, Nat.reduceMul, Nat.reduceEqDiff, Nat.reduceLT, Nat.reduceLeDiff, Nat.reduceBEq, Int.reduceNeg, Int.reduceLT, Int.reduceLE, Int.reduceEq, reduceCtorEq]) <;> rfl))) | ((with_reducible apply gz1); (focus first | rfl | (simp (disch := omega) only [go_sem, ↓reduceIte, Nat.reduceAdd, Nat.reduceSub, Nat.reduceMul, Nat.reduceEqDiff, Nat.reduceLT, Nat.reduceLeDiff, Nat.reduceBEq, Int.reduceNeg, Int.reduceLT, Int.reduceLE, Int.reduceEq, reduceCtorEq]; done))) | ((with_reducible apply r_drawD (pickR []) [] []); (focus kernel_rfl); (focus rfl); (focus kernel_rfl); (focus (simp only [List.length_cons, List.length_nil, Nat.reduceAdd]; rfl)))))
  refine r_loopE (ι := Nat) (fun k e mm => k ≤ 2 ∧ e 6 = .sl 2 [intA s n, intA t m] ∧ e 7 = .v (.int .i64 2) ∧ e 8 = .v (.int .i64 (k : Int)) ∧ ∃ g2 g, e 2 = .pbox 2 g2 0 ∧ mm 2 = some (.box g2 33 [.v (.bool false), .v (.slice none 0 0)] false) ∧ e 3 = .pbox 3 g 0 ∧ mm 3 = some (.box g 33 (sumC z w k) false)) (fun k => 2 - k) 0 (by rfl) ?_ ?_
  · rintro k e mm ⟨hk, e6, e7, e8, g2, g, e2, m2, e3, m3⟩
    match k, hk with
    | 0, _ =>
      simp only [sumC] at m3
      (repeat' (first | (with_reducible first | refine stp ?_ | apply gx1 | apply gx2 | apply gx3 | apply gx4 | apply gx5 | apply gx6 | apply gx7 | apply gy8 | apply gz2 | apply gz3 | refine gw0 (cz) ?_ ?_ | refine gw3 (cz) ?_ ?_ ?_) | (with_reducible refine all_v ?_; intro _) | ((with_reducible refine gE ?_); (try simp (disch := omega) only [go_sem, ↓reduceIte, Nat.reduceAdd, Nat.reduceSub, Nat.reduceMul, Nat.reduceEqDiff, Nat.reduceLT, Nat.reduceLeDiff, Nat.reduceBEq, Int.reduceNeg, Int.reduceLT, Int.reduceLE, Int.reduceEq, reduceCtorEq, e6, e7, e8, e2, m2, e3, m3, Int.natCast_zero]) <;> first | rfl | omega) | with_reducible refine t_in_other (by decide) ?_ | ((with_reducible apply gy1); iterate 3 focus rfl) | ((with_reducible apply gy2); iterate 3 focus rfl) | ((with_reducible apply gy3); iterate 2 focus rfl) | ((with_reducible apply gy4); iterate 1 focus rfl) | ((with_reducible apply gy5); iterate 4 focus rfl) | ((with_reducible apply gy6); iterate 4 focus rfl) | ((with_reducible apply d_bar); iterate 3 focus rfl) | ((with_reducible apply q_pub); iterate 1 focus rfl) | ((with_reducible apply gy7); iterate 1 focus rfl) | ((with_reducible apply gy9); (focus ((with_reducible refine gE ?_); (try simp (disch := omega) only [go_sem, ↓reduceIte, Nat.reduceAdd, Nat.reduceSub, Nat.reduceMul, Nat.reduceEqDiff, Nat.reduceLT, Nat.reduceLeDiff, Nat.reduceBEq, Int.reduceNeg, Int.reduceLT, Int.reduceLE, Int.reduceEq, reduceCtorEq, e6, e7, e8, e2, m2, e3, m3, Int.natCast_zero]) <;> rfl))) | ((with_reducible apply gz1); (focus first | rfl | (simp (disch := omega) only [go_sem, ↓reduceIte, Nat.reduceAdd, Nat.reduceSub, Nat.reduceMul, Nat.reduceEqDiff, Nat.reduceLT, Nat.reduceLeDiff, Nat.reduceBEq, Int.reduceNeg, Int.reduceLT, Int.reduceLE, Int.reduceEq, reduceCtorEq, e6, e7, e8, e2, m2, e3, m3, Int.natCast_zero]; done))) | ((with_reducible apply r_drawD (pickR []) [] []); (focus kernel_rfl); (focus rfl); (focus kernel_rfl); (focus (simp only [List.length_cons, List.length_nil, Nat.reduceAdd]; rfl)))))
      exact ⟨1, ⟨by omega, by exact gW e6, by exact gW e7, by exact gW e8, g2, g, by exact gW e2, by exact gW m2, by exact gW e3, by (simp (disch := omega) only [go_sem, ↓reduceIte, Nat.reduceAdd, Nat.reduceSub, Nat.reduceMul, Nat.reduceEqDiff, Nat.reduceLT, Nat.reduceLeDiff, Nat.reduceBEq, Int.reduceNeg, Int.reduceLT, Int.reduceLE, Int.reduceEq, reduceCtorEq, m3, sumC] <;> repeat' first | rfl | refine ⟨?_, ?_⟩)⟩, by omega⟩
    | 1, _ =>
      simp only [sumC] at m3
      (repeat' (first | (with_reducible first | refine stp ?_ | apply gx1 | apply gx2 | apply gx3 | apply gx4 | apply gx5 | apply gx6 | apply gx7 | apply gy8 | apply gz2 | apply gz3 | refine gw0 (ca) ?_ ?_ | refine gw3 (ca) ?_ ?_ ?_) | (with_reducible refine all_v ?_; intro _) | ((with_reducible refine gE ?_); (try simp (disch := omega) only [go_sem, ↓reduceIte, Nat.reduceAdd, Nat.reduceSub, Nat.reduceMul, Nat.reduceEqDiff, Nat.reduceLT, Nat.reduceLeDiff, Nat.reduceBEq, Int.reduceNeg, Int.reduceLT, Int.reduceLE, Int.reduceEq, reduceCtorEq, e6, e7, e8, e2, m2, e3, m3, Int.natCast_one]) <;> first | rfl | omega) | with_reducible refine t_in_other (by decide) ?_ | ((with_reducible apply gy1); iterate 3 focus rfl) | ((with_reducible apply gy2); iterate 3 focus rfl) | ((with_reducible apply gy3); iterate 2 focus rfl) | ((with_reducible apply gy4); iterate 1 focus rfl) | ((with_reducible apply gy5); iterate 4 focus rfl) | ((with_reducible apply gy6); iterate 4 focus rfl) | ((with_reducible apply d_bar); iterate 3 focus rfl) | ((with_reducible apply q_pub); iterate 1 focus rfl) | ((with_reducible apply gy7); iterate 1 focus rfl) | ((with_reducible apply gy9); (focus ((with_reducible refine gE ?_); (try simp (disch := omega) only [go_sem, ↓reduceIte, Nat.reduceAdd, Nat.reduceSub, Nat.reduceMul, Nat.reduceEqDiff, Nat.reduceLT, Nat.reduceLeDiff, Nat.reduceBEq, Int.reduceNeg, Int.reduceLT, Int.reduceLE, Int.reduceEq, reduceCtorEq, e6, e7, e8, e2, m2, e3, m3, Int.natCast_one]) <;> rfl))) | ((with_reducible apply gz1); (focus first | rfl | (simp (disch := omega) only [go_sem, ↓reduceIte, Nat.reduceAdd, Nat.reduceSub, Nat.reduceMul, Nat.reduceEqDiff, Nat.reduceLT, Nat.reduceLeDiff, Nat.reduceBEq, Int.reduceNeg, Int.reduceLT, Int.reduceLE, Int.reduceEq, reduceCtorEq, e6, e7, e8, e2, m2, e3, m3, Int.natCast_one]; done))) | ((with_reducible apply r_drawD (pickR []) [] []); (focus kernel_rfl); (focus rfl); (focus kernel_rfl); (focus (simp only [List.length_cons, List.length_nil, Nat.reduceAdd]; rfl)))))
      exact ⟨2, ⟨by omega, by exact gW e6, by exact gW e7, by exact gW e8, g2, g, by exact gW e2, by exact gW m2, by exact gW e3, by (simp (disch := omega) only [go_sem, ↓reduceIte, Nat.reduceAdd, Nat.reduceSub, Nat.reduceMul, Nat.reduceEqDiff, Nat.reduceLT, Nat.reduceLeDiff, Nat.reduceBEq, Int.reduceNeg, Int.reduceLT, Int.reduceLE, Int.reduceEq, reduceCtorEq, m3, sumC] <;> repeat' first | rfl | refine ⟨?_, ?_⟩)⟩, by omega⟩
    | 2, _ =>
      simp only [sumC] at m3
      (repeat' (first | (with_reducible first | refine stp ?_ | apply gx1 | apply gx2 | apply gx3 | apply gx4 | apply gx5 | apply gx6 | apply gx7 | apply gy8 | apply gz2 | apply gz3) | (with_reducible refine all_v ?_; intro _) | ((with_reducible refine gE ?_); (try simp (disch := omega) only [go_sem, ↓reduceIte, Nat.reduceAdd, Nat.reduceSub, Nat.reduceMul, Nat.reduceEqDiff, Nat.reduceLT, Nat.reduceLeDiff, Nat.reduceBEq, Int.reduceNeg, Int.reduceLT, Int.reduceLE, Int.reduceEq, reduceCtorEq, e6, e7, e8, e2, m2, e3, m3]) <;> first | rfl | omega) | with_reducible refine t_in_other (by decide) ?_ | ((with_reducible apply gy1); iterate 3 focus rfl) | ((with_reducible apply gy2); iterate 3 focus rfl) | ((with_reducible apply gy3); iterate 2 focus rfl) | ((with_reducible apply gy4); iterate 1 focus rfl) | ((with_reducible apply gy5); iterate 4 focus rfl) | ((with_reducible apply gy6); iterate 4 focus rfl) | ((with_reducible apply d_bar); iterate 3 focus rfl) | ((with_reducible apply q_pub); iterate 1 focus rfl) | ((with_reducible apply gy7); iterate 1 focus rfl) | ((with_reducible apply gy9); (focus ((with_reducible refine gE ?_); (try simp (disch := omega) only [go_sem, ↓reduceIte, Nat.reduceAdd, Nat.reduceSub, Nat.reduceMul, Nat.reduceEqDiff, Nat.reduceLT, Nat.reduceLeDiff, Nat.reduceBEq, Int.reduceNeg, Int.reduceLT, Int.reduceLE, Int.reduceEq, reduceCtorEq, e6, e7, e8, e2, m2, e3, m3]) <;> rfl))) | ((with_reducible apply gz1); (focus first | rfl | (simp (disch := omega) only [go_sem, ↓reduceIte, Nat.reduceAdd, Nat.reduceSub, Nat.reduceMul, Nat.reduceEqDiff, Nat.reduceLT, Nat.reduceLeDiff, Nat.reduceBEq, Int.reduceNeg, Int.reduceLT, Int.reduceLE, Int.reduceEq, reduceCtorEq, e6, e7, e8, e2, m2, e3, m3]; done))) | ((with_reducible apply r_drawD (pickR []) [] []); (focus kernel_rfl); (focus rfl); (focus kernel_rfl); (focus (simp only [List.length_cons, List.length_nil, Nat.reduceAdd]; rfl)))))
      simp (disch := omega) only [go_sem, ↓reduceIte, Nat.reduceAdd, Nat.reduceSub, Nat.reduceMul, Nat.reduceEqDiff, Nat.reduceLT, Nat.reduceLeDiff, Nat.reduceBEq, Int.reduceNeg, Int.reduceLT, Int.reduceLE, Int.reduceEq, reduceCtorEq, e2]
  · exact ⟨by omega, by exact gC, by exact gC, by exact gC, _, _, by exact gC, by exact gC, by exact gC, by (simp (disch := omega) only [go_sem, ↓reduceIte, Nat.reduceAdd, Nat.reduceSub, Nat.reduceMul, Nat.reduceEqDiff, Nat.reduceLT, Nat.reduceLeDiff, Nat.reduceBEq, Int.reduceNeg, Int.reduceLT, Int.reduceLE, Int.reduceEq, reduceCtorEq, sumC] <;> repeat' first | rfl | refine ⟨?_, ?_⟩)⟩
theorem ratSum (z w : Int) (hz : (toL z.natAbs).length ≤ 100000000) (hw : (toL w.natAbs).length ≤ 100000000) : Pure Try.prog 46 [.sl 2 [intZ z, intZ w]] (intZ (z + w)) := by
  have := ratSumA (decide (z < 0)) (decide (w < 0)) z.natAbs w.natAbs hz hw
  rwa [zI_abs, zI_abs] at this

end Go.Proofs.Ytjiffehkemeloaa
end

section
namespace Go.Proofs.Ytjiffehkemeloaa
open Go Go.RowKit Go.Pg
set_option linter.unusedSimpArgs false
set_option linter.unusedVariables false
set_option maxRecDepth 20000
attribute [local go_sem] Try.underlying31 Try.underlying3 Try.underlying78 Try.underlying72 Try.underlying4 Try.underlying33 Try.underlying35 Try.underlying25 sz3 by3 z3 szL byL zL szB zB szNat zNat szInt zInt szRat zRat Try.underlying94

theorem ratOf (n : Nat) (hn : n < 9223372036854775808) : Pure Try.prog 19 [.v (.int .i64 (n : Int))] (ratQ (n : Rat)) := by
  refine pure_intro (tok := 0) Try.func19 rfl Try.ntmps19 Try.results19 Try.call19 (by rfl) (by simp) ?_
  have hd : decide ((n : Rat).num < 0) = false := decide_eq_false (by show ¬ ((n : Int) < 0); omega)
  have hn' : (n : Rat).num.natAbs = n := Int.natAbs_natCast n
  unfold ratQ
  rw [hd, hn', Rat.den_natCast]
  (repeat' (first | (with_reducible first | refine stp ?_ | apply gx1 | apply gx2 | apply gx3 | apply gx4 | apply gx5 | apply gx6 | apply gx7 | apply gy8 | apply gz2 | apply gz3 | refine gw0 (intOf n hn) ?_ ?_ | refine gw3 (intOf n hn) ?_ ?_ ?_ | refine gw0 (ratUnit) ?_ ?_ | refine gw3 (ratUnit) ?_ ?_ ?_) | (with_reducible refine all_v ?_; intro _) | ((with_reducible refine gE ?_); (try simp (disch := omega) only [go_sem, ↓reduceIte, Nat.reduceAdd, Nat.reduceSub, Nat.reduceMul, Nat.reduceEqDiff, Nat.reduceLT, Nat.reduceLeDiff, Nat.reduceBEq, Int.reduceNeg, Int.reduceLT, Int.reduceLE, Int.reduceEq, reduceCtorEq]) <;> first | rfl | omega) | with_reducible refine t_in_other (by decide) ?_ | ((with_reducible apply gy1); iterate 3 focus rfl) | ((with_reducible apply gy2); iterate 3 focus rfl) | ((with_reducible apply gy3); iterate 2 focus rfl) | ((with_reducible apply gy4); iterate 1 focus rfl) | ((with_reducible apply gy5); iterate 4 focus rfl) | ((with_reducible apply gy6); iterate 4 focus rfl) | ((with_reducible apply d_bar); iterate 3 focus rfl) | ((with_reducible apply q_pub); iterate 1 focus rfl) | ((with_reducible apply gy7); iterate 1 focus rfl) | ((with_reducible apply gy9); (focus ((with_reducible refine gE ?_); (try simp (disch := omega) only [go_sem, ↓reduceIte, Nat.reduceAdd, Nat.reduceSub, Nat.reduceMul, Nat.reduceEqDiff, Nat.reduceLT, Nat.reduceLeDiff, Nat.reduceBEq, Int.reduceNeg, Int.reduceLT, Int.reduceLE, Int.reduceEq, reduceCtorEq]) <;> rfl))) | ((with_reducible apply gz1); (focus first | rfl | (simp (disch := omega) only [go_sem, ↓reduceIte, Nat.reduceAdd, Nat.reduceSub, Nat.reduceMul, Nat.reduceEqDiff, Nat.reduceLT, Nat.reduceLeDiff, Nat.reduceBEq, Int.reduceNeg, Int.reduceLT, Int.reduceLE, Int.reduceEq, reduceCtorEq]; done))) | ((with_reducible apply r_drawD (pickR []) [] []); (focus kernel_rfl); (focus rfl); (focus kernel_rfl); (focus (simp only [List.length_cons, List.length_nil, Nat.reduceAdd]; rfl)))))
  simp (disch := omega) only [go_sem, ↓reduceIte, Nat.reduceAdd, Nat.reduceSub, Nat.reduceMul, Nat.reduceEqDiff, Nat.reduceLT, Nat.reduceLeDiff, Nat.reduceBEq, Int.reduceNeg, Int.reduceLT, Int.reduceLE, Int.reduceEq, reduceCtorEq]

theorem ratMul (a b : Rat) {j k : Nat} (ha : Sz a j) (hb : Sz b k) (hj : j ≤ 2000000) (hk : k ≤ 2000000) : Pure Try.prog 20 [ratQ a, ratQ b] (ratQ (a * b)) := by
  obtain ⟨a1, a2⟩ := id ha
  obtain ⟨b1, b2⟩ := id hb
  have l1 : (toL (a.num * b.num).natAbs).length ≤ j + k := by rw [Int.natAbs_mul]; exact Nat.le_trans (lg_mul _ _) (by omega)
  have l2 : (toL (a.den * b.den)).length ≤ j + k := Nat.le_trans (lg_mul _ _) (by omega)
  have c := ratReduced (decide (a.num * b.num < 0)) (a.num * b.num).natAbs (a.den * b.den) (by omega) (by omega) (Nat.mul_ne_zero a.den_nz b.den_nz)
  rw [zI_abs, ← Rat.mul_def'] at c
  refine pure_intro (tok := 0) Try.func20 rfl Try.ntmps20 Try.results20 Try.call20 (by rfl) (by simp) ?_
  (repeat' (first | (with_reducible first | refine stp ?_ | apply gx1 | apply gx2 | apply gx3 | apply gx4 | apply gx5 | apply gx6 | apply gx7 | apply gy8 | apply gz2 | apply gz3 | refine gw0 (ratParts a ha (by omega)) ?_ ?_ | refine gw3 (ratParts a ha (by omega)) ?_ ?_ ?_ | refine gw0 (ratParts b hb (by omega)) ?_ ?_ | refine gw3 (ratParts b hb (by omega)) ?_ ?_ ?_ | refine gw0 (iMul a.num b.num (by omega) (by omega)) ?_ ?_ | refine gw3 (iMul a.num b.num (by omega) (by omega)) ?_ ?_ ?_ | refine gw0 (nMul a.den b.den (by omega) (by omega)) ?_ ?_ | refine gw3 (nMul a.den b.den (by omega) (by omega)) ?_ ?_ ?_ | refine gw0 (c) ?_ ?_ | refine gw3 (c) ?_ ?_ ?_) | (with_reducible refine all_v ?_; intro _) | ((with_reducible refine gE ?_); (try simp (disch := omega) only [go_sem, ↓reduceIte, Nat.reduceAdd, Nat.reduceSub, Nat.reduceMul, Nat.reduceEqDiff, Nat.reduceLT, Nat.reduceLeDiff, Nat.reduceBEq, Int.reduceNeg, Int.reduceLT, Int.reduceLE, Int.reduceEq, reduceCtorEq]) <;> first | rfl | omega) | with_reducible refine t_in_other (by decide) ?_ | ((with_reducible apply gy1); iterate 3 focus rfl) | ((with_reducible apply gy2); iterate 3 focus rfl) | ((with_reducible apply gy3); iterate 2 focus rfl) | ((with_reducible apply gy4); iterate 1 focus rfl) | ((with_reducible apply gy5); iterate 4 focus rfl) | ((with_reducible apply gy6); iterate 4 focus rfl) | ((with_reducible apply d_bar); iterate 3 focus rfl) | ((with_reducible apply q_pub); iterate 1 focus rfl) | ((with_reducible apply gy7); iterate 1 focus rfl) | ((with_reducible apply gy9); (focus ((with_reducible refine gE ?_); (try simp (disch := omega) only [go_sem, ↓reduceIte, Nat.reduceAdd, Nat.reduceSub, Nat.reduceMul, Nat.reduceEqDiff, Nat.reduceLT, Nat.reduceLeDiff, Nat.reduceBEq, Int.reduceNeg, Int.reduceLT, Int.reduceLE, Int.reduceEq, reduceCtorEq]) <;> rfl))) | ((with_reducible apply gz1); (focus first | rfl | (simp (disch := omega) only [go_sem, ↓reduceIte, Nat.reduceAdd, Nat.reduceSub, Nat.reduceMul, Nat.reduceEqDiff, Nat.reduceLT, Nat.reduceLeDiff, Nat.reduceBEq, Int.reduceNeg, Int.reduceLT, Int.reduceLE, Int.reduceEq, reduceCtorEq]; done))) | ((with_reducible apply r_drawD (pickR []) [] []); (focus kernel_rfl); (focus rfl); (focus kernel_rfl); (focus (simp only [List.length_cons, List.length_nil, Nat.reduceAdd]; rfl)))))
  simp (disch := omega) only [go_sem, ↓reduceIte, Nat.reduceAdd, Nat.reduceSub, Nat.reduceMul, Nat.reduceEqDiff, Nat.reduceLT, Nat.reduceLeDiff, Nat.reduceBEq, Int.reduceNeg, Int.reduceLT, Int.reduceLE, Int.reduceEq, reduceCtorEq]

set_option maxHeartbeats 1000000 in
theorem ratAddA (s t : Bool) (n d m c : Nat) {j k : Nat} (a1 : (toL n).length ≤ j) (a2 : (toL d).length ≤ j) (b1 : (toL m).length ≤ k) (b2 : (toL c).length ≤ k) (hd0 : d ≠ 0) (hc0 : c ≠ 0) (hj : j ≤ 2000000) (hk : k ≤ 2000000) :
    Pure Try.prog 18 [ratA s n d, ratA t m c] (ratQ (mkRat (zI s n) d + mkRat (zI t m) c)) := by
  have oa := ratOne d (by omega)
  have ob := ratOne c (by omega)
  have l2 : (toL (d * c)).length ≤ j + k := Nat.le_trans (lg_mul _ _) (by omega)
  have z1 := zI_natAbs s n
  have w1 := zI_natAbs t m
  have pa := ratPartsA s n d (by omega) hd0
  have pb := ratPartsA t m c (by omega) hc0
  have eq : mkRat (zI s n) d + mkRat (zI t m) c = mkRat (zI s n * c + zI t m * d) (d * c) := Rat.mkRat_add_mkRat _ _ hd0 hc0
  have cs0 := ratSumA s t n m (by omega) (by omega)
  have cm1 : Pure Try.prog 47 [intA s n, intA false c] (intZ (zI s n * c)) := intMul s false n c (by omega) (by omega)
  have cm2 : Pure Try.prog 47 [intA t m, intA false d] (intZ (zI t m * d)) := intMul t false m d (by omega) (by omega)
  rw [eq]
  have x1 : (toL (zI s n * c).natAbs).length ≤ j + k := by
    rw [Int.natAbs_mul, Int.natAbs_natCast, z1]
    exact Nat.le_trans (lg_mul _ _) (by omega)
  have x2 : (toL (zI t m * d).natAbs).length ≤ j + k := by
    rw [Int.natAbs_mul, Int.natAbs_natCast, w1]
    exact Nat.le_trans (lg_mul _ _) (by omega)
  by_cases h1 : d = 1 ∧ c = 1
  · obtain ⟨h1, h2⟩ := h1
    have l1 : (toL (zI s n + zI t m).natAbs).length ≤ j + k + 1 := by
      have h3 := lg_mono (natAbs_add_le (zI s n) (zI t m))
      have h4 := lg_add (zI s n).natAbs (zI t m).natAbs
      rw [z1, w1] at h3 h4
      omega
    have c := ratReduced (decide (zI s n + zI t m < 0)) (zI s n + zI t m).natAbs 1 (by omega) (by rw [lg_one]; omega) (by omega)
    rw [zI_abs] at c
    subst h1; subst h2
    rw [decide_eq_true rfl] at oa ob
    have e1 : zI s n * ((1 : Nat) : Int) + zI t m * ((1 : Nat) : Int) = zI s n + zI t m := by omega
    rw [e1, Nat.mul_one]
    refine pure_intro (tok := 0) Try.func18 rfl Try.ntmps18 Try.results18 Try.call18 (by rfl) (by simp) ?_
    (repeat' (first | (with_reducible first | refine stp ?_ | apply gx1 | apply gx2 | apply gx3 | apply gx4 | apply gx5 | apply gx6 | apply gx7 | apply gy8 | apply gz2 | apply gz3 | refine gw0 (pa) ?_ ?_ | refine gw3 (pa) ?_ ?_ ?_ | refine gw0 (pb) ?_ ?_ | refine gw3 (pb) ?_ ?_ ?_ | refine gw0 (oa) ?_ ?_ | refine gw3 (oa) ?_ ?_ ?_ | refine gw0 (ob) ?_ ?_ | refine gw3 (ob) ?_ ?_ ?_ | apply gw1 (cs0) | refine gw0 (c) ?_ ?_ | refine gw3 (c) ?_ ?_ ?_) | (with_reducible refine all_v ?_; intro _) | ((with_reducible refine gE ?_); (try simp (disch := omega) only [go_sem, ↓reduceIte, Nat.reduceAdd, Nat.reduceSub, Nat.reduceMul, Nat.reduceEqDiff, Nat.reduceLT, Nat.reduceLeDiff, Nat.reduceBEq, Int.reduceNeg, Int.reduceLT, Int.reduceLE, Int.reduceEq, reduceCtorEq]) <;> first | rfl | omega) | with_reducible refine t_in_other (by decide) ?_ | ((with_reducible apply gy1); iterate 3 focus rfl) | ((with_reducible apply gy2); iterate 3 focus rfl) | ((with_reducible apply gy3); iterate 2 focus rfl) | ((with_reducible apply gy4); iterate 1 focus rfl) | ((with_reducible apply gy5); iterate 4 focus rfl) | ((with_reducible apply gy6); iterate 4 focus rfl) | ((with_reducible apply d_bar); iterate 3 focus rfl) | ((with_reducible apply q_pub); iterate 1 focus rfl) | ((with_reducible apply gy7); iterate 1 focus rfl) | ((with_reducible apply gy9); (focus ((with_reducible refine gE ?_); (try simp (disch := omega) only [go_sem, ↓reduceIte, Nat.reduceAdd, Nat.reduceSub, Nat.reduceMul, Nat.reduceEqDiff, Nat.reduceLT, Nat.reduceLeDiff, Nat.reduceBEq, Int.reduceNeg, Int.reduceLT, Int.reduceLE, Int.reduceEq, reduceCtorEq]) <;> rfl))) | ((with_reducible apply gz1); (focus first | rfl | (simp (disch := omega) only [go_sem, ↓reduceIte, Nat.reduceAdd, Nat.reduceSub, Nat.reduceMul, Nat.reduceEqDiff, Nat.reduceLT, Nat.reduceLeDiff, Nat.reduceBEq, Int.reduceNeg, Int.reduceLT, Int.reduceLE, Int.reduceEq, reduceCtorEq]; done))) | ((with_reducible apply r_drawD (pickR []) [] []); (focus kernel_rfl); (focus rfl); (focus kernel_rfl); (focus (simp only [List.length_cons, List.length_nil, Nat.reduceAdd]; rfl)))))
    simp (disch := omega) only [go_sem, ↓reduceIte, Nat.reduceAdd, Nat.reduceSub, Nat.reduceMul, Nat.reduceEqDiff, Nat.reduceLT, Nat.reduceLeDiff, Nat.reduceBEq, Int.reduceNeg, Int.reduceLT, Int.reduceLE, Int.reduceEq, reduceCtorEq]
  · have l1 : (toL (zI s n * c + zI t m * d).natAbs).length ≤ j + k + 1 := by
      have h3 := lg_mono (natAbs_add_le (zI s n * c) (zI t m * d))
      have h4 := lg_add (zI s n * c).natAbs (zI t m * d).natAbs
      omega
    have cr := ratReduced (decide (zI s n * c + zI t m * d < 0)) (zI s n * c + zI t m * d).natAbs (d * c) (by omega) (by omega) (Nat.mul_ne_zero hd0 hc0)
    rw [zI_abs] at cr
    have cs := ratSum (zI s n * c) (zI t m * d) (by omega) (by omega)
    have cw1 := ratWhole c
    have cw2 := ratWhole d
    have cm := nMul d c (by omega) (by omega)
    generalize zI s n * (c : Int) = y1 at *
    generalize zI t m * (d : Int) = y2 at *
    by_cases h2 : d = 1
    · have h3 : c ≠ 1 := fun h => h1 ⟨h2, h⟩
      rw [decide_eq_true h2] at oa
      rw [decide_eq_false h3] at ob
      refine pure_intro (tok := 0) Try.func18 rfl Try.ntmps18 Try.results18 Try.call18 (by rfl) (by simp) ?_
      (repeat' (first | (with_reducible first | refine stp ?_ | apply gx1 | apply gx2 | apply gx3 | apply gx4 | apply gx5 | apply gx6 | apply gx7 | apply gy8 | apply gz2 | apply gz3 | refine gw0 (pa) ?_ ?_ | refine gw3 (pa) ?_ ?_ ?_ | refine gw0 (pb) ?_ ?_ | refine gw3 (pb) ?_ ?_ ?_ | refine gw0 (oa) ?_ ?_ | refine gw3 (oa) ?_ ?_ ?_ | refine gw0 (ob) ?_ ?_ | refine gw3 (ob) ?_ ?_ ?_ | refine gw0 (cw1) ?_ ?_ | refine gw3 (cw1) ?_ ?_ ?_ | refine gw0 (cm1) ?_ ?_ | refine gw3 (cm1) ?_ ?_ ?_ | refine gw0 (cw2) ?_ ?_ | refine gw3 (cw2) ?_ ?_ ?_ | refine gw0 (cm2) ?_ ?_ | refine gw3 (cm2) ?_ ?_ ?_ | refine gw0 (cs) ?_ ?_ | refine gw3 (cs) ?_ ?_ ?_ | refine gw0 (cm) ?_ ?_ | refine gw3 (cm) ?_ ?_ ?_ | refine gw0 (cr) ?_ ?_ | refine gw3 (cr) ?_ ?_ ?_) | (with_reducible refine all_v ?_; intro _) | ((with_reducible refine gE ?_); (try simp (disch := omega) only [go_sem, ↓reduceIte, Nat.reduceAdd, Nat.reduceSub, Nat.reduceMul, Nat.reduceEqDiff, Nat.reduceLT, Nat.reduceLeDiff, Nat.reduceBEq, Int.reduceNeg, Int.reduceLT, Int.reduceLE, Int.reduceEq, reduceCtorEq]) <;> first | rfl | omega) | with_reducible refine t_in_other (by decide) ?_ | ((with_reducible apply gy1); iterate 3 focus rfl) | ((with_reducible apply gy2); iterate 3 focus rfl) | ((with_reducible apply gy3); iterate 2 focus rfl) | ((with_reducible apply gy4); iterate 1 focus rfl) | ((with_reducible apply gy5); iterate 4 focus rfl) | ((with_reducible apply gy6); iterate 4 focus rfl) | ((with_reducible apply d_bar); iterate 3 focus rfl) | ((with_reducible apply q_pub); iterate 1 focus rfl) | ((with_reducible apply gy7); iterate 1 focus rfl) | ((with_reducible apply gy9); (focus ((with_reducible refine gE ?_); (try simp (disch := omega) only [go_sem, ↓reduceIte, Nat.reduceAdd, Nat.reduceSub, Nat.reduceMul, Nat.reduceEqDiff, Nat.reduceLT, Nat.reduceLeDiff, Nat.reduceBEq, Int.reduceNeg, Int.reduceLT, Int.reduceLE, Int.reduceEq, reduceCtorEq]) <;> rfl))) | ((with_reducible apply gz1); (focus first | rfl | (simp (disch := omega) only [go_sem, ↓reduceIte, Nat.reduceAdd, Nat.reduceSub, Nat.reduceMul, Nat.reduceEqDiff, Nat.reduceLT, Nat.reduceLeDiff, Nat.reduceBEq, Int.reduceNeg, Int.reduceLT, Int.reduceLE, Int.reduceEq, reduceCtorEq]; done))) | ((with_reducible apply r_drawD (pickR [(2, intA false c), (3, intZ y1), (6, intA false d), (7, intZ y2), (8, .sl 2 [intZ y1, intZ y2]), (9, intZ (y1 + y2)), (12, lim (toL (d * c))), (13, ratQ (mkRat (y1 + y2) (d * c)))]) [] [4]); (focus kernel_rfl); (focus rfl); (focus kernel_rfl); (focus (simp only [List.length_cons, List.length_nil, Nat.reduceAdd]; rfl)))))
      simp (disch := omega) only [go_sem, ↓reduceIte, Nat.reduceAdd, Nat.reduceSub, Nat.reduceMul, Nat.reduceEqDiff, Nat.reduceLT, Nat.reduceLeDiff, Nat.reduceBEq, Int.reduceNeg, Int.reduceLT, Int.reduceLE, Int.reduceEq, reduceCtorEq]
    · rw [decide_eq_false h2] at oa
      refine pure_intro (tok := 0) Try.func18 rfl Try.ntmps18 Try.results18 Try.call18 (by rfl) (by simp) ?_
      (repeat' (first | (with_reducible first | refine stp ?_ | apply gx1 | apply gx2 | apply gx3 | apply gx4 | apply gx5 | apply gx6 | apply gx7 | apply gy8 | apply gz2 | apply gz3 | refine gw0 (pa) ?_ ?_ | refine gw3 (pa) ?_ ?_ ?_ | refine gw0 (pb) ?_ ?_ | refine gw3 (pb) ?_ ?_ ?_ | refine gw0 (oa) ?_ ?_ | refine gw3 (oa) ?_ ?_ ?_ | refine gw0 (cw1) ?_ ?_ | refine gw3 (cw1) ?_ ?_ ?_ | refine gw0 (cm1) ?_ ?_ | refine gw3 (cm1) ?_ ?_ ?_ | refine gw0 (cw2) ?_ ?_ | refine gw3 (cw2) ?_ ?_ ?_ | refine gw0 (cm2) ?_ ?_ | refine gw3 (cm2) ?_ ?_ ?_ | refine gw0 (cs) ?_ ?_ | refine gw3 (cs) ?_ ?_ ?_ | refine gw0 (cm) ?_ ?_ | refine gw3 (cm) ?_ ?_ ?_ | refine gw0 (cr) ?_ ?_ | refine gw3 (cr) ?_ ?_ ?_) | (with_reducible refine all_v ?_; intro _) | ((with_reducible refine gE ?_); (try simp (disch := omega) only [go_sem, ↓reduceIte, Nat.reduceAdd, Nat.reduceSub, Nat.reduceMul, Nat.reduceEqDiff, Nat.reduceLT, Nat.reduceLeDiff, Nat.reduceBEq, Int.reduceNeg, Int.reduceLT, Int.reduceLE, Int.reduceEq, reduceCtorEq]) <;> first | rfl | omega) | with_reducible refine t_in_other (by decide) ?_ | ((with_reducible apply gy1); iterate 3 focus rfl) | ((with_reducible apply gy2); iterate 3 focus rfl) | ((with_reducible apply gy3); iterate 2 focus rfl) | ((with_reducible apply gy4); iterate 1 focus rfl) | ((with_reducible apply gy5); iterate 4 focus rfl) | ((with_reducible apply gy6); iterate 4 focus rfl) | ((with_reducible apply d_bar); iterate 3 focus rfl) | ((with_reducible apply q_pub); iterate 1 focus rfl) | ((with_reducible apply gy7); iterate 1 focus rfl) | ((with_reducible apply gy9); (focus ((with_reducible refine gE ?_); (try simp (disch := omega) only [go_sem, ↓reduceIte, Nat.reduceAdd, Nat.reduceSub, Nat.reduceMul, Nat.reduceEqDiff, Nat.reduceLT, Nat.reduceLeDiff, Nat.reduceBEq, Int.reduceNeg, Int.reduceLT, Int.reduceLE, Int.reduceEq, reduceCtorEq]) <;> rfl))) | ((with_reducible apply gz1); (focus first | rfl | (simp (disch := omega) only [go_sem, ↓reduceIte, Nat.reduceAdd, Nat.reduceSub, Nat.reduceMul, Nat.reduceEqDiff, Nat.reduceLT, Nat.reduceLeDiff, Nat.reduceBEq, Int.reduceNeg, Int.reduceLT, Int.reduceLE, Int.reduceEq, reduceCtorEq]; done))) | ((with_reducible apply r_drawD (pickR [(2, intA false c), (3, intZ y1), (6, intA false d), (7, intZ y2), (8, .sl 2 [intZ y1, intZ y2]), (9, intZ (y1 + y2)), (12, lim (toL (d * c))), (13, ratQ (mkRat (y1 + y2) (d * c)))]) [] [4]); (focus kernel_rfl); (focus rfl); (focus kernel_rfl); (focus (simp only [List.length_cons, List.length_nil, Nat.reduceAdd]; rfl)))))
      simp (disch := omega) only [go_sem, ↓reduceIte, Nat.reduceAdd, Nat.reduceSub, Nat.reduceMul, Nat.reduceEqDiff, Nat.reduceLT, Nat.reduceLeDiff, Nat.reduceBEq, Int.reduceNeg, Int.reduceLT, Int.reduceLE, Int.reduceEq, reduceCtorEq]
theorem ratAdd (a b : Rat) {j k : Nat} (ha : Sz a j) (hb : Sz b k) (hj : j ≤ 2000000) (hk : k ≤ 2000000) : Pure Try.prog 18 [ratQ a, ratQ b] (ratQ (a + b)) := by
  have := ratAddA (decide (a.num < 0)) (decide (b.num < 0)) a.num.natAbs a.den b.num.natAbs b.den ha.1 ha.2 hb.1 hb.2 a.den_nz b.den_nz hj hk
  rwa [zI_abs, zI_abs, Rat.mkRat_self, Rat.mkRat_self] at this

theorem ratSub (a b : Rat) {j k : Nat} (ha : Sz a j) (hb : Sz b k) (hj : j ≤ 2000000) (hk : k ≤ 2000000) : Pure Try.prog 16 [ratQ a, ratQ b] (ratQ (a - b)) := by
  have c := ratAddA (decide (a.num < 0)) (!decide (b.num < 0)) a.num.natAbs a.den b.num.natAbs b.den ha.1 ha.2 hb.1 hb.2 a.den_nz b.den_nz hj hk
  have e : zI (!decide (b.num < 0)) b.num.natAbs = -b.num := by
    have := zI_abs b.num
    unfold zI at *
    by_cases h : b.num < 0
    · simp only [decide_eq_true h, Bool.not_true, Bool.false_eq_true, if_false]; omega
    · simp only [decide_eq_false h, Bool.not_false, if_true]; omega
  have e2 : mkRat (-b.num) b.den = -b := by rw [← Rat.neg_mkRat, Rat.mkRat_self]
  rw [zI_abs, e, Rat.mkRat_self, e2, ← Rat.sub_eq_add_neg] at c
  refine pure_intro (tok := 0) Try.func16 rfl Try.ntmps16 Try.results16 Try.call16 (by rfl) (by simp) ?_
  (repeat' (first | (with_reducible first | refine stp ?_ | apply gx1 | apply gx2 | apply gx3 | apply gx4 | apply gx5 | apply gx6 | apply gx7 | apply gy8 | apply gz2 | apply gz3 | refine gw0 (c) ?_ ?_ | refine gw3 (c) ?_ ?_ ?_) | (with_reducible refine all_v ?_; intro _) | ((with_reducible refine gE ?_); (try simp (disch := omega) only [go_sem, ↓reduceIte, Nat.reduceAdd, Nat.reduceSub, Nat.reduceMul, Nat.reduceEqDiff, Nat.reduceLT, Nat.reduceLeDiff, Nat.reduceBEq, Int.reduceNeg, Int.reduceLT, Int.reduceLE, Int.reduceEq, reduceCtorEq]) <;> first | rfl | omega) | with_reducible refine t_in_other (by decide) ?_ | ((with_reducible apply gy1); iterate 3 focus rfl) | ((with_reducible apply gy2); iterate 3 focus rfl) | ((with_reducible apply gy3); iterate 2 focus rfl) | ((with_reducible apply gy4); iterate 1 focus rfl) | ((with_reducible apply gy5); iterate 4 focus rfl) | ((with_reducible apply gy6); iterate 4 focus rfl) | ((with_reducible apply d_bar); iterate 3 focus rfl) | ((with_reducible apply q_pub); iterate 1 focus rfl) | ((with_reducible apply gy7); iterate 1 focus rfl) | ((with_reducible apply gy9); (focus ((with_reducible refine gE ?_); (try simp (disch := omega) only [go_sem, ↓reduceIte, Nat.reduceAdd, Nat.reduceSub, Nat.reduceMul, Nat.reduceEqDiff, Nat.reduceLT, Nat.reduceLeDiff, Nat.reduceBEq, Int.reduceNeg, Int.reduceLT, Int.reduceLE, Int.reduceEq, reduceCtorEq]) <;> rfl))) | ((with_reducible apply gz1); (focus first | rfl | (simp (disch := omega) only [go_sem, ↓reduceIte, Nat.reduceAdd, Nat.reduceSub, Nat.reduceMul, Nat.reduceEqDiff, Nat.reduceLT, Nat.reduceLeDiff, Nat.reduceBEq, Int.reduceNeg, Int.reduceLT, Int.reduceLE, Int.reduceEq, reduceCtorEq]; done))) | ((with_reducible apply r_drawD (pickR []) [] []); (focus kernel_rfl); (focus rfl); (focus kernel_rfl); (focus (simp only [List.length_cons, List.length_nil, Nat.reduceAdd]; rfl)))))
  simp (disch := omega) only [go_sem, ↓reduceIte, Nat.reduceAdd, Nat.reduceSub, Nat.reduceMul, Nat.reduceEqDiff, Nat.reduceLT, Nat.reduceLeDiff, Nat.reduceBEq, Int.reduceNeg, Int.reduceLT, Int.reduceLE, Int.reduceEq, reduceCtorEq]

set_option maxHeartbeats 1000000 in
theorem ratCmp (a b : Rat) {j k : Nat} (ha : Sz a j) (hb : Sz b k) (hj : j ≤ 2000000) (hk : k ≤ 2000000) : Pure Try.prog 39 [ratQ a, ratQ b] (.v (.int .i64 (cmpQ a b))) := by
  obtain ⟨a1, a2⟩ := id ha
  obtain ⟨b1, b2⟩ := id hb
  have sa := ratSign a ha (by omega)
  have sb := ratSign b hb (by omega)
  have pa := ratParts a ha (by omega)
  have pb := ratParts b hb (by omega)
  have cm1 := iMulN a.num b.den (by omega) (by omega)
  have cm2 := iMulN b.num a.den (by omega) (by omega)
  have x1 : (toL (a.num * b.den).natAbs).length ≤ j + k := lg_cross a b ha hb
  have x2 : (toL (b.num * a.den).natAbs).length ≤ k + j := lg_cross b a hb ha
  have cc := iCmp (a.num * b.den) (b.num * a.den) (by omega) (by omega)
  have cw1 := ratWhole b.den
  have cw2 := ratWhole a.den
  have dp : (0 : Int) < a.den := by have := a.den_pos; omega
  have ep : (0 : Int) < b.den := by have := b.den_pos; omega
  rw [cmpQ_z]
  have sg : ∀ z : Int, (z.sign = 1 ∧ 0 < z) ∨ (z.sign = 0 ∧ z = 0) ∨ (z.sign = -1 ∧ z < 0) := by
    intro z
    rcases Int.lt_trichotomy z 0 with h | h | h
    · exact .inr (.inr ⟨Int.sign_eq_neg_one_of_neg h, h⟩)
    · exact .inr (.inl ⟨by rw [h]; rfl, h⟩)
    · exact .inl ⟨Int.sign_eq_one_of_pos h, h⟩
  have mp : ∀ z w : Int, 0 < z → 0 < w → 0 < z * w := fun z w => Int.mul_pos
  have mz : ∀ w : Int, 0 * w = 0 := fun w => Int.zero_mul w
  have mn : ∀ z w : Int, z < 0 → 0 < w → z * w < 0 := fun z w => Int.mul_neg_of_neg_of_pos
  have sA : (a.num.sign = 1 → 0 < a.num * b.den) ∧ (a.num.sign = 0 → a.num * b.den = 0) ∧ (a.num.sign = -1 → a.num * b.den < 0) := by
    rcases sg a.num with ⟨h, h'⟩ | ⟨h, h'⟩ | ⟨h, h'⟩
    · exact ⟨fun _ => mp _ _ h' ep, fun h2 => (by omega), fun h2 => (by omega)⟩
    · exact ⟨fun h2 => (by omega), fun _ => (by rw [h']; exact mz _), fun h2 => (by omega)⟩
    · exact ⟨fun h2 => (by omega), fun h2 => (by omega), fun _ => mn _ _ h' ep⟩
  have sB : (b.num.sign = 1 → 0 < b.num * a.den) ∧ (b.num.sign = 0 → b.num * a.den = 0) ∧ (b.num.sign = -1 → b.num * a.den < 0) := by
    rcases sg b.num with ⟨h, h'⟩ | ⟨h, h'⟩ | ⟨h, h'⟩
    · exact ⟨fun _ => mp _ _ h' dp, fun h2 => (by omega), fun h2 => (by omega)⟩
    · exact ⟨fun h2 => (by omega), fun _ => (by rw [h']; exact mz _), fun h2 => (by omega)⟩
    · exact ⟨fun h2 => (by omega), fun h2 => (by omega), fun _ => mn _ _ h' dp⟩
  have ga := sg a.num
  have gb := sg b.num
  generalize a.num * (b.den : Int) = y1 at *
  generalize b.num * (a.den : Int) = y2 at *
  rcases Int.lt_trichotomy a.num.sign b.num.sign with h | h | h
  · have hc : cmpZ y1 y2 = -1 := by
      unfold cmpZ
      rw [if_pos (by omega)]
    rw [hc]
    clear ga gb sA sB
    refine pure_intro (tok := 0) Try.func39 rfl Try.ntmps39 Try.results39 Try.call39 (by rfl) (by simp) ?_
    (repeat' (first | (with_reducible first | refine stp ?_ | apply gx1 | apply gx2 | apply gx3 | apply gx4 | apply gx5 | apply gx6 | apply gx7 | apply gy8 | apply gz2 | apply gz3 | refine gw0 (sa) ?_ ?_ | refine gw3 (sa) ?_ ?_ ?_ | refine gw0 (sb) ?_ ?_ | refine gw3 (sb) ?_ ?_ ?_) | (with_reducible refine all_v ?_; intro _) | ((with_reducible refine gE ?_); (try simp (disch := omega) only [go_sem, ↓reduceIte, Nat.reduceAdd, Nat.reduceSub, Nat.reduceMul, Nat.reduceEqDiff, Nat.reduceLT, Nat.reduceLeDiff, Nat.reduceBEq, Int.reduceNeg, Int.reduceLT, Int.reduceLE, Int.reduceEq, reduceCtorEq]) <;> first | rfl | omega) | with_reducible refine t_in_other (by decide) ?_ | ((with_reducible apply gy1); iterate 3 focus rfl) | ((with_reducible apply gy2); iterate 3 focus rfl) | ((with_reducible apply gy3); iterate 2 focus rfl) | ((with_reducible apply gy4); iterate 1 focus rfl) | ((with_reducible apply gy5); iterate 4 focus rfl) | ((with_reducible apply gy6); iterate 4 focus rfl) | ((with_reducible apply d_bar); iterate 3 focus rfl) | ((with_reducible apply q_pub); iterate 1 focus rfl) | ((with_reducible apply gy7); iterate 1 focus rfl) | ((with_reducible apply gy9); (focus ((with_reducible refine gE ?_); (try simp (disch := omega) only [go_sem, ↓reduceIte, Nat.reduceAdd, Nat.reduceSub, Nat.reduceMul, Nat.reduceEqDiff, Nat.reduceLT, Nat.reduceLeDiff, Nat.reduceBEq, Int.reduceNeg, Int.reduceLT, Int.reduceLE, Int.reduceEq, reduceCtorEq]) <;> rfl))) | ((with_reducible apply gz1); (focus first | rfl | (simp (disch := omega) only [go_sem, ↓reduceIte, Nat.reduceAdd, Nat.reduceSub, Nat.reduceMul, Nat.reduceEqDiff, Nat.reduceLT, Nat.reduceLeDiff, Nat.reduceBEq, Int.reduceNeg, Int.reduceLT, Int.reduceLE, Int.reduceEq, reduceCtorEq]; done))) | ((with_reducible apply r_drawD (pickR [(1, .v (.int .i64 a.num.sign)), (3, .v (.int .i64 b.num.sign))]) [] []); (focus kernel_rfl); (focus rfl); (focus kernel_rfl); (focus (simp only [List.length_cons, List.length_nil, Nat.reduceAdd]; rfl)))))
    simp (disch := omega) only [go_sem, ↓reduceIte, Nat.reduceAdd, Nat.reduceSub, Nat.reduceMul, Nat.reduceEqDiff, Nat.reduceLT, Nat.reduceLeDiff, Nat.reduceBEq, Int.reduceNeg, Int.reduceLT, Int.reduceLE, Int.reduceEq, reduceCtorEq]
  · refine pure_intro (tok := 0) Try.func39 rfl Try.ntmps39 Try.results39 Try.call39 (by rfl) (by simp) ?_
    (repeat' (first | (with_reducible first | refine stp ?_ | apply gx1 | apply gx2 | apply gx3 | apply gx4 | apply gx5 | apply gx6 | apply gx7 | refine gw0 (sa) ?_ ?_ | refine gw0 (sb) ?_ ?_) | (with_reducible refine all_v ?_; intro _) | ((with_reducible refine gE ?_); (try simp (disch := omega) only [go_sem, ↓reduceIte, Nat.reduceAdd, Nat.reduceSub, Nat.reduceMul, Nat.reduceEqDiff, Nat.reduceLT, Nat.reduceLeDiff, Nat.reduceBEq, Int.reduceNeg, Int.reduceLT, Int.reduceLE, Int.reduceEq, reduceCtorEq]) <;> first | rfl | omega) | with_reducible refine t_in_other (by decide) ?_))
    apply r_drawD (pickR [(1, .v (.int .i64 a.num.sign)), (3, .v (.int .i64 b.num.sign))]) [] [] (by kernel_rfl) (by rfl) (by kernel_rfl); (focus (simp only [List.length_cons, List.length_nil, Nat.reduceAdd]; rfl))
    (repeat' (first | (with_reducible first | refine stp ?_ | apply gx1 | apply gx2 | apply gx3 | apply gx4 | apply gx5 | apply gx6 | apply gx7 | apply gy8 | apply gz2 | apply gz3 | refine gw0 (sa) ?_ ?_ | refine gw3 (sa) ?_ ?_ ?_ | refine gw0 (sb) ?_ ?_ | refine gw3 (sb) ?_ ?_ ?_ | refine gw0 (pa) ?_ ?_ | refine gw3 (pa) ?_ ?_ ?_ | refine gw0 (pb) ?_ ?_ | refine gw3 (pb) ?_ ?_ ?_) | (with_reducible refine all_v ?_; intro _) | ((with_reducible refine gE ?_); (try simp (disch := omega) only [go_sem, ↓reduceIte, Nat.reduceAdd, Nat.reduceSub, Nat.reduceMul, Nat.reduceEqDiff, Nat.reduceLT, Nat.reduceLeDiff, Nat.reduceBEq, Int.reduceNeg, Int.reduceLT, Int.reduceLE, Int.reduceEq, reduceCtorEq]) <;> first | rfl | omega) | with_reducible refine t_in_other (by decide) ?_ | ((with_reducible apply gy1); iterate 3 focus rfl) | ((with_reducible apply gy2); iterate 3 focus rfl) | ((with_reducible apply gy3); iterate 2 focus rfl) | ((with_reducible apply gy4); iterate 1 focus rfl) | ((with_reducible apply gy5); iterate 4 focus rfl) | ((with_reducible apply gy6); iterate 4 focus rfl) | ((with_reducible apply d_bar); iterate 3 focus rfl) | ((with_reducible apply q_pub); iterate 1 focus rfl) | ((with_reducible apply gy7); iterate 1 focus rfl) | ((with_reducible apply gy9); (focus ((with_reducible refine gE ?_); (try simp (disch := omega) only [go_sem, ↓reduceIte, Nat.reduceAdd, Nat.reduceSub, Nat.reduceMul, Nat.reduceEqDiff, Nat.reduceLT, Nat.reduceLeDiff, Nat.reduceBEq, Int.reduceNeg, Int.reduceLT, Int.reduceLE, Int.reduceEq, reduceCtorEq]) <;> rfl))) | ((with_reducible apply gz1); (focus first | rfl | (simp (disch := omega) only [go_sem, ↓reduceIte, Nat.reduceAdd, Nat.reduceSub, Nat.reduceMul, Nat.reduceEqDiff, Nat.reduceLT, Nat.reduceLeDiff, Nat.reduceBEq, Int.reduceNeg, Int.reduceLT, Int.reduceLE, Int.reduceEq, reduceCtorEq]; done)))))
    apply r_drawD (pickR [(2, intA false b.den), (3, intZ y1), (6, intA false a.den), (7, intZ y2), (8, .v (.int .i64 (cmpZ y1 y2)))]) [] [] (by kernel_rfl) (by rfl) (by kernel_rfl); (focus (simp only [List.length_cons, List.length_nil, Nat.reduceAdd]; rfl))
    (repeat' (first | (with_reducible first | refine stp ?_ | apply gx1 | apply gx2 | apply gx3 | apply gx4 | apply gx5 | apply gx6 | apply gx7 | apply gy8 | apply gz2 | apply gz3 | refine gw0 (cw1) ?_ ?_ | refine gw3 (cw1) ?_ ?_ ?_ | refine gw0 (cm1) ?_ ?_ | refine gw3 (cm1) ?_ ?_ ?_ | refine gw0 (cw2) ?_ ?_ | refine gw3 (cw2) ?_ ?_ ?_ | refine gw0 (cm2) ?_ ?_ | refine gw3 (cm2) ?_ ?_ ?_ | refine gw0 (cc) ?_ ?_ | refine gw3 (cc) ?_ ?_ ?_) | (with_reducible refine all_v ?_; intro _) | ((with_reducible refine gE ?_); (try simp (disch := omega) only [go_sem, ↓reduceIte, Nat.reduceAdd, Nat.reduceSub, Nat.reduceMul, Nat.reduceEqDiff, Nat.reduceLT, Nat.reduceLeDiff, Nat.reduceBEq, Int.reduceNeg, Int.reduceLT, Int.reduceLE, Int.reduceEq, reduceCtorEq]) <;> first | rfl | omega) | with_reducible refine t_in_other (by decide) ?_ | ((with_reducible apply gy1); iterate 3 focus rfl) | ((with_reducible apply gy2); iterate 3 focus rfl) | ((with_reducible apply gy3); iterate 2 focus rfl) | ((with_reducible apply gy4); iterate 1 focus rfl) | ((with_reducible apply gy5); iterate 4 focus rfl) | ((with_reducible apply gy6); iterate 4 focus rfl) | ((with_reducible apply d_bar); iterate 3 focus rfl) | ((with_reducible apply q_pub); iterate 1 focus rfl) | ((with_reducible apply gy7); iterate 1 focus rfl) | ((with_reducible apply gy9); (focus ((with_reducible refine gE ?_); (try simp (disch := omega) only [go_sem, ↓reduceIte, Nat.reduceAdd, Nat.reduceSub, Nat.reduceMul, Nat.reduceEqDiff, Nat.reduceLT, Nat.reduceLeDiff, Nat.reduceBEq, Int.reduceNeg, Int.reduceLT, Int.reduceLE, Int.reduceEq, reduceCtorEq]) <;> rfl))) | ((with_reducible apply gz1); (focus first | rfl | (simp (disch := omega) only [go_sem, ↓reduceIte, Nat.reduceAdd, Nat.reduceSub, Nat.reduceMul, Nat.reduceEqDiff, Nat.reduceLT, Nat.reduceLeDiff, Nat.reduceBEq, Int.reduceNeg, Int.reduceLT, Int.reduceLE, Int.reduceEq, reduceCtorEq]; done)))))
    simp (disch := omega) only [go_sem, ↓reduceIte, Nat.reduceAdd, Nat.reduceSub, Nat.reduceMul, Nat.reduceEqDiff, Nat.reduceLT, Nat.reduceLeDiff, Nat.reduceBEq, Int.reduceNeg, Int.reduceLT, Int.reduceLE, Int.reduceEq, reduceCtorEq]
  · have hc : cmpZ y1 y2 = 1 := by
      unfold cmpZ
      rw [if_neg (by omega), if_pos (by omega)]
    rw [hc]
    clear ga gb sA sB
    refine pure_intro (tok := 0) Try.func39 rfl Try.ntmps39 Try.results39 Try.call39 (by rfl) (by simp) ?_
    (repeat' (first | (with_reducible first | refine stp ?_ | apply gx1 | apply gx2 | apply gx3 | apply gx4 | apply gx5 | apply gx6 | apply gx7 | apply gy8 | apply gz2 | apply gz3 | refine gw0 (sa) ?_ ?_ | refine gw3 (sa) ?_ ?_ ?_ | refine gw0 (sb) ?_ ?_ | refine gw3 (sb) ?_ ?_ ?_) | (with_reducible refine all_v ?_; intro _) | ((with_reducible refine gE ?_); (try simp (disch := omega) only [go_sem, ↓reduceIte, Nat.reduceAdd, Nat.reduceSub, Nat.reduceMul, Nat.reduceEqDiff, Nat.reduceLT, Nat.reduceLeDiff, Nat.reduceBEq, Int.reduceNeg, Int.reduceLT, Int.reduceLE, Int.reduceEq, reduceCtorEq]) <;> first | rfl | omega) | with_reducible refine t_in_other (by decide) ?_ | ((with_reducible apply gy1); iterate 3 focus rfl) | ((with_reducible apply gy2); iterate 3 focus rfl) | ((with_reducible apply gy3); iterate 2 focus rfl) | ((with_reducible apply gy4); iterate 1 focus rfl) | ((with_reducible apply gy5); iterate 4 focus rfl) | ((with_reducible apply gy6); iterate 4 focus rfl) | ((with_reducible apply d_bar); iterate 3 focus rfl) | ((with_reducible apply q_pub); iterate 1 focus rfl) | ((with_reducible apply gy7); iterate 1 focus rfl) | ((with_reducible apply gy9); (focus ((with_reducible refine gE ?_); (try simp (disch := omega) only [go_sem, ↓reduceIte, Nat.reduceAdd, Nat.reduceSub, Nat.reduceMul, Nat.reduceEqDiff, Nat.reduceLT, Nat.reduceLeDiff, Nat.reduceBEq, Int.reduceNeg, Int.reduceLT, Int.reduceLE, Int.reduceEq, reduceCtorEq]) <;> rfl))) | ((with_reducible apply gz1); (focus first | rfl | (simp (disch := omega) only [go_sem, ↓reduceIte, Nat.reduceAdd, Nat.reduceSub, Nat.reduceMul, Nat.reduceEqDiff, Nat.reduceLT, Nat.reduceLeDiff, Nat.reduceBEq, Int.reduceNeg, Int.reduceLT, Int.reduceLE, Int.reduceEq, reduceCtorEq]; done))) | ((with_reducible apply r_drawD (pickR [(1, .v (.int .i64 a.num.sign)), (3, .v (.int .i64 b.num.sign))]) [] []); (focus kernel_rfl); (focus rfl); (focus kernel_rfl); (focus (simp only [List.length_cons, List.length_nil, Nat.reduceAdd]; rfl)))))
    simp (disch := omega) only [go_sem, ↓reduceIte, Nat.reduceAdd, Nat.reduceSub, Nat.reduceMul, Nat.reduceEqDiff, Nat.reduceLT, Nat.reduceLeDiff, Nat.reduceBEq, Int.reduceNeg, Int.reduceLT, Int.reduceLE, Int.reduceEq, reduceCtorEq]

theorem ratDiv (a b : Rat) {j k : Nat} (ha : Sz a j) (hb : Sz b k) (hj : j ≤ 2000000) (hk : k ≤ 2000000) (h0 : b ≠ 0) : Pure Try.prog 40 [ratQ a, ratQ b] (.tup [ratQ (a / b), .v (.int .i64 0)]) := by
  obtain ⟨a1, a2⟩ := id ha
  obtain ⟨b1, b2⟩ := id hb
  have pa := ratParts a ha (by omega)
  have pb := ratParts b hb (by omega)
  have cm1 := iMulN a.num b.den (by omega) (by omega)
  have cm2 := iMulN b.num a.den (by omega) (by omega)
  have x1 : (toL (a.num * b.den).natAbs).length ≤ j + k := lg_cross a b ha hb
  have x2 : (toL (b.num * a.den).natAbs).length ≤ k + j := lg_cross b a hb ha
  have hb0 : b.num ≠ 0 := fun e => h0 (Rat.num_eq_zero.1 e)
  have hd0 : (a.den : Int) ≠ 0 := by have := a.den_nz; omega
  have hw0 : b.num * (a.den : Int) ≠ 0 := Int.mul_ne_zero hb0 hd0
  have cM := ratMake (a.num * b.den) (b.num * a.den) (by omega) (by omega) hw0
  have e : Rat.divInt (a.num * b.den) (b.num * a.den) = a / b := by
    rw [Rat.div_def, Rat.inv_def]
    have h1 : a = Rat.divInt a.num a.den := (Rat.num_divInt_den a).symm
    rw [show a * Rat.divInt (b.den : Int) b.num = Rat.divInt a.num a.den * Rat.divInt (b.den : Int) b.num by rw [← h1], Rat.divInt_mul_divInt, Int.mul_comm b.num]
  rw [e] at cM
  have cw1 := ratWhole b.den
  have cw2 := ratWhole a.den
  generalize a / b = q at *
  generalize a.num * (b.den : Int) = y1 at *
  generalize b.num * (a.den : Int) = y2 at *
  refine pure_intro (tok := 0) Try.func40 rfl Try.ntmps40 Try.results40 Try.call40 (by rfl) (by simp) ?_
  (repeat' (first | (with_reducible first | refine stp ?_ | apply gx1 | apply gx2 | apply gx3 | apply gx4 | apply gx5 | apply gx6 | apply gx7 | apply gy8 | apply gz2 | apply gz3 | refine gw0 (pa) ?_ ?_ | refine gw3 (pa) ?_ ?_ ?_ | refine gw0 (pb) ?_ ?_ | refine gw3 (pb) ?_ ?_ ?_ | refine gw0 (cw1) ?_ ?_ | refine gw3 (cw1) ?_ ?_ ?_ | refine gw0 (cm1) ?_ ?_ | refine gw3 (cm1) ?_ ?_ ?_ | refine gw0 (cw2) ?_ ?_ | refine gw3 (cw2) ?_ ?_ ?_ | refine gw0 (cm2) ?_ ?_ | refine gw3 (cm2) ?_ ?_ ?_ | refine gw0 (cM) ?_ ?_ | refine gw3 (cM) ?_ ?_ ?_) | (with_reducible refine all_v ?_; intro _) | ((with_reducible refine gE ?_); (try simp (disch := omega) only [go_sem, ↓reduceIte, Nat.reduceAdd, Nat.reduceSub, Nat.reduceMul, Nat.reduceEqDiff, Nat.reduceLT, Nat.reduceLeDiff, Nat.reduceBEq, Int.reduceNeg, Int.reduceLT, Int.reduceLE, Int.reduceEq, reduceCtorEq]) <;> first | rfl | omega) | with_reducible refine t_in_other (by decide) ?_ | ((with_reducible apply gy1); iterate 3 focus rfl) | ((with_reducible apply gy2); iterate 3 focus rfl) | ((with_reducible apply gy3); iterate 2 focus rfl) | ((with_reducible apply gy4); iterate 1 focus rfl) | ((with_reducible apply gy5); iterate 4 focus rfl) | ((with_reducible apply gy6); iterate 4 focus rfl) | ((with_reducible apply d_bar); iterate 3 focus rfl) | ((with_reducible apply q_pub); iterate 1 focus rfl) | ((with_reducible apply gy7); iterate 1 focus rfl) | ((with_reducible apply gy9); (focus ((with_reducible refine gE ?_); (try simp (disch := omega) only [go_sem, ↓reduceIte, Nat.reduceAdd, Nat.reduceSub, Nat.reduceMul, Nat.reduceEqDiff, Nat.reduceLT, Nat.reduceLeDiff, Nat.reduceBEq, Int.reduceNeg, Int.reduceLT, Int.reduceLE, Int.reduceEq, reduceCtorEq]) <;> rfl))) | ((with_reducible apply gz1); (focus first | rfl | (simp (disch := omega) only [go_sem, ↓reduceIte, Nat.reduceAdd, Nat.reduceSub, Nat.reduceMul, Nat.reduceEqDiff, Nat.reduceLT, Nat.reduceLeDiff, Nat.reduceBEq, Int.reduceNeg, Int.reduceLT, Int.reduceLE, Int.reduceEq, reduceCtorEq]; done))) | ((with_reducible apply r_drawD (pickR [(2, intA false b.den), (3, intZ y1), (6, intA false a.den), (7, intZ y2), (8, .tup [ratQ q, .v (.int .i64 0)])]) [] [4]); (focus kernel_rfl); (focus rfl); (focus kernel_rfl); (focus (simp only [List.length_cons, List.length_nil, Nat.reduceAdd]; rfl)))))
  simp (disch := omega) only [go_sem, ↓reduceIte, Nat.reduceAdd, Nat.reduceSub, Nat.reduceMul, Nat.reduceEqDiff, Nat.reduceLT, Nat.reduceLeDiff, Nat.reduceBEq, Int.reduceNeg, Int.reduceLT, Int.reduceLE, Int.reduceEq, reduceCtorEq]
theorem ratDiv0 (a b : Rat) {j k : Nat} (ha : Sz a j) (hb : Sz b k) (hj : j ≤ 2000000) (hk : k ≤ 2000000) (h0 : b = 0) : Pure Try.prog 40 [ratQ a, ratQ b] (.tup [.agg [.v (.bool false), .v (.slice none 0 0), .v (.slice none 0 0)], .v (.int .i64 3)]) := by
  obtain ⟨a1, a2⟩ := id ha
  obtain ⟨b1, b2⟩ := id hb
  have pa := ratParts a ha (by omega)
  have pb := ratParts b hb (by omega)
  have cm1 := iMulN a.num b.den (by omega) (by omega)
  have cm2 := iMulN b.num a.den (by omega) (by omega)
  have e0 : b.num * (a.den : Int) = 0 := by rw [h0, Rat.zero_num, Int.zero_mul]
  have cM := ratMake0 (a.num * b.den) (b.num * a.den) e0
  have cw1 := ratWhole b.den
  have cw2 := ratWhole a.den
  clear h0 e0
  generalize a.num * (b.den : Int) = y1 at *
  generalize b.num * (a.den : Int) = y2 at *
  refine pure_intro (tok := 0) Try.func40 rfl Try.ntmps40 Try.results40 Try.call40 (by rfl) (by simp) ?_
  (repeat' (first | (with_reducible first | refine stp ?_ | apply gx1 | apply gx2 | apply gx3 | apply gx4 | apply gx5 | apply gx6 | apply gx7 | apply gy8 | apply gz2 | apply gz3 | refine gw0 (pa) ?_ ?_ | refine gw3 (pa) ?_ ?_ ?_ | refine gw0 (pb) ?_ ?_ | refine gw3 (pb) ?_ ?_ ?_ | refine gw0 (cw1) ?_ ?_ | refine gw3 (cw1) ?_ ?_ ?_ | refine gw0 (cm1) ?_ ?_ | refine gw3 (cm1) ?_ ?_ ?_ | refine gw0 (cw2) ?_ ?_ | refine gw3 (cw2) ?_ ?_ ?_ | refine gw0 (cm2) ?_ ?_ | refine gw3 (cm2) ?_ ?_ ?_ | refine gw0 (cM) ?_ ?_ | refine gw3 (cM) ?_ ?_ ?_) | (with_reducible refine all_v ?_; intro _) | ((with_reducible refine gE ?_); (try simp (disch := omega) only [go_sem, ↓reduceIte, Nat.reduceAdd, Nat.reduceSub, Nat.reduceMul, Nat.reduceEqDiff, Nat.reduceLT, Nat.reduceLeDiff, Nat.reduceBEq, Int.reduceNeg, Int.reduceLT, Int.reduceLE, Int.reduceEq, reduceCtorEq]) <;> first | rfl | omega) | with_reducible refine t_in_other (by decide) ?_ | ((with_reducible apply gy1); iterate 3 focus rfl) | ((with_reducible apply gy2); iterate 3 focus rfl) | ((with_reducible apply gy3); iterate 2 focus rfl) | ((with_reducible apply gy4); iterate 1 focus rfl) | ((with_reducible apply gy5); iterate 4 focus rfl) | ((with_reducible apply gy6); iterate 4 focus rfl) | ((with_reducible apply d_bar); iterate 3 focus rfl) | ((with_reducible apply q_pub); iterate 1 focus rfl) | ((with_reducible apply gy7); iterate 1 focus rfl) | ((with_reducible apply gy9); (focus ((with_reducible refine gE ?_); (try simp (disch := omega) only [go_sem, ↓reduceIte, Nat.reduceAdd, Nat.reduceSub, Nat.reduceMul, Nat.reduceEqDiff, Nat.reduceLT, Nat.reduceLeDiff, Nat.reduceBEq, Int.reduceNeg, Int.reduceLT, Int.reduceLE, Int.reduceEq, reduceCtorEq]) <;> rfl))) | ((with_reducible apply gz1); (focus first | rfl | (simp (disch := omega) only [go_sem, ↓reduceIte, Nat.reduceAdd, Nat.reduceSub, Nat.reduceMul, Nat.reduceEqDiff, Nat.reduceLT, Nat.reduceLeDiff, Nat.reduceBEq, Int.reduceNeg, Int.reduceLT, Int.reduceLE, Int.reduceEq, reduceCtorEq]; done))) | ((with_reducible apply r_drawD (pickR [(2, intA false b.den), (3, intZ y1), (6, intA false a.den), (7, intZ y2), (8, .tup [.agg [.v (.bool false), .v (.slice none 0 0), .v (.slice none 0 0)], .v (.int .i64 3)])]) [] [4]); (focus kernel_rfl); (focus rfl); (focus kernel_rfl); (focus (simp only [List.length_cons, List.length_nil, Nat.reduceAdd]; rfl)))))
  simp (disch := omega) only [go_sem, ↓reduceIte, Nat.reduceAdd, Nat.reduceSub, Nat.reduceMul, Nat.reduceEqDiff, Nat.reduceLT, Nat.reduceLeDiff, Nat.reduceBEq, Int.reduceNeg, Int.reduceLT, Int.reduceLE, Int.reduceEq, reduceCtorEq]

end Go.Proofs.Ytjiffehkemeloaa
end

section
namespace Go.Proofs.Ytjiffehkemeloaa
open Go Go.RowKit Go.Pg
set_option linter.unusedSimpArgs false
set_option linter.unusedVariables false
set_option maxRecDepth 20000
attribute [local go_sem] Try.underlying31 Try.underlying3 Try.underlying78 Try.underlying72 Try.underlying4 Try.underlying33 Try.underlying35 Try.underlying25 sz3 by3 z3 szL byL zL szB zB szNat zNat szInt zInt szRat zRat Try.underlying94

theorem intZ_neg {z : Int} (h : z < 0) : intZ z = intA true z.natAbs := by unfold intZ; rw [decide_eq_true h]
theorem intZ_pos {z : Int} (h : ¬ z < 0) : intZ z = intA false z.natAbs := by unfold intZ; rw [decide_eq_false h]

theorem zOf' (s : Bool) (n : Nat) (hn : (toL n).length ≤ 100000000) : Pure Try.prog 61 [.v (.bool s), lim (toL n)] (intZ (zI s n)) := by
  rw [intZ_of]
  have hp := @toL_len_pos n
  cases s
  · refine pure_intro (tok := 0) Try.func61 rfl Try.ntmps61 Try.results61 Try.call61 (by rfl) (by simp) ?_
    (repeat' (first | (with_reducible first | refine stp ?_ | apply gx1 | apply gx2 | apply gx3 | apply gx4 | apply gx5 | apply gx6 | apply gx7 | apply gy8 | apply gz2 | apply gz3 | refine gw0 (rNorm n hn) ?_ ?_ | refine gw3 (rNorm n hn) ?_ ?_ ?_) | (with_reducible refine all_v ?_; intro _) | ((with_reducible refine gE ?_); (try simp (disch := omega) only [go_sem, ↓reduceIte, Nat.reduceAdd, Nat.reduceSub, Nat.reduceMul, Nat.reduceEqDiff, Nat.reduceLT, Nat.reduceLeDiff, Nat.reduceBEq, Int.reduceNeg, Int.reduceLT, Int.reduceLE, Int.reduceEq, reduceCtorEq]) <;> first | rfl | omega) | with_reducible refine t_in_other (by decide) ?_ | ((with_reducible apply gy1); iterate 3 focus rfl) | ((with_reducible apply gy2); iterate 3 focus rfl) | ((with_reducible apply gy3); iterate 2 focus rfl) | ((with_reducible apply gy4); iterate 1 focus rfl) | ((with_reducible apply gy5); iterate 4 focus rfl) | ((with_reducible apply gy6); iterate 4 focus rfl) | ((with_reducible apply d_bar); iterate 3 focus rfl) | ((with_reducible apply q_pub); iterate 1 focus rfl) | ((with_reducible apply gy7); iterate 1 focus rfl) | ((with_reducible apply gy9); (focus ((with_reducible refine gE ?_); (try simp (disch := omega) only [go_sem, ↓reduceIte, Nat.reduceAdd, Nat.reduceSub, Nat.reduceMul, Nat.reduceEqDiff, Nat.reduceLT, Nat.reduceLeDiff, Nat.reduceBEq, Int.reduceNeg, Int.reduceLT, Int.reduceLE, Int.reduceEq, reduceCtorEq]) <;> rfl))) | ((with_reducible apply gz1); (focus first | rfl | (simp (disch := omega) only [go_sem, ↓reduceIte, Nat.reduceAdd, Nat.reduceSub, Nat.reduceMul, Nat.reduceEqDiff, Nat.reduceLT, Nat.reduceLeDiff, Nat.reduceBEq, Int.reduceNeg, Int.reduceLT, Int.reduceLE, Int.reduceEq, reduceCtorEq]; done))) | ((with_reducible apply r_drawD (pickR []) [] []); (focus kernel_rfl); (focus rfl); (focus kernel_rfl); (focus (simp only [List.length_cons, List.length_nil, Nat.reduceAdd]; rfl)))))
    simp (disch := omega) only [go_sem, ↓reduceIte, Nat.reduceAdd, Nat.reduceSub, Nat.reduceMul, Nat.reduceEqDiff, Nat.reduceLT, Nat.reduceLeDiff, Nat.reduceBEq, Int.reduceNeg, Int.reduceLT, Int.reduceLE, Int.reduceEq, reduceCtorEq, Bool.false_and]
  · by_cases h : 0 < n
    · have h2 := hp.2 h
      refine pure_intro (tok := 0) Try.func61 rfl Try.ntmps61 Try.results61 Try.call61 (by rfl) (by simp) ?_
      (repeat' (first | (with_reducible first | refine stp ?_ | apply gx1 | apply gx2 | apply gx3 | apply gx4 | apply gx5 | apply gx6 | apply gx7 | apply gy8 | apply gz2 | apply gz3 | refine gw0 (rNorm n hn) ?_ ?_ | refine gw3 (rNorm n hn) ?_ ?_ ?_) | (with_reducible refine all_v ?_; intro _) | ((with_reducible refine gE ?_); (try simp (disch := omega) only [go_sem, ↓reduceIte, Nat.reduceAdd, Nat.reduceSub, Nat.reduceMul, Nat.reduceEqDiff, Nat.reduceLT, Nat.reduceLeDiff, Nat.reduceBEq, Int.reduceNeg, Int.reduceLT, Int.reduceLE, Int.reduceEq, reduceCtorEq]) <;> first | rfl | omega) | with_reducible refine t_in_other (by decide) ?_ | ((with_reducible apply gy1); iterate 3 focus rfl) | ((with_reducible apply gy2); iterate 3 focus rfl) | ((with_reducible apply gy3); iterate 2 focus rfl) | ((with_reducible apply gy4); iterate 1 focus rfl) | ((with_reducible apply gy5); iterate 4 focus rfl) | ((with_reducible apply gy6); iterate 4 focus rfl) | ((with_reducible apply d_bar); iterate 3 focus rfl) | ((with_reducible apply q_pub); iterate 1 focus rfl) | ((with_reducible apply gy7); iterate 1 focus rfl) | ((with_reducible apply gy9); (focus ((with_reducible refine gE ?_); (try simp (disch := omega) only [go_sem, ↓reduceIte, Nat.reduceAdd, Nat.reduceSub, Nat.reduceMul, Nat.reduceEqDiff, Nat.reduceLT, Nat.reduceLeDiff, Nat.reduceBEq, Int.reduceNeg, Int.reduceLT, Int.reduceLE, Int.reduceEq, reduceCtorEq]) <;> rfl))) | ((with_reducible apply gz1); (focus first | rfl | (simp (disch := omega) only [go_sem, ↓reduceIte, Nat.reduceAdd, Nat.reduceSub, Nat.reduceMul, Nat.reduceEqDiff, Nat.reduceLT, Nat.reduceLeDiff, Nat.reduceBEq, Int.reduceNeg, Int.reduceLT, Int.reduceLE, Int.reduceEq, reduceCtorEq]; done))) | ((with_reducible apply r_drawD (pickR []) [] []); (focus kernel_rfl); (focus rfl); (focus kernel_rfl); (focus (simp only [List.length_cons, List.length_nil, Nat.reduceAdd]; rfl)))))
      simp (disch := omega) only [go_sem, ↓reduceIte, Nat.reduceAdd, Nat.reduceSub, Nat.reduceMul, Nat.reduceEqDiff, Nat.reduceLT, Nat.reduceLeDiff, Nat.reduceBEq, Int.reduceNeg, Int.reduceLT, Int.reduceLE, Int.reduceEq, reduceCtorEq, decide_eq_true h]
    · have h2 : ¬ 0 < (toL n).length := fun h3 => h (hp.1 h3)
      refine pure_intro (tok := 0) Try.func61 rfl Try.ntmps61 Try.results61 Try.call61 (by rfl) (by simp) ?_
      (repeat' (first | (with_reducible first | refine stp ?_ | apply gx1 | apply gx2 | apply gx3 | apply gx4 | apply gx5 | apply gx6 | apply gx7 | apply gy8 | apply gz2 | apply gz3 | refine gw0 (rNorm n hn) ?_ ?_ | refine gw3 (rNorm n hn) ?_ ?_ ?_) | (with_reducible refine all_v ?_; intro _) | ((with_reducible refine gE ?_); (try simp (disch := omega) only [go_sem, ↓reduceIte, Nat.reduceAdd, Nat.reduceSub, Nat.reduceMul, Nat.reduceEqDiff, Nat.reduceLT, Nat.reduceLeDiff, Nat.reduceBEq, Int.reduceNeg, Int.reduceLT, Int.reduceLE, Int.reduceEq, reduceCtorEq]) <;> first | rfl | omega) | with_reducible refine t_in_other (by decide) ?_ | ((with_reducible apply gy1); iterate 3 focus rfl) | ((with_reducible apply gy2); iterate 3 focus rfl) | ((with_reducible apply gy3); iterate 2 focus rfl) | ((with_reducible apply gy4); iterate 1 focus rfl) | ((with_reducible apply gy5); iterate 4 focus rfl) | ((with_reducible apply gy6); iterate 4 focus rfl) | ((with_reducible apply d_bar); iterate 3 focus rfl) | ((with_reducible apply q_pub); iterate 1 focus rfl) | ((with_reducible apply gy7); iterate 1 focus rfl) | ((with_reducible apply gy9); (focus ((with_reducible refine gE ?_); (try simp (disch := omega) only [go_sem, ↓reduceIte, Nat.reduceAdd, Nat.reduceSub, Nat.reduceMul, Nat.reduceEqDiff, Nat.reduceLT, Nat.reduceLeDiff, Nat.reduceBEq, Int.reduceNeg, Int.reduceLT, Int.reduceLE, Int.reduceEq, reduceCtorEq]) <;> rfl))) | ((with_reducible apply gz1); (focus first | rfl | (simp (disch := omega) only [go_sem, ↓reduceIte, Nat.reduceAdd, Nat.reduceSub, Nat.reduceMul, Nat.reduceEqDiff, Nat.reduceLT, Nat.reduceLeDiff, Nat.reduceBEq, Int.reduceNeg, Int.reduceLT, Int.reduceLE, Int.reduceEq, reduceCtorEq]; done))) | ((with_reducible apply r_drawD (pickR []) [] []); (focus kernel_rfl); (focus rfl); (focus kernel_rfl); (focus (simp only [List.length_cons, List.length_nil, Nat.reduceAdd]; rfl)))))
      simp (disch := omega) only [go_sem, ↓reduceIte, Nat.reduceAdd, Nat.reduceSub, Nat.reduceMul, Nat.reduceEqDiff, Nat.reduceLT, Nat.reduceLeDiff, Nat.reduceBEq, Int.reduceNeg, Int.reduceLT, Int.reduceLE, Int.reduceEq, reduceCtorEq, decide_eq_false h]

theorem zNorm (s : Bool) (n : Nat) (hn : (toL n).length ≤ 100000000) : Pure Try.prog 59 [intA s n] (intZ (zI s n)) := by
  refine pure_intro (tok := 0) Try.func59 rfl Try.ntmps59 Try.results59 Try.call59 (by rfl) (by simp) ?_
  (repeat' (first | (with_reducible first | refine stp ?_ | apply gx1 | apply gx2 | apply gx3 | apply gx4 | apply gx5 | apply gx6 | apply gx7 | apply gy8 | apply gz2 | apply gz3 | refine gw0 (zOf' s n hn) ?_ ?_ | refine gw3 (zOf' s n hn) ?_ ?_ ?_) | (with_reducible refine all_v ?_; intro _) | ((with_reducible refine gE ?_); (try simp (disch := omega) only [go_sem, ↓reduceIte, Nat.reduceAdd, Nat.reduceSub, Nat.reduceMul, Nat.reduceEqDiff, Nat.reduceLT, Nat.reduceLeDiff, Nat.reduceBEq, Int.reduceNeg, Int.reduceLT, Int.reduceLE, Int.reduceEq, reduceCtorEq]) <;> first | rfl | omega) | with_reducible refine t_in_other (by decide) ?_ | ((with_reducible apply gy1); iterate 3 focus rfl) | ((with_reducible apply gy2); iterate 3 focus rfl) | ((with_reducible apply gy3); iterate 2 focus rfl) | ((with_reducible apply gy4); iterate 1 focus rfl) | ((with_reducible apply gy5); iterate 4 focus rfl) | ((with_reducible apply gy6); iterate 4 focus rfl) | ((with_reducible apply d_bar); iterate 3 focus rfl) | ((with_reducible apply q_pub); iterate 1 focus rfl) | ((with_reducible apply gy7); iterate 1 focus rfl) | ((with_reducible apply gy9); (focus ((with_reducible refine gE ?_); (try simp (disch := omega) only [go_sem, ↓reduceIte, Nat.reduceAdd, Nat.reduceSub, Nat.reduceMul, Nat.reduceEqDiff, Nat.reduceLT, Nat.reduceLeDiff, Nat.reduceBEq, Int.reduceNeg, Int.reduceLT, Int.reduceLE, Int.reduceEq, reduceCtorEq]) <;> rfl))) | ((with_reducible apply gz1); (focus first | rfl | (simp (disch := omega) only [go_sem, ↓reduceIte, Nat.reduceAdd, Nat.reduceSub, Nat.reduceMul, Nat.reduceEqDiff, Nat.reduceLT, Nat.reduceLeDiff, Nat.reduceBEq, Int.reduceNeg, Int.reduceLT, Int.reduceLE, Int.reduceEq, reduceCtorEq]; done))) | ((with_reducible apply r_drawD (pickR []) [] []); (focus kernel_rfl); (focus rfl); (focus kernel_rfl); (focus (simp only [List.length_cons, List.length_nil, Nat.reduceAdd]; rfl)))))
  simp (disch := omega) only [go_sem, ↓reduceIte, Nat.reduceAdd, Nat.reduceSub, Nat.reduceMul, Nat.reduceEqDiff, Nat.reduceLT, Nat.reduceLeDiff, Nat.reduceBEq, Int.reduceNeg, Int.reduceLT, Int.reduceLE, Int.reduceEq, reduceCtorEq]
theorem zNormZ (z : Int) (hz : (toL z.natAbs).length ≤ 100000000) : Pure Try.prog 59 [intZ z] (intZ z) := by
  have := zNorm (decide (z < 0)) z.natAbs hz
  rwa [zI_abs] at this

theorem zOf (n : Nat) (hn : n < 9223372036854775808) : Pure Try.prog 56 [.v (.int .i64 (n : Int))] (intA false n) := by
  have l4 : (toL n).length ≤ 4 := toL_len_lt.2 (by omega)
  have hm := zOf' false n (by omega)
  rw [intZ_of, Bool.false_and] at hm
  refine pure_intro (tok := 0) Try.func56 rfl Try.ntmps56 Try.results56 Try.call56 (by rfl) (by simp) ?_
  (repeat' (first | (with_reducible first | refine stp ?_ | apply gx1 | apply gx2 | apply gx3 | apply gx4 | apply gx5 | apply gx6 | apply gx7 | apply gy8 | apply gz2 | apply gz3 | refine gw0 (refOf n (by omega)) ?_ ?_ | refine gw3 (refOf n (by omega)) ?_ ?_ ?_ | refine gw0 (hm) ?_ ?_ | refine gw3 (hm) ?_ ?_ ?_) | (with_reducible refine all_v ?_; intro _) | ((with_reducible refine gE ?_); (try simp (disch := omega) only [go_sem, ↓reduceIte, Nat.reduceAdd, Nat.reduceSub, Nat.reduceMul, Nat.reduceEqDiff, Nat.reduceLT, Nat.reduceLeDiff, Nat.reduceBEq, Int.reduceNeg, Int.reduceLT, Int.reduceLE, Int.reduceEq, reduceCtorEq]) <;> first | rfl | omega) | with_reducible refine t_in_other (by decide) ?_ | ((with_reducible apply gy1); iterate 3 focus rfl) | ((with_reducible apply gy2); iterate 3 focus rfl) | ((with_reducible apply gy3); iterate 2 focus rfl) | ((with_reducible apply gy4); iterate 1 focus rfl) | ((with_reducible apply gy5); iterate 4 focus rfl) | ((with_reducible apply gy6); iterate 4 focus rfl) | ((with_reducible apply d_bar); iterate 3 focus rfl) | ((with_reducible apply q_pub); iterate 1 focus rfl) | ((with_reducible apply gy7); iterate 1 focus rfl) | ((with_reducible apply gy9); (focus ((with_reducible refine gE ?_); (try simp (disch := omega) only [go_sem, ↓reduceIte, Nat.reduceAdd, Nat.reduceSub, Nat.reduceMul, Nat.reduceEqDiff, Nat.reduceLT, Nat.reduceLeDiff, Nat.reduceBEq, Int.reduceNeg, Int.reduceLT, Int.reduceLE, Int.reduceEq, reduceCtorEq]) <;> rfl))) | ((with_reducible apply gz1); (focus first | rfl | (simp (disch := omega) only [go_sem, ↓reduceIte, Nat.reduceAdd, Nat.reduceSub, Nat.reduceMul, Nat.reduceEqDiff, Nat.reduceLT, Nat.reduceLeDiff, Nat.reduceBEq, Int.reduceNeg, Int.reduceLT, Int.reduceLE, Int.reduceEq, reduceCtorEq]; done))) | ((with_reducible apply r_drawD (pickR []) [] []); (focus kernel_rfl); (focus rfl); (focus kernel_rfl); (focus (simp only [List.length_cons, List.length_nil, Nat.reduceAdd]; rfl)))))
  simp (disch := omega) only [go_sem, ↓reduceIte, Nat.reduceAdd, Nat.reduceSub, Nat.reduceMul, Nat.reduceEqDiff, Nat.reduceLT, Nat.reduceLeDiff, Nat.reduceBEq, Int.reduceNeg, Int.reduceLT, Int.reduceLE, Int.reduceEq, reduceCtorEq]

theorem zNeg (s : Bool) (n : Nat) (hn : (toL n).length ≤ 100000000) : Pure Try.prog 86 [intA s n] (intZ (-zI s n)) := by
  have e : -zI s n = zI (!s) n := by cases s <;> simp [zI]
  rw [e]
  refine pure_intro (tok := 0) Try.func86 rfl Try.ntmps86 Try.results86 Try.call86 (by rfl) (by simp) ?_
  (repeat' (first | (with_reducible first | refine stp ?_ | apply gx1 | apply gx2 | apply gx3 | apply gx4 | apply gx5 | apply gx6 | apply gx7 | apply gy8 | apply gz2 | apply gz3 | refine gw0 (zOf' (!s) n hn) ?_ ?_ | refine gw3 (zOf' (!s) n hn) ?_ ?_ ?_) | (with_reducible refine all_v ?_; intro _) | ((with_reducible refine gE ?_); (try simp (disch := omega) only [go_sem, ↓reduceIte, Nat.reduceAdd, Nat.reduceSub, Nat.reduceMul, Nat.reduceEqDiff, Nat.reduceLT, Nat.reduceLeDiff, Nat.reduceBEq, Int.reduceNeg, Int.reduceLT, Int.reduceLE, Int.reduceEq, reduceCtorEq]) <;> first | rfl | omega) | with_reducible refine t_in_other (by decide) ?_ | ((with_reducible apply gy1); iterate 3 focus rfl) | ((with_reducible apply gy2); iterate 3 focus rfl) | ((with_reducible apply gy3); iterate 2 focus rfl) | ((with_reducible apply gy4); iterate 1 focus rfl) | ((with_reducible apply gy5); iterate 4 focus rfl) | ((with_reducible apply gy6); iterate 4 focus rfl) | ((with_reducible apply d_bar); iterate 3 focus rfl) | ((with_reducible apply q_pub); iterate 1 focus rfl) | ((with_reducible apply gy7); iterate 1 focus rfl) | ((with_reducible apply gy9); (focus ((with_reducible refine gE ?_); (try simp (disch := omega) only [go_sem, ↓reduceIte, Nat.reduceAdd, Nat.reduceSub, Nat.reduceMul, Nat.reduceEqDiff, Nat.reduceLT, Nat.reduceLeDiff, Nat.reduceBEq, Int.reduceNeg, Int.reduceLT, Int.reduceLE, Int.reduceEq, reduceCtorEq]) <;> rfl))) | ((with_reducible apply gz1); (focus first | rfl | (simp (disch := omega) only [go_sem, ↓reduceIte, Nat.reduceAdd, Nat.reduceSub, Nat.reduceMul, Nat.reduceEqDiff, Nat.reduceLT, Nat.reduceLeDiff, Nat.reduceBEq, Int.reduceNeg, Int.reduceLT, Int.reduceLE, Int.reduceEq, reduceCtorEq]; done))) | ((with_reducible apply r_drawD (pickR []) [] []); (focus kernel_rfl); (focus rfl); (focus kernel_rfl); (focus (simp only [List.length_cons, List.length_nil, Nat.reduceAdd]; rfl)))))
  simp (disch := omega) only [go_sem, ↓reduceIte, Nat.reduceAdd, Nat.reduceSub, Nat.reduceMul, Nat.reduceEqDiff, Nat.reduceLT, Nat.reduceLeDiff, Nat.reduceBEq, Int.reduceNeg, Int.reduceLT, Int.reduceLE, Int.reduceEq, reduceCtorEq]

theorem zSign (z : Int) (hz : (toL z.natAbs).length ≤ 100000000) : Pure Try.prog 100 [intZ z] (.v (.int .i64 z.sign)) := by
  have cn := zNormZ z hz
  have hp := @toL_len_pos z.natAbs
  rcases Int.lt_trichotomy z 0 with h | h | h
  · rw [Int.sign_eq_neg_one_of_neg h]
    have h2 := hp.2 (by omega)
    rw [intZ_neg h] at cn ⊢
    refine pure_intro (tok := 0) Try.func100 rfl Try.ntmps100 Try.results100 Try.call100 (by rfl) (by simp) ?_
    (repeat' (first | (with_reducible first | refine stp ?_ | apply gx1 | apply gx2 | apply gx3 | apply gx4 | apply gx5 | apply gx6 | apply gx7 | apply gy8 | apply gz2 | apply gz3 | refine gw0 (cn) ?_ ?_ | refine gw3 (cn) ?_ ?_ ?_) | (with_reducible refine all_v ?_; intro _) | ((with_reducible refine gE ?_); (try simp (disch := omega) only [go_sem, ↓reduceIte, Nat.reduceAdd, Nat.reduceSub, Nat.reduceMul, Nat.reduceEqDiff, Nat.reduceLT, Nat.reduceLeDiff, Nat.reduceBEq, Int.reduceNeg, Int.reduceLT, Int.reduceLE, Int.reduceEq, reduceCtorEq]) <;> first | rfl | omega) | with_reducible refine t_in_other (by decide) ?_ | ((with_reducible apply gy1); iterate 3 focus rfl) | ((with_reducible apply gy2); iterate 3 focus rfl) | ((with_reducible apply gy3); iterate 2 focus rfl) | ((with_reducible apply gy4); iterate 1 focus rfl) | ((with_reducible apply gy5); iterate 4 focus rfl) | ((with_reducible apply gy6); iterate 4 focus rfl) | ((with_reducible apply d_bar); iterate 3 focus rfl) | ((with_reducible apply q_pub); iterate 1 focus rfl) | ((with_reducible apply gy7); iterate 1 focus rfl) | ((with_reducible apply gy9); (focus ((with_reducible refine gE ?_); (try simp (disch := omega) only [go_sem, ↓reduceIte, Nat.reduceAdd, Nat.reduceSub, Nat.reduceMul, Nat.reduceEqDiff, Nat.reduceLT, Nat.reduceLeDiff, Nat.reduceBEq, Int.reduceNeg, Int.reduceLT, Int.reduceLE, Int.reduceEq, reduceCtorEq]) <;> rfl))) | ((with_reducible apply gz1); (focus first | rfl | (simp (disch := omega) only [go_sem, ↓reduceIte, Nat.reduceAdd, Nat.reduceSub, Nat.reduceMul, Nat.reduceEqDiff, Nat.reduceLT, Nat.reduceLeDiff, Nat.reduceBEq, Int.reduceNeg, Int.reduceLT, Int.reduceLE, Int.reduceEq, reduceCtorEq]; done))) | ((with_reducible apply r_drawD (pickR []) [] []); (focus kernel_rfl); (focus rfl); (focus kernel_rfl); (focus (simp only [List.length_cons, List.length_nil, Nat.reduceAdd]; rfl)))))
    simp (disch := omega) only [go_sem, ↓reduceIte, Nat.reduceAdd, Nat.reduceSub, Nat.reduceMul, Nat.reduceEqDiff, Nat.reduceLT, Nat.reduceLeDiff, Nat.reduceBEq, Int.reduceNeg, Int.reduceLT, Int.reduceLE, Int.reduceEq, reduceCtorEq]
  · have h2 : ¬ 0 < (toL z.natAbs).length := fun h3 => by have := hp.1 h3; omega
    have hs : z.sign = 0 := by rw [h]; rfl
    rw [hs]
    rw [intZ_pos (by omega)] at cn ⊢
    refine pure_intro (tok := 0) Try.func100 rfl Try.ntmps100 Try.results100 Try.call100 (by rfl) (by simp) ?_
    (repeat' (first | (with_reducible first | refine stp ?_ | apply gx1 | apply gx2 | apply gx3 | apply gx4 | apply gx5 | apply gx6 | apply gx7 | apply gy8 | apply gz2 | apply gz3 | refine gw0 (cn) ?_ ?_ | refine gw3 (cn) ?_ ?_ ?_) | (with_reducible refine all_v ?_; intro _) | ((with_reducible refine gE ?_); (try simp (disch := omega) only [go_sem, ↓reduceIte, Nat.reduceAdd, Nat.reduceSub, Nat.reduceMul, Nat.reduceEqDiff, Nat.reduceLT, Nat.reduceLeDiff, Nat.reduceBEq, Int.reduceNeg, Int.reduceLT, Int.reduceLE, Int.reduceEq, reduceCtorEq]) <;> first | rfl | omega) | with_reducible refine t_in_other (by decide) ?_ | ((with_reducible apply gy1); iterate 3 focus rfl) | ((with_reducible apply gy2); iterate 3 focus rfl) | ((with_reducible apply gy3); iterate 2 focus rfl) | ((with_reducible apply gy4); iterate 1 focus rfl) | ((with_reducible apply gy5); iterate 4 focus rfl) | ((with_reducible apply gy6); iterate 4 focus rfl) | ((with_reducible apply d_bar); iterate 3 focus rfl) | ((with_reducible apply q_pub); iterate 1 focus rfl) | ((with_reducible apply gy7); iterate 1 focus rfl) | ((with_reducible apply gy9); (focus ((with_reducible refine gE ?_); (try simp (disch := omega) only [go_sem, ↓reduceIte, Nat.reduceAdd, Nat.reduceSub, Nat.reduceMul, Nat.reduceEqDiff, Nat.reduceLT, Nat.reduceLeDiff, Nat.reduceBEq, Int.reduceNeg, Int.reduceLT, Int.reduceLE, Int.reduceEq, reduceCtorEq]) <;> rfl))) | ((with_reducible apply gz1); (focus first | rfl | (simp (disch := omega) only [go_sem, ↓reduceIte, Nat.reduceAdd, Nat.reduceSub, Nat.reduceMul, Nat.reduceEqDiff, Nat.reduceLT, Nat.reduceLeDiff, Nat.reduceBEq, Int.reduceNeg, Int.reduceLT, Int.reduceLE, Int.reduceEq, reduceCtorEq]; done))) | ((with_reducible apply r_drawD (pickR []) [] []); (focus kernel_rfl); (focus rfl); (focus kernel_rfl); (focus (simp only [List.length_cons, List.length_nil, Nat.reduceAdd]; rfl)))))
    simp (disch := omega) only [go_sem, ↓reduceIte, Nat.reduceAdd, Nat.reduceSub, Nat.reduceMul, Nat.reduceEqDiff, Nat.reduceLT, Nat.reduceLeDiff, Nat.reduceBEq, Int.reduceNeg, Int.reduceLT, Int.reduceLE, Int.reduceEq, reduceCtorEq]
  · rw [Int.sign_eq_one_of_pos h]
    have h2 := hp.2 (by omega)
    rw [intZ_pos (by omega)] at cn ⊢
    refine pure_intro (tok := 0) Try.func100 rfl Try.ntmps100 Try.results100 Try.call100 (by rfl) (by simp) ?_
    (repeat' (first | (with_reducible first | refine stp ?_ | apply gx1 | apply gx2 | apply gx3 | apply gx4 | apply gx5 | apply gx6 | apply gx7 | apply gy8 | apply gz2 | apply gz3 | refine gw0 (cn) ?_ ?_ | refine gw3 (cn) ?_ ?_ ?_) | (with_reducible refine all_v ?_; intro _) | ((with_reducible refine gE ?_); (try simp (disch := omega) only [go_sem, ↓reduceIte, Nat.reduceAdd, Nat.reduceSub, Nat.reduceMul, Nat.reduceEqDiff, Nat.reduceLT, Nat.reduceLeDiff, Nat.reduceBEq, Int.reduceNeg, Int.reduceLT, Int.reduceLE, Int.reduceEq, reduceCtorEq]) <;> first | rfl | omega) | with_reducible refine t_in_other (by decide) ?_ | ((with_reducible apply gy1); iterate 3 focus rfl) | ((with_reducible apply gy2); iterate 3 focus rfl) | ((with_reducible apply gy3); iterate 2 focus rfl) | ((with_reducible apply gy4); iterate 1 focus rfl) | ((with_reducible apply gy5); iterate 4 focus rfl) | ((with_reducible apply gy6); iterate 4 focus rfl) | ((with_reducible apply d_bar); iterate 3 focus rfl) | ((with_reducible apply q_pub); iterate 1 focus rfl) | ((with_reducible apply gy7); iterate 1 focus rfl) | ((with_reducible apply gy9); (focus ((with_reducible refine gE ?_); (try simp (disch := omega) only [go_sem, ↓reduceIte, Nat.reduceAdd, Nat.reduceSub, Nat.reduceMul, Nat.reduceEqDiff, Nat.reduceLT, Nat.reduceLeDiff, Nat.reduceBEq, Int.reduceNeg, Int.reduceLT, Int.reduceLE, Int.reduceEq, reduceCtorEq]) <;> rfl))) | ((with_reducible apply gz1); (focus first | rfl | (simp (disch := omega) only [go_sem, ↓reduceIte, Nat.reduceAdd, Nat.reduceSub, Nat.reduceMul, Nat.reduceEqDiff, Nat.reduceLT, Nat.reduceLeDiff, Nat.reduceBEq, Int.reduceNeg, Int.reduceLT, Int.reduceLE, Int.reduceEq, reduceCtorEq]; done))) | ((with_reducible apply r_drawD (pickR []) [] []); (focus kernel_rfl); (focus rfl); (focus kernel_rfl); (focus (simp only [List.length_cons, List.length_nil, Nat.reduceAdd]; rfl)))))
    simp (disch := omega) only [go_sem, ↓reduceIte, Nat.reduceAdd, Nat.reduceSub, Nat.reduceMul, Nat.reduceEqDiff, Nat.reduceLT, Nat.reduceLeDiff, Nat.reduceBEq, Int.reduceNeg, Int.reduceLT, Int.reduceLE, Int.reduceEq, reduceCtorEq]

theorem zCmp (z w : Int) (hz : (toL z.natAbs).length ≤ 100000000) (hw : (toL w.natAbs).length ≤ 100000000) : Pure Try.prog 31 [intZ z, intZ w] (.v (.int .i64 (cmpZ z w))) := by
  have c1 := zNormZ z hz
  have c2 := zNormZ w hw
  have ca := rCmp z.natAbs w.natAbs hz hw
  have cb := rCmp w.natAbs z.natAbs hw hz
  by_cases h1 : z < 0
  · by_cases h2 : w < 0
    · have hc : cmpZ z w = cmpN w.natAbs z.natAbs := by
        unfold cmpZ cmpN
        have e1 : (z < w) ↔ (w.natAbs < z.natAbs) := by omega
        have e2 : (w < z) ↔ (z.natAbs < w.natAbs) := by omega
        simp only [e1, e2]
      rw [hc]
      rw [intZ_neg h1] at c1 ⊢
      rw [intZ_neg h2] at c2 ⊢
      refine pure_intro (tok := 0) Try.func31 rfl Try.ntmps31 Try.results31 Try.call31 (by rfl) (by simp) ?_
      (repeat' (first | (with_reducible first | refine stp ?_ | apply gx1 | apply gx2 | apply gx3 | apply gx4 | apply gx5 | apply gx6 | apply gx7 | apply gy8 | apply gz2 | apply gz3 | refine gw0 (c1) ?_ ?_ | refine gw3 (c1) ?_ ?_ ?_ | refine gw0 (c2) ?_ ?_ | refine gw3 (c2) ?_ ?_ ?_ | refine gw0 (cb) ?_ ?_ | refine gw3 (cb) ?_ ?_ ?_) | (with_reducible refine all_v ?_; intro _) | ((with_reducible refine gE ?_); (try simp (disch := omega) only [go_sem, ↓reduceIte, Nat.reduceAdd, Nat.reduceSub, Nat.reduceMul, Nat.reduceEqDiff, Nat.reduceLT, Nat.reduceLeDiff, Nat.reduceBEq, Int.reduceNeg, Int.reduceLT, Int.reduceLE, Int.reduceEq, reduceCtorEq]) <;> first | rfl | omega) | with_reducible refine t_in_other (by decide) ?_ | ((with_reducible apply gy1); iterate 3 focus rfl) | ((with_reducible apply gy2); iterate 3 focus rfl) | ((with_reducible apply gy3); iterate 2 focus rfl) | ((with_reducible apply gy4); iterate 1 focus rfl) | ((with_reducible apply gy5); iterate 4 focus rfl) | ((with_reducible apply gy6); iterate 4 focus rfl) | ((with_reducible apply d_bar); iterate 3 focus rfl) | ((with_reducible apply q_pub); iterate 1 focus rfl) | ((with_reducible apply gy7); iterate 1 focus rfl) | ((with_reducible apply gy9); (focus ((with_reducible refine gE ?_); (try simp (disch := omega) only [go_sem, ↓reduceIte, Nat.reduceAdd, Nat.reduceSub, Nat.reduceMul, Nat.reduceEqDiff, Nat.reduceLT, Nat.reduceLeDiff, Nat.reduceBEq, Int.reduceNeg, Int.reduceLT, Int.reduceLE, Int.reduceEq, reduceCtorEq]) <;> rfl))) | ((with_reducible apply gz1); (focus first | rfl | (simp (disch := omega) only [go_sem, ↓reduceIte, Nat.reduceAdd, Nat.reduceSub, Nat.reduceMul, Nat.reduceEqDiff, Nat.reduceLT, Nat.reduceLeDiff, Nat.reduceBEq, Int.reduceNeg, Int.reduceLT, Int.reduceLE, Int.reduceEq, reduceCtorEq]; done))) | ((with_reducible apply r_drawD (pickR [(1, .agg [.v (.bool true), lim (toL z.natAbs)]), (3, .agg [.v (.bool true), lim (toL w.natAbs)])]) [4,5] []); (focus kernel_rfl); (focus rfl); (focus kernel_rfl); (focus (simp only [List.length_cons, List.length_nil, Nat.reduceAdd]; rfl)))))
      simp (disch := omega) only [go_sem, ↓reduceIte, Nat.reduceAdd, Nat.reduceSub, Nat.reduceMul, Nat.reduceEqDiff, Nat.reduceLT, Nat.reduceLeDiff, Nat.reduceBEq, Int.reduceNeg, Int.reduceLT, Int.reduceLE, Int.reduceEq, reduceCtorEq]
    · have hc : cmpZ z w = -1 := if_pos (by omega)
      rw [hc]
      rw [intZ_neg h1] at c1 ⊢
      rw [intZ_pos h2] at c2 ⊢
      refine pure_intro (tok := 0) Try.func31 rfl Try.ntmps31 Try.results31 Try.call31 (by rfl) (by simp) ?_
      (repeat' (first | (with_reducible first | refine stp ?_ | apply gx1 | apply gx2 | apply gx3 | apply gx4 | apply gx5 | apply gx6 | apply gx7 | apply gy8 | apply gz2 | apply gz3 | refine gw0 (c1) ?_ ?_ | refine gw3 (c1) ?_ ?_ ?_ | refine gw0 (c2) ?_ ?_ | refine gw3 (c2) ?_ ?_ ?_) | (with_reducible refine all_v ?_; intro _) | ((with_reducible refine gE ?_); (try simp (disch := omega) only [go_sem, ↓reduceIte, Nat.reduceAdd, Nat.reduceSub, Nat.reduceMul, Nat.reduceEqDiff, Nat.reduceLT, Nat.reduceLeDiff, Nat.reduceBEq, Int.reduceNeg, Int.reduceLT, Int.reduceLE, Int.reduceEq, reduceCtorEq]) <;> first | rfl | omega) | with_reducible refine t_in_other (by decide) ?_ | ((with_reducible apply gy1); iterate 3 focus rfl) | ((with_reducible apply gy2); iterate 3 focus rfl) | ((with_reducible apply gy3); iterate 2 focus rfl) | ((with_reducible apply gy4); iterate 1 focus rfl) | ((with_reducible apply gy5); iterate 4 focus rfl) | ((with_reducible apply gy6); iterate 4 focus rfl) | ((with_reducible apply d_bar); iterate 3 focus rfl) | ((with_reducible apply q_pub); iterate 1 focus rfl) | ((with_reducible apply gy7); iterate 1 focus rfl) | ((with_reducible apply gy9); (focus ((with_reducible refine gE ?_); (try simp (disch := omega) only [go_sem, ↓reduceIte, Nat.reduceAdd, Nat.reduceSub, Nat.reduceMul, Nat.reduceEqDiff, Nat.reduceLT, Nat.reduceLeDiff, Nat.reduceBEq, Int.reduceNeg, Int.reduceLT, Int.reduceLE, Int.reduceEq, reduceCtorEq]) <;> rfl))) | ((with_reducible apply gz1); (focus first | rfl | (simp (disch := omega) only [go_sem, ↓reduceIte, Nat.reduceAdd, Nat.reduceSub, Nat.reduceMul, Nat.reduceEqDiff, Nat.reduceLT, Nat.reduceLeDiff, Nat.reduceBEq, Int.reduceNeg, Int.reduceLT, Int.reduceLE, Int.reduceEq, reduceCtorEq]; done))) | ((with_reducible apply r_drawD (pickR [(1, .agg [.v (.bool true), lim (toL z.natAbs)]), (3, .agg [.v (.bool false), lim (toL w.natAbs)])]) [4,5] []); (focus kernel_rfl); (focus rfl); (focus kernel_rfl); (focus (simp only [List.length_cons, List.length_nil, Nat.reduceAdd]; rfl)))))
      simp (disch := omega) only [go_sem, ↓reduceIte, Nat.reduceAdd, Nat.reduceSub, Nat.reduceMul, Nat.reduceEqDiff, Nat.reduceLT, Nat.reduceLeDiff, Nat.reduceBEq, Int.reduceNeg, Int.reduceLT, Int.reduceLE, Int.reduceEq, reduceCtorEq]
  · by_cases h2 : w < 0
    · have hc : cmpZ z w = 1 := by unfold cmpZ; rw [if_neg (by omega), if_pos (by omega)]
      rw [hc]
      rw [intZ_pos h1] at c1 ⊢
      rw [intZ_neg h2] at c2 ⊢
      refine pure_intro (tok := 0) Try.func31 rfl Try.ntmps31 Try.results31 Try.call31 (by rfl) (by simp) ?_
      (repeat' (first | (with_reducible first | refine stp ?_ | apply gx1 | apply gx2 | apply gx3 | apply gx4 | apply gx5 | apply gx6 | apply gx7 | apply gy8 | apply gz2 | apply gz3 | refine gw0 (c1) ?_ ?_ | refine gw3 (c1) ?_ ?_ ?_ | refine gw0 (c2) ?_ ?_ | refine gw3 (c2) ?_ ?_ ?_) | (with_reducible refine all_v ?_; intro _) | ((with_reducible refine gE ?_); (try simp (disch := omega) only [go_sem, ↓reduceIte, Nat.reduceAdd, Nat.reduceSub, Nat.reduceMul, Nat.reduceEqDiff, Nat.reduceLT, Nat.reduceLeDiff, Nat.reduceBEq, Int.reduceNeg, Int.reduceLT, Int.reduceLE, Int.reduceEq, reduceCtorEq]) <;> first | rfl | omega) | with_reducible refine t_in_other (by decide) ?_ | ((with_reducible apply gy1); iterate 3 focus rfl) | ((with_reducible apply gy2); iterate 3 focus rfl) | ((with_reducible apply gy3); iterate 2 focus rfl) | ((with_reducible apply gy4); iterate 1 focus rfl) | ((with_reducible apply gy5); iterate 4 focus rfl) | ((with_reducible apply gy6); iterate 4 focus rfl) | ((with_reducible apply d_bar); iterate 3 focus rfl) | ((with_reducible apply q_pub); iterate 1 focus rfl) | ((with_reducible apply gy7); iterate 1 focus rfl) | ((with_reducible apply gy9); (focus ((with_reducible refine gE ?_); (try simp (disch := omega) only [go_sem, ↓reduceIte, Nat.reduceAdd, Nat.reduceSub, Nat.reduceMul, Nat.reduceEqDiff, Nat.reduceLT, Nat.reduceLeDiff, Nat.reduceBEq, Int.reduceNeg, Int.reduceLT, Int.reduceLE, Int.reduceEq, reduceCtorEq]) <;> rfl))) | ((with_reducible apply gz1); (focus first | rfl | (simp (disch := omega) only [go_sem, ↓reduceIte, Nat.reduceAdd, Nat.reduceSub, Nat.reduceMul, Nat.reduceEqDiff, Nat.reduceLT, Nat.reduceLeDiff, Nat.reduceBEq, Int.reduceNeg, Int.reduceLT, Int.reduceLE, Int.reduceEq, reduceCtorEq]; done))) | ((with_reducible apply r_drawD (pickR [(1, .agg [.v (.bool false), lim (toL z.natAbs)]), (3, .agg [.v (.bool true), lim (toL w.natAbs)])]) [4,5] []); (focus kernel_rfl); (focus rfl); (focus kernel_rfl); (focus (simp only [List.length_cons, List.length_nil, Nat.reduceAdd]; rfl)))))
      simp (disch := omega) only [go_sem, ↓reduceIte, Nat.reduceAdd, Nat.reduceSub, Nat.reduceMul, Nat.reduceEqDiff, Nat.reduceLT, Nat.reduceLeDiff, Nat.reduceBEq, Int.reduceNeg, Int.reduceLT, Int.reduceLE, Int.reduceEq, reduceCtorEq]
    · have hc : cmpZ z w = cmpN z.natAbs w.natAbs := by
        unfold cmpZ cmpN
        have e1 : (z < w) ↔ (z.natAbs < w.natAbs) := by omega
        have e2 : (w < z) ↔ (w.natAbs < z.natAbs) := by omega
        simp only [e1, e2]
      rw [hc]
      rw [intZ_pos h1] at c1 ⊢
      rw [intZ_pos h2] at c2 ⊢
      refine pure_intro (tok := 0) Try.func31 rfl Try.ntmps31 Try.results31 Try.call31 (by rfl) (by simp) ?_
      (repeat' (first | (with_reducible first | refine stp ?_ | apply gx1 | apply gx2 | apply gx3 | apply gx4 | apply gx5 | apply gx6 | apply gx7 | apply gy8 | apply gz2 | apply gz3 | refine gw0 (c1) ?_ ?_ | refine gw3 (c1) ?_ ?_ ?_ | refine gw0 (c2) ?_ ?_ | refine gw3 (c2) ?_ ?_ ?_ | refine gw0 (ca) ?_ ?_ | refine gw3 (ca) ?_ ?_ ?_) | (with_reducible refine all_v ?_; intro _) | ((with_reducible refine gE ?_); (try simp (disch := omega) only [go_sem, ↓reduceIte, Nat.reduceAdd, Nat.reduceSub, Nat.reduceMul, Nat.reduceEqDiff, Nat.reduceLT, Nat.reduceLeDiff, Nat.reduceBEq, Int.reduceNeg, Int.reduceLT, Int.reduceLE, Int.reduceEq, reduceCtorEq]) <;> first | rfl | omega) | with_reducible refine t_in_other (by decide) ?_ | ((with_reducible apply gy1); iterate 3 focus rfl) | ((with_reducible apply gy2); iterate 3 focus rfl) | ((with_reducible apply gy3); iterate 2 focus rfl) | ((with_reducible apply gy4); iterate 1 focus rfl) | ((with_reducible apply gy5); iterate 4 focus rfl) | ((with_reducible apply gy6); iterate 4 focus rfl) | ((with_reducible apply d_bar); iterate 3 focus rfl) | ((with_reducible apply q_pub); iterate 1 focus rfl) | ((with_reducible apply gy7); iterate 1 focus rfl) | ((with_reducible apply gy9); (focus ((with_reducible refine gE ?_); (try simp (disch := omega) only [go_sem, ↓reduceIte, Nat.reduceAdd, Nat.reduceSub, Nat.reduceMul, Nat.reduceEqDiff, Nat.reduceLT, Nat.reduceLeDiff, Nat.reduceBEq, Int.reduceNeg, Int.reduceLT, Int.reduceLE, Int.reduceEq, reduceCtorEq]) <;> rfl))) | ((with_reducible apply gz1); (focus first | rfl | (simp (disch := omega) only [go_sem, ↓reduceIte, Nat.reduceAdd, Nat.reduceSub, Nat.reduceMul, Nat.reduceEqDiff, Nat.reduceLT, Nat.reduceLeDiff, Nat.reduceBEq, Int.reduceNeg, Int.reduceLT, Int.reduceLE, Int.reduceEq, reduceCtorEq]; done))) | ((with_reducible apply r_drawD (pickR [(1, .agg [.v (.bool false), lim (toL z.natAbs)]), (3, .agg [.v (.bool false), lim (toL w.natAbs)])]) [4,5] []); (focus kernel_rfl); (focus rfl); (focus kernel_rfl); (focus (simp only [List.length_cons, List.length_nil, Nat.reduceAdd]; rfl)))))
      simp (disch := omega) only [go_sem, ↓reduceIte, Nat.reduceAdd, Nat.reduceSub, Nat.reduceMul, Nat.reduceEqDiff, Nat.reduceLT, Nat.reduceLeDiff, Nat.reduceBEq, Int.reduceNeg, Int.reduceLT, Int.reduceLE, Int.reduceEq, reduceCtorEq]

theorem zMul (s t : Bool) (n m : Nat) (hn : (toL n).length ≤ 40000000) (hm : (toL m).length ≤ 40000000) : Pure Try.prog 32 [intA s n, intA t m] (intZ (zI s n * zI t m)) := by
  have e : zI s n * zI t m = zI (s != t) (n * m) := by cases s <;> cases t <;> simp [zI, Int.mul_neg, Int.neg_mul]
  have lm := lg_mul n m
  have hne : (!(s == t)) = (s != t) := rfl
  rw [e]
  refine pure_intro (tok := 0) Try.func32 rfl Try.ntmps32 Try.results32 Try.call32 (by rfl) (by simp) ?_
  (repeat' (first | (with_reducible first | refine stp ?_ | apply gx1 | apply gx2 | apply gx3 | apply gx4 | apply gx5 | apply gx6 | apply gx7 | apply gy8 | apply gz2 | apply gz3 | refine gw0 (rMul n m (by omega) (by omega)) ?_ ?_ | refine gw3 (rMul n m (by omega) (by omega)) ?_ ?_ ?_ | refine gw0 (zOf' (s != t) (n * m) (by omega)) ?_ ?_ | refine gw3 (zOf' (s != t) (n * m) (by omega)) ?_ ?_ ?_) | (with_reducible refine all_v ?_; intro _) | ((with_reducible refine gE ?_); (try simp (disch := omega) only [go_sem, ↓reduceIte, Nat.reduceAdd, Nat.reduceSub, Nat.reduceMul, Nat.reduceEqDiff, Nat.reduceLT, Nat.reduceLeDiff, Nat.reduceBEq, Int.reduceNeg, Int.reduceLT, Int.reduceLE, Int.reduceEq, reduceCtorEq, hne]) <;> first | rfl | omega) | with_reducible refine t_in_other (by decide) ?_ | ((with_reducible apply gy1); iterate 3 focus rfl) | ((with_reducible apply gy2); iterate 3 focus rfl) | ((with_reducible apply gy3); iterate 2 focus rfl) | ((with_reducible apply gy4); iterate 1 focus rfl) | ((with_reducible apply gy5); iterate 4 focus rfl) | ((with_reducible apply gy6); iterate 4 focus rfl) | ((with_reducible apply d_bar); iterate 3 focus rfl) | ((with_reducible apply q_pub); iterate 1 focus rfl) | ((with_reducible apply gy7); iterate 1 focus rfl) | ((with_reducible apply gy9); (focus ((with_reducible refine gE ?_); (try simp (disch := omega) only [go_sem, ↓reduceIte, Nat.reduceAdd, Nat.reduceSub, Nat.reduceMul, Nat.reduceEqDiff, Nat.reduceLT, Nat.reduceLeDiff, Nat.reduceBEq, Int.reduceNeg, Int.reduceLT, Int.reduceLE, Int.reduceEq, reduceCtorEq, hne]) <;> rfl))) | ((with_reducible apply gz1); (focus first | rfl | (simp (disch := omega) only [go_sem, ↓reduceIte, Nat.reduceAdd, Nat.reduceSub, Nat.reduceMul, Nat.reduceEqDiff, Nat.reduceLT, Nat.reduceLeDiff, Nat.reduceBEq, Int.reduceNeg, Int.reduceLT, Int.reduceLE, Int.reduceEq, reduceCtorEq, hne]; done))) | ((with_reducible apply r_drawD (pickR [(9, lim (toL (n * m))), (10, intZ (zI (s != t) (n * m)))]) [11] []); (focus kernel_rfl); (focus rfl); (focus kernel_rfl); (focus (simp only [List.length_cons, List.length_nil, Nat.reduceAdd]; rfl)))))
  simp (disch := omega) only [go_sem, ↓reduceIte, Nat.reduceAdd, Nat.reduceSub, Nat.reduceMul, Nat.reduceEqDiff, Nat.reduceLT, Nat.reduceLeDiff, Nat.reduceBEq, Int.reduceNeg, Int.reduceLT, Int.reduceLE, Int.reduceEq, reduceCtorEq]

set_option maxHeartbeats 1000000 in
theorem zAdd (s t : Bool) (n m : Nat) (hn : (toL n).length ≤ 40000000) (hm : (toL m).length ≤ 40000000) : Pure Try.prog 35 [intA s n, intA t m] (intZ (zI s n + zI t m)) := by
  by_cases hst : s = t
  · subst hst
    have e : zI s n + zI s m = zI s (n + m) := by cases s <;> simp [zI] <;> omega
    have la := lg_add n m
    rw [e]
    have hb : (s == s) = true := by cases s <;> rfl
    refine pure_intro (tok := 0) Try.func35 rfl Try.ntmps35 Try.results35 Try.call35 (by rfl) (by simp) ?_
    (repeat' (first | (with_reducible first | refine stp ?_ | apply gx1 | apply gx2 | apply gx3 | apply gx4 | apply gx5 | apply gx6 | apply gx7 | apply gy8 | apply gz2 | apply gz3 | refine gw0 (rAdd n m (by omega) (by omega)) ?_ ?_ | refine gw3 (rAdd n m (by omega) (by omega)) ?_ ?_ ?_ | refine gw0 (zOf' s (n + m) (by omega)) ?_ ?_ | refine gw3 (zOf' s (n + m) (by omega)) ?_ ?_ ?_) | (with_reducible refine all_v ?_; intro _) | ((with_reducible refine gE ?_); (try simp (disch := omega) only [go_sem, ↓reduceIte, Nat.reduceAdd, Nat.reduceSub, Nat.reduceMul, Nat.reduceEqDiff, Nat.reduceLT, Nat.reduceLeDiff, Nat.reduceBEq, Int.reduceNeg, Int.reduceLT, Int.reduceLE, Int.reduceEq, reduceCtorEq, hb]) <;> first | rfl | omega) | with_reducible refine t_in_other (by decide) ?_ | ((with_reducible apply gy1); iterate 3 focus rfl) | ((with_reducible apply gy2); iterate 3 focus rfl) | ((with_reducible apply gy3); iterate 2 focus rfl) | ((with_reducible apply gy4); iterate 1 focus rfl) | ((with_reducible apply gy5); iterate 4 focus rfl) | ((with_reducible apply gy6); iterate 4 focus rfl) | ((with_reducible apply d_bar); iterate 3 focus rfl) | ((with_reducible apply q_pub); iterate 1 focus rfl) | ((with_reducible apply gy7); iterate 1 focus rfl) | ((with_reducible apply gy9); (focus ((with_reducible refine gE ?_); (try simp (disch := omega) only [go_sem, ↓reduceIte, Nat.reduceAdd, Nat.reduceSub, Nat.reduceMul, Nat.reduceEqDiff, Nat.reduceLT, Nat.reduceLeDiff, Nat.reduceBEq, Int.reduceNeg, Int.reduceLT, Int.reduceLE, Int.reduceEq, reduceCtorEq, hb]) <;> rfl))) | ((with_reducible apply gz1); (focus first | rfl | (simp (disch := omega) only [go_sem, ↓reduceIte, Nat.reduceAdd, Nat.reduceSub, Nat.reduceMul, Nat.reduceEqDiff, Nat.reduceLT, Nat.reduceLeDiff, Nat.reduceBEq, Int.reduceNeg, Int.reduceLT, Int.reduceLE, Int.reduceEq, reduceCtorEq, hb]; done))) | ((with_reducible apply r_drawD (pickR [(6, lim (toL (n + m))), (7, intZ (zI s (n + m)))]) [8] []); (focus kernel_rfl); (focus rfl); (focus kernel_rfl); (focus (simp only [List.length_cons, List.length_nil, Nat.reduceAdd]; rfl)))))
    simp (disch := omega) only [go_sem, ↓reduceIte, Nat.reduceAdd, Nat.reduceSub, Nat.reduceMul, Nat.reduceEqDiff, Nat.reduceLT, Nat.reduceLeDiff, Nat.reduceBEq, Int.reduceNeg, Int.reduceLT, Int.reduceLE, Int.reduceEq, reduceCtorEq]
  · have hb : (s == t) = false := by cases s <;> cases t <;> first | rfl | exact absurd rfl hst
    have ht : t = !s := by cases s <;> cases t <;> first | rfl | exact absurd rfl hst
    have c1 := rSub n m (by omega) (by omega)
    have c2 := rSub m n (by omega) (by omega)
    by_cases hlt : n < m
    · have e : zI s n + zI t m = zI t (m - n) := by rw [ht]; cases s <;> simp [zI] <;> omega
      have ls : (toL (m - n)).length ≤ 100000000 := Nat.le_trans (lg_mono (Nat.sub_le _ _)) (by omega)
      rw [if_pos hlt, if_pos hlt] at c1
      rw [if_neg (by omega), if_neg (by omega)] at c2
      rw [e]
      refine pure_intro (tok := 0) Try.func35 rfl Try.ntmps35 Try.results35 Try.call35 (by rfl) (by simp) ?_
      (repeat' (first | (with_reducible first | refine stp ?_ | apply gx1 | apply gx2 | apply gx3 | apply gx4 | apply gx5 | apply gx6 | apply gx7 | apply gy8 | apply gz2 | apply gz3 | refine gw0 (c1) ?_ ?_ | refine gw3 (c1) ?_ ?_ ?_ | refine gw0 (c2) ?_ ?_ | refine gw3 (c2) ?_ ?_ ?_ | refine gw0 (zOf' t (m - n) ls) ?_ ?_ | refine gw3 (zOf' t (m - n) ls) ?_ ?_ ?_) | (with_reducible refine all_v ?_; intro _) | ((with_reducible refine gE ?_); (try simp (disch := omega) only [go_sem, ↓reduceIte, Nat.reduceAdd, Nat.reduceSub, Nat.reduceMul, Nat.reduceEqDiff, Nat.reduceLT, Nat.reduceLeDiff, Nat.reduceBEq, Int.reduceNeg, Int.reduceLT, Int.reduceLE, Int.reduceEq, reduceCtorEq, hb]) <;> first | rfl | omega) | with_reducible refine t_in_other (by decide) ?_ | ((with_reducible apply gy1); iterate 3 focus rfl) | ((with_reducible apply gy2); iterate 3 focus rfl) | ((with_reducible apply gy3); iterate 2 focus rfl) | ((with_reducible apply gy4); iterate 1 focus rfl) | ((with_reducible apply gy5); iterate 4 focus rfl) | ((with_reducible apply gy6); iterate 4 focus rfl) | ((with_reducible apply d_bar); iterate 3 focus rfl) | ((with_reducible apply q_pub); iterate 1 focus rfl) | ((with_reducible apply gy7); iterate 1 focus rfl) | ((with_reducible apply gy9); (focus ((with_reducible refine gE ?_); (try simp (disch := omega) only [go_sem, ↓reduceIte, Nat.reduceAdd, Nat.reduceSub, Nat.reduceMul, Nat.reduceEqDiff, Nat.reduceLT, Nat.reduceLeDiff, Nat.reduceBEq, Int.reduceNeg, Int.reduceLT, Int.reduceLE, Int.reduceEq, reduceCtorEq, hb]) <;> rfl))) | ((with_reducible apply gz1); (focus first | rfl | (simp (disch := omega) only [go_sem, ↓reduceIte, Nat.reduceAdd, Nat.reduceSub, Nat.reduceMul, Nat.reduceEqDiff, Nat.reduceLT, Nat.reduceLeDiff, Nat.reduceBEq, Int.reduceNeg, Int.reduceLT, Int.reduceLE, Int.reduceEq, reduceCtorEq, hb]; done))) | ((with_reducible apply r_drawD (pickR []) [] []); (focus kernel_rfl); (focus rfl); (focus kernel_rfl); (focus (simp only [List.length_cons, List.length_nil, Nat.reduceAdd]; rfl)))))
      simp (disch := omega) only [go_sem, ↓reduceIte, Nat.reduceAdd, Nat.reduceSub, Nat.reduceMul, Nat.reduceEqDiff, Nat.reduceLT, Nat.reduceLeDiff, Nat.reduceBEq, Int.reduceNeg, Int.reduceLT, Int.reduceLE, Int.reduceEq, reduceCtorEq]
    · have e : zI s n + zI t m = zI s (n - m) := by rw [ht]; cases s <;> simp [zI] <;> omega
      have ls : (toL (n - m)).length ≤ 100000000 := Nat.le_trans (lg_mono (Nat.sub_le _ _)) (by omega)
      rw [if_neg hlt, if_neg hlt] at c1
      rw [e]
      refine pure_intro (tok := 0) Try.func35 rfl Try.ntmps35 Try.results35 Try.call35 (by rfl) (by simp) ?_
      (repeat' (first | (with_reducible first | refine stp ?_ | apply gx1 | apply gx2 | apply gx3 | apply gx4 | apply gx5 | apply gx6 | apply gx7 | apply gy8 | apply gz2 | apply gz3 | refine gw0 (c1) ?_ ?_ | refine gw3 (c1) ?_ ?_ ?_ | refine gw0 (zOf' s (n - m) ls) ?_ ?_ | refine gw3 (zOf' s (n - m) ls) ?_ ?_ ?_) | (with_reducible refine all_v ?_; intro _) | ((with_reducible refine gE ?_); (try simp (disch := omega) only [go_sem, ↓reduceIte, Nat.reduceAdd, Nat.reduceSub, Nat.reduceMul, Nat.reduceEqDiff, Nat.reduceLT, Nat.reduceLeDiff, Nat.reduceBEq, Int.reduceNeg, Int.reduceLT, Int.reduceLE, Int.reduceEq, reduceCtorEq, hb]) <;> first | rfl | omega) | with_reducible refine t_in_other (by decide) ?_ | ((with_reducible apply gy1); iterate 3 focus rfl) | ((with_reducible apply gy2); iterate 3 focus rfl) | ((with_reducible apply gy3); iterate 2 focus rfl) | ((with_reducible apply gy4); iterate 1 focus rfl) | ((with_reducible apply gy5); iterate 4 focus rfl) | ((with_reducible apply gy6); iterate 4 focus rfl) | ((with_reducible apply d_bar); iterate 3 focus rfl) | ((with_reducible apply q_pub); iterate 1 focus rfl) | ((with_reducible apply gy7); iterate 1 focus rfl) | ((with_reducible apply gy9); (focus ((with_reducible refine gE ?_); (try simp (disch := omega) only [go_sem, ↓reduceIte, Nat.reduceAdd, Nat.reduceSub, Nat.reduceMul, Nat.reduceEqDiff, Nat.reduceLT, Nat.reduceLeDiff, Nat.reduceBEq, Int.reduceNeg, Int.reduceLT, Int.reduceLE, Int.reduceEq, reduceCtorEq, hb]) <;> rfl))) | ((with_reducible apply gz1); (focus first | rfl | (simp (disch := omega) only [go_sem, ↓reduceIte, Nat.reduceAdd, Nat.reduceSub, Nat.reduceMul, Nat.reduceEqDiff, Nat.reduceLT, Nat.reduceLeDiff, Nat.reduceBEq, Int.reduceNeg, Int.reduceLT, Int.reduceLE, Int.reduceEq, reduceCtorEq, hb]; done))) | ((with_reducible apply r_drawD (pickR []) [] []); (focus kernel_rfl); (focus rfl); (focus kernel_rfl); (focus (simp only [List.length_cons, List.length_nil, Nat.reduceAdd]; rfl)))))
      simp (disch := omega) only [go_sem, ↓reduceIte, Nat.reduceAdd, Nat.reduceSub, Nat.reduceMul, Nat.reduceEqDiff, Nat.reduceLT, Nat.reduceLeDiff, Nat.reduceBEq, Int.reduceNeg, Int.reduceLT, Int.reduceLE, Int.reduceEq, reduceCtorEq]

set_option maxHeartbeats 1000000 in
/-- By a positive number. -/
theorem zDivMod (s : Bool) (n m : Nat) (hn : (toL n).length ≤ 10000000) (hm : (toL m).length ≤ 10000000) (h0 : m ≠ 0) : Pure Try.prog 87 [intA s n, intA false m] (.tup [intZ (zI s n / m), intZ (zI s n % m), .v (.int .i64 0)]) := by
  have cd := rDivMod n m (by omega) (by omega) h0
  have hq : (toL (n / m)).length ≤ 10000000 := Nat.le_trans (lg_mono (Nat.div_le_self _ _)) hn
  have hr : (toL (n % m)).length ≤ 10000000 := Nat.le_trans (lg_mono (Nat.mod_le _ _)) hn
  have hp := @toL_len_pos (n % m)
  have hmp := Nat.pos_of_ne_zero h0
  have x1 : (!(false == false)) = false := rfl
  have x2 : (!(true == false)) = true := rfl
  cases s
  · have e1 : zI false n / m = zI false (n / m) := by simp [zI]
    have e2 : zI false n % m = zI false (n % m) := by simp [zI]
    rw [e1, e2]
    refine pure_intro (tok := 0) Try.func87 rfl Try.ntmps87 Try.results87 Try.call87 (by rfl) (by simp) ?_
    (repeat' (first | (with_reducible first | refine stp ?_ | apply gx1 | apply gx2 | apply gx3 | apply gx4 | apply gx5 | apply gx6 | apply gx7 | apply gy8 | apply gz2 | apply gz3 | refine gw0 (cd) ?_ ?_ | refine gw3 (cd) ?_ ?_ ?_ | refine gw0 (zOf' false (n / m) (by omega)) ?_ ?_ | refine gw3 (zOf' false (n / m) (by omega)) ?_ ?_ ?_ | refine gw0 (zOf' false (n % m) (by omega)) ?_ ?_ | refine gw3 (zOf' false (n % m) (by omega)) ?_ ?_ ?_) | (with_reducible refine all_v ?_; intro _) | ((with_reducible refine gE ?_); (try simp (disch := omega) only [go_sem, ↓reduceIte, Nat.reduceAdd, Nat.reduceSub, Nat.reduceMul, Nat.reduceEqDiff, Nat.reduceLT, Nat.reduceLeDiff, Nat.reduceBEq, Int.reduceNeg, Int.reduceLT, Int.reduceLE, Int.reduceEq, reduceCtorEq, x1]) <;> first | rfl | omega) | with_reducible refine t_in_other (by decide) ?_ | ((with_reducible apply gy1); iterate 3 focus rfl) | ((with_reducible apply gy2); iterate 3 focus rfl) | ((with_reducible apply gy3); iterate 2 focus rfl) | ((with_reducible apply gy4); iterate 1 focus rfl) | ((with_reducible apply gy5); iterate 4 focus rfl) | ((with_reducible apply gy6); iterate 4 focus rfl) | ((with_reducible apply d_bar); iterate 3 focus rfl) | ((with_reducible apply q_pub); iterate 1 focus rfl) | ((with_reducible apply gy7); iterate 1 focus rfl) | ((with_reducible apply gy9); (focus ((with_reducible refine gE ?_); (try simp (disch := omega) only [go_sem, ↓reduceIte, Nat.reduceAdd, Nat.reduceSub, Nat.reduceMul, Nat.reduceEqDiff, Nat.reduceLT, Nat.reduceLeDiff, Nat.reduceBEq, Int.reduceNeg, Int.reduceLT, Int.reduceLE, Int.reduceEq, reduceCtorEq, x1]) <;> rfl))) | ((with_reducible apply gz1); (focus first | rfl | (simp (disch := omega) only [go_sem, ↓reduceIte, Nat.reduceAdd, Nat.reduceSub, Nat.reduceMul, Nat.reduceEqDiff, Nat.reduceLT, Nat.reduceLeDiff, Nat.reduceBEq, Int.reduceNeg, Int.reduceLT, Int.reduceLE, Int.reduceEq, reduceCtorEq, x1]; done))) | ((with_reducible apply r_drawD (pickR []) [] []); (focus kernel_rfl); (focus rfl); (focus kernel_rfl); (focus (simp only [List.length_cons, List.length_nil, Nat.reduceAdd]; rfl)))))
    simp (disch := omega) only [go_sem, ↓reduceIte, Nat.reduceAdd, Nat.reduceSub, Nat.reduceMul, Nat.reduceEqDiff, Nat.reduceLT, Nat.reduceLeDiff, Nat.reduceBEq, Int.reduceNeg, Int.reduceLT, Int.reduceLE, Int.reduceEq, reduceCtorEq]
  · by_cases hz : n % m = 0
    · have hdm := Nat.div_add_mod n m
      rw [hz, Nat.add_zero] at hdm
      have e1 : zI true n / m = zI true (n / m) := by
        simp only [zI, if_true]
        have : (n : Int) = (m : Int) * ((n / m : Nat) : Int) := by rw [← Int.natCast_mul, hdm]
        rw [this, ← Int.mul_neg, Int.mul_ediv_cancel_left _ (by omega)]
      have e2 : zI true n % m = zI false 0 := by
        simp only [zI, if_true, Bool.false_eq_true, if_false]
        have : (n : Int) = (m : Int) * ((n / m : Nat) : Int) := by rw [← Int.natCast_mul, hdm]
        rw [this, ← Int.mul_neg, Int.mul_emod_right]
        rfl
      have l0' : (toL 0).length = 0 := by rw [toL_zero]; rfl
      rw [hz] at cd
      rw [e1, e2]
      refine pure_intro (tok := 0) Try.func87 rfl Try.ntmps87 Try.results87 Try.call87 (by rfl) (by simp) ?_
      (repeat' (first | (with_reducible first | refine stp ?_ | apply gx1 | apply gx2 | apply gx3 | apply gx4 | apply gx5 | apply gx6 | apply gx7 | apply gy8 | apply gz2 | apply gz3 | refine gw0 (cd) ?_ ?_ | refine gw3 (cd) ?_ ?_ ?_ | refine gw0 (zOf' true (n / m) (by omega)) ?_ ?_ | refine gw3 (zOf' true (n / m) (by omega)) ?_ ?_ ?_ | refine gw0 (zOf' false 0 (by omega)) ?_ ?_ | refine gw3 (zOf' false 0 (by omega)) ?_ ?_ ?_) | (with_reducible refine all_v ?_; intro _) | ((with_reducible refine gE ?_); (try simp (disch := omega) only [go_sem, ↓reduceIte, Nat.reduceAdd, Nat.reduceSub, Nat.reduceMul, Nat.reduceEqDiff, Nat.reduceLT, Nat.reduceLeDiff, Nat.reduceBEq, Int.reduceNeg, Int.reduceLT, Int.reduceLE, Int.reduceEq, reduceCtorEq, l0', x2]) <;> first | rfl | omega) | with_reducible refine t_in_other (by decide) ?_ | ((with_reducible apply gy1); iterate 3 focus rfl) | ((with_reducible apply gy2); iterate 3 focus rfl) | ((with_reducible apply gy3); iterate 2 focus rfl) | ((with_reducible apply gy4); iterate 1 focus rfl) | ((with_reducible apply gy5); iterate 4 focus rfl) | ((with_reducible apply gy6); iterate 4 focus rfl) | ((with_reducible apply d_bar); iterate 3 focus rfl) | ((with_reducible apply q_pub); iterate 1 focus rfl) | ((with_reducible apply gy7); iterate 1 focus rfl) | ((with_reducible apply gy9); (focus ((with_reducible refine gE ?_); (try simp (disch := omega) only [go_sem, ↓reduceIte, Nat.reduceAdd, Nat.reduceSub, Nat.reduceMul, Nat.reduceEqDiff, Nat.reduceLT, Nat.reduceLeDiff, Nat.reduceBEq, Int.reduceNeg, Int.reduceLT, Int.reduceLE, Int.reduceEq, reduceCtorEq, l0', x2]) <;> rfl))) | ((with_reducible apply gz1); (focus first | rfl | (simp (disch := omega) only [go_sem, ↓reduceIte, Nat.reduceAdd, Nat.reduceSub, Nat.reduceMul, Nat.reduceEqDiff, Nat.reduceLT, Nat.reduceLeDiff, Nat.reduceBEq, Int.reduceNeg, Int.reduceLT, Int.reduceLE, Int.reduceEq, reduceCtorEq, l0', x2]; done))) | ((with_reducible apply r_drawD (pickR []) [] []); (focus kernel_rfl); (focus rfl); (focus kernel_rfl); (focus (simp only [List.length_cons, List.length_nil, Nat.reduceAdd]; rfl)))))
      simp (disch := omega) only [go_sem, ↓reduceIte, Nat.reduceAdd, Nat.reduceSub, Nat.reduceMul, Nat.reduceEqDiff, Nat.reduceLT, Nat.reduceLeDiff, Nat.reduceBEq, Int.reduceNeg, Int.reduceLT, Int.reduceLE, Int.reduceEq, reduceCtorEq]
    · have hrp : 0 < (toL (n % m)).length := hp.2 (by omega)
      have hml := Nat.mod_lt n hmp
      have hdm := Nat.div_add_mod n m
      have hnn : (n : Int) = (m : Int) * ((n / m : Nat) : Int) + ((n % m : Nat) : Int) := by rw [← Int.natCast_mul, ← Int.natCast_add, hdm]
      have ee : zI true n = (m : Int) * (-(((n / m + 1 : Nat) : Nat) : Int)) + ((m - n % m : Nat) : Int) := by
        simp only [zI, if_true]
        have h5 : ((m - n % m : Nat) : Int) = (m : Int) - ((n % m : Nat) : Int) := by omega
        have h6 : (m : Int) * (-(((n / m + 1 : Nat) : Nat) : Int)) = -((m : Int) * ((n / m : Nat) : Int)) - m := by
          rw [Int.natCast_add, Int.mul_neg, Int.mul_add]
          generalize (m : Int) * ((n / m : Nat) : Int) = z
          simp only [Int.natCast_one, Int.mul_one]
          omega
        rw [h5, h6]
        generalize (m : Int) * ((n / m : Nat) : Int) = z at hnn ⊢
        omega
      have hlt : ((m - n % m : Nat) : Int) < (m : Int) := by omega
      have e1 : zI true n / m = zI true (n / m + 1) := by
        rw [ee, Int.mul_add_ediv_left _ _ (by omega), Int.ediv_eq_zero_of_lt (Int.natCast_nonneg _) hlt, Int.add_zero]
        rfl
      have e2 : zI true n % m = zI false (m - n % m) := by
        rw [ee, Int.mul_add_emod_self_left, Int.emod_eq_of_lt (Int.natCast_nonneg _) hlt]
        rfl
      have lq := lg_add (n / m) 1
      rw [lg_one] at lq
      have lr : (toL (m - n % m)).length ≤ 100000000 := Nat.le_trans (lg_mono (Nat.sub_le _ _)) (by omega)
      have ca := rAdd (n / m) 1 (by omega) (by rw [lg_one]; omega)
      have cs := rSub m (n % m) (by omega) (by omega)
      rw [if_neg (by omega), if_neg (by omega)] at cs
      rw [e1, e2]
      refine pure_intro (tok := 0) Try.func87 rfl Try.ntmps87 Try.results87 Try.call87 (by rfl) (by simp) ?_
      (repeat' (first | (with_reducible first | refine stp ?_ | apply gx1 | apply gx2 | apply gx3 | apply gx4 | apply gx5 | apply gx6 | apply gx7 | apply gy8 | apply gz2 | apply gz3 | refine gw0 (cd) ?_ ?_ | refine gw3 (cd) ?_ ?_ ?_ | refine gw0 (refOf 1 (by omega)) ?_ ?_ | refine gw3 (refOf 1 (by omega)) ?_ ?_ ?_ | refine gw0 (ca) ?_ ?_ | refine gw3 (ca) ?_ ?_ ?_ | refine gw0 (cs) ?_ ?_ | refine gw3 (cs) ?_ ?_ ?_ | refine gw0 (zOf' true (n / m + 1) (by omega)) ?_ ?_ | refine gw3 (zOf' true (n / m + 1) (by omega)) ?_ ?_ ?_ | refine gw0 (zOf' false (m - n % m) (by omega)) ?_ ?_ | refine gw3 (zOf' false (m - n % m) (by omega)) ?_ ?_ ?_) | (with_reducible refine all_v ?_; intro _) | ((with_reducible refine gE ?_); (try simp (disch := omega) only [go_sem, ↓reduceIte, Nat.reduceAdd, Nat.reduceSub, Nat.reduceMul, Nat.reduceEqDiff, Nat.reduceLT, Nat.reduceLeDiff, Nat.reduceBEq, Int.reduceNeg, Int.reduceLT, Int.reduceLE, Int.reduceEq, reduceCtorEq, x2]) <;> first | rfl | omega) | with_reducible refine t_in_other (by decide) ?_ | ((with_reducible apply gy1); iterate 3 focus rfl) | ((with_reducible apply gy2); iterate 3 focus rfl) | ((with_reducible apply gy3); iterate 2 focus rfl) | ((with_reducible apply gy4); iterate 1 focus rfl) | ((with_reducible apply gy5); iterate 4 focus rfl) | ((with_reducible apply gy6); iterate 4 focus rfl) | ((with_reducible apply d_bar); iterate 3 focus rfl) | ((with_reducible apply q_pub); iterate 1 focus rfl) | ((with_reducible apply gy7); iterate 1 focus rfl) | ((with_reducible apply gy9); (focus ((with_reducible refine gE ?_); (try simp (disch := omega) only [go_sem, ↓reduceIte, Nat.reduceAdd, Nat.reduceSub, Nat.reduceMul, Nat.reduceEqDiff, Nat.reduceLT, Nat.reduceLeDiff, Nat.reduceBEq, Int.reduceNeg, Int.reduceLT, Int.reduceLE, Int.reduceEq, reduceCtorEq, x2]) <;> rfl))) | ((with_reducible apply gz1); (focus first | rfl | (simp (disch := omega) only [go_sem, ↓reduceIte, Nat.reduceAdd, Nat.reduceSub, Nat.reduceMul, Nat.reduceEqDiff, Nat.reduceLT, Nat.reduceLeDiff, Nat.reduceBEq, Int.reduceNeg, Int.reduceLT, Int.reduceLE, Int.reduceEq, reduceCtorEq, x2]; done))) | ((with_reducible apply r_drawD (pickR []) [] []); (focus kernel_rfl); (focus rfl); (focus kernel_rfl); (focus (simp only [List.length_cons, List.length_nil, Nat.reduceAdd]; rfl)))))
      simp (disch := omega) only [go_sem, ↓reduceIte, Nat.reduceAdd, Nat.reduceSub, Nat.reduceMul, Nat.reduceEqDiff, Nat.reduceLT, Nat.reduceLeDiff, Nat.reduceBEq, Int.reduceNeg, Int.reduceLT, Int.reduceLE, Int.reduceEq, reduceCtorEq]

end Go.Proofs.Ytjiffehkemeloaa
end

section
namespace Go.Proofs.Ytjiffehkemeloaa
open Go Go.RowKit Go.Pg
set_option linter.unusedSimpArgs false
set_option linter.unusedVariables false
set_option maxRecDepth 20000
attribute [local go_sem] Try.underlying31 Try.underlying3 Try.underlying78 Try.underlying72 Try.underlying4 Try.underlying33 Try.underlying35 Try.underlying25 sz3 by3 z3 szL byL zL szB zB szNat zNat szInt zInt szRat zRat Try.underlying94

theorem gcd_le_l (n m : Nat) (h : m ≠ 0) : Nat.gcd n m ≠ 0 := Nat.ne_of_gt (Nat.gcd_pos_of_pos_right _ (Nat.pos_of_ne_zero h))
theorem intZ_div (s : Bool) (n g : Nat) (hg : g ∣ n) (h0 : g ≠ 0) : intZ (zI s (n / g)) = .agg [.v (.bool (decide (zI s n < 0))), lim (toL (n / g))] := by
  rw [intZ_of, zI_lt]
  have : (0 < n / g) ↔ (0 < n) := by
    obtain ⟨k, rfl⟩ := hg
    rw [Nat.mul_div_cancel_left _ (Nat.pos_of_ne_zero h0)]
    constructor
    · intro h; exact Nat.mul_pos (Nat.pos_of_ne_zero h0) h
    · intro h; exact Nat.pos_of_ne_zero fun e => by rw [e] at h; simp at h
  simp only [this]

set_option maxHeartbeats 1000000 in
theorem qOver (s : Bool) (n m : Nat) (hn : (toL n).length ≤ 10000000) (hm : (toL m).length ≤ 10000000) (h0 : m ≠ 0) : Pure Try.prog 34 [intA s n, lim (toL m)] (ratQ (mkRat (zI s n) m)) := by
  rw [ratQ_mk _ _ h0, zI_natAbs]
  have g0 := gcd_le_l n m h0
  have hgd := Nat.gcd_dvd_left n m
  have hmp := toL_len_pos.2 (Nat.pos_of_ne_zero h0)
  have hg : (toL (Nat.gcd n m)).length ≤ 10000000 := Nat.le_trans (lg_mono (Nat.le_of_dvd (by omega) (Nat.gcd_dvd_right _ _))) hm
  have hq : (toL (n / Nat.gcd n m)).length ≤ 10000000 := Nat.le_trans (lg_mono (Nat.div_le_self _ _)) hn
  have cg := rGcd n m (by omega) (by omega)
  have c1 := rDivMod n (Nat.gcd n m) (by omega) (by omega) g0
  have c2 := rDivMod m (Nat.gcd n m) (by omega) (by omega) g0
  have cn := zNorm s (n / Nat.gcd n m) (by omega)
  rw [intZ_div s n _ hgd g0] at cn
  refine pure_intro (tok := 0) Try.func34 rfl Try.ntmps34 Try.results34 Try.call34 (by rfl) (by simp) ?_
  (repeat' (first | (with_reducible first | refine stp ?_ | apply gx1 | apply gx2 | apply gx3 | apply gx4 | apply gx5 | apply gx6 | apply gx7 | apply gy8 | apply gz2 | apply gz3 | refine gw0 (rNorm m (by omega)) ?_ ?_ | refine gw3 (rNorm m (by omega)) ?_ ?_ ?_ | refine gw0 (cg) ?_ ?_ | refine gw3 (cg) ?_ ?_ ?_ | refine gw0 (c1) ?_ ?_ | refine gw3 (c1) ?_ ?_ ?_ | refine gw0 (c2) ?_ ?_ | refine gw3 (c2) ?_ ?_ ?_ | refine gw0 (cn) ?_ ?_ | refine gw3 (cn) ?_ ?_ ?_) | (with_reducible refine all_v ?_; intro _) | ((with_reducible refine gE ?_); (try simp (disch := omega) only [go_sem, ↓reduceIte, Nat.reduceAdd, Nat.reduceSub, Nat.reduceMul, Nat.reduceEqDiff, Nat.reduceLT, Nat.reduceLeDiff, Nat.reduceBEq, Int.reduceNeg, Int.reduceLT, Int.reduceLE, Int.reduceEq, reduceCtorEq]) <;> first | rfl | omega) | with_reducible refine t_in_other (by decide) ?_ | ((with_reducible apply gy1); iterate 3 focus rfl) | ((with_reducible apply gy2); iterate 3 focus rfl) | ((with_reducible apply gy3); iterate 2 focus rfl) | ((with_reducible apply gy4); iterate 1 focus rfl) | ((with_reducible apply gy5); iterate 4 focus rfl) | ((with_reducible apply gy6); iterate 4 focus rfl) | ((with_reducible apply d_bar); iterate 3 focus rfl) | ((with_reducible apply q_pub); iterate 1 focus rfl) | ((with_reducible apply gy7); iterate 1 focus rfl) | ((with_reducible apply gy9); (focus ((with_reducible refine gE ?_); (try simp (disch := omega) only [go_sem, ↓reduceIte, Nat.reduceAdd, Nat.reduceSub, Nat.reduceMul, Nat.reduceEqDiff, Nat.reduceLT, Nat.reduceLeDiff, Nat.reduceBEq, Int.reduceNeg, Int.reduceLT, Int.reduceLE, Int.reduceEq, reduceCtorEq]) <;> rfl))) | ((with_reducible apply gz1); (focus first | rfl | (simp (disch := omega) only [go_sem, ↓reduceIte, Nat.reduceAdd, Nat.reduceSub, Nat.reduceMul, Nat.reduceEqDiff, Nat.reduceLT, Nat.reduceLeDiff, Nat.reduceBEq, Int.reduceNeg, Int.reduceLT, Int.reduceLE, Int.reduceEq, reduceCtorEq]; done))) | ((with_reducible apply r_drawD (pickR []) [] []); (focus kernel_rfl); (focus rfl); (focus kernel_rfl); (focus (simp only [List.length_cons, List.length_nil, Nat.reduceAdd]; rfl)))))
  simp (disch := omega) only [go_sem, ↓reduceIte, Nat.reduceAdd, Nat.reduceSub, Nat.reduceMul, Nat.reduceEqDiff, Nat.reduceLT, Nat.reduceLeDiff, Nat.reduceBEq, Int.reduceNeg, Int.reduceLT, Int.reduceLE, Int.reduceEq, reduceCtorEq]

theorem qNorm (q : Rat) {k : Nat} (h : Sz q k) (hk : k ≤ 10000000) : Pure Try.prog 30 [ratQ q] (ratQ q) := by
  have c := qOver (decide (q.num < 0)) q.num.natAbs q.den (Nat.le_trans h.1 hk) (Nat.le_trans h.2 hk) q.den_nz
  rw [zI_abs, Rat.mkRat_self] at c
  refine pure_intro (tok := 0) Try.func30 rfl Try.ntmps30 Try.results30 Try.call30 (by rfl) (by simp) ?_
  (repeat' (first | (with_reducible first | refine stp ?_ | apply gx1 | apply gx2 | apply gx3 | apply gx4 | apply gx5 | apply gx6 | apply gx7 | apply gy8 | apply gz2 | apply gz3 | refine gw0 (c) ?_ ?_ | refine gw3 (c) ?_ ?_ ?_) | (with_reducible refine all_v ?_; intro _) | ((with_reducible refine gE ?_); (try simp (disch := omega) only [go_sem, ↓reduceIte, Nat.reduceAdd, Nat.reduceSub, Nat.reduceMul, Nat.reduceEqDiff, Nat.reduceLT, Nat.reduceLeDiff, Nat.reduceBEq, Int.reduceNeg, Int.reduceLT, Int.reduceLE, Int.reduceEq, reduceCtorEq]) <;> first | rfl | omega) | with_reducible refine t_in_other (by decide) ?_ | ((with_reducible apply gy1); iterate 3 focus rfl) | ((with_reducible apply gy2); iterate 3 focus rfl) | ((with_reducible apply gy3); iterate 2 focus rfl) | ((with_reducible apply gy4); iterate 1 focus rfl) | ((with_reducible apply gy5); iterate 4 focus rfl) | ((with_reducible apply gy6); iterate 4 focus rfl) | ((with_reducible apply d_bar); iterate 3 focus rfl) | ((with_reducible apply q_pub); iterate 1 focus rfl) | ((with_reducible apply gy7); iterate 1 focus rfl) | ((with_reducible apply gy9); (focus ((with_reducible refine gE ?_); (try simp (disch := omega) only [go_sem, ↓reduceIte, Nat.reduceAdd, Nat.reduceSub, Nat.reduceMul, Nat.reduceEqDiff, Nat.reduceLT, Nat.reduceLeDiff, Nat.reduceBEq, Int.reduceNeg, Int.reduceLT, Int.reduceLE, Int.reduceEq, reduceCtorEq]) <;> rfl))) | ((with_reducible apply gz1); (focus first | rfl | (simp (disch := omega) only [go_sem, ↓reduceIte, Nat.reduceAdd, Nat.reduceSub, Nat.reduceMul, Nat.reduceEqDiff, Nat.reduceLT, Nat.reduceLeDiff, Nat.reduceBEq, Int.reduceNeg, Int.reduceLT, Int.reduceLE, Int.reduceEq, reduceCtorEq]; done))) | ((with_reducible apply r_drawD (pickR []) [] []); (focus kernel_rfl); (focus rfl); (focus kernel_rfl); (focus (simp only [List.length_cons, List.length_nil, Nat.reduceAdd]; rfl)))))
  simp (disch := omega) only [go_sem, ↓reduceIte, Nat.reduceAdd, Nat.reduceSub, Nat.reduceMul, Nat.reduceEqDiff, Nat.reduceLT, Nat.reduceLeDiff, Nat.reduceBEq, Int.reduceNeg, Int.reduceLT, Int.reduceLE, Int.reduceEq, reduceCtorEq]

theorem qWhole (n : Nat) : Pure Try.prog 33 [lim (toL n)] (intA false n) := by
  refine pure_intro (tok := 0) Try.func33 rfl Try.ntmps33 Try.results33 Try.call33 (by rfl) (by simp) ?_
  (repeat' (first | (with_reducible first | refine stp ?_ | apply gx1 | apply gx2 | apply gx3 | apply gx4 | apply gx5 | apply gx6 | apply gx7) | (with_reducible refine all_v ?_; intro _) | ((with_reducible refine gE ?_); (try simp (disch := omega) only [go_sem, ↓reduceIte, Nat.reduceAdd, Nat.reduceSub, Nat.reduceMul, Nat.reduceEqDiff, Nat.reduceLT, Nat.reduceLeDiff, Nat.reduceBEq, Int.reduceNeg, Int.reduceLT, Int.reduceLE, Int.reduceEq, reduceCtorEq]) <;> first | rfl | omega) | with_reducible refine t_in_other (by decide) ?_))
  simp (disch := omega) only [go_sem, ↓reduceIte, Nat.reduceAdd, Nat.reduceSub, Nat.reduceMul, Nat.reduceEqDiff, Nat.reduceLT, Nat.reduceLeDiff, Nat.reduceBEq, Int.reduceNeg, Int.reduceLT, Int.reduceLE, Int.reduceEq, reduceCtorEq]

set_option maxHeartbeats 1000000 in
theorem qMake (z w : Int) (hz : (toL z.natAbs).length ≤ 10000000) (hw : (toL w.natAbs).length ≤ 10000000) (h0 : w ≠ 0) : Pure Try.prog 84 [intZ z, intZ w] (.tup [ratQ (Rat.divInt z w), .v (.int .i64 0)]) := by
  have cs := zSign w (by omega)
  have hs : w.sign ≠ 0 := fun h => h0 (Int.sign_eq_zero_iff_zero.1 h)
  rcases (by omega : w < 0 ∨ 0 < w) with h | h
  · have e : Rat.divInt z w = mkRat (-z) w.natAbs := by
      have hw1 : w = -((w.natAbs : Nat) : Int) := by omega
      rw [show Rat.divInt z w = Rat.divInt z (-((w.natAbs : Nat) : Int)) by rw [← hw1], Rat.divInt_neg', Rat.divInt_ofNat]
    have cn := zNeg (decide (z < 0)) z.natAbs (by omega)
    have c := qOver (decide (-z < 0)) (-z).natAbs w.natAbs (by rw [Int.natAbs_neg]; omega) hw (by omega)
    rw [zI_abs] at c cn
    rw [← e] at c
    generalize -z = y at *
    generalize Rat.divInt z w = q at *
    rw [intZ_neg h] at cs ⊢
    refine pure_intro (tok := 0) Try.func84 rfl Try.ntmps84 Try.results84 Try.call84 (by rfl) (by simp) ?_
    (repeat' (first | (with_reducible first | refine stp ?_ | apply gx1 | apply gx2 | apply gx3 | apply gx4 | apply gx5 | apply gx6 | apply gx7 | apply gy8 | apply gz2 | apply gz3 | refine gw0 (cs) ?_ ?_ | refine gw3 (cs) ?_ ?_ ?_ | refine gw0 (cn) ?_ ?_ | refine gw3 (cn) ?_ ?_ ?_ | refine gw0 (c) ?_ ?_ | refine gw3 (c) ?_ ?_ ?_) | (with_reducible refine all_v ?_; intro _) | ((with_reducible refine gE ?_); (try simp (disch := omega) only [go_sem, ↓reduceIte, Nat.reduceAdd, Nat.reduceSub, Nat.reduceMul, Nat.reduceEqDiff, Nat.reduceLT, Nat.reduceLeDiff, Nat.reduceBEq, Int.reduceNeg, Int.reduceLT, Int.reduceLE, Int.reduceEq, reduceCtorEq]) <;> first | rfl | omega) | with_reducible refine t_in_other (by decide) ?_ | ((with_reducible apply gy1); iterate 3 focus rfl) | ((with_reducible apply gy2); iterate 3 focus rfl) | ((with_reducible apply gy3); iterate 2 focus rfl) | ((with_reducible apply gy4); iterate 1 focus rfl) | ((with_reducible apply gy5); iterate 4 focus rfl) | ((with_reducible apply gy6); iterate 4 focus rfl) | ((with_reducible apply d_bar); iterate 3 focus rfl) | ((with_reducible apply q_pub); iterate 1 focus rfl) | ((with_reducible apply gy7); iterate 1 focus rfl) | ((with_reducible apply gy9); (focus ((with_reducible refine gE ?_); (try simp (disch := omega) only [go_sem, ↓reduceIte, Nat.reduceAdd, Nat.reduceSub, Nat.reduceMul, Nat.reduceEqDiff, Nat.reduceLT, Nat.reduceLeDiff, Nat.reduceBEq, Int.reduceNeg, Int.reduceLT, Int.reduceLE, Int.reduceEq, reduceCtorEq]) <;> rfl))) | ((with_reducible apply gz1); (focus first | rfl | (simp (disch := omega) only [go_sem, ↓reduceIte, Nat.reduceAdd, Nat.reduceSub, Nat.reduceMul, Nat.reduceEqDiff, Nat.reduceLT, Nat.reduceLeDiff, Nat.reduceBEq, Int.reduceNeg, Int.reduceLT, Int.reduceLE, Int.reduceEq, reduceCtorEq]; done))) | ((with_reducible apply r_drawD (pickR []) [] []); (focus kernel_rfl); (focus rfl); (focus kernel_rfl); (focus (simp only [List.length_cons, List.length_nil, Nat.reduceAdd]; rfl)))))
    simp (disch := omega) only [go_sem, ↓reduceIte, Nat.reduceAdd, Nat.reduceSub, Nat.reduceMul, Nat.reduceEqDiff, Nat.reduceLT, Nat.reduceLeDiff, Nat.reduceBEq, Int.reduceNeg, Int.reduceLT, Int.reduceLE, Int.reduceEq, reduceCtorEq]
  · have e : Rat.divInt z w = mkRat z w.natAbs := by
      have hw1 : w = ((w.natAbs : Nat) : Int) := by omega
      rw [show Rat.divInt z w = Rat.divInt z ((w.natAbs : Nat) : Int) by rw [← hw1], Rat.divInt_ofNat]
    have c := qOver (decide (z < 0)) z.natAbs w.natAbs hz hw (by omega)
    rw [zI_abs, ← e] at c
    generalize Rat.divInt z w = q at *
    rw [intZ_pos (by omega : ¬ w < 0)] at cs ⊢
    refine pure_intro (tok := 0) Try.func84 rfl Try.ntmps84 Try.results84 Try.call84 (by rfl) (by simp) ?_
    (repeat' (first | (with_reducible first | refine stp ?_ | apply gx1 | apply gx2 | apply gx3 | apply gx4 | apply gx5 | apply gx6 | apply gx7 | apply gy8 | apply gz2 | apply gz3 | refine gw0 (cs) ?_ ?_ | refine gw3 (cs) ?_ ?_ ?_ | refine gw0 (c) ?_ ?_ | refine gw3 (c) ?_ ?_ ?_) | (with_reducible refine all_v ?_; intro _) | ((with_reducible refine gE ?_); (try simp (disch := omega) only [go_sem, ↓reduceIte, Nat.reduceAdd, Nat.reduceSub, Nat.reduceMul, Nat.reduceEqDiff, Nat.reduceLT, Nat.reduceLeDiff, Nat.reduceBEq, Int.reduceNeg, Int.reduceLT, Int.reduceLE, Int.reduceEq, reduceCtorEq]) <;> first | rfl | omega) | with_reducible refine t_in_other (by decide) ?_ | ((with_reducible apply gy1); iterate 3 focus rfl) | ((with_reducible apply gy2); iterate 3 focus rfl) | ((with_reducible apply gy3); iterate 2 focus rfl) | ((with_reducible apply gy4); iterate 1 focus rfl) | ((with_reducible apply gy5); iterate 4 focus rfl) | ((with_reducible apply gy6); iterate 4 focus rfl) | ((with_reducible apply d_bar); iterate 3 focus rfl) | ((with_reducible apply q_pub); iterate 1 focus rfl) | ((with_reducible apply gy7); iterate 1 focus rfl) | ((with_reducible apply gy9); (focus ((with_reducible refine gE ?_); (try simp (disch := omega) only [go_sem, ↓reduceIte, Nat.reduceAdd, Nat.reduceSub, Nat.reduceMul, Nat.reduceEqDiff, Nat.reduceLT, Nat.reduceLeDiff, Nat.reduceBEq, Int.reduceNeg, Int.reduceLT, Int.reduceLE, Int.reduceEq, reduceCtorEq]) <;> rfl))) | ((with_reducible apply gz1); (focus first | rfl | (simp (disch := omega) only [go_sem, ↓reduceIte, Nat.reduceAdd, Nat.reduceSub, Nat.reduceMul, Nat.reduceEqDiff, Nat.reduceLT, Nat.reduceLeDiff, Nat.reduceBEq, Int.reduceNeg, Int.reduceLT, Int.reduceLE, Int.reduceEq, reduceCtorEq]; done))) | ((with_reducible apply r_drawD (pickR []) [] []); (focus kernel_rfl); (focus rfl); (focus kernel_rfl); (focus (simp only [List.length_cons, List.length_nil, Nat.reduceAdd]; rfl)))))
    simp (disch := omega) only [go_sem, ↓reduceIte, Nat.reduceAdd, Nat.reduceSub, Nat.reduceMul, Nat.reduceEqDiff, Nat.reduceLT, Nat.reduceLeDiff, Nat.reduceBEq, Int.reduceNeg, Int.reduceLT, Int.reduceLE, Int.reduceEq, reduceCtorEq]
theorem qMake0 (z w : Int) (hw : w = 0) : Pure Try.prog 84 [intZ z, intZ w] (.tup [.agg [.v (.bool false), .v (.slice none 0 0), .v (.slice none 0 0)], .v (.int .i64 3)]) := by
  subst hw
  have cs := zSign 0 (by show (toL 0).length ≤ _; rw [toL_zero]; simp)
  have hs : Int.sign 0 = 0 := rfl
  rw [hs] at cs
  have cs : Pure Try.prog 100 [.agg [.v (.bool false), lim (toL (Int.natAbs 0))]] (.v (.int .i64 0)) := cs
  refine pure_intro (tok := 0) Try.func84 rfl Try.ntmps84 Try.results84 Try.call84 (by rfl) (by simp) ?_
  (repeat' (first | (with_reducible first | refine stp ?_ | apply gx1 | apply gx2 | apply gx3 | apply gx4 | apply gx5 | apply gx6 | apply gx7 | apply gy8 | apply gz2 | apply gz3 | refine gw0 (cs) ?_ ?_ | refine gw3 (cs) ?_ ?_ ?_) | (with_reducible refine all_v ?_; intro _) | ((with_reducible refine gE ?_); (try simp (disch := omega) only [go_sem, ↓reduceIte, Nat.reduceAdd, Nat.reduceSub, Nat.reduceMul, Nat.reduceEqDiff, Nat.reduceLT, Nat.reduceLeDiff, Nat.reduceBEq, Int.reduceNeg, Int.reduceLT, Int.reduceLE, Int.reduceEq, reduceCtorEq]) <;> first | rfl | omega) | with_reducible refine t_in_other (by decide) ?_ | ((with_reducible apply gy1); iterate 3 focus rfl) | ((with_reducible apply gy2); iterate 3 focus rfl) | ((with_reducible apply gy3); iterate 2 focus rfl) | ((with_reducible apply gy4); iterate 1 focus rfl) | ((with_reducible apply gy5); iterate 4 focus rfl) | ((with_reducible apply gy6); iterate 4 focus rfl) | ((with_reducible apply d_bar); iterate 3 focus rfl) | ((with_reducible apply q_pub); iterate 1 focus rfl) | ((with_reducible apply gy7); iterate 1 focus rfl) | ((with_reducible apply gy9); (focus ((with_reducible refine gE ?_); (try simp (disch := omega) only [go_sem, ↓reduceIte, Nat.reduceAdd, Nat.reduceSub, Nat.reduceMul, Nat.reduceEqDiff, Nat.reduceLT, Nat.reduceLeDiff, Nat.reduceBEq, Int.reduceNeg, Int.reduceLT, Int.reduceLE, Int.reduceEq, reduceCtorEq]) <;> rfl))) | ((with_reducible apply gz1); (focus first | rfl | (simp (disch := omega) only [go_sem, ↓reduceIte, Nat.reduceAdd, Nat.reduceSub, Nat.reduceMul, Nat.reduceEqDiff, Nat.reduceLT, Nat.reduceLeDiff, Nat.reduceBEq, Int.reduceNeg, Int.reduceLT, Int.reduceLE, Int.reduceEq, reduceCtorEq]; done))) | ((with_reducible apply r_drawD (pickR []) [] []); (focus kernel_rfl); (focus rfl); (focus kernel_rfl); (focus (simp only [List.length_cons, List.length_nil, Nat.reduceAdd]; rfl)))))
  simp (disch := omega) only [go_sem, ↓reduceIte, Nat.reduceAdd, Nat.reduceSub, Nat.reduceMul, Nat.reduceEqDiff, Nat.reduceLT, Nat.reduceLeDiff, Nat.reduceBEq, Int.reduceNeg, Int.reduceLT, Int.reduceLE, Int.reduceEq, reduceCtorEq]

theorem qOf (n : Nat) (hn : n < 9223372036854775808) : Pure Try.prog 27 [.v (.int .i64 (n : Int))] (ratQ (n : Rat)) := by
  have l4 : (toL n).length ≤ 4 := toL_len_lt.2 (by omega)
  have c := qOver false n 1 (by omega) (by rw [lg_one]; omega) (by omega)
  have e : mkRat (zI false n) 1 = (n : Rat) := by
    have := Rat.mkRat_self (n : Rat)
    exact this
  rw [e] at c
  refine pure_intro (tok := 0) Try.func27 rfl Try.ntmps27 Try.results27 Try.call27 (by rfl) (by simp) ?_
  (repeat' (first | (with_reducible first | refine stp ?_ | apply gx1 | apply gx2 | apply gx3 | apply gx4 | apply gx5 | apply gx6 | apply gx7 | apply gy8 | apply gz2 | apply gz3 | refine gw0 (zOf n hn) ?_ ?_ | refine gw3 (zOf n hn) ?_ ?_ ?_ | refine gw0 (refOf 1 (by omega)) ?_ ?_ | refine gw3 (refOf 1 (by omega)) ?_ ?_ ?_ | refine gw0 (c) ?_ ?_ | refine gw3 (c) ?_ ?_ ?_) | (with_reducible refine all_v ?_; intro _) | ((with_reducible refine gE ?_); (try simp (disch := omega) only [go_sem, ↓reduceIte, Nat.reduceAdd, Nat.reduceSub, Nat.reduceMul, Nat.reduceEqDiff, Nat.reduceLT, Nat.reduceLeDiff, Nat.reduceBEq, Int.reduceNeg, Int.reduceLT, Int.reduceLE, Int.reduceEq, reduceCtorEq]) <;> first | rfl | omega) | with_reducible refine t_in_other (by decide) ?_ | ((with_reducible apply gy1); iterate 3 focus rfl) | ((with_reducible apply gy2); iterate 3 focus rfl) | ((with_reducible apply gy3); iterate 2 focus rfl) | ((with_reducible apply gy4); iterate 1 focus rfl) | ((with_reducible apply gy5); iterate 4 focus rfl) | ((with_reducible apply gy6); iterate 4 focus rfl) | ((with_reducible apply d_bar); iterate 3 focus rfl) | ((with_reducible apply q_pub); iterate 1 focus rfl) | ((with_reducible apply gy7); iterate 1 focus rfl) | ((with_reducible apply gy9); (focus ((with_reducible refine gE ?_); (try simp (disch := omega) only [go_sem, ↓reduceIte, Nat.reduceAdd, Nat.reduceSub, Nat.reduceMul, Nat.reduceEqDiff, Nat.reduceLT, Nat.reduceLeDiff, Nat.reduceBEq, Int.reduceNeg, Int.reduceLT, Int.reduceLE, Int.reduceEq, reduceCtorEq]) <;> rfl))) | ((with_reducible apply gz1); (focus first | rfl | (simp (disch := omega) only [go_sem, ↓reduceIte, Nat.reduceAdd, Nat.reduceSub, Nat.reduceMul, Nat.reduceEqDiff, Nat.reduceLT, Nat.reduceLeDiff, Nat.reduceBEq, Int.reduceNeg, Int.reduceLT, Int.reduceLE, Int.reduceEq, reduceCtorEq]; done))) | ((with_reducible apply r_drawD (pickR []) [] []); (focus kernel_rfl); (focus rfl); (focus kernel_rfl); (focus (simp only [List.length_cons, List.length_nil, Nat.reduceAdd]; rfl)))))
  simp (disch := omega) only [go_sem, ↓reduceIte, Nat.reduceAdd, Nat.reduceSub, Nat.reduceMul, Nat.reduceEqDiff, Nat.reduceLT, Nat.reduceLeDiff, Nat.reduceBEq, Int.reduceNeg, Int.reduceLT, Int.reduceLE, Int.reduceEq, reduceCtorEq]

theorem qMul (a b : Rat) {j k : Nat} (ha : Sz a j) (hb : Sz b k) (hj : j ≤ 2000000) (hk : k ≤ 2000000) : Pure Try.prog 28 [ratQ a, ratQ b] (ratQ (a * b)) := by
  obtain ⟨a1, a2⟩ := id ha
  obtain ⟨b1, b2⟩ := id hb
  have l1 : (toL (a.num * b.num).natAbs).length ≤ j + k := by rw [Int.natAbs_mul]; exact Nat.le_trans (lg_mul _ _) (by omega)
  have l2 : (toL (a.den * b.den)).length ≤ j + k := Nat.le_trans (lg_mul _ _) (by omega)
  have c := qOver (decide (a.num * b.num < 0)) (a.num * b.num).natAbs (a.den * b.den) (by omega) (by omega) (Nat.mul_ne_zero a.den_nz b.den_nz)
  rw [zI_abs, ← Rat.mul_def'] at c
  have cz := zMul (decide (a.num < 0)) (decide (b.num < 0)) a.num.natAbs b.num.natAbs (by omega) (by omega)
  rw [zI_abs, zI_abs] at cz
  have cd := rMul a.den b.den (by omega) (by omega)
  generalize a * b = q at *
  generalize a.num * b.num = y at *
  refine pure_intro (tok := 0) Try.func28 rfl Try.ntmps28 Try.results28 Try.call28 (by rfl) (by simp) ?_
  (repeat' (first | (with_reducible first | refine stp ?_ | apply gx1 | apply gx2 | apply gx3 | apply gx4 | apply gx5 | apply gx6 | apply gx7 | apply gy8 | apply gz2 | apply gz3 | refine gw0 (cz) ?_ ?_ | refine gw3 (cz) ?_ ?_ ?_ | refine gw0 (cd) ?_ ?_ | refine gw3 (cd) ?_ ?_ ?_ | refine gw0 (c) ?_ ?_ | refine gw3 (c) ?_ ?_ ?_) | (with_reducible refine all_v ?_; intro _) | ((with_reducible refine gE ?_); (try simp (disch := omega) only [go_sem, ↓reduceIte, Nat.reduceAdd, Nat.reduceSub, Nat.reduceMul, Nat.reduceEqDiff, Nat.reduceLT, Nat.reduceLeDiff, Nat.reduceBEq, Int.reduceNeg, Int.reduceLT, Int.reduceLE, Int.reduceEq, reduceCtorEq]) <;> first | rfl | omega) | with_reducible refine t_in_other (by decide) ?_ | ((with_reducible apply gy1); iterate 3 focus rfl) | ((with_reducible apply gy2); iterate 3 focus rfl) | ((with_reducible apply gy3); iterate 2 focus rfl) | ((with_reducible apply gy4); iterate 1 focus rfl) | ((with_reducible apply gy5); iterate 4 focus rfl) | ((with_reducible apply gy6); iterate 4 focus rfl) | ((with_reducible apply d_bar); iterate 3 focus rfl) | ((with_reducible apply q_pub); iterate 1 focus rfl) | ((with_reducible apply gy7); iterate 1 focus rfl) | ((with_reducible apply gy9); (focus ((with_reducible refine gE ?_); (try simp (disch := omega) only [go_sem, ↓reduceIte, Nat.reduceAdd, Nat.reduceSub, Nat.reduceMul, Nat.reduceEqDiff, Nat.reduceLT, Nat.reduceLeDiff, Nat.reduceBEq, Int.reduceNeg, Int.reduceLT, Int.reduceLE, Int.reduceEq, reduceCtorEq]) <;> rfl))) | ((with_reducible apply gz1); (focus first | rfl | (simp (disch := omega) only [go_sem, ↓reduceIte, Nat.reduceAdd, Nat.reduceSub, Nat.reduceMul, Nat.reduceEqDiff, Nat.reduceLT, Nat.reduceLeDiff, Nat.reduceBEq, Int.reduceNeg, Int.reduceLT, Int.reduceLE, Int.reduceEq, reduceCtorEq]; done))) | ((with_reducible apply r_drawD (pickR [(4, intZ y), (9, lim (toL (a.den * b.den))), (10, ratQ q)]) [11] []); (focus kernel_rfl); (focus rfl); (focus kernel_rfl); (focus (simp only [List.length_cons, List.length_nil, Nat.reduceAdd]; rfl)))))
  simp (disch := omega) only [go_sem, ↓reduceIte, Nat.reduceAdd, Nat.reduceSub, Nat.reduceMul, Nat.reduceEqDiff, Nat.reduceLT, Nat.reduceLeDiff, Nat.reduceBEq, Int.reduceNeg, Int.reduceLT, Int.reduceLE, Int.reduceEq, reduceCtorEq]

set_option maxHeartbeats 1000000 in
theorem qAdd (a b : Rat) {j k : Nat} (ha : Sz a j) (hb : Sz b k) (hj : j ≤ 2000000) (hk : k ≤ 2000000) : Pure Try.prog 10 [ratQ a, ratQ b] (ratQ (a + b)) := by
  obtain ⟨a1, a2⟩ := id ha
  obtain ⟨b1, b2⟩ := id hb
  have na := qNorm a ha (by omega)
  have nb := qNorm b hb (by omega)
  have cm1 := zMul (decide (a.num < 0)) false a.num.natAbs b.den (by omega) (by omega)
  have cm2 := zMul (decide (b.num < 0)) false b.num.natAbs a.den (by omega) (by omega)
  rw [zI_abs] at cm1 cm2
  have cm1 : Pure Try.prog 32 [intZ a.num, intA false b.den] (intZ (a.num * b.den)) := cm1
  have cm2 : Pure Try.prog 32 [intZ b.num, intA false a.den] (intZ (b.num * a.den)) := cm2
  have x1 : (toL (a.num * b.den).natAbs).length ≤ j + k := lg_cross a b ha hb
  have x2 : (toL (b.num * a.den).natAbs).length ≤ k + j := lg_cross b a hb ha
  have l1 : (toL (a.num * b.den + b.num * a.den).natAbs).length ≤ j + k + 1 := by
    have h3 := lg_mono (natAbs_add_le (a.num * b.den) (b.num * a.den))
    have h4 := lg_add (a.num * b.den).natAbs (b.num * a.den).natAbs
    omega
  have l2 : (toL (a.den * b.den)).length ≤ j + k := Nat.le_trans (lg_mul _ _) (by omega)
  have ca := zAdd (decide (a.num * b.den < 0)) (decide (b.num * a.den < 0)) (a.num * b.den).natAbs (b.num * a.den).natAbs (by omega) (by omega)
  rw [zI_abs, zI_abs] at ca
  have c := qOver (decide (a.num * b.den + b.num * a.den < 0)) (a.num * b.den + b.num * a.den).natAbs (a.den * b.den) (by omega) (by omega) (Nat.mul_ne_zero a.den_nz b.den_nz)
  rw [zI_abs, ← Rat.add_def'] at c
  have cw1 := qWhole b.den
  have cw2 := qWhole a.den
  have cd := rMul a.den b.den (by omega) (by omega)
  generalize a + b = q at *
  generalize a.num * (b.den : Int) = y1 at *
  generalize b.num * (a.den : Int) = y2 at *
  refine pure_intro (tok := 0) Try.func10 rfl Try.ntmps10 Try.results10 Try.call10 (by rfl) (by simp) ?_
  (repeat' (first | (with_reducible first | refine stp ?_ | apply gx1 | apply gx2 | apply gx3 | apply gx4 | apply gx5 | apply gx6 | apply gx7) | (with_reducible refine all_v ?_; intro _) | ((with_reducible refine gE ?_); (try simp (disch := omega) only [go_sem, ↓reduceIte, Nat.reduceAdd, Nat.reduceSub, Nat.reduceMul, Nat.reduceEqDiff, Nat.reduceLT, Nat.reduceLeDiff, Nat.reduceBEq, Int.reduceNeg, Int.reduceLT, Int.reduceLE, Int.reduceEq, reduceCtorEq]) <;> first | rfl | omega) | with_reducible refine t_in_other (by decide) ?_))
  apply r_drawD (pickR [(1, ratQ a), (3, ratQ b)]) [4, 5] [] (by kernel_rfl) (by rfl) (by kernel_rfl); (focus (simp only [List.length_cons, List.length_nil, Nat.reduceAdd]; rfl))
  (repeat' (first | (with_reducible first | refine stp ?_ | apply gx1 | apply gx2 | apply gx3 | apply gx4 | apply gx5 | apply gx6 | apply gx7 | apply gy8 | apply gz2 | apply gz3 | refine gw0 (na) ?_ ?_ | refine gw3 (na) ?_ ?_ ?_ | refine gw0 (nb) ?_ ?_ | refine gw3 (nb) ?_ ?_ ?_) | (with_reducible refine all_v ?_; intro _) | ((with_reducible refine gE ?_); (try simp (disch := omega) only [go_sem, ↓reduceIte, Nat.reduceAdd, Nat.reduceSub, Nat.reduceMul, Nat.reduceEqDiff, Nat.reduceLT, Nat.reduceLeDiff, Nat.reduceBEq, Int.reduceNeg, Int.reduceLT, Int.reduceLE, Int.reduceEq, reduceCtorEq]) <;> first | rfl | omega) | with_reducible refine t_in_other (by decide) ?_ | ((with_reducible apply gy1); iterate 3 focus rfl) | ((with_reducible apply gy2); iterate 3 focus rfl) | ((with_reducible apply gy3); iterate 2 focus rfl) | ((with_reducible apply gy4); iterate 1 focus rfl) | ((with_reducible apply gy5); iterate 4 focus rfl) | ((with_reducible apply gy6); iterate 4 focus rfl) | ((with_reducible apply d_bar); iterate 3 focus rfl) | ((with_reducible apply q_pub); iterate 1 focus rfl) | ((with_reducible apply gy7); iterate 1 focus rfl) | ((with_reducible apply gy9); (focus ((with_reducible refine gE ?_); (try simp (disch := omega) only [go_sem, ↓reduceIte, Nat.reduceAdd, Nat.reduceSub, Nat.reduceMul, Nat.reduceEqDiff, Nat.reduceLT, Nat.reduceLeDiff, Nat.reduceBEq, Int.reduceNeg, Int.reduceLT, Int.reduceLE, Int.reduceEq, reduceCtorEq]) <;> rfl))) | ((with_reducible apply gz1); (focus first | rfl | (simp (disch := omega) only [go_sem, ↓reduceIte, Nat.reduceAdd, Nat.reduceSub, Nat.reduceMul, Nat.reduceEqDiff, Nat.reduceLT, Nat.reduceLeDiff, Nat.reduceBEq, Int.reduceNeg, Int.reduceLT, Int.reduceLE, Int.reduceEq, reduceCtorEq]; done)))))
  apply r_drawD (pickR [(4, intA false b.den), (5, intZ y1), (10, intA false a.den), (11, intZ y2), (12, intZ (y1 + y2)), (17, lim (toL (a.den * b.den))), (18, ratQ q)]) [19] [] (by kernel_rfl) (by rfl) (by kernel_rfl); (focus (simp only [List.length_cons, List.length_nil, Nat.reduceAdd]; rfl))
  (repeat' (first | (with_reducible first | refine stp ?_ | apply gx1 | apply gx2 | apply gx3 | apply gx4 | apply gx5 | apply gx6 | apply gx7 | apply gy8 | apply gz2 | apply gz3 | refine gw0 (cw1) ?_ ?_ | refine gw3 (cw1) ?_ ?_ ?_ | refine gw0 (cm1) ?_ ?_ | refine gw3 (cm1) ?_ ?_ ?_ | refine gw0 (cw2) ?_ ?_ | refine gw3 (cw2) ?_ ?_ ?_ | refine gw0 (cm2) ?_ ?_ | refine gw3 (cm2) ?_ ?_ ?_ | refine gw0 (ca) ?_ ?_ | refine gw3 (ca) ?_ ?_ ?_ | refine gw0 (cd) ?_ ?_ | refine gw3 (cd) ?_ ?_ ?_ | refine gw0 (c) ?_ ?_ | refine gw3 (c) ?_ ?_ ?_) | (with_reducible refine all_v ?_; intro _) | ((with_reducible refine gE ?_); (try simp (disch := omega) only [go_sem, ↓reduceIte, Nat.reduceAdd, Nat.reduceSub, Nat.reduceMul, Nat.reduceEqDiff, Nat.reduceLT, Nat.reduceLeDiff, Nat.reduceBEq, Int.reduceNeg, Int.reduceLT, Int.reduceLE, Int.reduceEq, reduceCtorEq]) <;> first | rfl | omega) | with_reducible refine t_in_other (by decide) ?_ | ((with_reducible apply gy1); iterate 3 focus rfl) | ((with_reducible apply gy2); iterate 3 focus rfl) | ((with_reducible apply gy3); iterate 2 focus rfl) | ((with_reducible apply gy4); iterate 1 focus rfl) | ((with_reducible apply gy5); iterate 4 focus rfl) | ((with_reducible apply gy6); iterate 4 focus rfl) | ((with_reducible apply d_bar); iterate 3 focus rfl) | ((with_reducible apply q_pub); iterate 1 focus rfl) | ((with_reducible apply gy7); iterate 1 focus rfl) | ((with_reducible apply gy9); (focus ((with_reducible refine gE ?_); (try simp (disch := omega) only [go_sem, ↓reduceIte, Nat.reduceAdd, Nat.reduceSub, Nat.reduceMul, Nat.reduceEqDiff, Nat.reduceLT, Nat.reduceLeDiff, Nat.reduceBEq, Int.reduceNeg, Int.reduceLT, Int.reduceLE, Int.reduceEq, reduceCtorEq]) <;> rfl))) | ((with_reducible apply gz1); (focus first | rfl | (simp (disch := omega) only [go_sem, ↓reduceIte, Nat.reduceAdd, Nat.reduceSub, Nat.reduceMul, Nat.reduceEqDiff, Nat.reduceLT, Nat.reduceLeDiff, Nat.reduceBEq, Int.reduceNeg, Int.reduceLT, Int.reduceLE, Int.reduceEq, reduceCtorEq]; done)))))
  simp (disch := omega) only [go_sem, ↓reduceIte, Nat.reduceAdd, Nat.reduceSub, Nat.reduceMul, Nat.reduceEqDiff, Nat.reduceLT, Nat.reduceLeDiff, Nat.reduceBEq, Int.reduceNeg, Int.reduceLT, Int.reduceLE, Int.reduceEq, reduceCtorEq]

theorem qNeg (a : Rat) {j : Nat} (ha : Sz a j) (hj : j ≤ 2000000) : Pure Try.prog 55 [ratQ a] (ratQ (-a)) := by
  obtain ⟨a1, a2⟩ := id ha
  have cn := zNeg (decide (a.num < 0)) a.num.natAbs (by omega)
  have c := qOver (decide (-a.num < 0)) (-a.num).natAbs a.den (by rw [Int.natAbs_neg]; omega) (by omega) a.den_nz
  rw [zI_abs] at c cn
  rw [show mkRat (-a.num) a.den = -a by rw [← Rat.neg_mkRat, Rat.mkRat_self]] at c
  generalize -a.num = y at *
  generalize -a = q at *
  refine pure_intro (tok := 0) Try.func55 rfl Try.ntmps55 Try.results55 Try.call55 (by rfl) (by simp) ?_
  (repeat' (first | (with_reducible first | refine stp ?_ | apply gx1 | apply gx2 | apply gx3 | apply gx4 | apply gx5 | apply gx6 | apply gx7 | apply gy8 | apply gz2 | apply gz3 | refine gw0 (cn) ?_ ?_ | refine gw3 (cn) ?_ ?_ ?_ | refine gw0 (c) ?_ ?_ | refine gw3 (c) ?_ ?_ ?_) | (with_reducible refine all_v ?_; intro _) | ((with_reducible refine gE ?_); (try simp (disch := omega) only [go_sem, ↓reduceIte, Nat.reduceAdd, Nat.reduceSub, Nat.reduceMul, Nat.reduceEqDiff, Nat.reduceLT, Nat.reduceLeDiff, Nat.reduceBEq, Int.reduceNeg, Int.reduceLT, Int.reduceLE, Int.reduceEq, reduceCtorEq]) <;> first | rfl | omega) | with_reducible refine t_in_other (by decide) ?_ | ((with_reducible apply gy1); iterate 3 focus rfl) | ((with_reducible apply gy2); iterate 3 focus rfl) | ((with_reducible apply gy3); iterate 2 focus rfl) | ((with_reducible apply gy4); iterate 1 focus rfl) | ((with_reducible apply gy5); iterate 4 focus rfl) | ((with_reducible apply gy6); iterate 4 focus rfl) | ((with_reducible apply d_bar); iterate 3 focus rfl) | ((with_reducible apply q_pub); iterate 1 focus rfl) | ((with_reducible apply gy7); iterate 1 focus rfl) | ((with_reducible apply gy9); (focus ((with_reducible refine gE ?_); (try simp (disch := omega) only [go_sem, ↓reduceIte, Nat.reduceAdd, Nat.reduceSub, Nat.reduceMul, Nat.reduceEqDiff, Nat.reduceLT, Nat.reduceLeDiff, Nat.reduceBEq, Int.reduceNeg, Int.reduceLT, Int.reduceLE, Int.reduceEq, reduceCtorEq]) <;> rfl))) | ((with_reducible apply gz1); (focus first | rfl | (simp (disch := omega) only [go_sem, ↓reduceIte, Nat.reduceAdd, Nat.reduceSub, Nat.reduceMul, Nat.reduceEqDiff, Nat.reduceLT, Nat.reduceLeDiff, Nat.reduceBEq, Int.reduceNeg, Int.reduceLT, Int.reduceLE, Int.reduceEq, reduceCtorEq]; done))) | ((with_reducible apply r_drawD (pickR [(2, intZ y), (5, ratQ q)]) [6] []); (focus kernel_rfl); (focus rfl); (focus kernel_rfl); (focus (simp only [List.length_cons, List.length_nil, Nat.reduceAdd]; rfl)))))
  simp (disch := omega) only [go_sem, ↓reduceIte, Nat.reduceAdd, Nat.reduceSub, Nat.reduceMul, Nat.reduceEqDiff, Nat.reduceLT, Nat.reduceLeDiff, Nat.reduceBEq, Int.reduceNeg, Int.reduceLT, Int.reduceLE, Int.reduceEq, reduceCtorEq]

theorem qSub (a b : Rat) {j k : Nat} (ha : Sz a j) (hb : Sz b k) (hj : j ≤ 2000000) (hk : k ≤ 2000000) : Pure Try.prog 26 [ratQ a, ratQ b] (ratQ (a - b)) := by
  have cn := qNeg b hb hk
  have c := qAdd a (-b) ha hb.neg hj hk
  rw [← Rat.sub_eq_add_neg] at c
  generalize -b = y at *
  generalize a - b = q at *
  refine pure_intro (tok := 0) Try.func26 rfl Try.ntmps26 Try.results26 Try.call26 (by rfl) (by simp) ?_
  (repeat' (first | (with_reducible first | refine stp ?_ | apply gx1 | apply gx2 | apply gx3 | apply gx4 | apply gx5 | apply gx6 | apply gx7 | apply gy8 | apply gz2 | apply gz3 | refine gw0 (cn) ?_ ?_ | refine gw3 (cn) ?_ ?_ ?_ | refine gw0 (c) ?_ ?_ | refine gw3 (c) ?_ ?_ ?_) | (with_reducible refine all_v ?_; intro _) | ((with_reducible refine gE ?_); (try simp (disch := omega) only [go_sem, ↓reduceIte, Nat.reduceAdd, Nat.reduceSub, Nat.reduceMul, Nat.reduceEqDiff, Nat.reduceLT, Nat.reduceLeDiff, Nat.reduceBEq, Int.reduceNeg, Int.reduceLT, Int.reduceLE, Int.reduceEq, reduceCtorEq]) <;> first | rfl | omega) | with_reducible refine t_in_other (by decide) ?_ | ((with_reducible apply gy1); iterate 3 focus rfl) | ((with_reducible apply gy2); iterate 3 focus rfl) | ((with_reducible apply gy3); iterate 2 focus rfl) | ((with_reducible apply gy4); iterate 1 focus rfl) | ((with_reducible apply gy5); iterate 4 focus rfl) | ((with_reducible apply gy6); iterate 4 focus rfl) | ((with_reducible apply d_bar); iterate 3 focus rfl) | ((with_reducible apply q_pub); iterate 1 focus rfl) | ((with_reducible apply gy7); iterate 1 focus rfl) | ((with_reducible apply gy9); (focus ((with_reducible refine gE ?_); (try simp (disch := omega) only [go_sem, ↓reduceIte, Nat.reduceAdd, Nat.reduceSub, Nat.reduceMul, Nat.reduceEqDiff, Nat.reduceLT, Nat.reduceLeDiff, Nat.reduceBEq, Int.reduceNeg, Int.reduceLT, Int.reduceLE, Int.reduceEq, reduceCtorEq]) <;> rfl))) | ((with_reducible apply gz1); (focus first | rfl | (simp (disch := omega) only [go_sem, ↓reduceIte, Nat.reduceAdd, Nat.reduceSub, Nat.reduceMul, Nat.reduceEqDiff, Nat.reduceLT, Nat.reduceLeDiff, Nat.reduceBEq, Int.reduceNeg, Int.reduceLT, Int.reduceLE, Int.reduceEq, reduceCtorEq]; done))) | ((with_reducible apply r_drawD (pickR [(2, ratQ y), (3, ratQ q)]) [4] []); (focus kernel_rfl); (focus rfl); (focus kernel_rfl); (focus (simp only [List.length_cons, List.length_nil, Nat.reduceAdd]; rfl)))))
  simp (disch := omega) only [go_sem, ↓reduceIte, Nat.reduceAdd, Nat.reduceSub, Nat.reduceMul, Nat.reduceEqDiff, Nat.reduceLT, Nat.reduceLeDiff, Nat.reduceBEq, Int.reduceNeg, Int.reduceLT, Int.reduceLE, Int.reduceEq, reduceCtorEq]

set_option maxHeartbeats 1000000 in
theorem qCmp (a b : Rat) {j k : Nat} (ha : Sz a j) (hb : Sz b k) (hj : j ≤ 2000000) (hk : k ≤ 2000000) : Pure Try.prog 9 [ratQ a, ratQ b] (.v (.int .i64 (cmpQ a b))) := by
  obtain ⟨a1, a2⟩ := id ha
  obtain ⟨b1, b2⟩ := id hb
  have na := qNorm a ha (by omega)
  have nb := qNorm b hb (by omega)
  have cm1 := zMul (decide (a.num < 0)) false a.num.natAbs b.den (by omega) (by omega)
  have cm2 := zMul (decide (b.num < 0)) false b.num.natAbs a.den (by omega) (by omega)
  rw [zI_abs] at cm1 cm2
  have cm1 : Pure Try.prog 32 [intZ a.num, intA false b.den] (intZ (a.num * b.den)) := cm1
  have cm2 : Pure Try.prog 32 [intZ b.num, intA false a.den] (intZ (b.num * a.den)) := cm2
  have x1 : (toL (a.num * b.den).natAbs).length ≤ j + k := lg_cross a b ha hb
  have x2 : (toL (b.num * a.den).natAbs).length ≤ k + j := lg_cross b a hb ha
  have cc := zCmp (a.num * b.den) (b.num * a.den) (by omega) (by omega)
  rw [cmpQ_z]
  have cw1 := qWhole b.den
  have cw2 := qWhole a.den
  generalize a.num * (b.den : Int) = y1 at *
  generalize b.num * (a.den : Int) = y2 at *
  refine pure_intro (tok := 0) Try.func9 rfl Try.ntmps9 Try.results9 Try.call9 (by rfl) (by simp) ?_
  (repeat' (first | (with_reducible first | refine stp ?_ | apply gx1 | apply gx2 | apply gx3 | apply gx4 | apply gx5 | apply gx6 | apply gx7) | (with_reducible refine all_v ?_; intro _) | ((with_reducible refine gE ?_); (try simp (disch := omega) only [go_sem, ↓reduceIte, Nat.reduceAdd, Nat.reduceSub, Nat.reduceMul, Nat.reduceEqDiff, Nat.reduceLT, Nat.reduceLeDiff, Nat.reduceBEq, Int.reduceNeg, Int.reduceLT, Int.reduceLE, Int.reduceEq, reduceCtorEq]) <;> first | rfl | omega) | with_reducible refine t_in_other (by decide) ?_))
  apply r_drawD (pickR [(1, ratQ a), (3, ratQ b)]) [4, 5] [] (by kernel_rfl) (by rfl) (by kernel_rfl); (focus (simp only [List.length_cons, List.length_nil, Nat.reduceAdd]; rfl))
  (repeat' (first | (with_reducible first | refine stp ?_ | apply gx1 | apply gx2 | apply gx3 | apply gx4 | apply gx5 | apply gx6 | apply gx7 | apply gy8 | apply gz2 | apply gz3 | refine gw0 (na) ?_ ?_ | refine gw3 (na) ?_ ?_ ?_ | refine gw0 (nb) ?_ ?_ | refine gw3 (nb) ?_ ?_ ?_) | (with_reducible refine all_v ?_; intro _) | ((with_reducible refine gE ?_); (try simp (disch := omega) only [go_sem, ↓reduceIte, Nat.reduceAdd, Nat.reduceSub, Nat.reduceMul, Nat.reduceEqDiff, Nat.reduceLT, Nat.reduceLeDiff, Nat.reduceBEq, Int.reduceNeg, Int.reduceLT, Int.reduceLE, Int.reduceEq, reduceCtorEq]) <;> first | rfl | omega) | with_reducible refine t_in_other (by decide) ?_ | ((with_reducible apply gy1); iterate 3 focus rfl) | ((with_reducible apply gy2); iterate 3 focus rfl) | ((with_reducible apply gy3); iterate 2 focus rfl) | ((with_reducible apply gy4); iterate 1 focus rfl) | ((with_reducible apply gy5); iterate 4 focus rfl) | ((with_reducible apply gy6); iterate 4 focus rfl) | ((with_reducible apply d_bar); iterate 3 focus rfl) | ((with_reducible apply q_pub); iterate 1 focus rfl) | ((with_reducible apply gy7); iterate 1 focus rfl) | ((with_reducible apply gy9); (focus ((with_reducible refine gE ?_); (try simp (disch := omega) only [go_sem, ↓reduceIte, Nat.reduceAdd, Nat.reduceSub, Nat.reduceMul, Nat.reduceEqDiff, Nat.reduceLT, Nat.reduceLeDiff, Nat.reduceBEq, Int.reduceNeg, Int.reduceLT, Int.reduceLE, Int.reduceEq, reduceCtorEq]) <;> rfl))) | ((with_reducible apply gz1); (focus first | rfl | (simp (disch := omega) only [go_sem, ↓reduceIte, Nat.reduceAdd, Nat.reduceSub, Nat.reduceMul, Nat.reduceEqDiff, Nat.reduceLT, Nat.reduceLeDiff, Nat.reduceBEq, Int.reduceNeg, Int.reduceLT, Int.reduceLE, Int.reduceEq, reduceCtorEq]; done)))))
  apply r_drawD (pickR [(4, intA false b.den), (5, intZ y1), (10, intA false a.den), (11, intZ y2), (12, .v (.int .i64 (cmpZ y1 y2)))]) [] [] (by kernel_rfl) (by rfl) (by kernel_rfl); (focus (simp only [List.length_cons, List.length_nil, Nat.reduceAdd]; rfl))
  (repeat' (first | (with_reducible first | refine stp ?_ | apply gx1 | apply gx2 | apply gx3 | apply gx4 | apply gx5 | apply gx6 | apply gx7 | apply gy8 | apply gz2 | apply gz3 | refine gw0 (cw1) ?_ ?_ | refine gw3 (cw1) ?_ ?_ ?_ | refine gw0 (cm1) ?_ ?_ | refine gw3 (cm1) ?_ ?_ ?_ | refine gw0 (cw2) ?_ ?_ | refine gw3 (cw2) ?_ ?_ ?_ | refine gw0 (cm2) ?_ ?_ | refine gw3 (cm2) ?_ ?_ ?_ | refine gw0 (cc) ?_ ?_ | refine gw3 (cc) ?_ ?_ ?_) | (with_reducible refine all_v ?_; intro _) | ((with_reducible refine gE ?_); (try simp (disch := omega) only [go_sem, ↓reduceIte, Nat.reduceAdd, Nat.reduceSub, Nat.reduceMul, Nat.reduceEqDiff, Nat.reduceLT, Nat.reduceLeDiff, Nat.reduceBEq, Int.reduceNeg, Int.reduceLT, Int.reduceLE, Int.reduceEq, reduceCtorEq]) <;> first | rfl | omega) | with_reducible refine t_in_other (by decide) ?_ | ((with_reducible apply gy1); iterate 3 focus rfl) | ((with_reducible apply gy2); iterate 3 focus rfl) | ((with_reducible apply gy3); iterate 2 focus rfl) | ((with_reducible apply gy4); iterate 1 focus rfl) | ((with_reducible apply gy5); iterate 4 focus rfl) | ((with_reducible apply gy6); iterate 4 focus rfl) | ((with_reducible apply d_bar); iterate 3 focus rfl) | ((with_reducible apply q_pub); iterate 1 focus rfl) | ((with_reducible apply gy7); iterate 1 focus rfl) | ((with_reducible apply gy9); (focus ((with_reducible refine gE ?_); (try simp (disch := omega) only [go_sem, ↓reduceIte, Nat.reduceAdd, Nat.reduceSub, Nat.reduceMul, Nat.reduceEqDiff, Nat.reduceLT, Nat.reduceLeDiff, Nat.reduceBEq, Int.reduceNeg, Int.reduceLT, Int.reduceLE, Int.reduceEq, reduceCtorEq]) <;> rfl))) | ((with_reducible apply gz1); (focus first | rfl | (simp (disch := omega) only [go_sem, ↓reduceIte, Nat.reduceAdd, Nat.reduceSub, Nat.reduceMul, Nat.reduceEqDiff, Nat.reduceLT, Nat.reduceLeDiff, Nat.reduceBEq, Int.reduceNeg, Int.reduceLT, Int.reduceLE, Int.reduceEq, reduceCtorEq]; done)))))
  simp (disch := omega) only [go_sem, ↓reduceIte, Nat.reduceAdd, Nat.reduceSub, Nat.reduceMul, Nat.reduceEqDiff, Nat.reduceLT, Nat.reduceLeDiff, Nat.reduceBEq, Int.reduceNeg, Int.reduceLT, Int.reduceLE, Int.reduceEq, reduceCtorEq]

set_option maxHeartbeats 1000000 in
theorem qDiv (a b : Rat) {j k : Nat} (ha : Sz a j) (hb : Sz b k) (hj : j ≤ 2000000) (hk : k ≤ 2000000) (h0 : b ≠ 0) : Pure Try.prog 85 [ratQ a, ratQ b] (.tup [ratQ (a / b), .v (.int .i64 0)]) := by
  obtain ⟨a1, a2⟩ := id ha
  obtain ⟨b1, b2⟩ := id hb
  have na := qNorm a ha (by omega)
  have nb := qNorm b hb (by omega)
  have cm1 := zMul (decide (a.num < 0)) false a.num.natAbs b.den (by omega) (by omega)
  have cm2 := zMul (decide (b.num < 0)) false b.num.natAbs a.den (by omega) (by omega)
  rw [zI_abs] at cm1 cm2
  have cm1 : Pure Try.prog 32 [intZ a.num, intA false b.den] (intZ (a.num * b.den)) := cm1
  have cm2 : Pure Try.prog 32 [intZ b.num, intA false a.den] (intZ (b.num * a.den)) := cm2
  have x1 : (toL (a.num * b.den).natAbs).length ≤ j + k := lg_cross a b ha hb
  have x2 : (toL (b.num * a.den).natAbs).length ≤ k + j := lg_cross b a hb ha
  have hb0 : b.num ≠ 0 := fun e => h0 (Rat.num_eq_zero.1 e)
  have hd0 : (a.den : Int) ≠ 0 := by have := a.den_nz; omega
  have hw0 : b.num * (a.den : Int) ≠ 0 := Int.mul_ne_zero hb0 hd0
  have cM := qMake (a.num * b.den) (b.num * a.den) (by omega) (by omega) hw0
  have e : Rat.divInt (a.num * b.den) (b.num * a.den) = a / b := by
    rw [Rat.div_def, Rat.inv_def]
    have h1 : a = Rat.divInt a.num a.den := (Rat.num_divInt_den a).symm
    rw [show a * Rat.divInt (b.den : Int) b.num = Rat.divInt a.num a.den * Rat.divInt (b.den : Int) b.num by rw [← h1], Rat.divInt_mul_divInt, Int.mul_comm b.num]
  rw [e] at cM
  have cw1 := qWhole b.den
  have cw2 := qWhole a.den
  generalize a / b = q at *
  generalize a.num * (b.den : Int) = y1 at *
  generalize b.num * (a.den : Int) = y2 at *
  refine pure_intro (tok := 0) Try.func85 rfl Try.ntmps85 Try.results85 Try.call85 (by rfl) (by simp) ?_
  (repeat' (first | (with_reducible first | refine stp ?_ | apply gx1 | apply gx2 | apply gx3 | apply gx4 | apply gx5 | apply gx6 | apply gx7) | (with_reducible refine all_v ?_; intro _) | ((with_reducible refine gE ?_); (try simp (disch := omega) only [go_sem, ↓reduceIte, Nat.reduceAdd, Nat.reduceSub, Nat.reduceMul, Nat.reduceEqDiff, Nat.reduceLT, Nat.reduceLeDiff, Nat.reduceBEq, Int.reduceNeg, Int.reduceLT, Int.reduceLE, Int.reduceEq, reduceCtorEq]) <;> first | rfl | omega) | with_reducible refine t_in_other (by decide) ?_))
  apply r_drawD (pickR [(1, ratQ a), (3, ratQ b)]) [4, 5] [] (by kernel_rfl) (by rfl) (by kernel_rfl); (focus (simp only [List.length_cons, List.length_nil, Nat.reduceAdd]; rfl))
  (repeat' (first | (with_reducible first | refine stp ?_ | apply gx1 | apply gx2 | apply gx3 | apply gx4 | apply gx5 | apply gx6 | apply gx7 | apply gy8 | apply gz2 | apply gz3 | refine gw0 (na) ?_ ?_ | refine gw3 (na) ?_ ?_ ?_ | refine gw0 (nb) ?_ ?_ | refine gw3 (nb) ?_ ?_ ?_) | (with_reducible refine all_v ?_; intro _) | ((with_reducible refine gE ?_); (try simp (disch := omega) only [go_sem, ↓reduceIte, Nat.reduceAdd, Nat.reduceSub, Nat.reduceMul, Nat.reduceEqDiff, Nat.reduceLT, Nat.reduceLeDiff, Nat.reduceBEq, Int.reduceNeg, Int.reduceLT, Int.reduceLE, Int.reduceEq, reduceCtorEq]) <;> first | rfl | omega) | with_reducible refine t_in_other (by decide) ?_ | ((with_reducible apply gy1); iterate 3 focus rfl) | ((with_reducible apply gy2); iterate 3 focus rfl) | ((with_reducible apply gy3); iterate 2 focus rfl) | ((with_reducible apply gy4); iterate 1 focus rfl) | ((with_reducible apply gy5); iterate 4 focus rfl) | ((with_reducible apply gy6); iterate 4 focus rfl) | ((with_reducible apply d_bar); iterate 3 focus rfl) | ((with_reducible apply q_pub); iterate 1 focus rfl) | ((with_reducible apply gy7); iterate 1 focus rfl) | ((with_reducible apply gy9); (focus ((with_reducible refine gE ?_); (try simp (disch := omega) only [go_sem, ↓reduceIte, Nat.reduceAdd, Nat.reduceSub, Nat.reduceMul, Nat.reduceEqDiff, Nat.reduceLT, Nat.reduceLeDiff, Nat.reduceBEq, Int.reduceNeg, Int.reduceLT, Int.reduceLE, Int.reduceEq, reduceCtorEq]) <;> rfl))) | ((with_reducible apply gz1); (focus first | rfl | (simp (disch := omega) only [go_sem, ↓reduceIte, Nat.reduceAdd, Nat.reduceSub, Nat.reduceMul, Nat.reduceEqDiff, Nat.reduceLT, Nat.reduceLeDiff, Nat.reduceBEq, Int.reduceNeg, Int.reduceLT, Int.reduceLE, Int.reduceEq, reduceCtorEq]; done)))))
  apply r_drawD (pickR [(4, intA false b.den), (5, intZ y1), (10, intA false a.den), (11, intZ y2), (12, .tup [ratQ q, .v (.int .i64 0)])]) [15] [] (by kernel_rfl) (by rfl) (by kernel_rfl); (focus (simp only [List.length_cons, List.length_nil, Nat.reduceAdd]; rfl))
  (repeat' (first | (with_reducible first | refine stp ?_ | apply gx1 | apply gx2 | apply gx3 | apply gx4 | apply gx5 | apply gx6 | apply gx7 | apply gy8 | apply gz2 | apply gz3 | refine gw0 (cw1) ?_ ?_ | refine gw3 (cw1) ?_ ?_ ?_ | refine gw0 (cm1) ?_ ?_ | refine gw3 (cm1) ?_ ?_ ?_ | refine gw0 (cw2) ?_ ?_ | refine gw3 (cw2) ?_ ?_ ?_ | refine gw0 (cm2) ?_ ?_ | refine gw3 (cm2) ?_ ?_ ?_ | refine gw0 (cM) ?_ ?_ | refine gw3 (cM) ?_ ?_ ?_) | (with_reducible refine all_v ?_; intro _) | ((with_reducible refine gE ?_); (try simp (disch := omega) only [go_sem, ↓reduceIte, Nat.reduceAdd, Nat.reduceSub, Nat.reduceMul, Nat.reduceEqDiff, Nat.reduceLT, Nat.reduceLeDiff, Nat.reduceBEq, Int.reduceNeg, Int.reduceLT, Int.reduceLE, Int.reduceEq, reduceCtorEq]) <;> first | rfl | omega) | with_reducible refine t_in_other (by decide) ?_ | ((with_reducible apply gy1); iterate 3 focus rfl) | ((with_reducible apply gy2); iterate 3 focus rfl) | ((with_reducible apply gy3); iterate 2 focus rfl) | ((with_reducible apply gy4); iterate 1 focus rfl) | ((with_reducible apply gy5); iterate 4 focus rfl) | ((with_reducible apply gy6); iterate 4 focus rfl) | ((with_reducible apply d_bar); iterate 3 focus rfl) | ((with_reducible apply q_pub); iterate 1 focus rfl) | ((with_reducible apply gy7); iterate 1 focus rfl) | ((with_reducible apply gy9); (focus ((with_reducible refine gE ?_); (try simp (disch := omega) only [go_sem, ↓reduceIte, Nat.reduceAdd, Nat.reduceSub, Nat.reduceMul, Nat.reduceEqDiff, Nat.reduceLT, Nat.reduceLeDiff, Nat.reduceBEq, Int.reduceNeg, Int.reduceLT, Int.reduceLE, Int.reduceEq, reduceCtorEq]) <;> rfl))) | ((with_reducible apply gz1); (focus first | rfl | (simp (disch := omega) only [go_sem, ↓reduceIte, Nat.reduceAdd, Nat.reduceSub, Nat.reduceMul, Nat.reduceEqDiff, Nat.reduceLT, Nat.reduceLeDiff, Nat.reduceBEq, Int.reduceNeg, Int.reduceLT, Int.reduceLE, Int.reduceEq, reduceCtorEq]; done)))))
  simp (disch := omega) only [go_sem, ↓reduceIte, Nat.reduceAdd, Nat.reduceSub, Nat.reduceMul, Nat.reduceEqDiff, Nat.reduceLT, Nat.reduceLeDiff, Nat.reduceBEq, Int.reduceNeg, Int.reduceLT, Int.reduceLE, Int.reduceEq, reduceCtorEq]
theorem qDiv0 (a b : Rat) {j k : Nat} (ha : Sz a j) (hb : Sz b k) (hj : j ≤ 2000000) (hk : k ≤ 2000000) (h0 : b = 0) : Pure Try.prog 85 [ratQ a, ratQ b] (.tup [.agg [.v (.bool false), .v (.slice none 0 0), .v (.slice none 0 0)], .v (.int .i64 3)]) := by
  obtain ⟨a1, a2⟩ := id ha
  obtain ⟨b1, b2⟩ := id hb
  have na := qNorm a ha (by omega)
  have nb := qNorm b hb (by omega)
  have cm1 := zMul (decide (a.num < 0)) false a.num.natAbs b.den (by omega) (by omega)
  have cm2 := zMul (decide (b.num < 0)) false b.num.natAbs a.den (by omega) (by omega)
  rw [zI_abs] at cm1 cm2
  have cm1 : Pure Try.prog 32 [intZ a.num, intA false b.den] (intZ (a.num * b.den)) := cm1
  have cm2 : Pure Try.prog 32 [intZ b.num, intA false a.den] (intZ (b.num * a.den)) := cm2
  have e0 : b.num * (a.den : Int) = 0 := by rw [h0, Rat.zero_num, Int.zero_mul]
  have cM := qMake0 (a.num * b.den) (b.num * a.den) e0
  have cw1 := qWhole b.den
  have cw2 := qWhole a.den
  clear h0 e0
  generalize a.num * (b.den : Int) = y1 at *
  generalize b.num * (a.den : Int) = y2 at *
  refine pure_intro (tok := 0) Try.func85 rfl Try.ntmps85 Try.results85 Try.call85 (by rfl) (by simp) ?_
  (repeat' (first | (with_reducible first | refine stp ?_ | apply gx1 | apply gx2 | apply gx3 | apply gx4 | apply gx5 | apply gx6 | apply gx7) | (with_reducible refine all_v ?_; intro _) | ((with_reducible refine gE ?_); (try simp (disch := omega) only [go_sem, ↓reduceIte, Nat.reduceAdd, Nat.reduceSub, Nat.reduceMul, Nat.reduceEqDiff, Nat.reduceLT, Nat.reduceLeDiff, Nat.reduceBEq, Int.reduceNeg, Int.reduceLT, Int.reduceLE, Int.reduceEq, reduceCtorEq]) <;> first | rfl | omega) | with_reducible refine t_in_other (by decide) ?_))
  apply r_drawD (pickR [(1, ratQ a), (3, ratQ b)]) [4, 5] [] (by kernel_rfl) (by rfl) (by kernel_rfl); (focus (simp only [List.length_cons, List.length_nil, Nat.reduceAdd]; rfl))
  (repeat' (first | (with_reducible first | refine stp ?_ | apply gx1 | apply gx2 | apply gx3 | apply gx4 | apply gx5 | apply gx6 | apply gx7 | apply gy8 | apply gz2 | apply gz3 | refine gw0 (na) ?_ ?_ | refine gw3 (na) ?_ ?_ ?_ | refine gw0 (nb) ?_ ?_ | refine gw3 (nb) ?_ ?_ ?_) | (with_reducible refine all_v ?_; intro _) | ((with_reducible refine gE ?_); (try simp (disch := omega) only [go_sem, ↓reduceIte, Nat.reduceAdd, Nat.reduceSub, Nat.reduceMul, Nat.reduceEqDiff, Nat.reduceLT, Nat.reduceLeDiff, Nat.reduceBEq, Int.reduceNeg, Int.reduceLT, Int.reduceLE, Int.reduceEq, reduceCtorEq]) <;> first | rfl | omega) | with_reducible refine t_in_other (by decide) ?_ | ((with_reducible apply gy1); iterate 3 focus rfl) | ((with_reducible apply gy2); iterate 3 focus rfl) | ((with_reducible apply gy3); iterate 2 focus rfl) | ((with_reducible apply gy4); iterate 1 focus rfl) | ((with_reducible apply gy5); iterate 4 focus rfl) | ((with_reducible apply gy6); iterate 4 focus rfl) | ((with_reducible apply d_bar); iterate 3 focus rfl) | ((with_reducible apply q_pub); iterate 1 focus rfl) | ((with_reducible apply gy7); iterate 1 focus rfl) | ((with_reducible apply gy9); (focus ((with_reducible refine gE ?_); (try simp (disch := omega) only [go_sem, ↓reduceIte, Nat.reduceAdd, Nat.reduceSub, Nat.reduceMul, Nat.reduceEqDiff, Nat.reduceLT, Nat.reduceLeDiff, Nat.reduceBEq, Int.reduceNeg, Int.reduceLT, Int.reduceLE, Int.reduceEq, reduceCtorEq]) <;> rfl))) | ((with_reducible apply gz1); (focus first | rfl | (simp (disch := omega) only [go_sem, ↓reduceIte, Nat.reduceAdd, Nat.reduceSub, Nat.reduceMul, Nat.reduceEqDiff, Nat.reduceLT, Nat.reduceLeDiff, Nat.reduceBEq, Int.reduceNeg, Int.reduceLT, Int.reduceLE, Int.reduceEq, reduceCtorEq]; done)))))
  apply r_drawD (pickR [(4, intA false b.den), (5, intZ y1), (10, intA false a.den), (11, intZ y2), (12, .tup [.agg [.v (.bool false), .v (.slice none 0 0), .v (.slice none 0 0)], .v (.int .i64 3)])]) [15] [] (by kernel_rfl) (by rfl) (by kernel_rfl); (focus (simp only [List.length_cons, List.length_nil, Nat.reduceAdd]; rfl))
  (repeat' (first | (with_reducible first | refine stp ?_ | apply gx1 | apply gx2 | apply gx3 | apply gx4 | apply gx5 | apply gx6 | apply gx7 | apply gy8 | apply gz2 | apply gz3 | refine gw0 (cw1) ?_ ?_ | refine gw3 (cw1) ?_ ?_ ?_ | refine gw0 (cm1) ?_ ?_ | refine gw3 (cm1) ?_ ?_ ?_ | refine gw0 (cw2) ?_ ?_ | refine gw3 (cw2) ?_ ?_ ?_ | refine gw0 (cm2) ?_ ?_ | refine gw3 (cm2) ?_ ?_ ?_ | refine gw0 (cM) ?_ ?_ | refine gw3 (cM) ?_ ?_ ?_) | (with_reducible refine all_v ?_; intro _) | ((with_reducible refine gE ?_); (try simp (disch := omega) only [go_sem, ↓reduceIte, Nat.reduceAdd, Nat.reduceSub, Nat.reduceMul, Nat.reduceEqDiff, Nat.reduceLT, Nat.reduceLeDiff, Nat.reduceBEq, Int.reduceNeg, Int.reduceLT, Int.reduceLE, Int.reduceEq, reduceCtorEq]) <;> first | rfl | omega) | with_reducible refine t_in_other (by decide) ?_ | ((with_reducible apply gy1); iterate 3 focus rfl) | ((with_reducible apply gy2); iterate 3 focus rfl) | ((with_reducible apply gy3); iterate 2 focus rfl) | ((with_reducible apply gy4); iterate 1 focus rfl) | ((with_reducible apply gy5); iterate 4 focus rfl) | ((with_reducible apply gy6); iterate 4 focus rfl) | ((with_reducible apply d_bar); iterate 3 focus rfl) | ((with_reducible apply q_pub); iterate 1 focus rfl) | ((with_reducible apply gy7); iterate 1 focus rfl) | ((with_reducible apply gy9); (focus ((with_reducible refine gE ?_); (try simp (disch := omega) only [go_sem, ↓reduceIte, Nat.reduceAdd, Nat.reduceSub, Nat.reduceMul, Nat.reduceEqDiff, Nat.reduceLT, Nat.reduceLeDiff, Nat.reduceBEq, Int.reduceNeg, Int.reduceLT, Int.reduceLE, Int.reduceEq, reduceCtorEq]) <;> rfl))) | ((with_reducible apply gz1); (focus first | rfl | (simp (disch := omega) only [go_sem, ↓reduceIte, Nat.reduceAdd, Nat.reduceSub, Nat.reduceMul, Nat.reduceEqDiff, Nat.reduceLT, Nat.reduceLeDiff, Nat.reduceBEq, Int.reduceNeg, Int.reduceLT, Int.reduceLE, Int.reduceEq, reduceCtorEq]; done)))))
  simp (disch := omega) only [go_sem, ↓reduceIte, Nat.reduceAdd, Nat.reduceSub, Nat.reduceMul, Nat.reduceEqDiff, Nat.reduceLT, Nat.reduceLeDiff, Nat.reduceBEq, Int.reduceNeg, Int.reduceLT, Int.reduceLE, Int.reduceEq, reduceCtorEq]

theorem qFloor (q : Rat) {k : Nat} (h : Sz q k) (hk : k ≤ 10000000) : Pure Try.prog 58 [ratQ q] (intZ q.floor) := by
  have h1 := h.1
  have h2 := h.2
  have cd := zDivMod (decide (q.num < 0)) q.num.natAbs q.den (by omega) (by omega) q.den_nz
  rw [zI_abs] at cd
  rw [Rat.floor_def]
  generalize q.num / (q.den : Int) = fz at *
  generalize q.num % (q.den : Int) = fr at *
  refine pure_intro (tok := 0) Try.func58 rfl Try.ntmps58 Try.results58 Try.call58 (by rfl) (by simp) ?_
  (repeat' (first | (with_reducible first | refine stp ?_ | apply gx1 | apply gx2 | apply gx3 | apply gx4 | apply gx5 | apply gx6 | apply gx7 | apply gy8 | apply gz2 | apply gz3 | refine gw0 (qNorm q h hk) ?_ ?_ | refine gw3 (qNorm q h hk) ?_ ?_ ?_ | refine gw0 (qWhole q.den) ?_ ?_ | refine gw3 (qWhole q.den) ?_ ?_ ?_ | refine gw0 (cd) ?_ ?_ | refine gw3 (cd) ?_ ?_ ?_) | (with_reducible refine all_v ?_; intro _) | ((with_reducible refine gE ?_); (try simp (disch := omega) only [go_sem, ↓reduceIte, Nat.reduceAdd, Nat.reduceSub, Nat.reduceMul, Nat.reduceEqDiff, Nat.reduceLT, Nat.reduceLeDiff, Nat.reduceBEq, Int.reduceNeg, Int.reduceLT, Int.reduceLE, Int.reduceEq, reduceCtorEq]) <;> first | rfl | omega) | with_reducible refine t_in_other (by decide) ?_ | ((with_reducible apply gy1); iterate 3 focus rfl) | ((with_reducible apply gy2); iterate 3 focus rfl) | ((with_reducible apply gy3); iterate 2 focus rfl) | ((with_reducible apply gy4); iterate 1 focus rfl) | ((with_reducible apply gy5); iterate 4 focus rfl) | ((with_reducible apply gy6); iterate 4 focus rfl) | ((with_reducible apply d_bar); iterate 3 focus rfl) | ((with_reducible apply q_pub); iterate 1 focus rfl) | ((with_reducible apply gy7); iterate 1 focus rfl) | ((with_reducible apply gy9); (focus ((with_reducible refine gE ?_); (try simp (disch := omega) only [go_sem, ↓reduceIte, Nat.reduceAdd, Nat.reduceSub, Nat.reduceMul, Nat.reduceEqDiff, Nat.reduceLT, Nat.reduceLeDiff, Nat.reduceBEq, Int.reduceNeg, Int.reduceLT, Int.reduceLE, Int.reduceEq, reduceCtorEq]) <;> rfl))) | ((with_reducible apply gz1); (focus first | rfl | (simp (disch := omega) only [go_sem, ↓reduceIte, Nat.reduceAdd, Nat.reduceSub, Nat.reduceMul, Nat.reduceEqDiff, Nat.reduceLT, Nat.reduceLeDiff, Nat.reduceBEq, Int.reduceNeg, Int.reduceLT, Int.reduceLE, Int.reduceEq, reduceCtorEq]; done))) | ((with_reducible apply r_drawD (pickR [(4, intA false q.den), (5, .tup [intZ fz, intZ fr, .v (.int .i64 0)])]) [] [3,4]); (focus kernel_rfl); (focus rfl); (focus kernel_rfl); (focus (simp only [List.length_cons, List.length_nil, Nat.reduceAdd]; rfl)))))
  simp (disch := omega) only [go_sem, ↓reduceIte, Nat.reduceAdd, Nat.reduceSub, Nat.reduceMul, Nat.reduceEqDiff, Nat.reduceLT, Nat.reduceLeDiff, Nat.reduceBEq, Int.reduceNeg, Int.reduceLT, Int.reduceLE, Int.reduceEq, reduceCtorEq]

theorem qFrac (n m : Nat) (hn : n < 9223372036854775808) (hm : m < 9223372036854775808) (h0 : m ≠ 0) : Pure Try.prog 53 [.v (.int .i64 (n : Int)), .v (.int .i64 (m : Int))] (ratQ (mkRat n m)) := by
  have l4 : (toL n).length ≤ 4 := toL_len_lt.2 (by omega)
  have m4 : (toL m).length ≤ 4 := toL_len_lt.2 (by omega)
  have c := qMake (n : Int) (m : Int) (by rw [Int.natAbs_natCast]; omega) (by rw [Int.natAbs_natCast]; omega) (by omega)
  rw [Rat.divInt_ofNat] at c
  have e1 : intZ (n : Int) = intA false n := by
    have := intZ_of false n
    rwa [Bool.false_and] at this
  have e2 : intZ (m : Int) = intA false m := by
    have := intZ_of false m
    rwa [Bool.false_and] at this
  rw [e1, e2] at c
  generalize mkRat (n : Int) m = q at *
  refine pure_intro (tok := 0) Try.func53 rfl Try.ntmps53 Try.results53 Try.call53 (by rfl) (by simp) ?_
  (repeat' (first | (with_reducible first | refine stp ?_ | apply gx1 | apply gx2 | apply gx3 | apply gx4 | apply gx5 | apply gx6 | apply gx7 | apply gy8 | apply gz2 | apply gz3 | refine gw0 (zOf n hn) ?_ ?_ | refine gw3 (zOf n hn) ?_ ?_ ?_ | refine gw0 (zOf m hm) ?_ ?_ | refine gw3 (zOf m hm) ?_ ?_ ?_ | refine gw0 (c) ?_ ?_ | refine gw3 (c) ?_ ?_ ?_) | (with_reducible refine all_v ?_; intro _) | ((with_reducible refine gE ?_); (try simp (disch := omega) only [go_sem, ↓reduceIte, Nat.reduceAdd, Nat.reduceSub, Nat.reduceMul, Nat.reduceEqDiff, Nat.reduceLT, Nat.reduceLeDiff, Nat.reduceBEq, Int.reduceNeg, Int.reduceLT, Int.reduceLE, Int.reduceEq, reduceCtorEq]) <;> first | rfl | omega) | with_reducible refine t_in_other (by decide) ?_ | ((with_reducible apply gy1); iterate 3 focus rfl) | ((with_reducible apply gy2); iterate 3 focus rfl) | ((with_reducible apply gy3); iterate 2 focus rfl) | ((with_reducible apply gy4); iterate 1 focus rfl) | ((with_reducible apply gy5); iterate 4 focus rfl) | ((with_reducible apply gy6); iterate 4 focus rfl) | ((with_reducible apply d_bar); iterate 3 focus rfl) | ((with_reducible apply q_pub); iterate 1 focus rfl) | ((with_reducible apply gy7); iterate 1 focus rfl) | ((with_reducible apply gy9); (focus ((with_reducible refine gE ?_); (try simp (disch := omega) only [go_sem, ↓reduceIte, Nat.reduceAdd, Nat.reduceSub, Nat.reduceMul, Nat.reduceEqDiff, Nat.reduceLT, Nat.reduceLeDiff, Nat.reduceBEq, Int.reduceNeg, Int.reduceLT, Int.reduceLE, Int.reduceEq, reduceCtorEq]) <;> rfl))) | ((with_reducible apply gz1); (focus first | rfl | (simp (disch := omega) only [go_sem, ↓reduceIte, Nat.reduceAdd, Nat.reduceSub, Nat.reduceMul, Nat.reduceEqDiff, Nat.reduceLT, Nat.reduceLeDiff, Nat.reduceBEq, Int.reduceNeg, Int.reduceLT, Int.reduceLE, Int.reduceEq, reduceCtorEq]; done))) | ((with_reducible apply r_drawD (pickR []) [] []); (focus kernel_rfl); (focus rfl); (focus kernel_rfl); (focus (simp only [List.length_cons, List.length_nil, Nat.reduceAdd]; rfl)))))
  simp (disch := omega) only [go_sem, ↓reduceIte, Nat.reduceAdd, Nat.reduceSub, Nat.reduceMul, Nat.reduceEqDiff, Nat.reduceLT, Nat.reduceLeDiff, Nat.reduceBEq, Int.reduceNeg, Int.reduceLT, Int.reduceLE, Int.reduceEq, reduceCtorEq]

theorem ratFrac (n m : Nat) (hn : n < 9223372036854775808) (hm : m < 9223372036854775808) (h0 : m ≠ 0) : Pure Try.prog 17 [.v (.int .i64 (n : Int)), .v (.int .i64 (m : Int))] (ratQ (mkRat n m)) := by
  have l4 : (toL n).length ≤ 4 := toL_len_lt.2 (by omega)
  have m4 : (toL m).length ≤ 4 := toL_len_lt.2 (by omega)
  have c := ratMake (n : Int) (m : Int) (by rw [Int.natAbs_natCast]; omega) (by rw [Int.natAbs_natCast]; omega) (by omega)
  rw [Rat.divInt_ofNat] at c
  have e1 : intZ (n : Int) = intA false n := by
    have := intZ_of false n
    rwa [Bool.false_and] at this
  have e2 : intZ (m : Int) = intA false m := by
    have := intZ_of false m
    rwa [Bool.false_and] at this
  rw [e1, e2] at c
  generalize mkRat (n : Int) m = q at *
  refine pure_intro (tok := 0) Try.func17 rfl Try.ntmps17 Try.results17 Try.call17 (by rfl) (by simp) ?_
  (repeat' (first | (with_reducible first | refine stp ?_ | apply gx1 | apply gx2 | apply gx3 | apply gx4 | apply gx5 | apply gx6 | apply gx7 | apply gy8 | apply gz2 | apply gz3 | refine gw0 (intOf n hn) ?_ ?_ | refine gw3 (intOf n hn) ?_ ?_ ?_ | refine gw0 (intOf m hm) ?_ ?_ | refine gw3 (intOf m hm) ?_ ?_ ?_ | refine gw0 (c) ?_ ?_ | refine gw3 (c) ?_ ?_ ?_) | (with_reducible refine all_v ?_; intro _) | ((with_reducible refine gE ?_); (try simp (disch := omega) only [go_sem, ↓reduceIte, Nat.reduceAdd, Nat.reduceSub, Nat.reduceMul, Nat.reduceEqDiff, Nat.reduceLT, Nat.reduceLeDiff, Nat.reduceBEq, Int.reduceNeg, Int.reduceLT, Int.reduceLE, Int.reduceEq, reduceCtorEq]) <;> first | rfl | omega) | with_reducible refine t_in_other (by decide) ?_ | ((with_reducible apply gy1); iterate 3 focus rfl) | ((with_reducible apply gy2); iterate 3 focus rfl) | ((with_reducible apply gy3); iterate 2 focus rfl) | ((with_reducible apply gy4); iterate 1 focus rfl) | ((with_reducible apply gy5); iterate 4 focus rfl) | ((with_reducible apply gy6); iterate 4 focus rfl) | ((with_reducible apply d_bar); iterate 3 focus rfl) | ((with_reducible apply q_pub); iterate 1 focus rfl) | ((with_reducible apply gy7); iterate 1 focus rfl) | ((with_reducible apply gy9); (focus ((with_reducible refine gE ?_); (try simp (disch := omega) only [go_sem, ↓reduceIte, Nat.reduceAdd, Nat.reduceSub, Nat.reduceMul, Nat.reduceEqDiff, Nat.reduceLT, Nat.reduceLeDiff, Nat.reduceBEq, Int.reduceNeg, Int.reduceLT, Int.reduceLE, Int.reduceEq, reduceCtorEq]) <;> rfl))) | ((with_reducible apply gz1); (focus first | rfl | (simp (disch := omega) only [go_sem, ↓reduceIte, Nat.reduceAdd, Nat.reduceSub, Nat.reduceMul, Nat.reduceEqDiff, Nat.reduceLT, Nat.reduceLeDiff, Nat.reduceBEq, Int.reduceNeg, Int.reduceLT, Int.reduceLE, Int.reduceEq, reduceCtorEq]; done))) | ((with_reducible apply r_drawD (pickR []) [] []); (focus kernel_rfl); (focus rfl); (focus kernel_rfl); (focus (simp only [List.length_cons, List.length_nil, Nat.reduceAdd]; rfl)))))
  simp (disch := omega) only [go_sem, ↓reduceIte, Nat.reduceAdd, Nat.reduceSub, Nat.reduceMul, Nat.reduceEqDiff, Nat.reduceLT, Nat.reduceLeDiff, Nat.reduceBEq, Int.reduceNeg, Int.reduceLT, Int.reduceLE, Int.reduceEq, reduceCtorEq]

theorem szIv : szOf Try.prog 37 = some 6 := by kernel_rfl
theorem zIv : zeroOf Try.prog 37 = some (.agg #[.bool false, .slice none 0 0, .slice none 0 0, .bool false, .slice none 0 0, .slice none 0 0]) := by kernel_rfl
theorem szBox : szOf Try.prog 39 = some 12 := by kernel_rfl
theorem zBox : zeroOf Try.prog 39 = some (.agg #[.bool false, .slice none 0 0, .slice none 0 0, .bool false, .slice none 0 0, .slice none 0 0, .bool false, .slice none 0 0, .slice none 0 0, .bool false, .slice none 0 0, .slice none 0 0]) := by kernel_rfl
theorem szPt : szOf Try.prog 53 = some 6 := by kernel_rfl
theorem zPt : zeroOf Try.prog 53 = some (.agg #[.bool false, .slice none 0 0, .slice none 0 0, .bool false, .slice none 0 0, .slice none 0 0]) := by kernel_rfl
end Go.Proofs.Ytjiffehkemeloaa
end

section
namespace Go.Proofs.Ytjiffehkemeloaa
open Go Go.RowKit Go.Pg
set_option linter.unusedSimpArgs false
set_option linter.unusedVariables false
set_option maxRecDepth 20000
attribute [local go_sem] Try.underlying31 Try.underlying3 Try.underlying78 Try.underlying72 Try.underlying4 Try.underlying33 Try.underlying35 Try.underlying25 Try.underlying37 sz3 by3 z3 szL byL zL szB zB szNat zNat szInt zInt szRat zRat

/-- A number as it comes in. -/
structure RQ where
  s : Bool
  l : List Nat
  d : List Nat
def RQ.lm (r : RQ) (k : Nat) : Prop := Lm r.l ∧ Lm r.d ∧ r.l.length ≤ k ∧ r.d.length ≤ k
abbrev RQ.av (r : RQ) : AV := .agg [.v (.bool r.s), lim r.l, lim r.d]
def RQ.zok (s : Bool) (l : List Nat) : Bool := valL l && !(s && decide (l.length = 0))
def RQ.ok (r : RQ) : Bool := RQ.zok r.s r.l && valL r.d && (Nat.gcd (nv r.l) (nv r.d) == 1) && decide (0 < r.d.length)
def RQ.q (r : RQ) : Rat := mkRat (zI r.s (nv r.l)) (nv r.d)
theorem RQ.ok_av {r : RQ} {k : Nat} (hl : r.lm k) (h : r.ok = true) : r.av = ratQ r.q ∧ Sz r.q k := by
  obtain ⟨s, l, d⟩ := r
  obtain ⟨h1, h2, h3, h4⟩ := hl
  simp only [RQ.ok, RQ.zok, Bool.and_eq_true, decide_eq_true_eq, Bool.not_eq_true', beq_iff_eq] at h
  obtain ⟨⟨⟨⟨v1, v2⟩, v3⟩, v4⟩, v5⟩ := h
  have e1 := (valL_iff h1).1 v1
  have e2 := (valL_iff h2).1 v3
  simp only [RQ.av, RQ.q] at *
  generalize nv l = n at *
  generalize nv d = m at *
  subst e1
  subst e2
  have hm : m ≠ 0 := by have := toL_len_pos.1 v5; omega
  have hs : decide (zI s n < 0) = s := by
    rw [zI_lt]
    cases s
    · rfl
    · have : (toL n).length ≠ 0 := by simpa using v2
      rw [decide_eq_true (toL_len_pos.1 (by omega))]
      rfl
  refine ⟨?_, Sz.mk (by rw [zI_natAbs]; exact h3) h4 (by omega)⟩
  rw [ratQ_mk _ _ hm, zI_natAbs, v4, Nat.div_one, Nat.div_one, hs]
theorem toL_inj {a b : Nat} : toL a = toL b ↔ a = b := ⟨fun h => by rw [← nv_toL a, h, nv_toL], fun h => by rw [h]⟩

theorem zRight (s : Bool) (l : List Nat) (hs : l.length ≤ 100000000) (hl : Lm l) : Pure Try.prog 68 [.agg [.v (.bool s), lim l]] (.v (.bool (RQ.zok s l))) := by
  have cv := refValid l (by omega) hl
  unfold RQ.zok
  generalize valL l = v at *
  cases v
  · refine pure_intro (tok := 0) Try.func68 rfl Try.ntmps68 Try.results68 Try.call68 (by rfl) (by simp) ?_
    (repeat' (first | (with_reducible first | refine stp ?_ | apply gx1 | apply gx2 | apply gx3 | apply gx4 | apply gx5 | apply gx6 | apply gx7 | apply gy8 | apply gz2 | apply gz3 | refine gw0 (cv) ?_ ?_ | refine gw3 (cv) ?_ ?_ ?_) | (with_reducible refine all_v ?_; intro _) | ((with_reducible refine gE ?_); (try simp (disch := omega) only [go_sem, ↓reduceIte, Nat.reduceAdd, Nat.reduceSub, Nat.reduceMul, Nat.reduceEqDiff, Nat.reduceLT, Nat.reduceLeDiff, Nat.reduceBEq, Int.reduceNeg, Int.reduceLT, Int.reduceLE, Int.reduceEq, reduceCtorEq, Bool.false_and]) <;> first | rfl | omega) | with_reducible refine t_in_other (by decide) ?_ | ((with_reducible apply gy1); iterate 3 focus rfl) | ((with_reducible apply gy2); iterate 3 focus rfl) | ((with_reducible apply gy3); iterate 2 focus rfl) | ((with_reducible apply gy4); iterate 1 focus rfl) | ((with_reducible apply gy5); iterate 4 focus rfl) | ((with_reducible apply gy6); iterate 4 focus rfl) | ((with_reducible apply d_bar); iterate 3 focus rfl) | ((with_reducible apply q_pub); iterate 1 focus rfl) | ((with_reducible apply gy7); iterate 1 focus rfl) | ((with_reducible apply gy9); (focus ((with_reducible refine gE ?_); (try simp (disch := omega) only [go_sem, ↓reduceIte, Nat.reduceAdd, Nat.reduceSub, Nat.reduceMul, Nat.reduceEqDiff, Nat.reduceLT, Nat.reduceLeDiff, Nat.reduceBEq, Int.reduceNeg, Int.reduceLT, Int.reduceLE, Int.reduceEq, reduceCtorEq, Bool.false_and]) <;> rfl))) | ((with_reducible apply gz1); (focus first | rfl | (simp (disch := omega) only [go_sem, ↓reduceIte, Nat.reduceAdd, Nat.reduceSub, Nat.reduceMul, Nat.reduceEqDiff, Nat.reduceLT, Nat.reduceLeDiff, Nat.reduceBEq, Int.reduceNeg, Int.reduceLT, Int.reduceLE, Int.reduceEq, reduceCtorEq, Bool.false_and]; done))) | ((with_reducible apply r_drawD (pickR []) [] []); (focus kernel_rfl); (focus rfl); (focus kernel_rfl); (focus (simp only [List.length_cons, List.length_nil, Nat.reduceAdd]; rfl)))))
    simp (disch := omega) only [go_sem, ↓reduceIte, Nat.reduceAdd, Nat.reduceSub, Nat.reduceMul, Nat.reduceEqDiff, Nat.reduceLT, Nat.reduceLeDiff, Nat.reduceBEq, Int.reduceNeg, Int.reduceLT, Int.reduceLE, Int.reduceEq, reduceCtorEq, Bool.false_and]
  · cases s
    · refine pure_intro (tok := 0) Try.func68 rfl Try.ntmps68 Try.results68 Try.call68 (by rfl) (by simp) ?_
      (repeat' (first | (with_reducible first | refine stp ?_ | apply gx1 | apply gx2 | apply gx3 | apply gx4 | apply gx5 | apply gx6 | apply gx7 | apply gy8 | apply gz2 | apply gz3 | refine gw0 (cv) ?_ ?_ | refine gw3 (cv) ?_ ?_ ?_) | (with_reducible refine all_v ?_; intro _) | ((with_reducible refine gE ?_); (try simp (disch := omega) only [go_sem, ↓reduceIte, Nat.reduceAdd, Nat.reduceSub, Nat.reduceMul, Nat.reduceEqDiff, Nat.reduceLT, Nat.reduceLeDiff, Nat.reduceBEq, Int.reduceNeg, Int.reduceLT, Int.reduceLE, Int.reduceEq, reduceCtorEq, Bool.false_and]) <;> first | rfl | omega) | with_reducible refine t_in_other (by decide) ?_ | ((with_reducible apply gy1); iterate 3 focus rfl) | ((with_reducible apply gy2); iterate 3 focus rfl) | ((with_reducible apply gy3); iterate 2 focus rfl) | ((with_reducible apply gy4); iterate 1 focus rfl) | ((with_reducible apply gy5); iterate 4 focus rfl) | ((with_reducible apply gy6); iterate 4 focus rfl) | ((with_reducible apply d_bar); iterate 3 focus rfl) | ((with_reducible apply q_pub); iterate 1 focus rfl) | ((with_reducible apply gy7); iterate 1 focus rfl) | ((with_reducible apply gy9); (focus ((with_reducible refine gE ?_); (try simp (disch := omega) only [go_sem, ↓reduceIte, Nat.reduceAdd, Nat.reduceSub, Nat.reduceMul, Nat.reduceEqDiff, Nat.reduceLT, Nat.reduceLeDiff, Nat.reduceBEq, Int.reduceNeg, Int.reduceLT, Int.reduceLE, Int.reduceEq, reduceCtorEq, Bool.false_and]) <;> rfl))) | ((with_reducible apply gz1); (focus first | rfl | (simp (disch := omega) only [go_sem, ↓reduceIte, Nat.reduceAdd, Nat.reduceSub, Nat.reduceMul, Nat.reduceEqDiff, Nat.reduceLT, Nat.reduceLeDiff, Nat.reduceBEq, Int.reduceNeg, Int.reduceLT, Int.reduceLE, Int.reduceEq, reduceCtorEq, Bool.false_and]; done))) | ((with_reducible apply r_drawD (pickR []) [] []); (focus kernel_rfl); (focus rfl); (focus kernel_rfl); (focus (simp only [List.length_cons, List.length_nil, Nat.reduceAdd]; rfl)))))
      simp (disch := omega) only [go_sem, ↓reduceIte, Nat.reduceAdd, Nat.reduceSub, Nat.reduceMul, Nat.reduceEqDiff, Nat.reduceLT, Nat.reduceLeDiff, Nat.reduceBEq, Int.reduceNeg, Int.reduceLT, Int.reduceLE, Int.reduceEq, reduceCtorEq, Bool.false_and]
    · by_cases h0 : l.length = 0
      · refine pure_intro (tok := 0) Try.func68 rfl Try.ntmps68 Try.results68 Try.call68 (by rfl) (by simp) ?_
        (repeat' (first | (with_reducible first | refine stp ?_ | apply gx1 | apply gx2 | apply gx3 | apply gx4 | apply gx5 | apply gx6 | apply gx7 | apply gy8 | apply gz2 | apply gz3 | refine gw0 (cv) ?_ ?_ | refine gw3 (cv) ?_ ?_ ?_) | (with_reducible refine all_v ?_; intro _) | ((with_reducible refine gE ?_); (try simp (disch := omega) only [go_sem, ↓reduceIte, Nat.reduceAdd, Nat.reduceSub, Nat.reduceMul, Nat.reduceEqDiff, Nat.reduceLT, Nat.reduceLeDiff, Nat.reduceBEq, Int.reduceNeg, Int.reduceLT, Int.reduceLE, Int.reduceEq, reduceCtorEq, h0, Int.natCast_zero]) <;> first | rfl | omega) | with_reducible refine t_in_other (by decide) ?_ | ((with_reducible apply gy1); iterate 3 focus rfl) | ((with_reducible apply gy2); iterate 3 focus rfl) | ((with_reducible apply gy3); iterate 2 focus rfl) | ((with_reducible apply gy4); iterate 1 focus rfl) | ((with_reducible apply gy5); iterate 4 focus rfl) | ((with_reducible apply gy6); iterate 4 focus rfl) | ((with_reducible apply d_bar); iterate 3 focus rfl) | ((with_reducible apply q_pub); iterate 1 focus rfl) | ((with_reducible apply gy7); iterate 1 focus rfl) | ((with_reducible apply gy9); (focus ((with_reducible refine gE ?_); (try simp (disch := omega) only [go_sem, ↓reduceIte, Nat.reduceAdd, Nat.reduceSub, Nat.reduceMul, Nat.reduceEqDiff, Nat.reduceLT, Nat.reduceLeDiff, Nat.reduceBEq, Int.reduceNeg, Int.reduceLT, Int.reduceLE, Int.reduceEq, reduceCtorEq, h0, Int.natCast_zero]) <;> rfl))) | ((with_reducible apply gz1); (focus first | rfl | (simp (disch := omega) only [go_sem, ↓reduceIte, Nat.reduceAdd, Nat.reduceSub, Nat.reduceMul, Nat.reduceEqDiff, Nat.reduceLT, Nat.reduceLeDiff, Nat.reduceBEq, Int.reduceNeg, Int.reduceLT, Int.reduceLE, Int.reduceEq, reduceCtorEq, h0, Int.natCast_zero]; done))) | ((with_reducible apply r_drawD (pickR []) [] []); (focus kernel_rfl); (focus rfl); (focus kernel_rfl); (focus (simp only [List.length_cons, List.length_nil, Nat.reduceAdd]; rfl)))))
        simp (disch := omega) only [go_sem, ↓reduceIte, Nat.reduceAdd, Nat.reduceSub, Nat.reduceMul, Nat.reduceEqDiff, Nat.reduceLT, Nat.reduceLeDiff, Nat.reduceBEq, Int.reduceNeg, Int.reduceLT, Int.reduceLE, Int.reduceEq, reduceCtorEq, h0]
      · refine pure_intro (tok := 0) Try.func68 rfl Try.ntmps68 Try.results68 Try.call68 (by rfl) (by simp) ?_
        (repeat' (first | (with_reducible first | refine stp ?_ | apply gx1 | apply gx2 | apply gx3 | apply gx4 | apply gx5 | apply gx6 | apply gx7 | apply gy8 | apply gz2 | apply gz3 | refine gw0 (cv) ?_ ?_ | refine gw3 (cv) ?_ ?_ ?_) | (with_reducible refine all_v ?_; intro _) | ((with_reducible refine gE ?_); (try simp (disch := omega) only [go_sem, ↓reduceIte, Nat.reduceAdd, Nat.reduceSub, Nat.reduceMul, Nat.reduceEqDiff, Nat.reduceLT, Nat.reduceLeDiff, Nat.reduceBEq, Int.reduceNeg, Int.reduceLT, Int.reduceLE, Int.reduceEq, reduceCtorEq]) <;> first | rfl | omega) | with_reducible refine t_in_other (by decide) ?_ | ((with_reducible apply gy1); iterate 3 focus rfl) | ((with_reducible apply gy2); iterate 3 focus rfl) | ((with_reducible apply gy3); iterate 2 focus rfl) | ((with_reducible apply gy4); iterate 1 focus rfl) | ((with_reducible apply gy5); iterate 4 focus rfl) | ((with_reducible apply gy6); iterate 4 focus rfl) | ((with_reducible apply d_bar); iterate 3 focus rfl) | ((with_reducible apply q_pub); iterate 1 focus rfl) | ((with_reducible apply gy7); iterate 1 focus rfl) | ((with_reducible apply gy9); (focus ((with_reducible refine gE ?_); (try simp (disch := omega) only [go_sem, ↓reduceIte, Nat.reduceAdd, Nat.reduceSub, Nat.reduceMul, Nat.reduceEqDiff, Nat.reduceLT, Nat.reduceLeDiff, Nat.reduceBEq, Int.reduceNeg, Int.reduceLT, Int.reduceLE, Int.reduceEq, reduceCtorEq]) <;> rfl))) | ((with_reducible apply gz1); (focus first | rfl | (simp (disch := omega) only [go_sem, ↓reduceIte, Nat.reduceAdd, Nat.reduceSub, Nat.reduceMul, Nat.reduceEqDiff, Nat.reduceLT, Nat.reduceLeDiff, Nat.reduceBEq, Int.reduceNeg, Int.reduceLT, Int.reduceLE, Int.reduceEq, reduceCtorEq]; done))) | ((with_reducible apply r_drawD (pickR []) [] []); (focus kernel_rfl); (focus rfl); (focus kernel_rfl); (focus (simp only [List.length_cons, List.length_nil, Nat.reduceAdd]; rfl)))))
        simp (disch := omega) only [go_sem, ↓reduceIte, Nat.reduceAdd, Nat.reduceSub, Nat.reduceMul, Nat.reduceEqDiff, Nat.reduceLT, Nat.reduceLeDiff, Nat.reduceBEq, Int.reduceNeg, Int.reduceLT, Int.reduceLE, Int.reduceEq, reduceCtorEq, h0, decide_eq_false h0]

set_option maxHeartbeats 1000000 in
theorem qRight (s : Bool) (l d : List Nat) (h1 : Lm l) (h2 : Lm d) (h3 : l.length ≤ 100000000) (h4 : d.length ≤ 100000000) : Pure Try.prog 37 [.agg [.v (.bool s), lim l, lim d]] (.v (.bool (RQ.ok ⟨s, l, d⟩))) := by
  have cz := zRight s l h3 h1
  have cv := refValid d (by omega) h2
  have cg := refGcd l d (by omega) (by omega) h1 h2
  have hgl : (toL (Nat.gcd (nv l) (nv d))).length ≤ 100000000 := by
    have l1 := toL_len_le h1
    have l2 := toL_len_le h2
    by_cases hd : nv d = 0
    · rw [hd, Nat.gcd_zero_right]; omega
    · exact Nat.le_trans (lg_mono (Nat.gcd_le_right _ (by omega))) (by omega)
  have cs := refSameN (toL (Nat.gcd (nv l) (nv d))) (toL 1) (by omega) (by rw [lg_one]; omega) (lm_toL _) (lm_toL _)
  rw [show decide (toL (Nat.gcd (nv l) (nv d)) = toL 1) = (Nat.gcd (nv l) (nv d) == 1) from by rw [Bool.eq_iff_iff, decide_eq_true_eq, beq_iff_eq]; exact toL_inj] at cs
  unfold RQ.ok
  generalize RQ.zok s l = v at *
  simp only
  generalize Nat.gcd (nv l) (nv d) = g at *
  cases v
  · refine pure_intro (tok := 0) Try.func37 rfl Try.ntmps37 Try.results37 Try.call37 (by rfl) (by simp) ?_
    (repeat' (first | (with_reducible first | refine stp ?_ | apply gx1 | apply gx2 | apply gx3 | apply gx4 | apply gx5 | apply gx6 | apply gx7 | apply gy8 | apply gz2 | apply gz3 | refine gw0 (cz) ?_ ?_ | refine gw3 (cz) ?_ ?_ ?_) | (with_reducible refine all_v ?_; intro _) | ((with_reducible refine gE ?_); (try simp (disch := omega) only [go_sem, ↓reduceIte, Nat.reduceAdd, Nat.reduceSub, Nat.reduceMul, Nat.reduceEqDiff, Nat.reduceLT, Nat.reduceLeDiff, Nat.reduceBEq, Int.reduceNeg, Int.reduceLT, Int.reduceLE, Int.reduceEq, reduceCtorEq, Bool.false_and]) <;> first | rfl | omega) | with_reducible refine t_in_other (by decide) ?_ | ((with_reducible apply gy1); iterate 3 focus rfl) | ((with_reducible apply gy2); iterate 3 focus rfl) | ((with_reducible apply gy3); iterate 2 focus rfl) | ((with_reducible apply gy4); iterate 1 focus rfl) | ((with_reducible apply gy5); iterate 4 focus rfl) | ((with_reducible apply gy6); iterate 4 focus rfl) | ((with_reducible apply d_bar); iterate 3 focus rfl) | ((with_reducible apply q_pub); iterate 1 focus rfl) | ((with_reducible apply gy7); iterate 1 focus rfl) | ((with_reducible apply gy9); (focus ((with_reducible refine gE ?_); (try simp (disch := omega) only [go_sem, ↓reduceIte, Nat.reduceAdd, Nat.reduceSub, Nat.reduceMul, Nat.reduceEqDiff, Nat.reduceLT, Nat.reduceLeDiff, Nat.reduceBEq, Int.reduceNeg, Int.reduceLT, Int.reduceLE, Int.reduceEq, reduceCtorEq, Bool.false_and]) <;> rfl))) | ((with_reducible apply gz1); (focus first | rfl | (simp (disch := omega) only [go_sem, ↓reduceIte, Nat.reduceAdd, Nat.reduceSub, Nat.reduceMul, Nat.reduceEqDiff, Nat.reduceLT, Nat.reduceLeDiff, Nat.reduceBEq, Int.reduceNeg, Int.reduceLT, Int.reduceLE, Int.reduceEq, reduceCtorEq, Bool.false_and]; done))) | ((with_reducible apply r_drawD (pickR []) [] []); (focus kernel_rfl); (focus rfl); (focus kernel_rfl); (focus (simp only [List.length_cons, List.length_nil, Nat.reduceAdd]; rfl)))))
    simp (disch := omega) only [go_sem, ↓reduceIte, Nat.reduceAdd, Nat.reduceSub, Nat.reduceMul, Nat.reduceEqDiff, Nat.reduceLT, Nat.reduceLeDiff, Nat.reduceBEq, Int.reduceNeg, Int.reduceLT, Int.reduceLE, Int.reduceEq, reduceCtorEq, Bool.false_and]
  · generalize valL d = v at *
    cases v
    · refine pure_intro (tok := 0) Try.func37 rfl Try.ntmps37 Try.results37 Try.call37 (by rfl) (by simp) ?_
      (repeat' (first | (with_reducible first | refine stp ?_ | apply gx1 | apply gx2 | apply gx3 | apply gx4 | apply gx5 | apply gx6 | apply gx7 | apply gy8 | apply gz2 | apply gz3 | refine gw0 (cz) ?_ ?_ | refine gw3 (cz) ?_ ?_ ?_ | refine gw0 (cv) ?_ ?_ | refine gw3 (cv) ?_ ?_ ?_) | (with_reducible refine all_v ?_; intro _) | ((with_reducible refine gE ?_); (try simp (disch := omega) only [go_sem, ↓reduceIte, Nat.reduceAdd, Nat.reduceSub, Nat.reduceMul, Nat.reduceEqDiff, Nat.reduceLT, Nat.reduceLeDiff, Nat.reduceBEq, Int.reduceNeg, Int.reduceLT, Int.reduceLE, Int.reduceEq, reduceCtorEq, Bool.false_and]) <;> first | rfl | omega) | with_reducible refine t_in_other (by decide) ?_ | ((with_reducible apply gy1); iterate 3 focus rfl) | ((with_reducible apply gy2); iterate 3 focus rfl) | ((with_reducible apply gy3); iterate 2 focus rfl) | ((with_reducible apply gy4); iterate 1 focus rfl) | ((with_reducible apply gy5); iterate 4 focus rfl) | ((with_reducible apply gy6); iterate 4 focus rfl) | ((with_reducible apply d_bar); iterate 3 focus rfl) | ((with_reducible apply q_pub); iterate 1 focus rfl) | ((with_reducible apply gy7); iterate 1 focus rfl) | ((with_reducible apply gy9); (focus ((with_reducible refine gE ?_); (try simp (disch := omega) only [go_sem, ↓reduceIte, Nat.reduceAdd, Nat.reduceSub, Nat.reduceMul, Nat.reduceEqDiff, Nat.reduceLT, Nat.reduceLeDiff, Nat.reduceBEq, Int.reduceNeg, Int.reduceLT, Int.reduceLE, Int.reduceEq, reduceCtorEq, Bool.false_and]) <;> rfl))) | ((with_reducible apply gz1); (focus first | rfl | (simp (disch := omega) only [go_sem, ↓reduceIte, Nat.reduceAdd, Nat.reduceSub, Nat.reduceMul, Nat.reduceEqDiff, Nat.reduceLT, Nat.reduceLeDiff, Nat.reduceBEq, Int.reduceNeg, Int.reduceLT, Int.reduceLE, Int.reduceEq, reduceCtorEq, Bool.false_and]; done))) | ((with_reducible apply r_drawD (pickR []) [] []); (focus kernel_rfl); (focus rfl); (focus kernel_rfl); (focus (simp only [List.length_cons, List.length_nil, Nat.reduceAdd]; rfl)))))
      simp (disch := omega) only [go_sem, ↓reduceIte, Nat.reduceAdd, Nat.reduceSub, Nat.reduceMul, Nat.reduceEqDiff, Nat.reduceLT, Nat.reduceLeDiff, Nat.reduceBEq, Int.reduceNeg, Int.reduceLT, Int.reduceLE, Int.reduceEq, reduceCtorEq, Bool.false_and]
    · by_cases hg : g = 1
      · have hgb : (g == 1) = true := by rw [beq_iff_eq]; exact hg
        rw [hgb] at cs ⊢
        by_cases hd : 0 < d.length
        · rw [decide_eq_true hd]
          refine pure_intro (tok := 0) Try.func37 rfl Try.ntmps37 Try.results37 Try.call37 (by rfl) (by simp) ?_
          (repeat' (first | (with_reducible first | refine stp ?_ | apply gx1 | apply gx2 | apply gx3 | apply gx4 | apply gx5 | apply gx6 | apply gx7 | apply gy8 | apply gz2 | apply gz3 | refine gw0 (cz) ?_ ?_ | refine gw3 (cz) ?_ ?_ ?_ | refine gw0 (cv) ?_ ?_ | refine gw3 (cv) ?_ ?_ ?_ | refine gw0 (cg) ?_ ?_ | refine gw3 (cg) ?_ ?_ ?_ | refine gw0 (refOf 1 (by omega)) ?_ ?_ | refine gw3 (refOf 1 (by omega)) ?_ ?_ ?_ | refine gw0 (cs) ?_ ?_ | refine gw3 (cs) ?_ ?_ ?_) | (with_reducible refine all_v ?_; intro _) | ((with_reducible refine gE ?_); (try simp (disch := omega) only [go_sem, ↓reduceIte, Nat.reduceAdd, Nat.reduceSub, Nat.reduceMul, Nat.reduceEqDiff, Nat.reduceLT, Nat.reduceLeDiff, Nat.reduceBEq, Int.reduceNeg, Int.reduceLT, Int.reduceLE, Int.reduceEq, reduceCtorEq]) <;> first | rfl | omega) | with_reducible refine t_in_other (by decide) ?_ | ((with_reducible apply gy1); iterate 3 focus rfl) | ((with_reducible apply gy2); iterate 3 focus rfl) | ((with_reducible apply gy3); iterate 2 focus rfl) | ((with_reducible apply gy4); iterate 1 focus rfl) | ((with_reducible apply gy5); iterate 4 focus rfl) | ((with_reducible apply gy6); iterate 4 focus rfl) | ((with_reducible apply d_bar); iterate 3 focus rfl) | ((with_reducible apply q_pub); iterate 1 focus rfl) | ((with_reducible apply gy7); iterate 1 focus rfl) | ((with_reducible apply gy9); (focus ((with_reducible refine gE ?_); (try simp (disch := omega) only [go_sem, ↓reduceIte, Nat.reduceAdd, Nat.reduceSub, Nat.reduceMul, Nat.reduceEqDiff, Nat.reduceLT, Nat.reduceLeDiff, Nat.reduceBEq, Int.reduceNeg, Int.reduceLT, Int.reduceLE, Int.reduceEq, reduceCtorEq]) <;> rfl))) | ((with_reducible apply gz1); (focus first | rfl | (simp (disch := omega) only [go_sem, ↓reduceIte, Nat.reduceAdd, Nat.reduceSub, Nat.reduceMul, Nat.reduceEqDiff, Nat.reduceLT, Nat.reduceLeDiff, Nat.reduceBEq, Int.reduceNeg, Int.reduceLT, Int.reduceLE, Int.reduceEq, reduceCtorEq]; done))) | ((with_reducible apply r_drawD (pickR []) [] []); (focus kernel_rfl); (focus rfl); (focus kernel_rfl); (focus (simp only [List.length_cons, List.length_nil, Nat.reduceAdd]; rfl)))))
          simp (disch := omega) only [go_sem, ↓reduceIte, Nat.reduceAdd, Nat.reduceSub, Nat.reduceMul, Nat.reduceEqDiff, Nat.reduceLT, Nat.reduceLeDiff, Nat.reduceBEq, Int.reduceNeg, Int.reduceLT, Int.reduceLE, Int.reduceEq, reduceCtorEq]
        · rw [decide_eq_false hd]
          refine pure_intro (tok := 0) Try.func37 rfl Try.ntmps37 Try.results37 Try.call37 (by rfl) (by simp) ?_
          (repeat' (first | (with_reducible first | refine stp ?_ | apply gx1 | apply gx2 | apply gx3 | apply gx4 | apply gx5 | apply gx6 | apply gx7 | apply gy8 | apply gz2 | apply gz3 | refine gw0 (cz) ?_ ?_ | refine gw3 (cz) ?_ ?_ ?_ | refine gw0 (cv) ?_ ?_ | refine gw3 (cv) ?_ ?_ ?_ | refine gw0 (cg) ?_ ?_ | refine gw3 (cg) ?_ ?_ ?_ | refine gw0 (refOf 1 (by omega)) ?_ ?_ | refine gw3 (refOf 1 (by omega)) ?_ ?_ ?_ | refine gw0 (cs) ?_ ?_ | refine gw3 (cs) ?_ ?_ ?_) | (with_reducible refine all_v ?_; intro _) | ((with_reducible refine gE ?_); (try simp (disch := omega) only [go_sem, ↓reduceIte, Nat.reduceAdd, Nat.reduceSub, Nat.reduceMul, Nat.reduceEqDiff, Nat.reduceLT, Nat.reduceLeDiff, Nat.reduceBEq, Int.reduceNeg, Int.reduceLT, Int.reduceLE, Int.reduceEq, reduceCtorEq]) <;> first | rfl | omega) | with_reducible refine t_in_other (by decide) ?_ | ((with_reducible apply gy1); iterate 3 focus rfl) | ((with_reducible apply gy2); iterate 3 focus rfl) | ((with_reducible apply gy3); iterate 2 focus rfl) | ((with_reducible apply gy4); iterate 1 focus rfl) | ((with_reducible apply gy5); iterate 4 focus rfl) | ((with_reducible apply gy6); iterate 4 focus rfl) | ((with_reducible apply d_bar); iterate 3 focus rfl) | ((with_reducible apply q_pub); iterate 1 focus rfl) | ((with_reducible apply gy7); iterate 1 focus rfl) | ((with_reducible apply gy9); (focus ((with_reducible refine gE ?_); (try simp (disch := omega) only [go_sem, ↓reduceIte, Nat.reduceAdd, Nat.reduceSub, Nat.reduceMul, Nat.reduceEqDiff, Nat.reduceLT, Nat.reduceLeDiff, Nat.reduceBEq, Int.reduceNeg, Int.reduceLT, Int.reduceLE, Int.reduceEq, reduceCtorEq]) <;> rfl))) | ((with_reducible apply gz1); (focus first | rfl | (simp (disch := omega) only [go_sem, ↓reduceIte, Nat.reduceAdd, Nat.reduceSub, Nat.reduceMul, Nat.reduceEqDiff, Nat.reduceLT, Nat.reduceLeDiff, Nat.reduceBEq, Int.reduceNeg, Int.reduceLT, Int.reduceLE, Int.reduceEq, reduceCtorEq]; done))) | ((with_reducible apply r_drawD (pickR []) [] []); (focus kernel_rfl); (focus rfl); (focus kernel_rfl); (focus (simp only [List.length_cons, List.length_nil, Nat.reduceAdd]; rfl)))))
          simp (disch := omega) only [go_sem, ↓reduceIte, Nat.reduceAdd, Nat.reduceSub, Nat.reduceMul, Nat.reduceEqDiff, Nat.reduceLT, Nat.reduceLeDiff, Nat.reduceBEq, Int.reduceNeg, Int.reduceLT, Int.reduceLE, Int.reduceEq, reduceCtorEq, Bool.and_false]
      · have hgb : (g == 1) = false := by rw [beq_eq_false_iff_ne]; exact hg
        rw [hgb] at cs ⊢
        refine pure_intro (tok := 0) Try.func37 rfl Try.ntmps37 Try.results37 Try.call37 (by rfl) (by simp) ?_
        (repeat' (first | (with_reducible first | refine stp ?_ | apply gx1 | apply gx2 | apply gx3 | apply gx4 | apply gx5 | apply gx6 | apply gx7 | apply gy8 | apply gz2 | apply gz3 | refine gw0 (cz) ?_ ?_ | refine gw3 (cz) ?_ ?_ ?_ | refine gw0 (cv) ?_ ?_ | refine gw3 (cv) ?_ ?_ ?_ | refine gw0 (cg) ?_ ?_ | refine gw3 (cg) ?_ ?_ ?_ | refine gw0 (refOf 1 (by omega)) ?_ ?_ | refine gw3 (refOf 1 (by omega)) ?_ ?_ ?_ | refine gw0 (cs) ?_ ?_ | refine gw3 (cs) ?_ ?_ ?_) | (with_reducible refine all_v ?_; intro _) | ((with_reducible refine gE ?_); (try simp (disch := omega) only [go_sem, ↓reduceIte, Nat.reduceAdd, Nat.reduceSub, Nat.reduceMul, Nat.reduceEqDiff, Nat.reduceLT, Nat.reduceLeDiff, Nat.reduceBEq, Int.reduceNeg, Int.reduceLT, Int.reduceLE, Int.reduceEq, reduceCtorEq, Bool.and_false, Bool.false_and]) <;> first | rfl | omega) | with_reducible refine t_in_other (by decide) ?_ | ((with_reducible apply gy1); iterate 3 focus rfl) | ((with_reducible apply gy2); iterate 3 focus rfl) | ((with_reducible apply gy3); iterate 2 focus rfl) | ((with_reducible apply gy4); iterate 1 focus rfl) | ((with_reducible apply gy5); iterate 4 focus rfl) | ((with_reducible apply gy6); iterate 4 focus rfl) | ((with_reducible apply d_bar); iterate 3 focus rfl) | ((with_reducible apply q_pub); iterate 1 focus rfl) | ((with_reducible apply gy7); iterate 1 focus rfl) | ((with_reducible apply gy9); (focus ((with_reducible refine gE ?_); (try simp (disch := omega) only [go_sem, ↓reduceIte, Nat.reduceAdd, Nat.reduceSub, Nat.reduceMul, Nat.reduceEqDiff, Nat.reduceLT, Nat.reduceLeDiff, Nat.reduceBEq, Int.reduceNeg, Int.reduceLT, Int.reduceLE, Int.reduceEq, reduceCtorEq, Bool.and_false, Bool.false_and]) <;> rfl))) | ((with_reducible apply gz1); (focus first | rfl | (simp (disch := omega) only [go_sem, ↓reduceIte, Nat.reduceAdd, Nat.reduceSub, Nat.reduceMul, Nat.reduceEqDiff, Nat.reduceLT, Nat.reduceLeDiff, Nat.reduceBEq, Int.reduceNeg, Int.reduceLT, Int.reduceLE, Int.reduceEq, reduceCtorEq, Bool.and_false, Bool.false_and]; done))) | ((with_reducible apply r_drawD (pickR []) [] []); (focus kernel_rfl); (focus rfl); (focus kernel_rfl); (focus (simp only [List.length_cons, List.length_nil, Nat.reduceAdd]; rfl)))))
        simp (disch := omega) only [go_sem, ↓reduceIte, Nat.reduceAdd, Nat.reduceSub, Nat.reduceMul, Nat.reduceEqDiff, Nat.reduceLT, Nat.reduceLeDiff, Nat.reduceBEq, Int.reduceNeg, Int.reduceLT, Int.reduceLE, Int.reduceEq, reduceCtorEq, Bool.and_false, Bool.false_and]
end Go.Proofs.Ytjiffehkemeloaa
end

section
namespace Go.Proofs.Ytjiffehkemeloaa
open Go Go.RowKit Go.Pg
set_option linter.unusedSimpArgs false
set_option linter.unusedVariables false
set_option maxRecDepth 20000
section
variable {N n : Nat} {cs : List AV}
theorem agN16 : aggTy Try.prog 78 = false := by kernel_rfl
theorem cs16 : Try.prog.cellsOf 78 = 1 := by kernel_rfl
theorem shNat (h : Shape Try.prog N n 31 cs) : ∃ l : List Nat, cs = [lim l] ∧ Lm l ∧ l.length ≤ N := by
  obtain ⟨bs, rfl, hl, hq⟩ := shape_sliceOf (g := fun k : Nat => [AV.v (.int .u16 (k : Int))]) (Q := fun k => k < 65536) Try.underlying31 h fun m x hx => by
    obtain ⟨i, rfl, hw⟩ := shape_int Try.underlying78 hx
    have := wf_u16 hw
    exact ⟨i.toNat, by rw [Int.toNat_of_nonneg this.1], by omega⟩
  refine ⟨bs, ?_, hq, hl⟩
  rw [cs16]
  have : (bs.map fun b : Nat => wrapA Try.prog 78 [AV.v (.int .u16 (b : Int))]) = u16s bs := List.map_congr_left fun b _ => wrapA_one agN16 _
  rw [this]
theorem shInt (h : Shape Try.prog N n 33 cs) : ∃ (s : Bool) (l : List Nat), cs = [.v (.bool s), lim l] ∧ Lm l ∧ l.length ≤ N := by
  obtain ⟨m, rfl, hs⟩ := shape_struct Try.underlying33 (by kernel_rfl) h
  obtain ⟨x, y, rfl, h1, hs⟩ := hs.inv
  obtain ⟨z, y, rfl, h2, hs⟩ := hs.inv
  obtain rfl := hs.inv0
  obtain ⟨s, rfl⟩ := shape_bool Try.underlying4 h1
  obtain ⟨l, rfl, h3, h4⟩ := shNat h2
  exact ⟨s, l, rfl, h3, h4⟩
theorem shRat (h : Shape Try.prog N n 35 cs) : ∃ r : RQ, cs = [.v (.bool r.s), lim r.l, lim r.d] ∧ r.lm N := by
  obtain ⟨m, rfl, hs⟩ := shape_struct Try.underlying35 (by kernel_rfl) h
  obtain ⟨x, y, rfl, h1, hs⟩ := hs.inv
  obtain ⟨z, y, rfl, h2, hs⟩ := hs.inv
  obtain rfl := hs.inv0
  obtain ⟨s, l, rfl, h3, h4⟩ := shInt h1
  obtain ⟨d, rfl, h5, h6⟩ := shNat h2
  exact ⟨⟨s, l, d⟩, rfl, h3, h5, h4, h6⟩
theorem shInterval (h : Shape Try.prog N n 37 cs) : ∃ r q : RQ, cs = [.v (.bool r.s), lim r.l, lim r.d, .v (.bool q.s), lim q.l, lim q.d] ∧ r.lm N ∧ q.lm N := by
  obtain ⟨m, rfl, hs⟩ := shape_struct Try.underlying37 (by kernel_rfl) h
  obtain ⟨x, y, rfl, h1, hs⟩ := hs.inv
  obtain ⟨z, y, rfl, h2, hs⟩ := hs.inv
  obtain rfl := hs.inv0
  obtain ⟨r, rfl, h3⟩ := shRat h1
  obtain ⟨q, rfl, h4⟩ := shRat h2
  exact ⟨r, q, rfl, h3, h4⟩
/-- A point as it comes in. -/
structure RP where
  x : RQ
  y : RQ
abbrev RP.av (p : RP) : AV := .agg [.v (.bool p.x.s), lim p.x.l, lim p.x.d, .v (.bool p.y.s), lim p.y.l, lim p.y.d]
def RP.lm (p : RP) (k : Nat) : Prop := p.x.lm k ∧ p.y.lm k
theorem shPoint (h : Shape Try.prog N n 53 cs) : ∃ p : RP, cs = [.v (.bool p.x.s), lim p.x.l, lim p.x.d, .v (.bool p.y.s), lim p.y.l, lim p.y.d] ∧ p.lm N := by
  obtain ⟨m, rfl, hs⟩ := shape_struct Try.underlying53 (by kernel_rfl) h
  obtain ⟨x, y, rfl, h1, hs⟩ := hs.inv
  obtain ⟨z, y, rfl, h2, hs⟩ := hs.inv
  obtain rfl := hs.inv0
  obtain ⟨r, rfl, h3⟩ := shRat h1
  obtain ⟨q, rfl, h4⟩ := shRat h2
  exact ⟨⟨r, q⟩, rfl, h3, h4⟩
end
end Go.Proofs.Ytjiffehkemeloaa
end
