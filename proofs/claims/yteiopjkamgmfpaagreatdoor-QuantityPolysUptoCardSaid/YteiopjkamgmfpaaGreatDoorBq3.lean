/- Contracts of the functions that the law reaches, and the rules by which they are walked. They say what a call hands back for every input within the bounds that each names; no other condition. -/
import Derived.Test.YteiopjkamgmfpaaGreatDoorBq2
section
namespace Go.Proofs.YteiopjkamgmfpaaGreatDoor
open Go Go.RowKit Go.Pg
set_option linter.unusedSimpArgs false
set_option linter.unusedVariables false
set_option maxRecDepth 20000
attribute [local go_sem] Tryz.underlying3 Tryz.underlying4 Tryz.underlying34 Tryz.underlying27 Tryz.underlying110 Tryz.underlying109 Tryz.underlying75 Tryz.underlying9 sz3 by3 z3 szQuant zQuant szCor zCor szC3 zC3 szErr zErr eqQuant Bool.and_self
attribute [-bool_to_prop] Bool.and_eq_decide Bool.or_eq_decide Bool.decide_beq_decide decide_eq_decide

/-- A quantity: its kind and its points. -/
structure Qt where
  k : Int
  a : Int
  b : Int
  c : Int
  deriving DecidableEq
abbrev Qt.av (q : Qt) : AV := .agg [iv q.k, iv q.a, iv q.b, iv q.c]
abbrev Qt.zero : Qt := ⟨0, 0, 0, 0⟩
def Qt.ok (q : Qt) : Bool := decide ((q.k = 3 ∧ 0 ≤ q.a ∧ q.a < 64 ∧ q.b = 0 ∧ q.c = 0) ∨ ((q.k = 1 ∨ q.k = 2) ∧ (0 ≤ q.a ∧ q.a < 40) ∧ (0 ≤ q.b ∧ q.b < 40) ∧ (0 ≤ q.c ∧ q.c < 40)))

theorem quOf (k a b c : Int) : Pure Tryz.prog 74 [Qt.av ⟨k, a, b, c⟩] (.agg [iv a, iv b, iv c]) := by
  refine pure_intro (tok := 0) Tryz.func74 rfl Tryz.ntmps74 Tryz.results74 Tryz.call74 (by rfl) (by simp) ?_
  (focus (refine wkvd w_t w_t w_t ?_; (repeat' first | exact w_t | apply w_l); all_goals intros))
  simp (disch := omega) only [go_sem]
set_option maxHeartbeats 2000000 in
theorem quRight (k a b c : Int) : Pure Tryz.prog 57 [Qt.av ⟨k, a, b, c⟩] (.v (.bool (Qt.ok ⟨k, a, b, c⟩))) := by
  have cf := quOf k a b c
  refine pure_intro (tok := 0) Tryz.func57 rfl Tryz.ntmps57 Tryz.results57 Tryz.call57 (by rfl) (by simp) ?_
  (repeat' (first | (with_reducible first | refine stp ?_ | apply gx1 | apply gx2 | apply gx3 | apply gx4 | apply gx5 | apply gx6 | apply gx7 | apply gy8 | apply gz2 | apply gz3 | refine gw0 ((id (α := _) cf)) ?_ ?_ | refine gw3 ((id (α := _) cf)) ?_ ?_ ?_) | (with_reducible refine all_v ?_; intro _) | ((with_reducible refine gE ?_); (try simp (disch := omega) only [go_sem, decide_eq_true, decide_eq_false, if_pos, if_neg, Int.reduceAdd, Int.reduceSub, Int.reduceToNat, Int.zero_add]) <;> first | rfl | omega) | with_reducible refine t_in_other (by decide) ?_ | ((with_reducible apply gy1); iterate 3 focus rfl) | ((with_reducible apply gy2); iterate 3 focus rfl) | ((with_reducible apply gy3); iterate 2 focus rfl) | ((with_reducible apply gy4); iterate 1 focus rfl) | ((with_reducible apply gy5); iterate 4 focus rfl) | ((with_reducible apply gy5c); iterate 4 focus rfl) | ((with_reducible apply gy6); iterate 4 focus rfl) | ((with_reducible apply d_bar); iterate 3 focus rfl) | ((with_reducible apply q_pub); iterate 1 focus rfl) | ((with_reducible apply gy7); iterate 1 focus rfl) | ((with_reducible apply gy9); (focus ((with_reducible refine gE ?_); (try simp (disch := omega) only [go_sem, decide_eq_true, decide_eq_false, if_pos, if_neg, Int.reduceAdd, Int.reduceSub, Int.reduceToNat, Int.zero_add]) <;> rfl))) | ((with_reducible apply gz1); (focus first | rfl | (simp (disch := omega) only [go_sem, decide_eq_true, decide_eq_false, if_pos, if_neg, Int.reduceAdd, Int.reduceSub, Int.reduceToNat, Int.zero_add]; done))) | ((with_reducible apply r_drawD (pickR []) [] []); (focus kernel_rfl); (focus rfl); (focus kernel_rfl); (focus (simp only [List.length_cons, List.length_nil, Nat.reduceAdd]; rfl))) | ((with_reducible first | apply og_split | apply dg_split | apply cg_split); all_goals (intro hc; (try simp only [bool_to_prop] at hc); try (exfalso; omega))) | ((with_reducible apply r_rounds 4); (focus rfl))))
  (all_goals (try simp (disch := omega) only [go_sem, Qt.ok, decide_eq_true, decide_eq_false, if_pos, if_neg, Int.reduceAdd, Int.reduceSub, Int.reduceToNat, Int.zero_add])); (all_goals first | done | rfl | (congr 2; first | done | omega | (rw [Bool.eq_iff_iff]; simp only [bool_to_prop, Bool.false_eq_true, iff_true, true_iff, iff_false, false_iff]; omega)) | skip)
set_option maxHeartbeats 2000000 in
theorem rqInside (a : Int) : Pure Tryz.prog 130 [iv a] (.v (.bool (decide (0 ≤ a ∧ a < 40)))) := by
  refine pure_intro (tok := 0) Tryz.func130 rfl Tryz.ntmps130 Tryz.results130 Tryz.call130 (by rfl) (by simp) ?_
  (focus (refine wkld w_t w_t w_t w_t ?_; (repeat' first | exact w_t | apply w_l); all_goals intros))
set_option maxHeartbeats 2000000 in
theorem rqRight (k a b c : Int) : Pure Tryz.prog 64 [Qt.av ⟨k, a, b, c⟩] (.v (.bool (Qt.ok ⟨k, a, b, c⟩))) := by
  have ca := rqInside a
  have cb := rqInside b
  have cc := rqInside c
  refine pure_intro (tok := 0) Tryz.func64 rfl Tryz.ntmps64 Tryz.results64 Tryz.call64 (by rfl) (by simp) ?_
  (focus (refine wkad w_t (w_a ca (w_a cb (w_a cc w_t))) w_t ?_; (repeat' first | exact w_t | apply w_l); all_goals intros))
  (all_goals (try simp (disch := omega) only [go_sem, Qt.ok, decide_eq_true, decide_eq_false, if_pos, if_neg, Int.reduceAdd, Int.reduceSub, Int.reduceToNat, Int.zero_add])); (all_goals first | done | rfl | (congr 2; first | done | omega | (rw [Bool.eq_iff_iff]; simp only [bool_to_prop, Bool.false_eq_true, iff_true, true_iff, iff_false, false_iff]; omega)) | skip)
/-- An area's and a Pythagoras difference's normal form and sign. -/
def nArea (a b c : Int) : Qt × Int :=
  if a = b ∨ b = c ∨ a = c then (Qt.zero, 0)
  else if a < b then (if b < c then (⟨1, a, b, c⟩, 1) else if a < c then (⟨1, a, c, b⟩, -1) else (⟨1, c, a, b⟩, 1))
  else (if a < c then (⟨1, b, a, c⟩, -1) else if b < c then (⟨1, b, c, a⟩, 1) else (⟨1, c, b, a⟩, -1))
def nPyth (a b c : Int) : Qt × Int :=
  if a = b ∨ b = c then (Qt.zero, 0)
  else if a = c ∧ b < a then (⟨2, b, a, b⟩, 1)
  else if c < a then (⟨2, c, b, a⟩, 1) else (⟨2, a, b, c⟩, 1)
def Qt.norm (q : Qt) : Qt × Int := if q.ok = true then (if q.k = 1 then nArea q.a q.b q.c else if q.k = 2 then nPyth q.a q.b q.c else (q, 1)) else (Qt.zero, 0)
set_option maxHeartbeats 4000000 in
theorem quNormArea (a b c : Int) : Pure Tryz.prog 73 [.agg [iv a, iv b, iv c]] (.tup [(nArea a b c).1.av, iv (nArea a b c).2]) := by
  refine pure_intro (tok := 0) Tryz.func73 rfl Tryz.ntmps73 Tryz.results73 Tryz.call73 (by rfl) (by simp) ?_
  (repeat' (first | (with_reducible first | refine stp ?_ | apply gx1 | apply gx2 | apply gx3 | apply gx4 | apply gx5 | apply gx6 | apply gx7 | apply gy8 | apply gz2 | apply gz3) | (with_reducible refine all_v ?_; intro _) | ((with_reducible refine gE ?_); (try simp (disch := omega) only [go_sem, decide_eq_true, decide_eq_false, if_pos, if_neg, Int.reduceAdd, Int.reduceSub, Int.reduceToNat, Int.zero_add]) <;> first | rfl | omega) | with_reducible refine t_in_other (by decide) ?_ | ((with_reducible apply gy1); iterate 3 focus rfl) | ((with_reducible apply gy2); iterate 3 focus rfl) | ((with_reducible apply gy3); iterate 2 focus rfl) | ((with_reducible apply gy4); iterate 1 focus rfl) | ((with_reducible apply gy5); iterate 4 focus rfl) | ((with_reducible apply gy5c); iterate 4 focus rfl) | ((with_reducible apply gy6); iterate 4 focus rfl) | ((with_reducible apply d_bar); iterate 3 focus rfl) | ((with_reducible apply q_pub); iterate 1 focus rfl) | ((with_reducible apply gy7); iterate 1 focus rfl) | ((with_reducible apply gy9); (focus ((with_reducible refine gE ?_); (try simp (disch := omega) only [go_sem, decide_eq_true, decide_eq_false, if_pos, if_neg, Int.reduceAdd, Int.reduceSub, Int.reduceToNat, Int.zero_add]) <;> rfl))) | ((with_reducible apply gz1); (focus first | rfl | (simp (disch := omega) only [go_sem, decide_eq_true, decide_eq_false, if_pos, if_neg, Int.reduceAdd, Int.reduceSub, Int.reduceToNat, Int.zero_add]; done))) | ((with_reducible apply r_drawD (pickR []) [11, 13, 2011, 2013] []); (focus kernel_rfl); (focus rfl); (focus kernel_rfl); (focus (simp only [List.length_cons, List.length_nil, Nat.reduceAdd]; rfl))) | ((with_reducible first | apply og_split | apply dg_split | apply cg_split); all_goals (intro hc; (try simp only [bool_to_prop] at hc); try (exfalso; omega))) | ((with_reducible apply r_rounds 4); (focus rfl))))
  (all_goals (try simp (disch := omega) only [go_sem, nArea, Qt.av, Qt.zero, decide_eq_true, decide_eq_false, if_pos, if_neg, Int.reduceAdd, Int.reduceSub, Int.reduceToNat, Int.zero_add])); (all_goals first | done | rfl | (congr 2; first | done | omega | (rw [Bool.eq_iff_iff]; simp only [bool_to_prop, Bool.false_eq_true, iff_true, true_iff, iff_false, false_iff]; omega)) | skip)
set_option maxHeartbeats 4000000 in
theorem quNormPyth (a b c : Int) : Pure Tryz.prog 75 [.agg [iv a, iv b, iv c]] (.tup [(nPyth a b c).1.av, iv (nPyth a b c).2]) := by
  refine pure_intro (tok := 0) Tryz.func75 rfl Tryz.ntmps75 Tryz.results75 Tryz.call75 (by rfl) (by simp) ?_
  (focus (refine wkad w_t w_t w_t ?_; (repeat' first | exact w_t | apply w_l); all_goals intros))
  (all_goals (try simp (disch := omega) only [go_sem, nPyth, Qt.av, Qt.zero, decide_eq_true, decide_eq_false, if_pos, if_neg, Int.reduceAdd, Int.reduceSub, Int.reduceToNat, Int.zero_add])); (all_goals first | done | rfl | (congr 2; first | done | omega | (rw [Bool.eq_iff_iff]; simp only [bool_to_prop, Bool.false_eq_true, iff_true, true_iff, iff_false, false_iff]; omega)) | skip)
end Go.Proofs.YteiopjkamgmfpaaGreatDoor
end

section
namespace Go.Proofs.YteiopjkamgmfpaaGreatDoor
open Go Go.RowKit Go.Pg
set_option linter.unusedSimpArgs false
set_option linter.unusedVariables false
set_option maxRecDepth 20000
attribute [local go_sem] Tryz.underlying3 Tryz.underlying4 Tryz.underlying34 Tryz.underlying27 Tryz.underlying110 Tryz.underlying109 Tryz.underlying75 Tryz.underlying9 sz3 by3 z3 szQuant zQuant szCor zCor szC3 zC3 szErr zErr eqQuant Bool.and_self
attribute [-bool_to_prop] Bool.and_eq_decide Bool.or_eq_decide Bool.decide_beq_decide decide_eq_decide

set_option maxHeartbeats 2000000 in
theorem quNorm (k a b c : Int) : Pure Tryz.prog 23 [Qt.av ⟨k, a, b, c⟩] (.tup [(Qt.norm ⟨k, a, b, c⟩).1.av, iv (Qt.norm ⟨k, a, b, c⟩).2]) := by
  have c1 := quRight k a b c
  have c2 := quOf k a b c
  have c3 := quNormArea a b c
  have c4 := quNormPyth a b c
  unfold Qt.norm
  generalize Qt.ok ⟨k, a, b, c⟩ = v at *
  generalize nArea a b c = r1 at *
  generalize nPyth a b c = r2 at *
  obtain ⟨⟨k1, a1, b1, d1⟩, s1⟩ := r1
  obtain ⟨⟨k2, a2, b2, d2⟩, s2⟩ := r2
  cases v
  · refine pure_intro (tok := 0) Tryz.func23 rfl Tryz.ntmps23 Tryz.results23 Tryz.call23 (by rfl) (by simp) ?_
    (focus (refine wkad w_t (w_a c1 w_t) w_t ?_; (repeat' first | exact w_t | apply w_l); all_goals intros))
    (all_goals (try simp (disch := omega) only [go_sem, Qt.av, Qt.zero, decide_eq_true, decide_eq_false, if_pos, if_neg, Int.reduceAdd, Int.reduceSub, Int.reduceToNat, Int.zero_add])); (all_goals first | done | rfl | (congr 2; first | done | omega | (rw [Bool.eq_iff_iff]; simp only [bool_to_prop, Bool.false_eq_true, iff_true, true_iff, iff_false, false_iff]; omega)) | skip)
  · refine pure_intro (tok := 0) Tryz.func23 rfl Tryz.ntmps23 Tryz.results23 Tryz.call23 (by rfl) (by simp) ?_
    (focus (refine wkad w_t (w_a c1 (w_a c2 (w_a c3 (w_a c4 w_t)))) w_t ?_; (repeat' first | exact w_t | apply w_l); all_goals intros))
    (all_goals (try simp (disch := omega) only [go_sem, Qt.av, Qt.zero, decide_eq_true, decide_eq_false, if_pos, if_neg, Int.reduceAdd, Int.reduceSub, Int.reduceToNat, Int.zero_add])); (all_goals first | done | rfl | (congr 2; first | done | omega | (rw [Bool.eq_iff_iff]; simp only [bool_to_prop, Bool.false_eq_true, iff_true, true_iff, iff_false, false_iff]; omega)) | skip)
/-- The order of two numbers, and of two quantities. -/
def ordI (x y : Int) : Int := if x < y then -1 else if y < x then 1 else 0
def or4 (w x y z : Int) : Int := if w = 0 then (if x = 0 then (if y = 0 then z else y) else x) else w
def Qt.cmp (p q : Qt) : Int := or4 (ordI p.k q.k) (ordI p.a q.a) (ordI p.b q.b) (ordI p.c q.c)
/-- The error of a quantity for numbers of points and parameters. -/
def Qt.chk (q : Qt) (n m : Int) : Int := if q.ok = true then (if q.k = 3 then (if m ≤ q.a then 2 else 0) else if n ≤ q.a ∨ n ≤ q.b ∨ n ≤ q.c then 2 else 0) else 1
set_option maxHeartbeats 2000000 in
theorem quCheck (k a b c n m : Int) : Pure Tryz.prog 33 [Qt.av ⟨k, a, b, c⟩, iv n, iv m] (iv (Qt.chk ⟨k, a, b, c⟩ n m)) := by
  have c1 := quRight k a b c
  have c2 := quOf k a b c
  unfold Qt.chk
  generalize Qt.ok ⟨k, a, b, c⟩ = v at *
  cases v
  · refine pure_intro (tok := 0) Tryz.func33 rfl Tryz.ntmps33 Tryz.results33 Tryz.call33 (by rfl) (by simp) ?_
    (focus (refine wkld w_t (w_a c1 w_t) w_t w_t ?_; (repeat' first | exact w_t | apply w_l); all_goals intros))
  · refine pure_intro (tok := 0) Tryz.func33 rfl Tryz.ntmps33 Tryz.results33 Tryz.call33 (by rfl) (by simp) ?_
    (focus (refine wkax w_t (w_a c1 (w_a c2 w_t)) w_t w_t w_t w_t (w_r 5) ?_; (repeat' first | exact w_t | apply w_l); all_goals intros))
    (all_goals (try simp (disch := omega) only [go_sem, decide_eq_true, decide_eq_false, if_pos, if_neg, Int.reduceAdd, Int.reduceSub, Int.reduceToNat, Int.zero_add])); (all_goals first | done | rfl | (congr 2; first | done | omega | (rw [Bool.eq_iff_iff]; simp only [bool_to_prop, Bool.false_eq_true, iff_true, true_iff, iff_false, false_iff]; omega)) | skip)
set_option maxHeartbeats 2000000 in
theorem rqCheck (k a b c n m : Int) : Pure Tryz.prog 40 [Qt.av ⟨k, a, b, c⟩, iv n, iv m] (iv (Qt.chk ⟨k, a, b, c⟩ n m)) := by
  have c1 := rqRight k a b c
  unfold Qt.chk
  generalize Qt.ok ⟨k, a, b, c⟩ = v at *
  cases v
  · refine pure_intro (tok := 0) Tryz.func40 rfl Tryz.ntmps40 Tryz.results40 Tryz.call40 (by rfl) (by simp) ?_
    (focus (refine wkld w_t (w_a c1 w_t) w_t w_t ?_; (repeat' first | exact w_t | apply w_l); all_goals intros))
  · refine pure_intro (tok := 0) Tryz.func40 rfl Tryz.ntmps40 Tryz.results40 Tryz.call40 (by rfl) (by simp) ?_
    (focus (refine wkld w_t (w_a c1 w_t) w_t w_t ?_; (repeat' first | exact w_t | apply w_l); all_goals intros))
end Go.Proofs.YteiopjkamgmfpaaGreatDoor
end

section
namespace Go.Proofs.YteiopjkamgmfpaaGreatDoor
open Go Go.RowKit Go.Pg
set_option linter.unusedSimpArgs false
set_option linter.unusedVariables false
set_option maxRecDepth 20000
attribute [local go_sem] Tryz.underlying45 Tryz.underlying3 Tryz.underlying156 Tryz.underlying202 Tryz.underlying115 Tryz.underlying21 sz3 by3 z3 szL byL zL
attribute [-bool_to_prop] Bool.and_eq_decide Bool.or_eq_decide Bool.decide_beq_decide decide_eq_decide

theorem natTrim (l : List Nat) (hs : l.length ≤ 1000000000) (hl : Lm l) : Pure Tryz.prog 180 [lim l] (lim (toL (nv l))) := by
  refine pure_intro (tok := 0) (rs := [.tmp 2]) Tryz.func180 rfl Tryz.ntmps180 Tryz.results180 Tryz.call180 (by rfl) (by simp) ?_
  (focus (refine wkvp w_t w_t ?_; (repeat' first | exact w_t | apply w_l); all_goals intros))
  refine r_loopE (ι := Nat) (fun k e m => k ≤ l.length ∧ e 0 = lim l ∧ e 3 = .v (.int .i64 (k : Int)) ∧ ∀ j, k ≤ j → gN l j = 0) (fun k => k) l.length (by rfl) ?_ ?_
  · rintro k e m ⟨hk, e0, e3, hz⟩
    have gl := gN_lt hl (k - 1)
    by_cases h0 : k = 0
    · subst h0
      (focus (refine wkvp (w_a e0 (w_a e3 w_t)) w_t ?_; (repeat' first | exact w_t | apply w_l); all_goals intros))
      have := nv_trim hl hk hz (.inl rfl)
      simp (disch := omega) only [go_sem]
      rw [← this]; rfl
    · by_cases h1 : gN l (k - 1) = 0
      · (focus (refine wkvp (w_a e0 (w_a e3 w_t)) w_t ?_; (repeat' first | exact w_t | apply w_l); all_goals intros))
        exact ⟨k - 1, ⟨by omega, by exact gW e0, by simp (disch := omega) only [go_sem, e3]; congr 2; omega, fun j hj => by
          rcases Nat.lt_or_ge j k with h2 | h2
          · rw [show j = k - 1 by omega]; exact h1
          · exact hz j h2⟩, by omega⟩
      · (focus (refine wkvp (w_a e0 (w_a e3 w_t)) w_t ?_; (repeat' first | exact w_t | apply w_l); all_goals intros))
        have := nv_trim hl hk hz (.inr (by omega))
        simp (disch := omega) only [go_sem, this]
  · exact ⟨Nat.le_refl _, by exact gC, by exact gC, fun j hj => gN_out hj⟩

theorem slN {l : List Nat} (h : l = []) : lim l = .sl 1 [] := by subst h; rfl

theorem natNorm (l : List Nat) (hs : l.length ≤ 1000000000) (hl : Lm l) : Pure Tryz.prog 175 [lim l] (lim (toL (nv l))) := by
  have h1 := toL_len_le hl
  by_cases h0 : toL (nv l) = []
  · rw [slN h0]
    refine Pure.wk (r := .v (.slice none 0 0)) ?_ (.nil 1)
    have h2 : (toL (nv l)).length = 0 := by rw [h0]; rfl
    refine pure_intro (tok := 0) (rs := [.tmp 2]) Tryz.func175 rfl Tryz.ntmps175 Tryz.results175 Tryz.call175 (by rfl) (by simp) ?_
    (focus (refine wkvp (w_a h2 w_t) (w_a (natTrim l hs hl) w_t) ?_; (repeat' first | exact w_t | apply w_l); all_goals intros))
    simp (disch := omega) only [go_sem]
  · have h2 : 0 < (toL (nv l)).length := List.length_pos_iff.2 h0
    refine pure_intro (tok := 0) (rs := [.tmp 2]) Tryz.func175 rfl Tryz.ntmps175 Tryz.results175 Tryz.call175 (by rfl) (by simp) ?_
    (focus (refine wkvp w_t (w_a (natTrim l hs hl) w_t) ?_; (repeat' first | exact w_t | apply w_l); all_goals intros))
    simp (disch := omega) only [go_sem, List.take_of_length_le, List.drop_replicate, Nat.sub_self, Nat.le_refl]

theorem natOf (n : Nat) (hn : n < 18446744073709551616) : Pure Tryz.prog 161 [.v (.int .u64 (n : Int))] (lim (toL n)) := by
  by_cases h0 : n = 0
  · subst h0
    rw [slN toL_zero]
    refine Pure.wk (r := .v (.slice none 0 0)) ?_ (.nil 1)
    refine pure_intro (tok := 0) (rs := [.tmp 2]) Tryz.func161 rfl Tryz.ntmps161 Tryz.results161 Tryz.call161 (by rfl) (by simp) ?_
    (focus (refine wkvp w_t w_t ?_; (repeat' first | exact w_t | apply w_l); all_goals intros))
    refine r_loopE (ι := Nat) (fun k e m => e 0 = .v (.int .u64 0) ∧ e 3 = .v (.slice none 0 0)) (fun k => k) 0 (by rfl) ?_ ?_
    · rintro k e m ⟨e0, e3⟩
      (focus (refine wkvp (w_a e0 (w_a e3 w_t)) w_t ?_; (repeat' first | exact w_t | apply w_l); all_goals intros))
      simp (disch := omega) only [go_sem]
    · exact ⟨by simp (disch := omega) only [go_sem]; rfl, by exact gC⟩
  · refine pure_intro (tok := 0) (rs := [.tmp 2]) Tryz.func161 rfl Tryz.ntmps161 Tryz.results161 Tryz.call161 (by rfl) (by simp) ?_
    (focus (refine wkvp w_t w_t ?_; (repeat' first | exact w_t | apply w_l); all_goals intros))
    refine r_loopE (ι := Nat) (fun k e m => k ≤ n ∧ e 0 = .v (.int .u64 (k : Int)) ∧ ((k = n ∧ e 3 = .v (.slice none 0 0)) ∨ (k < n ∧ ∃ sv l, e 3 = .own 12 sv ∧ m 12 = some (.row sv 156 1 (u16s l) 0) ∧ l ++ toL k = toL n))) (fun k => k) n (by rfl) ?_ ?_
    · rintro k e m ⟨hk, e0, hor⟩
      by_cases hk0 : k = 0
      · subst hk0
        rcases hor with ⟨h1, _⟩ | ⟨_, sv, l, e3, em, hl⟩
        · omega
        · (focus (refine wkvp (w_a e0 (w_a e3 w_t)) w_t ?_; (repeat' first | exact w_t | apply w_l); all_goals intros))
          simp (disch := omega) only [go_sem, em]
          rw [toL_zero, List.append_nil] at hl
          rw [hl]
      · rcases hor with ⟨rfl, e3⟩ | ⟨_, sv, l, e3, em, hl⟩
        · (focus (refine wkvp (w_a e0 (w_a e3 (w_a @cut_nat w_t))) w_t ?_; (repeat' first | exact w_t | apply w_l); all_goals intros))
          refine ⟨k / 65536, ⟨by omega, by exact gW e0, .inr ⟨by omega, _, [k % 65536], by exact gC, by exact gC, ?_⟩⟩, by omega⟩
          rw [toL_pos hk0]; rfl
        · have b1 := (toL_len_lt (n := n) (k := 4)).2 hn
          have b2 : l.length ≤ (toL n).length := by rw [← hl]; simp
          (focus (refine wkvp (w_a e0 (w_a e3 (w_a em (w_a @cut_nat w_t)))) w_t ?_; (repeat' first | exact w_t | apply w_l); all_goals intros))
          refine ⟨k / 65536, ⟨by omega, by exact gW e0, .inr ⟨by omega, _, l ++ [k % 65536], by exact gC, by exact gC, ?_⟩⟩, by omega⟩
          rw [← hl, toL_pos hk0]; simp
    · exact ⟨Nat.le_refl _, by exact gC, .inl ⟨rfl, by exact gC⟩⟩

/-- The order of two numbers, as an int. -/
def cmpN (a b : Nat) : Int := if a < b then -1 else if b < a then 1 else 0

theorem natCmp (a b : List Nat) (ha : a.length ≤ 1000000000) (hb : b.length ≤ 1000000000) (la : Lm a) (lb : Lm b) : Pure Tryz.prog 215 [lim a, lim b] (.v (.int .i64 (cmpN (nv a) (nv b)))) := by
  have h1 := toL_len_le la
  have h2 := toL_len_le lb
  have va := nv_toL (nv a)
  have vb := nv_toL (nv b)
  have ma := lm_toL (nv a)
  have mb := lm_toL (nv b)
  refine pure_intro (tok := 0) (rs := [.tmp 4]) Tryz.func215 rfl Tryz.ntmps215 Tryz.results215 Tryz.call215 (by rfl) (by simp) ?_
  by_cases hlt : (toL (nv a)).length < (toL (nv b)).length
  · have : nv a < nv b := by
      rcases Nat.lt_or_ge (nv a) (nv b) with h | h
      · exact h
      · have := toL_len_mono h; omega
    (focus (refine wkvp w_t (w_a (natTrim a ha la) (w_a (natTrim b hb lb) w_t)) ?_; (repeat' first | exact w_t | apply w_l); all_goals intros))
    simp (disch := omega) only [go_sem, cmpN, if_pos this]
  · by_cases hgt : (toL (nv b)).length < (toL (nv a)).length
    · have : nv b < nv a := by
        rcases Nat.lt_or_ge (nv b) (nv a) with h | h
        · exact h
        · have := toL_len_mono h; omega
      have this2 : ¬ nv a < nv b := by omega
      (focus (refine wkvp w_t (w_a (natTrim a ha la) (w_a (natTrim b hb lb) w_t)) ?_; (repeat' first | exact w_t | apply w_l); all_goals intros))
      simp (disch := omega) only [go_sem, cmpN, if_pos this, if_neg this2]
    · (focus (refine wkvp w_t (w_a (natTrim a ha la) (w_a (natTrim b hb lb) w_t)) ?_; (repeat' first | exact w_t | apply w_l); all_goals intros))
      refine r_loopE (ι := Nat) (fun k e m => k ≤ (toL (nv a)).length ∧ e 0 = lim (toL (nv a)) ∧ e 1 = lim (toL (nv b)) ∧ e 5 = .v (.int .i64 ((k : Int) - 1)) ∧ nv ((toL (nv a)).drop k) = nv ((toL (nv b)).drop k)) (fun k => k) (toL (nv a)).length (by rfl) ?_ ?_
      · rintro k e m ⟨hk, e0, e1, e5, hz⟩
        by_cases h0 : k = 0
        · subst h0
          rw [List.drop_zero, List.drop_zero, va, vb] at hz
          (focus (refine wkvp (w_a e0 (w_a e1 (w_a e5 w_t))) w_t ?_; (repeat' first | exact w_t | apply w_l); all_goals intros))
          simp (disch := omega) only [go_sem, cmpN, hz, Nat.lt_irrefl, if_false]
        · have hk1 : k - 1 + 1 = k := by omega
          have ga := gN_lt ma (k - 1)
          have gb := gN_lt mb (k - 1)
          by_cases p1 : gN (toL (nv a)) (k - 1) < gN (toL (nv b)) (k - 1)
          · have := nv_cmp (k := k - 1) ma mb (by rw [hk1]; exact hz) p1
            rw [va, vb] at this
            (focus (refine wkvd (w_a e0 (w_a e1 (w_a e5 w_t))) w_t w_t ?_; (repeat' first | exact w_t | apply w_l); all_goals intros))
            simp (disch := omega) only [go_sem, cmpN, if_pos this]
          · by_cases p2 : gN (toL (nv b)) (k - 1) < gN (toL (nv a)) (k - 1)
            · have := nv_cmp (k := k - 1) mb ma (by rw [hk1]; exact hz.symm) p2
              rw [va, vb] at this
              have this2 : ¬ nv a < nv b := by omega
              (focus (refine wkvd (w_a e0 (w_a e1 (w_a e5 w_t))) w_t w_t ?_; (repeat' first | exact w_t | apply w_l); all_goals intros))
              simp (disch := omega) only [go_sem, cmpN, if_pos this, if_neg this2]
            · (focus (refine wkvd (w_a e0 (w_a e1 (w_a e5 w_t))) w_t w_t ?_; (repeat' first | exact w_t | apply w_l); all_goals intros))
              refine ⟨k - 1, ⟨by omega, by exact gW e0, by exact gW e1, by simp (disch := omega) only [go_sem, e5]; congr 2; omega, ?_⟩, by omega⟩
              rw [nv_drop, nv_drop (toL (nv b)), hk1, hz]
              omega
      · refine ⟨Nat.le_refl _, by exact gC, by exact gC, by exact gC, ?_⟩
        rw [List.drop_eq_nil_of_le (Nat.le_refl _), List.drop_eq_nil_of_le (by omega)]
end Go.Proofs.YteiopjkamgmfpaaGreatDoor
end

section
namespace Go.Proofs.YteiopjkamgmfpaaGreatDoor
open Go Go.RowKit Go.Pg
set_option linter.unusedSimpArgs false
set_option linter.unusedVariables false
set_option maxRecDepth 20000
attribute [local go_sem] Tryz.underlying45 Tryz.underlying3 Tryz.underlying156 Tryz.underlying202 Tryz.underlying115 Tryz.underlying21 sz3 by3 z3 szL byL zL
attribute [-bool_to_prop] Bool.and_eq_decide Bool.or_eq_decide Bool.decide_beq_decide decide_eq_decide

set_option maxHeartbeats 1000000 in
theorem natAdd (a b : List Nat) (ha : a.length ≤ 1000000000) (hb : b.length ≤ 1000000000) (la : Lm a) (lb : Lm b) : Pure Tryz.prog 240 [lim a, lim b] (lim (toL (nv a + nv b))) := by
  have h1 := toL_len_le la
  have h2 := toL_len_le lb
  have va := nv_toL (nv a)
  have vb := nv_toL (nv b)
  have ma := lm_toL (nv a)
  have mb := lm_toL (nv b)
  obtain ⟨A, B, hA, hB, hle, hAl, hLA, hLB, hAB, hm⟩ : ∃ A B, A = (if (toL (nv a)).length < (toL (nv b)).length then toL (nv b) else toL (nv a)) ∧ B = (if (toL (nv a)).length < (toL (nv b)).length then toL (nv a) else toL (nv b)) ∧ B.length ≤ A.length ∧ A.length ≤ 1000000000 ∧ Lm A ∧ Lm B ∧ nv A + nv B = nv a + nv b ∧ A.length ≤ (toL (nv a + nv b)).length := by
    by_cases hlt : (toL (nv a)).length < (toL (nv b)).length
    · exact ⟨_, _, (if_pos hlt).symm, (if_pos hlt).symm, by omega, by omega, mb, ma, by omega, toL_len_mono (by omega)⟩
    · exact ⟨_, _, (if_neg hlt).symm, (if_neg hlt).symm, by omega, by omega, ma, mb, by omega, toL_len_mono (by omega)⟩
  refine pure_intro (tok := 0) (rs := [.tmp 4]) Tryz.func240 rfl Tryz.ntmps240 Tryz.results240 Tryz.call240 (by rfl) (by simp) ?_
  rcases Nat.lt_or_ge (toL (nv a)).length (toL (nv b)).length with hlt | hge
  rotate_left
  have hlt : ¬ (toL (nv a)).length < (toL (nv b)).length := by omega
  all_goals
    (first | rw [if_pos hlt] at hA hB | rw [if_neg hlt] at hA hB)
    (focus (refine wkvp w_t (w_a (natTrim a ha la) (w_a (natTrim b hb lb) w_t)) ?_; (repeat' first | exact w_t | apply w_l); all_goals intros))
    rw [← hA]
    try rw [← hB]
    refine r_loopE (ι := Nat) (fun k e m => k ≤ A.length ∧ e 0 = lim A ∧ e 1 = lim B ∧ e 26 = lim A ∧ e 27 = .v (.int .i64 A.length) ∧ e 28 = .v (.int .i64 k) ∧ ∃ sv o c, e 5 = .own 25 sv ∧ e 6 = .v (.int .u32 (c : Nat)) ∧ m 25 = some (.row sv 156 1 (u16s o) 0) ∧ o.length = A.length ∧ Lm o ∧ c ≤ 1 ∧ nv (o.take k) + 65536 ^ k * c = nv (A.take k) + nv (B.take k)) (fun k => A.length - k) 0 (by rfl) ?_ ?_
    · rintro k e m ⟨hk, e0, e1, e26, e27, e28, sv, o, c, e5, e6, em, hol, hLo, hc, hv⟩
      have ga := gN_lt hLA k
      have gb := gN_lt hLB k
      have hs := add_step (x := gN A k) (y := gN B k) hv
      have w1 : (c + gN A k + gN B k) / 65536 ≤ 1 := by omega
      have w2 : (c + gN A k + gN B k) % 65536 < 65536 := by omega
      by_cases hlt2 : k < A.length
      · rw [← nv_set_take (o := o) (by omega), ← Nat.pow_succ, ← nv_take_succ, ← nv_take_succ] at hs
        by_cases hkb : k < B.length
        · (focus (refine wkvp (w_a e0 (w_a e1 (w_a e26 (w_a e27 (w_a e28 (w_a e5 (w_a e6 (w_a em (w_a hol (w_a @add_nat (w_a @cut_nat w_t))))))))))) w_t ?_; (repeat' first | exact w_t | apply w_l); all_goals intros))
          exact ⟨k + 1, ⟨by omega, by exact gW e0, by exact gW e1, by exact gW e26, by exact gW e27, by exact gV e28, _, _, _, by exact gW e5, by exact gC, by exact gC, by simpa using hol, hLo.set k w2, w1, hs⟩, by omega⟩
        · have g0 : gN B k = 0 := gN_out (by omega)
          simp only [g0, Nat.add_zero] at hs w1 w2
          (focus (refine wkvp (w_a e0 (w_a e1 (w_a e26 (w_a e27 (w_a e28 (w_a e5 (w_a e6 (w_a em (w_a hol (w_a @add_nat (w_a @cut_nat w_t))))))))))) w_t ?_; (repeat' first | exact w_t | apply w_l); all_goals intros))
          exact ⟨k + 1, ⟨by omega, by exact gW e0, by exact gW e1, by exact gW e26, by exact gW e27, by exact gV e28, _, _, _, by exact gW e5, by exact gC, by exact gC, by simpa using hol, hLo.set k w2, w1, hs⟩, by omega⟩
      · have hkA : k = A.length := by omega
        subst hkA
        rw [take_all (Nat.le_refl _), take_all hle, take_all (by omega), hAB] at hv
        by_cases hc0 : c = 0
        · subst hc0
          rw [Nat.mul_zero, Nat.add_zero] at hv
          (focus (refine wkvp (w_a e0 (w_a e1 (w_a e26 (w_a e27 (w_a e28 (w_a e5 (w_a e6 (w_a em (w_a hol w_t))))))))) w_t ?_; (repeat' first | exact w_t | apply w_l); all_goals intros))
          simp (disch := omega) only [go_sem, em]
          rw [canon' hLo (by rw [hv]; omega), hv]
        · have hc1 : c = 1 := by omega
          subst hc1
          (focus (refine wkvp (w_a e0 (w_a e1 (w_a e26 (w_a e27 (w_a e28 (w_a e5 (w_a e6 (w_a em (w_a hol (w_a @cut_nat w_t)))))))))) w_t ?_; (repeat' first | exact w_t | apply w_l); all_goals intros))
          simp (disch := omega) only [go_sem]
          have h3 : nv (o ++ [1]) = nv a + nv b := by rw [nv_append, hol]; simpa [nv] using hv
          rw [← h3, ← canon (hLo.append (Lm.one (by omega))) (.inr (by simp [gN]))]
    · refine ⟨Nat.zero_le _, by exact gC, by exact gC, by exact gC, by exact gC, by exact gC, _, List.replicate A.length 0, 0, by exact gC, by exact gC, by exact gC, by simp, Lm.zeros _, by omega, by simp [nv]⟩

theorem okTup {a : AV} {n : Int} (h : a = .v (.slice none 0 0)) : Wk (.tup [a, .v (.int .i64 n)]) (.tup [lim [], .v (.int .i64 n)]) := by
  subst h; exact Wk.pair (.nil 1)

set_option maxHeartbeats 1000000 in
theorem natSub (a b : List Nat) (ha : a.length ≤ 1000000000) (hb : b.length ≤ 1000000000) (la : Lm a) (lb : Lm b) :
    Pure Tryz.prog 241 [lim a, lim b] (.tup [lim (if nv a < nv b then [] else toL (nv a - nv b)), .v (.int .i64 (if nv a < nv b then 2 else 0))]) := by
  by_cases hlt : nv a < nv b
  · rw [if_pos hlt, if_pos hlt]
    refine Pure.wk ?_ (okTup rfl)
    refine pure_intro (tok := 0) (rs := [.tmp 4, .tmp 5]) Tryz.func241 rfl Tryz.ntmps241 Tryz.results241 Tryz.call241 (by rfl) (by simp) ?_
    have hc : cmpN (nv a) (nv b) = -1 := by unfold cmpN; rw [if_pos hlt]
    (focus (refine wkvp (w_a hc w_t) (w_a (natCmp a b ha hb la lb) w_t) ?_; (repeat' first | exact w_t | apply w_l); all_goals intros))
    simp (disch := omega) only [go_sem]
  · rw [if_neg hlt, if_neg hlt]
    have h1 := toL_len_le la
    have va := nv_toL (nv a)
    have vb := nv_toL (nv b)
    have ma := lm_toL (nv a)
    have mb := lm_toL (nv b)
    have h2 : (toL (nv b)).length ≤ (toL (nv a)).length := toL_len_mono (by omega)
    have hc : 0 ≤ cmpN (nv a) (nv b) := by unfold cmpN; rw [if_neg hlt]; split <;> omega
    generalize hA : toL (nv a) = A at *
    generalize hB : toL (nv b) = B at *
    refine pure_intro (tok := 0) (rs := [.tmp 4, .tmp 5]) Tryz.func241 rfl Tryz.ntmps241 Tryz.results241 Tryz.call241 (by rfl) (by simp) ?_
    (focus (refine wkvp (w_a hA (w_a hB w_t)) (w_a (natCmp a b ha hb la lb) (w_a (natTrim a ha la) (w_a (natTrim b hb lb) w_t))) ?_; (repeat' first | exact w_t | apply w_l); all_goals intros))
    rw [hA, hB]
    refine r_loopE (ι := Nat) (fun k e m => k ≤ A.length ∧ (e 1 = lim B ∧ e 22 = lim A ∧ e 23 = .v (.int .i64 A.length) ∧ e 24 = .v (.int .i64 k)) ∧ ∃ sv o r, (e 6 = .own 21 sv ∧ e 7 = .v (.int .i32 (r : Nat)) ∧ m 21 = some (.row sv 156 1 (u16s o) 0)) ∧ o.length = A.length ∧ Lm o ∧ r ≤ 1 ∧ nv (o.take k) + nv (B.take k) = nv (A.take k) + 65536 ^ k * r) (fun k => A.length - k) 0 (by rfl) ?_ ?_
    · rintro k e m ⟨hk, ⟨e1, e22, e23, e24⟩, sv, o, r, ⟨e6, e7, em⟩, hol, hLo, hr, hv⟩
      have ga := gN_lt ma k
      have gb := gN_lt mb k
      by_cases hlt2 : k < A.length
      · have step : ∀ (d r' : Nat), d + r + gN B k = gN A k + 65536 * r' → d < 65536 → r' ≤ 1 → (o.set k d).length = A.length ∧ Lm (o.set k d) ∧ r' ≤ 1 ∧ nv ((o.set k d).take (k + 1)) + nv (B.take (k + 1)) = nv (A.take (k + 1)) + 65536 ^ (k + 1) * r' := by
          intro d r' hd h3 h4
          have := sub_step hv hd
          rw [nv_set_take (by omega), nv_take_succ, nv_take_succ, Nat.pow_succ]
          exact ⟨by simpa using hol, hLo.set k h3, h4, this⟩
        by_cases hneg : gN A k < r + gN B k
        · have hs := step (gN A k + 65536 - r - gN B k) 1 (by omega) (by omega) (by omega)
          have w : (gN A k : Int) - r - gN B k + 65536 = ((gN A k + 65536 - r - gN B k : Nat) : Int) := by omega
          by_cases hkb : k < B.length
          · (focus (refine wkvp (w_a e1 (w_a e22 (w_a e23 (w_a e24 (w_a e6 (w_a e7 (w_a em (w_a hol (w_a w w_t))))))))) w_t ?_; (repeat' first | exact w_t | apply w_l); all_goals intros))
            exact ⟨k + 1, ⟨by omega, by exact gV (And.intro e1 (And.intro e22 (And.intro e23 e24))), sv, _, 1, by exact gW e6, hs⟩, by omega⟩
          · have g0 : gN B k = 0 := gN_out (by omega)
            simp only [g0, Nat.sub_zero, Nat.add_zero] at hs w hneg
            have w : (gN A k : Int) - r + 65536 = ((gN A k + 65536 - r : Nat) : Int) := by omega
            (focus (refine wkvp (w_a e1 (w_a e22 (w_a e23 (w_a e24 (w_a e6 (w_a e7 (w_a em (w_a hol (w_a w w_t))))))))) w_t ?_; (repeat' first | exact w_t | apply w_l); all_goals intros))
            exact ⟨k + 1, ⟨by omega, by exact gV (And.intro e1 (And.intro e22 (And.intro e23 e24))), sv, _, 1, by exact gW e6, hs⟩, by omega⟩
        · have hs := step (gN A k - r - gN B k) 0 (by omega) (by omega) (by omega)
          have w : (gN A k : Int) - r - gN B k = ((gN A k - r - gN B k : Nat) : Int) := by omega
          by_cases hkb : k < B.length
          · (focus (refine wkvp (w_a e1 (w_a e22 (w_a e23 (w_a e24 (w_a e6 (w_a e7 (w_a em (w_a hol (w_a w w_t))))))))) w_t ?_; (repeat' first | exact w_t | apply w_l); all_goals intros))
            exact ⟨k + 1, ⟨by omega, by exact gV (And.intro e1 (And.intro e22 (And.intro e23 e24))), sv, _, 0, by (simp (disch := omega) only [go_sem, e6, Int.natCast_zero] <;> repeat' first | rfl | refine ⟨?_, ?_⟩), hs⟩, by omega⟩
          · have g0 : gN B k = 0 := gN_out (by omega)
            simp only [g0, Nat.sub_zero, Nat.add_zero] at hs hneg
            have w : (gN A k : Int) - r = ((gN A k - r : Nat) : Int) := by omega
            (focus (refine wkvp (w_a e1 (w_a e22 (w_a e23 (w_a e24 (w_a e6 (w_a e7 (w_a em (w_a hol (w_a w w_t))))))))) w_t ?_; (repeat' first | exact w_t | apply w_l); all_goals intros))
            exact ⟨k + 1, ⟨by omega, by exact gV (And.intro e1 (And.intro e22 (And.intro e23 e24))), sv, _, 0, by (simp (disch := omega) only [go_sem, e6, Int.natCast_zero] <;> repeat' first | rfl | refine ⟨?_, ?_⟩), hs⟩, by omega⟩
      · have hkA : k = A.length := by omega
        subst hkA
        rw [take_all (by omega), take_all (Nat.le_refl _), take_all h2, va, vb] at hv
        have hno := nv_lt hLo
        rw [hol] at hno
        have hr0 : r = 0 := by
          rcases Nat.eq_zero_or_pos r with h3 | h3
          · exact h3
          · have : r = 1 := by omega
            subst this
            omega
        subst hr0
        have hno2 : nv o = nv a - nv b := by omega
        (repeat' (first | (with_reducible first | refine stp ?_ | apply gx1 | apply gx2 | apply gx3 | apply gx4 | apply gx5 | apply gx6 | apply gx7 | apply gw1 (natTrim o (by omega) hLo)) | (with_reducible refine all_v ?_; intro _) | ((with_reducible refine gE ?_); (try simp (disch := omega) only [go_sem, e1, e22, e23, e24, e6, e7, em, hol]) <;> first | rfl | omega) | with_reducible refine t_in_other (by decide) ?_))
        simp (disch := omega) only [go_sem, hno2]
    · exact ⟨Nat.zero_le _, by exact gC, _, List.replicate A.length 0, 0, ⟨by exact gC, by exact gC, by exact gC⟩, by simp, Lm.zeros _, by omega, by simp [nv]⟩
end Go.Proofs.YteiopjkamgmfpaaGreatDoor
end

section
namespace Go.Proofs.YteiopjkamgmfpaaGreatDoor
open Go Go.RowKit Go.Pg
set_option linter.unusedSimpArgs false
set_option linter.unusedVariables false
set_option maxRecDepth 20000
attribute [local go_sem] Tryz.underlying45 Tryz.underlying3 Tryz.underlying156 Tryz.underlying202 Tryz.underlying115 Tryz.underlying21 sz3 by3 z3 szL byL zL
attribute [-bool_to_prop] Bool.and_eq_decide Bool.or_eq_decide Bool.decide_beq_decide decide_eq_decide

set_option maxHeartbeats 1000000 in
theorem natMul (a b : List Nat) (ha : a.length ≤ 400000000) (hb : b.length ≤ 400000000) (la : Lm a) (lb : Lm b) : Pure Tryz.prog 121 [lim a, lim b] (lim (toL (nv a * nv b))) := by
  have h1 := toL_len_le la
  have h2 := toL_len_le lb
  have va := nv_toL (nv a)
  have vb := nv_toL (nv b)
  have ma := lm_toL (nv a)
  have mb := lm_toL (nv b)
  by_cases h0 : nv a = 0 ∨ nv b = 0
  · have hz : nv a * nv b = 0 := Nat.mul_eq_zero.2 h0
    rw [slN (show toL (nv a * nv b) = [] by rw [hz, toL_zero])]
    refine Pure.wk (r := .v (.slice none 0 0)) ?_ (.nil 1)
    refine pure_intro (tok := 0) (rs := [.tmp 4]) Tryz.func121 rfl Tryz.ntmps121 Tryz.results121 Tryz.call121 (by rfl) (by simp) ?_
    by_cases h3 : nv a = 0
    · have h4 := toL_len_zero.2 h3
      (focus (refine wkvp (w_a h4 w_t) (w_a (natTrim a (by omega) la) (w_a (natTrim b (by omega) lb) w_t)) ?_; (repeat' first | exact w_t | apply w_l); all_goals intros))
      simp (disch := omega) only [go_sem]
    · have h4 : (toL (nv a)).length ≠ 0 := fun h => h3 (toL_len_zero.1 h)
      have h5 := toL_len_zero.2 (h0.resolve_left h3)
      (focus (refine wkvp (w_a h5 w_t) (w_a (natTrim a (by omega) la) (w_a (natTrim b (by omega) lb) w_t)) ?_; (repeat' first | exact w_t | apply w_l); all_goals intros))
      simp (disch := omega) only [go_sem]
  · have h3 : (toL (nv a)).length ≠ 0 := fun h => h0 (.inl (toL_len_zero.1 h))
    have h4 : (toL (nv b)).length ≠ 0 := fun h => h0 (.inr (toL_len_zero.1 h))
    generalize hA : toL (nv a) = A at *
    generalize hB : toL (nv b) = B at *
    refine pure_intro (tok := 0) (rs := [.tmp 4]) Tryz.func121 rfl Tryz.ntmps121 Tryz.results121 Tryz.call121 (by rfl) (by simp) ?_
    (focus (refine wkvp (w_a hA (w_a hB (w_a @add_nat w_t))) (w_a (natTrim a (by omega) la) (w_a (natTrim b (by omega) lb) w_t)) ?_; (repeat' first | exact w_t | apply w_l); all_goals intros))
    rw [hA, hB]
    refine r_loopE (ι := Nat) (fun i e m => i ≤ A.length ∧ (e 1 = lim B ∧ e 29 = lim A ∧ e 30 = .v (.int .i64 A.length) ∧ e 31 = .v (.int .i64 i)) ∧ ∃ sv o, (e 5 = .own 28 sv ∧ m 28 = some (.row sv 156 1 (u16s o) 0)) ∧ o.length = A.length + B.length ∧ Lm o ∧ (∀ j, i + B.length ≤ j → gN o j = 0) ∧ nv o = nv (A.take i) * nv B) (fun i => A.length - i) 0 (by rfl) ?_ ?_
    · rintro i e m ⟨hi, ⟨e1, e29, e30, e31⟩, sv, o, ⟨e5, em⟩, hol, hLo, hz, hv⟩
      by_cases hlt : i < A.length
      · have gx := gN_lt ma i
        (focus (refine wkvp (w_a e1 (w_a e29 (w_a e30 (w_a e31 (w_a e5 (w_a em (w_a hol (w_a @add_nat w_t)))))))) w_t ?_; (repeat' first | exact w_t | apply w_l); all_goals intros))
        refine r_loopE (ι := Nat) (fun k e' m' => k ≤ B.length ∧ (e' 1 = lim B ∧ e' 29 = lim A ∧ e' 30 = .v (.int .i64 A.length) ∧ e' 31 = .v (.int .i64 i) ∧ e' 36 = lim B ∧ e' 37 = .v (.int .i64 B.length) ∧ e' 38 = .v (.int .i64 k) ∧ e' 6 = .v (.int .i64 i) ∧ e' 7 = .v (.int .u16 (gN A i : Nat)) ∧ e' 5 = .own 28 sv) ∧ ∃ o' c, (e' 8 = .v (.int .u32 (c : Nat)) ∧ m' 28 = some (.row sv 156 1 (u16s o') 0)) ∧ o'.length = A.length + B.length ∧ Lm o' ∧ c < 65536 ∧ (∀ j, i + B.length ≤ j → gN o' j = 0) ∧ nv o' + 65536 ^ (i + k) * c = nv o + 65536 ^ i * nv (B.take k) * gN A i) (fun k => B.length - k) 0 (by rfl) ?_ ?_
        · rintro k e m ⟨hk, ⟨e1, e29, e30, e31, e36, e37, e38, e6, e7, e5⟩, o', c, ⟨e8, em⟩, hol', hLo', hc, hz', hv'⟩
          have gy := gN_lt mb k
          have go := gN_lt hLo' (i + k)
          have bd := mul_bd gx gy
          by_cases hkb : k < B.length
          · have hs := mul_step (x := gN A i) (y := gN B k) rfl (nv_set (o := o') (j := i + k) (by omega) _) hv'
            rw [← mul_part, ← nv_take_succ, ← Nat.pow_succ, Nat.succ_eq_add_one, Nat.add_assoc i] at hs
            have w1 : (c + (gN o' (i + k) + gN A i * gN B k)) / 65536 < 65536 := by omega
            have w2 : (c + (gN o' (i + k) + gN A i * gN B k)) % 65536 < 65536 := by omega
            generalize hxy : gN A i * gN B k = xy at *
            (focus (refine wkvp (w_a e1 (w_a e29 (w_a e30 (w_a e31 (w_a e36 (w_a e37 (w_a e38 (w_a e6 (w_a e7 (w_a e5 (w_a e8 (w_a em (w_a hol' (w_a @add_nat (w_a @mul_nat (w_a @cut_nat (w_a hxy w_t))))))))))))))))) w_t ?_; (repeat' first | exact w_t | apply w_l); all_goals intros))
            refine ⟨k + 1, ⟨by omega, by exact gV (And.intro e1 (And.intro e29 (And.intro e30 (And.intro e31 (And.intro e36 (And.intro e37 (And.intro e38 (And.intro e6 (And.intro e7 e5))))))))), _, _, ⟨by exact gC, by exact gC⟩, by simpa using hol', hLo'.set _ w2, w1, fun j hj => ?_, hs⟩, by omega⟩
            rw [gN_set (by omega), if_neg (by omega)]; exact hz' j hj
          · have hkB : k = B.length := by omega
            subst hkB
            rw [take_all (Nat.le_refl _)] at hv'
            have g0 := hz' (i + B.length) (Nat.le_refl _)
            have h5 := nv_set (o := o') (j := i + B.length) (by omega) c
            rw [g0, Nat.mul_zero, Nat.add_zero] at h5
            have hcc : c % 65536 = c := Nat.mod_eq_of_lt hc
            (focus (refine wkvp (w_a e1 (w_a e29 (w_a e30 (w_a e31 (w_a e36 (w_a e37 (w_a e38 (w_a e6 (w_a e7 (w_a e5 (w_a e8 (w_a em (w_a hol' (w_a @add_nat (w_a @cut_nat (w_a hcc w_t)))))))))))))))) w_t ?_; (repeat' first | exact w_t | apply w_l); all_goals intros))
            refine ⟨i + 1, ⟨by omega, by exact gV (And.intro e1 (And.intro e29 (And.intro e30 e31))), sv, _, ⟨by exact gW e5, by exact gC⟩, by simpa using hol', hLo'.set _ hc, fun j hj => ?_, ?_⟩, by omega⟩
            · rw [gN_set (by omega), if_neg (by omega)]; exact hz' j (by omega)
            · rw [h5, hv', hv, nv_take_succ, Nat.add_mul]
              congr 1
              simp only [Nat.mul_assoc, Nat.mul_comm, Nat.mul_left_comm]
        · exact ⟨Nat.zero_le _, by exact gW (And.intro e1 (And.intro e29 (And.intro e30 (And.intro e31 e5)))), _, 0, ⟨by exact gC, by exact gW em⟩, hol, hLo, by omega, hz, by simp [nv]⟩
      · have hiA : i = A.length := by omega
        subst hiA
        rw [take_all (Nat.le_refl _), va, vb] at hv
        (repeat' (first | (with_reducible first | refine stp ?_ | apply gx1 | apply gx2 | apply gx3 | apply gx4 | apply gx5 | apply gx6 | apply gx7 | apply gw1 (natTrim o (by omega) hLo)) | (with_reducible refine all_v ?_; intro _) | ((with_reducible refine gE ?_); (try simp (disch := omega) only [go_sem, e1, e29, e30, e31, e5, em, hol]) <;> first | rfl | omega) | with_reducible refine t_in_other (by decide) ?_))
        simp (disch := omega) only [go_sem, hv]
    · exact ⟨Nat.zero_le _, by exact gC, _, List.replicate (A.length + B.length) 0, ⟨by exact gC, by exact gC⟩, by simp, Lm.zeros _, fun j hj => gN_zeros _ _, by simp [nv, nv_zeros]⟩
end Go.Proofs.YteiopjkamgmfpaaGreatDoor
end

section
namespace Go.Proofs.YteiopjkamgmfpaaGreatDoor
open Go Go.RowKit Go.Pg
set_option linter.unusedSimpArgs false
set_option linter.unusedVariables false
set_option maxRecDepth 20000
attribute [local go_sem] Tryz.underlying45 Tryz.underlying3 Tryz.underlying156 Tryz.underlying202 Tryz.underlying115 Tryz.underlying21 Tryz.underlying9 Tryz.underlying5 Tryz.underlying163 sz3 by3 z3 szL byL zL
attribute [-bool_to_prop] Bool.and_eq_decide Bool.or_eq_decide Bool.decide_beq_decide decide_eq_decide

theorem bitsLen16 (x : Nat) (hx : x < 65536) : Pure Tryz.prog 220 [.v (.int .u16 (x : Int))] (.v (.int .i64 (len16 x : Nat))) := by
  refine pure_intro (tok := 0) (rs := [.tmp 2]) Tryz.func220 rfl Tryz.ntmps220 Tryz.results220 Tryz.call220 (by rfl) (by simp) ?_
  by_cases h : 256 ≤ x
  · have b := len8_bd (i := x / 256) (by omega)
    have e : len16 x = 8 + len8 (x / 256) := if_pos h
    (repeat' (first | (apply o_tab (g := len8) (n := 256) (by kernel_rfl) (by kernel_rfl) (by omega)) | (with_reducible first | refine stp ?_ | apply gx1 | apply gx2 | apply gx3 | apply gx4 | apply gx5 | apply gx6 | apply gx7) | (with_reducible refine all_v ?_; intro _) | ((with_reducible refine gE ?_); (try simp (disch := omega) only [go_sem]) <;> first | rfl | omega) | with_reducible refine t_in_other (by decide) ?_))
    simp (disch := omega) only [go_sem, e, Int.natCast_add, Int.cast_ofNat_Int]
  · have b := len8_bd (i := x) (by omega)
    have e : len16 x = len8 x := if_neg h
    (repeat' (first | (apply o_tab (g := len8) (n := 256) (by kernel_rfl) (by kernel_rfl) (by omega)) | (with_reducible first | refine stp ?_ | apply gx1 | apply gx2 | apply gx3 | apply gx4 | apply gx5 | apply gx6 | apply gx7) | (with_reducible refine all_v ?_; intro _) | ((with_reducible refine gE ?_); (try simp (disch := omega) only [go_sem]) <;> first | rfl | omega) | with_reducible refine t_in_other (by decide) ?_))
    simp (disch := omega) only [go_sem, e, Int.zero_add]
theorem bitsLz16 (x : Nat) (hx : x < 65536) : Pure Tryz.prog 217 [.v (.int .u16 (x : Int))] (.v (.int .i64 ((16 - len16 x : Nat) : Int))) := by
  refine pure_intro (tok := 0) (rs := [.tmp 2]) Tryz.func217 rfl Tryz.ntmps217 Tryz.results217 Tryz.call217 (by rfl) (by simp) ?_
  have b := len16_bd hx
  have w : (16 : Int) - (len16 x : Int) = ((16 - len16 x : Nat) : Int) := by omega
  (focus (refine wkvp (w_a w w_t) (w_a (bitsLen16 x hx) w_t) ?_; (repeat' first | exact w_t | apply w_l); all_goals intros))
  simp (disch := omega) only [go_sem]

/-- The number of binary digits, as the program finds it. -/
def bitsN (n : Nat) : Nat := if n = 0 then 0 else 16 * ((toL n).length - 1) + len16 (gN (toL n) ((toL n).length - 1))
theorem bitsN_zero {n : Nat} : bitsN n = 0 ↔ n = 0 := by
  constructor
  · intro h
    unfold bitsN at h
    split at h
    · assumption
    · rename_i h0
      have h1 := toL_top h0
      have := (len16_bd (gN_lt (lm_toL n) ((toL n).length - 1))).2 h1.2
      omega
  · rintro rfl; rfl

theorem natBits (l : List Nat) (hs : l.length ≤ 1000000000) (hl : Lm l) : Pure Tryz.prog 178 [lim l] (.v (.int .i64 (bitsN (nv l) : Nat))) := by
  have h1 := toL_len_le hl
  refine pure_intro (tok := 0) (rs := [.tmp 2]) Tryz.func178 rfl Tryz.ntmps178 Tryz.results178 Tryz.call178 (by rfl) (by simp) ?_
  by_cases h0 : nv l = 0
  · have h2 := toL_len_zero.2 h0
    have h3 := bitsN_zero.2 h0
    (focus (refine wkvp (w_a h2 w_t) (w_a (natTrim l hs hl) w_t) ?_; (repeat' first | exact w_t | apply w_l); all_goals intros))
    simp (disch := omega) only [go_sem, h3]; rfl
  · obtain ⟨h2, h3⟩ := toL_top h0
    have hb : bitsN (nv l) = 16 * ((toL (nv l)).length - 1) + len16 (gN (toL (nv l)) ((toL (nv l)).length - 1)) := if_neg h0
    have b := len16_bd (gN_lt (lm_toL (nv l)) ((toL (nv l)).length - 1))
    have w : (16 : Int) * (((toL (nv l)).length : Int) - 1) + (len16 (gN (toL (nv l)) ((toL (nv l)).length - 1)) : Nat) = (bitsN (nv l) : Nat) := by omega
    (repeat' (first | (with_reducible first | refine stp ?_ | apply gx1 | apply gx2 | apply gx3 | apply gx4 | apply gx5 | apply gx6 | apply gx7 | refine gw0 (natTrim l hs hl) ?_ ?_ | refine gw0 (bitsLen16 (gN (toL (nv l)) ((toL (nv l)).length - 1)) (gN_lt (lm_toL (nv l)) _)) ?_ ?_) | (with_reducible refine all_v ?_; intro _) | ((with_reducible refine gE ?_); (try simp (disch := omega) only [go_sem, w]) <;> first | rfl | omega) | with_reducible refine t_in_other (by decide) ?_))
    simp (disch := omega) only [go_sem, w]

set_option maxHeartbeats 1000000 in
theorem natByLimb (a : List Nat) (d : Nat) (ha : a.length ≤ 1000000000) (la : Lm a) (hd0 : 0 < d) (hd : d < 65536) : Pure Tryz.prog 216 [lim a, .v (.int .u16 (d : Int))] (.tup [lim (toL (nv a / d)), .v (.int .u16 ((nv a % d : Nat) : Int))]) := by
  refine pure_intro (tok := 0) (rs := [.tmp 4, .tmp 5]) Tryz.func216 rfl Tryz.ntmps216 Tryz.results216 Tryz.call216 (by rfl) (by simp) ?_
  (focus (refine wkvp w_t w_t ?_; (repeat' first | exact w_t | apply w_l); all_goals intros))
  refine r_loopE (ι := Nat) (fun k e m => k ≤ a.length ∧ (e 0 = lim a ∧ e 1 = .v (.int .u16 (d : Int)) ∧ e 8 = .v (.int .i64 ((k : Int) - 1))) ∧ ∃ sv q r, (e 6 = .own 11 sv ∧ e 7 = .v (.int .u32 (r : Nat)) ∧ m 11 = some (.row sv 156 1 (u16s q) 0)) ∧ q.length = a.length ∧ Lm q ∧ r < d ∧ (∀ j, j < k → gN q j = 0) ∧ nv (a.drop k) = d * nv (q.drop k) + r) (fun k => k) a.length (by rfl) ?_ ?_
  · rintro k e m ⟨hk, ⟨e0, e1, e8⟩, sv, q, r, ⟨e6, e7, em⟩, hql, hLq, hr, hz, hv⟩
    by_cases h0 : k = 0
    · subst h0
      rw [List.drop_zero, List.drop_zero] at hv
      have h2 : nv a / d = nv q := by rw [hv, Nat.mul_add_div hd0, Nat.div_eq_of_lt hr, Nat.add_zero]
      have h3 : nv a % d = r := by rw [hv, Nat.mul_add_mod, Nat.mod_eq_of_lt hr]
      (repeat' (first | (with_reducible first | refine stp ?_ | apply gx1 | apply gx2 | apply gx3 | apply gx4 | apply gx5 | apply gx6 | apply gx7 | apply gw1 (natTrim q (by omega) hLq)) | (with_reducible refine all_v ?_; intro _) | ((with_reducible refine gE ?_); (try simp (disch := omega) only [go_sem, e0, e1, e8, e6, e7, em, hql]) <;> first | rfl | omega) | with_reducible refine t_in_other (by decide) ?_))
      simp (disch := omega) only [go_sem, h2, h3]
    · have ga := gN_lt la (k - 1)
      have hd1 := div_step (x := gN a (k - 1)) rfl hv
      have w1 : (r * 65536 + gN a (k - 1)) / d < 65536 := by
        rw [Nat.div_lt_iff_lt_mul hd0]
        have : (r + 1) * 65536 ≤ d * 65536 := Nat.mul_le_mul_right _ hr
        rw [Nat.mul_comm 65536 d]
        omega
      have w2 : (r * 65536 + gN a (k - 1)) % d < d := Nat.mod_lt _ hd0
      have hk1 : k - 1 + 1 = k := by omega
      have hrr : r < 65536 := by omega
      have w3 : ((r * 65536 + gN a (k - 1)) / d) % 65536 = (r * 65536 + gN a (k - 1)) / d := Nat.mod_eq_of_lt w1
      (focus (refine wkvp (w_a e0 (w_a e1 (w_a e8 (w_a e6 (w_a e7 (w_a em (w_a hql (w_a @quo_nat (w_a @rem_nat (w_a @cut_nat (w_a w3 w_t))))))))))) w_t ?_; (repeat' first | exact w_t | apply w_l); all_goals intros))
      refine ⟨k - 1, ⟨by omega, ⟨by exact gW e0, by exact gW e1, by (simp (disch := omega) only [go_sem, e8]; congr 2; omega)⟩, sv, _, _, ⟨by exact gW e6, by exact gC, by exact gC⟩, by simpa using hql, hLq.set _ w1, w2, fun j hj => ?_, ?_⟩, by omega⟩
      · rw [gN_set (by omega), if_neg (by omega)]; exact hz j (by omega)
      · rw [nv_drop, hk1, hd1, nv_drop (q.set _ _), hk1, gN_set (by omega), if_pos rfl, List.drop_set_of_lt (by omega)]
  · exact ⟨Nat.le_refl _, by exact gC, _, List.replicate a.length 0, 0, ⟨by exact gC, by exact gC, by exact gC⟩, by simp, Lm.zeros _, hd0, fun j hj => gN_zeros _ _, by rw [List.drop_eq_nil_of_le (Nat.le_refl _), List.drop_eq_nil_of_le (by simp)]; simp [nv]⟩

theorem natUint (l : List Nat) (hs : l.length ≤ 1000000000) (hl : Lm l) : Pure Tryz.prog 176 [lim l] (.tup [.v (.int .u64 (if nv l < 18446744073709551616 then (nv l : Int) else 0)), .v (.bool (decide (nv l < 18446744073709551616)))]) := by
  have h1 := toL_len_le hl
  have hk := toL_len_lt (n := nv l) (k := 4)
  have va := nv_toL (nv l)
  have ma := lm_toL (nv l)
  refine pure_intro (tok := 0) (rs := [.tmp 2, .tmp 3]) Tryz.func176 rfl Tryz.ntmps176 Tryz.results176 Tryz.call176 (by rfl) (by simp) ?_
  by_cases hb : nv l < 18446744073709551616
  · have h4 := hk.2 hb
    generalize hA : toL (nv l) = A at *
    (focus (refine wkvp (w_a hA w_t) (w_a (natTrim l hs hl) w_t) ?_; (repeat' first | exact w_t | apply w_l); all_goals intros))
    rw [hA]
    refine r_loopE (ι := Nat) (fun k e m => k ≤ A.length ∧ (e 12 = lim A ∧ e 13 = .v (.int .i64 A.length) ∧ e 14 = .v (.int .i64 k) ∧ e 4 = .v (.int .u64 (nv (A.take k) : Nat)))) (fun k => A.length - k) 0 (by rfl) ?_ ?_
    · rintro k e m ⟨hk, ⟨e12, e13, e14, e4⟩⟩
      have ga := gN_lt ma k
      by_cases hlt : k < A.length
      · have b1 : nv (A.take k) < 65536 ^ k := Nat.lt_of_lt_of_le (nv_lt (ma.take k)) (Nat.pow_le_pow_right (by omega) (by rw [List.length_take]; omega))
        rw [pow_16] at b1
        have w := orS_64 (n := nv (A.take k)) (x := gN A k) (s := 16 * k) b1 (by omega) ga
        rw [← pow_16, ← nv_take_succ, pow_16] at w
        have w2 : shlI .u64 (gN A k : Int) ((16 : Int) * (k : Int)) = ((gN A k * 2 ^ (16 * k) : Nat) : Int) := by
          have e : (16 : Int) * (k : Int) = ((16 * k : Nat) : Int) := by omega
          rw [e]
          refine shl_64 (by omega) ?_
          have : (2 : Nat) ^ (16 * k) ≤ 2 ^ 48 := Nat.pow_le_pow_right (by omega) (by omega)
          have h5 : gN A k * 2 ^ (16 * k) ≤ 65535 * 2 ^ 48 := Nat.mul_le_mul (by omega) this
          omega
        (focus (refine wkvp (w_a e12 (w_a e13 (w_a e14 (w_a e4 (w_a w2 (w_a w w_t)))))) w_t ?_; (repeat' first | exact w_t | apply w_l); all_goals intros))
        exact ⟨k + 1, ⟨by omega, by exact gV (And.intro e12 (And.intro e13 (And.intro e14 e4)))⟩, by omega⟩
      · rw [take_all (by omega), va] at e4
        (focus (refine wkvp (w_a e12 (w_a e13 (w_a e14 (w_a e4 w_t)))) w_t ?_; (repeat' first | exact w_t | apply w_l); all_goals intros))
        simp (disch := omega) only [go_sem, if_pos hb, decide_eq_true hb]
    · exact ⟨Nat.zero_le _, by exact gC⟩
  · have h4 : 4 < (toL (nv l)).length := by
      rcases Nat.lt_or_ge 4 (toL (nv l)).length with h | h
      · exact h
      · exact absurd (hk.1 h) hb
    (focus (refine wkvp w_t (w_a (natTrim l hs hl) w_t) ?_; (repeat' first | exact w_t | apply w_l); all_goals intros))
    simp (disch := omega) only [go_sem, if_neg hb, decide_eq_false hb]
end Go.Proofs.YteiopjkamgmfpaaGreatDoor
end

section
namespace Go.Proofs.YteiopjkamgmfpaaGreatDoor
open Go Go.RowKit Go.Pg
set_option linter.unusedSimpArgs false
set_option linter.unusedVariables false
set_option maxRecDepth 20000
attribute [local go_sem] Tryz.underlying45 Tryz.underlying3 Tryz.underlying156 Tryz.underlying202 Tryz.underlying115 Tryz.underlying21 Tryz.underlying5 sz3 by3 z3 szL byL zL
attribute [-bool_to_prop] Bool.and_eq_decide Bool.or_eq_decide Bool.decide_beq_decide decide_eq_decide

set_option maxHeartbeats 1000000 in
theorem natRight (a : List Nat) (n : Nat) (ha : a.length ≤ 1000000000) (la : Lm a) (hn : n ≤ 1048576) : Pure Tryz.prog 246 [lim a, .v (.int .i64 (n : Int))] (lim (toL (nv a / 2 ^ n))) := by
  have hns : n = 16 * (n / 16) + n % 16 := by omega
  have q1 : (n : Int).tdiv 16 = ((n / 16 : Nat) : Int) := quo_nat n 16
  have q2 : (n : Int).tmod 16 = ((n % 16 : Nat) : Int) := rem_nat n 16
  have hs : n % 16 < 16 := Nat.mod_lt _ (by omega)
  rw [hns, nv_div_two, nv_div la, ← hns]
  generalize n / 16 = l at *
  generalize n % 16 = s at *
  by_cases hl : a.length ≤ l
  · have hz : toL (nv (a.drop l) / 2 ^ s) = [] := by rw [List.drop_eq_nil_of_le hl]; simp [nv, toL_zero]
    rw [slN hz]
    refine Pure.wk (r := .v (.slice none 0 0)) ?_ (.nil 1)
    refine pure_intro (tok := 0) (rs := [.tmp 4]) Tryz.func246 rfl Tryz.ntmps246 Tryz.results246 Tryz.call246 (by rfl) (by simp) ?_
    (focus (refine wkvp (w_a q1 (w_a q2 w_t)) w_t ?_; (repeat' first | exact w_t | apply w_l); all_goals intros))
    simp (disch := omega) only [go_sem]
  · have hc : (a.length : Int) - (l : Int) = ((a.length - l : Nat) : Int) := by omega
    refine pure_intro (tok := 0) (rs := [.tmp 4]) Tryz.func246 rfl Tryz.ntmps246 Tryz.results246 Tryz.call246 (by rfl) (by simp) ?_
    (focus (refine wkvp (w_a q1 (w_a q2 (w_a hc w_t))) w_t ?_; (repeat' first | exact w_t | apply w_l); all_goals intros))
    refine r_loopE (ι := Nat) (fun k e m => k ≤ a.length - l ∧ (e 0 = lim a ∧ e 5 = .v (.int .i64 (l : Int)) ∧ e 6 = .v (.int .i64 (s : Int)) ∧ e 24 = .v (.int .i64 (a.length - l : Nat)) ∧ e 25 = .v (.int .i64 (k : Int))) ∧ ∃ sv o, (e 7 = .own 22 sv ∧ m 22 = some (.row sv 156 1 (u16s o) 0)) ∧ o.length = a.length - l ∧ Lm o ∧ nv (o.take k) = (nv (a.drop l) / 2 ^ s) % 65536 ^ k) (fun k => a.length - l - k) 0 (by rfl) ?_ ?_
    · rintro k e m ⟨hk, ⟨e0, e5, e6, e24, e25⟩, sv, o, ⟨e7, em⟩, hol, hLo, hv⟩
      by_cases hlt : k < a.length - l
      · have ga := gN_lt la (k + l)
        have gb := gN_lt la (k + l + 1)
        have hd : ((gN a (k + l) + 65536 * gN a (k + l + 1)) / 2 ^ s) % 65536 = (nv (a.drop l) / 65536 ^ k / 2 ^ s) % 65536 := by
          rw [nv_div (la.drop l), List.drop_drop, nv_drop, nv_drop a (l + k + 1), shr_dig (by omega), Nat.add_comm l k]
        have hst := shr_step hv hd
        have w0 : ((gN a (k + l) + 65536 * gN a (k + l + 1)) / 2 ^ s) % 65536 < 65536 := Nat.mod_lt _ (by omega)
        have sh := fun x => shr_32 (x := x) (s := s) (by omega)
        by_cases hmore : k + l + 1 < a.length
        · (repeat' (first | (with_reducible first | refine stp ?_ | apply gx1 | apply gx2 | apply gx3 | apply gx4 | apply gx5 | apply gx6 | apply gx7) | (with_reducible refine all_v ?_; intro _) | ((with_reducible refine gE ?_); (try simp (disch := omega) only [go_sem, e0, e5, e6, e24, e25, e7, em, hol, add_nat, cast_succ, cut_nat, or16_32', sh]) <;> first | rfl | omega) | with_reducible refine t_in_other (by decide) ?_))
          exact ⟨k + 1, ⟨by omega, by exact gV (And.intro e0 (And.intro e5 (And.intro e6 (And.intro e24 e25)))), sv, _, ⟨by exact gW e7, by exact gC⟩, by simpa using hol, hLo.set _ w0, by rw [nv_set_take (by omega)]; exact hst⟩, by omega⟩
        · have g0 : gN a (k + l + 1) = 0 := gN_out (by omega)
          simp only [g0, Nat.mul_zero, Nat.add_zero] at hst w0
          (focus (refine wkvp (w_a e0 (w_a e5 (w_a e6 (w_a e24 (w_a e25 (w_a e7 (w_a em (w_a hol (w_a @add_nat (w_a @cast_succ (w_a @cut_nat (w_a sh w_t)))))))))))) w_t ?_; (repeat' first | exact w_t | apply w_l); all_goals intros))
          exact ⟨k + 1, ⟨by omega, by exact gV (And.intro e0 (And.intro e5 (And.intro e6 (And.intro e24 e25)))), sv, _, ⟨by exact gW e7, by exact gC⟩, by simpa using hol, hLo.set _ w0, by rw [nv_set_take (by omega)]; exact hst⟩, by omega⟩
      · rw [take_all (by omega)] at hv
        have h5 := nv_lt (la.drop l)
        rw [List.length_drop] at h5
        have hk2 : k = a.length - l := by omega
        rw [Nat.mod_eq_of_lt (Nat.lt_of_le_of_lt (Nat.div_le_self _ _) (by rw [hk2]; exact h5))] at hv
        (repeat' (first | (with_reducible first | refine stp ?_ | apply gx1 | apply gx2 | apply gx3 | apply gx4 | apply gx5 | apply gx6 | apply gx7 | apply gw1 (natTrim o (by omega) hLo)) | (with_reducible refine all_v ?_; intro _) | ((with_reducible refine gE ?_); (try simp (disch := omega) only [go_sem, e0, e5, e6, e24, e25, e7, em, hol]) <;> first | rfl | omega) | with_reducible refine t_in_other (by decide) ?_))
        simp (disch := omega) only [go_sem, hv]
    · exact ⟨Nat.zero_le _, by exact gC, _, List.replicate (a.length - l) 0, ⟨by exact gC, by exact gC⟩, by simp, Lm.zeros _, by simp [nv, Nat.mod_one]⟩

/-- trim, of a row of the caller's own. -/
theorem natTrimOwn (σ : Mem) (K : Nat) (sv : Value) (l : List Nat) (hs : l.length ≤ 1000000000) (hl : Lm l) (hσ : σ K = some (.row sv 156 1 (u16s l) 0)) :
    ACall Tryz.prog 180 [.own K sv] σ fun r σ' => r = .view K sv 1 0 (toL (nv l)).length ∧ σ' = σ := by
  refine acall_inline (tok := 0) (rs := [.tmp 2]) Tryz.func180 rfl Tryz.ntmps180 Tryz.results180 Tryz.call180 (by rfl) (by simp) ?_
  (focus (refine wkvp (w_a hσ w_t) w_t ?_; (repeat' first | exact w_t | apply w_l); all_goals intros))
  refine r_loopE (ι := Nat) (fun k e m => k ≤ l.length ∧ e 0 = .own K sv ∧ e 3 = .v (.int .i64 (k : Int)) ∧ m = σ ∧ ∀ j, k ≤ j → gN l j = 0) (fun k => k) l.length (by rfl) ?_ ?_
  · rintro k e m ⟨hk, e0, e3, rfl, hz⟩
    have gl := gN_lt hl (k - 1)
    have fin : (k = 0 ∨ 0 < gN l (k - 1)) → k = (toL (nv l)).length := fun h => by
      rw [← nv_trim hl hk hz h, List.length_take, Nat.min_eq_left hk]
    by_cases h0 : k = 0
    · subst h0
      have f := fin (.inl rfl)
      (focus (refine wkvp (w_a e0 (w_a e3 (w_a hσ w_t))) w_t ?_; (repeat' first | exact w_t | apply w_l); all_goals intros))
      simp (disch := omega) only [go_sem, ← f]
    · by_cases h1 : gN l (k - 1) = 0
      · (focus (refine wkvp (w_a e0 (w_a e3 (w_a hσ w_t))) w_t ?_; (repeat' first | exact w_t | apply w_l); all_goals intros))
        exact ⟨k - 1, ⟨by omega, by exact gW e0, by (simp (disch := omega) only [go_sem, e3]; congr 2; omega), rfl, fun j hj => by
          rcases Nat.lt_or_ge j k with h2 | h2
          · rw [show j = k - 1 by omega]; exact h1
          · exact hz j h2⟩, by omega⟩
      · have f := fin (.inr (by omega))
        (focus (refine wkvp (w_a e0 (w_a e3 (w_a hσ w_t))) w_t ?_; (repeat' first | exact w_t | apply w_l); all_goals intros))
        simp (disch := omega) only [go_sem, ← f, Nat.sub_zero]
  · exact ⟨Nat.le_refl _, by exact gC, by exact gC, rfl, fun j hj => gN_out hj⟩
end Go.Proofs.YteiopjkamgmfpaaGreatDoor
end

section
namespace Go.Proofs.YteiopjkamgmfpaaGreatDoor
open Go Go.RowKit Go.Pg
set_option linter.unusedSimpArgs false
set_option linter.unusedVariables false
set_option maxRecDepth 20000
attribute [local go_sem] Tryz.underlying45 Tryz.underlying3 Tryz.underlying156 Tryz.underlying202 Tryz.underlying115 Tryz.underlying21 Tryz.underlying5 sz3 by3 z3 szL byL zL
attribute [-bool_to_prop] Bool.and_eq_decide Bool.or_eq_decide Bool.decide_beq_decide decide_eq_decide

set_option maxHeartbeats 1000000 in
/-- Shift to the left, the new row handed to the caller. -/
theorem natShlOwn (σ : Mem) (a : List Nat) (n : Nat) (ha : a.length ≤ 400000000) (la : Lm a) (hn : n ≤ 1048576) (h0 : nv a ≠ 0) :
    ACall Tryz.prog 218 [lim a, .v (.int .i64 (n : Int))] σ fun r σ' => ∃ sv o, r = .view 44 sv 1 0 (toL (nv a * 2 ^ n)).length ∧ σ' = upd σ 44 (some (.row sv 156 1 (u16s o) 0)) ∧ o.length = (toL (nv a)).length + n / 16 + 1 ∧ Lm o ∧ nv o = nv a * 2 ^ n := by
  have hns : n = 16 * (n / 16) + n % 16 := by omega
  have q1 : (n : Int).tdiv 16 = ((n / 16 : Nat) : Int) := quo_nat n 16
  have q2 : (n : Int).tmod 16 = ((n % 16 : Nat) : Int) := rem_nat n 16
  have hs : n % 16 < 16 := Nat.mod_lt _ (by omega)
  have hnv : nv a * 2 ^ n = nv a * 2 ^ (n % 16) * 65536 ^ (n / 16) := by
    have := nv_mul_two (a := nv a) (l := n / 16) (s := n % 16)
    rwa [← hns] at this
  have h1 := toL_len_le la
  have h2 := (toL_top h0).1
  have va := nv_toL (nv a)
  have ma := lm_toL (nv a)
  have h16 : n / 16 ≤ 65536 := by omega
  clear hns
  generalize hl : n / 16 = l at *
  generalize hss : n % 16 = s at *
  generalize hA : toL (nv a) = A at *
  refine acall_inline (tok := 0) (rs := [.tmp 4]) Tryz.func218 rfl Tryz.ntmps218 Tryz.results218 Tryz.call218 (by rfl) (by simp) ?_
  (focus (refine wkvp (w_a q1 (w_a q2 (w_a hA (w_a @add_nat (w_a @cast_succ w_t))))) (w_a (natTrim a (by omega) la) w_t) ?_; (repeat' first | exact w_t | apply w_l); all_goals intros))
  rw [hA]
  have e1 : ((A.length + l : Nat) : Int) + 3 = ((A.length + l + 3 : Nat) : Int) := by omega
  (focus (refine wkvp (w_a hA (w_a @add_nat (w_a @cast_succ (w_a e1 w_t)))) w_t ?_; (repeat' first | exact w_t | apply w_l); all_goals intros))
  refine r_loopE (ι := Nat) (fun k e m => k ≤ A.length ∧ (e 5 = .v (.int .i64 (l : Int)) ∧ e 6 = .v (.int .i64 (s : Int)) ∧ e 45 = lim A ∧ e 46 = .v (.int .i64 A.length) ∧ e 47 = .v (.int .i64 (k : Int))) ∧ ∃ sv o, (e 7 = .own 44 sv ∧ m = upd σ 44 (some (.row sv 156 1 (u16s o) 0))) ∧ o.length = A.length + l + 1 ∧ Lm o ∧ gN o (k + l) < 2 ^ s ∧ (∀ j, k + l < j → gN o j = 0) ∧ nv o = nv (A.take k) * 2 ^ s * 65536 ^ l) (fun k => A.length - k) 0 (by rfl) ?_ ?_
  · rintro k e m ⟨hk, ⟨e5, e6, e45, e46, e47⟩, sv, o, ⟨e7, rfl⟩, hol, hLo, hg, hz, hv⟩
    by_cases hlt : k < A.length
    · have gx := gN_lt ma k
      have p16 : (2 : Nat) ^ s ≤ 32768 := by
        have : (2 : Nat) ^ s ≤ 2 ^ 15 := Nat.pow_le_pow_right (by omega) (by omega)
        omega
      have bx : gN A k * 2 ^ s ≤ 65535 * 32768 := Nat.mul_le_mul (by omega) p16
      have sh := shl_32 (x := gN A k) (s := s) (by omega) (by omega)
      have lo := low_mul (x := gN A k) (s := s) (by omega)
      have hlo : (gN A k * 2 ^ s) % 65536 < 65536 := Nat.mod_lt _ (by omega)
      rw [lo] at hlo
      have hor := or_16 (b := gN o (k + l)) (by omega) hg hlo
      rw [← lo] at hor
      have hhi : gN A k * 2 ^ s / 65536 < 2 ^ s := by
        rw [Nat.div_lt_iff_lt_mul (by omega), Nat.mul_comm]
        exact Nat.mul_lt_mul_of_pos_left gx (Nat.two_pow_pos s)
      have hsum : gN o (k + l) + (gN A k * 2 ^ s) % 65536 < 65536 := by
        rw [lo]
        have h5 : (gN A k % 2 ^ (16 - s) + 1) * 2 ^ s ≤ 2 ^ (16 - s) * 2 ^ s := Nat.mul_le_mul_right _ (Nat.mod_lt _ (Nat.two_pow_pos _))
        rw [← Nat.pow_add, Nat.sub_add_cancel (by omega), Nat.add_mul, Nat.one_mul] at h5
        omega
      have hcut : gN A k * 2 ^ s / 65536 % 65536 = gN A k * 2 ^ s / 65536 := Nat.mod_eq_of_lt (by omega)
      (focus (refine wkvp (w_a e5 (w_a e6 (w_a e45 (w_a e46 (w_a e47 (w_a e7 (w_a hol (w_a @add_nat (w_a @cast_succ (w_a @cut_nat (w_a sh (w_a hor (w_a hcut (w_a @l_set w_t)))))))))))))) w_t ?_; (repeat' first | exact w_t | apply w_l); all_goals intros))
      refine ⟨k + 1, ⟨by omega, by exact gV (And.intro e5 (And.intro e6 (And.intro e45 (And.intro e46 e47)))), sv, _, ⟨by exact gW e7, by (simp (disch := omega) only [go_sem, upd_upd] <;> repeat' first | rfl | refine ⟨?_, ?_⟩)⟩, by simpa using hol, (hLo.set _ hsum).set _ (by omega), ?_, fun j hj => ?_, ?_⟩, by omega⟩
      · rw [gN_set (by simp; omega), if_pos (by omega)]; exact hhi
      · rw [gN_set (by simp; omega), if_neg (by omega), gN_set (by omega), if_neg (by omega)]; exact hz j (by omega)
      · have h3 := nv_set (o := o) (j := k + l) (by omega) (gN o (k + l) + (gN A k * 2 ^ s) % 65536)
        have h4 := nv_set (o := o.set (k + l) (gN o (k + l) + (gN A k * 2 ^ s) % 65536)) (j := k + l + 1) (by simp; omega) (gN A k * 2 ^ s / 65536)
        rw [gN_set (by omega), if_neg (by omega), hz (k + l + 1) (by omega), Nat.mul_zero, Nat.add_zero] at h4
        rw [h4, nv_take_succ, Nat.add_mul, Nat.add_mul, ← hv]
        have h5 : 65536 ^ (k + l) * (gN A k * 2 ^ s % 65536) + 65536 ^ (k + l + 1) * (gN A k * 2 ^ s / 65536) = 65536 ^ k * gN A k * 2 ^ s * 65536 ^ l := by
          rw [Nat.pow_succ, Nat.mul_assoc (65536 ^ (k + l)), ← Nat.mul_add, Nat.mod_add_div, Nat.pow_add]
          simp only [Nat.mul_assoc, Nat.mul_left_comm, Nat.mul_comm]
        rw [Nat.mul_add] at h3
        omega
    · have hkA : k = A.length := by omega
      subst hkA
      rw [take_all (Nat.le_refl _), va, ← hnv] at hv
      have ct := natTrimOwn (upd σ 44 (some (.row sv 156 1 (u16s o) 0))) 44 sv o (by omega) hLo (by simp only [upd_at, if_true])
      rw [hv] at ct
      (repeat' (first | (with_reducible first | refine stp ?_ | apply gx1 | apply gx2 | apply gx3 | apply gx4 | apply gx5 | apply gx6 | apply gx7 | refine o_lent (ct) ?_) | (with_reducible refine all_v ?_; intro _) | ((with_reducible refine gE ?_); (try simp (disch := omega) only [go_sem, e5, e6, e45, e46, e47, e7]) <;> first | rfl | omega) | with_reducible refine t_in_other (by decide) ?_))
      simp (disch := omega) only [go_sem]
      exact ⟨sv, o, rfl, rfl, hol, hLo, hv⟩
  · refine ⟨Nat.zero_le _, by exact gC, _, List.replicate (A.length + l + 1) 0, ⟨by exact gC, by exact gC⟩, by simp, Lm.zeros _, ?_, fun j _ => gN_zeros _ _, by simp [nv, nv_zeros]⟩
    rw [gN_zeros]; exact Nat.two_pow_pos s

theorem natShl (a : List Nat) (n : Nat) (ha : a.length ≤ 400000000) (la : Lm a) (hn : n ≤ 1048576) : Pure Tryz.prog 218 [lim a, .v (.int .i64 (n : Int))] (lim (toL (nv a * 2 ^ n))) := by
  by_cases h0 : nv a = 0
  · have h2 := toL_len_zero.2 h0
    rw [slN (show toL (nv a * 2 ^ n) = [] by rw [h0, Nat.zero_mul, toL_zero])]
    refine Pure.wk (r := .v (.slice none 0 0)) ?_ (.nil 1)
    refine pure_intro (tok := 0) (rs := [.tmp 4]) Tryz.func218 rfl Tryz.ntmps218 Tryz.results218 Tryz.call218 (by rfl) (by simp) ?_
    (focus (refine wkvp (w_a h2 w_t) (w_a (natTrim a (by omega) la) w_t) ?_; (repeat' first | exact w_t | apply w_l); all_goals intros))
    simp (disch := omega) only [go_sem]
  · refine pure_of_acall (natShlOwn noMem a n ha la hn h0) fun r σ' ⟨sv, o, hr, hσ, hol, hLo, hv⟩ => ?_
    subst hr; subst hσ
    have hlen := toL_len_le hLo
    rw [hv] at hlen
    refine ⟨by simp (disch := omega) only [go_sem], ?_⟩
    simp (disch := omega) only [go_sem, Nat.zero_add]
    obtain ⟨k, h1, h2⟩ := toL_take hLo
    rw [hv] at h2
    have h3 : k = (toL (nv a * 2 ^ n)).length := by rw [← h2, List.length_take]; omega
    rw [← h3, h2]

theorem natShr (a : List Nat) (n : Nat) (ha : a.length ≤ 400000000) (la : Lm a) (h0 : 0 < n) (hn : n ≤ 1048576) : Pure Tryz.prog 218 [lim a, .v (.int .i64 (-(n : Int)))] (lim (toL (nv a / 2 ^ n))) := by
  by_cases hz : nv a = 0
  · have h2 := toL_len_zero.2 hz
    rw [slN (show toL (nv a / 2 ^ n) = [] by rw [hz, Nat.zero_div, toL_zero])]
    refine Pure.wk (r := .v (.slice none 0 0)) ?_ (.nil 1)
    refine pure_intro (tok := 0) (rs := [.tmp 4]) Tryz.func218 rfl Tryz.ntmps218 Tryz.results218 Tryz.call218 (by rfl) (by simp) ?_
    (focus (refine wkvp (w_a h2 w_t) (w_a (natTrim a (by omega) la) w_t) ?_; (repeat' first | exact w_t | apply w_l); all_goals intros))
    simp (disch := omega) only [go_sem]
  · have h2 := (toL_top hz).1
    have h1 := toL_len_le la
    have hr := natRight (toL (nv a)) n (by omega) (lm_toL _) hn
    rw [nv_toL] at hr
    have w : (0 : Int) - -(n : Int) = (n : Int) := by omega
    refine pure_intro (tok := 0) (rs := [.tmp 4]) Tryz.func218 rfl Tryz.ntmps218 Tryz.results218 Tryz.call218 (by rfl) (by simp) ?_
    (focus (refine wkvp (w_a w w_t) (w_a (natTrim a (by omega) la) (w_a hr w_t)) ?_; (repeat' first | exact w_t | apply w_l); all_goals intros))
    simp (disch := omega) only [go_sem]
end Go.Proofs.YteiopjkamgmfpaaGreatDoor
end

section
namespace Go.Proofs.YteiopjkamgmfpaaGreatDoor
open Go Go.RowKit Go.Pg
set_option linter.unusedSimpArgs false
set_option linter.unusedVariables false
set_option maxRecDepth 20000
attribute [local go_sem] Tryz.underlying45 Tryz.underlying3 Tryz.underlying156 Tryz.underlying202 Tryz.underlying115 Tryz.underlying21 Tryz.underlying5 sz3 by3 z3 szL byL zL
attribute [-bool_to_prop] Bool.and_eq_decide Bool.or_eq_decide Bool.decide_beq_decide decide_eq_decide

set_option maxHeartbeats 1000000 in
theorem natSubtract (σ : Mem) (K : Nat) (sv : Value) (pre w post v : List Nat) (d : Nat) (hσ : σ K = some (.row sv 156 1 (u16s (pre ++ (w ++ post))) 0)) (hwv : w.length = v.length + 1) (hsz : (pre ++ (w ++ post)).length ≤ 1000000000) (lw : Lm w) (lv : Lm v) (hd : d < 65536) :
    ACall Tryz.prog 248 [.view K sv 1 pre.length w.length, lim v, .v (.int .u32 (d : Int))] σ fun r σ' => ∃ (w' : List Nat) (b : Nat), r = .v (.bool (decide (0 < (b : Int)))) ∧ σ' = upd σ K (some (.row sv 156 1 (u16s (pre ++ (w' ++ post))) 0)) ∧ w'.length = w.length ∧ Lm w' ∧ b ≤ 1 ∧ nv w' + d * nv v = nv w + 65536 ^ w.length * b := by
  have hsz2 : pre.length + (w.length + post.length) ≤ 1000000000 := by simpa using hsz
  refine acall_inline (tok := 0) (rs := [.tmp 6]) Tryz.func248 rfl Tryz.ntmps248 Tryz.results248 Tryz.call248 (by rfl) (by simp) ?_
  (focus (refine wkvp w_t w_t ?_; (repeat' first | exact w_t | apply w_l); all_goals intros))
  refine r_loopE (ι := Nat) (fun k e m => k ≤ w.length ∧ (e 0 = .view K sv 1 pre.length w.length ∧ e 1 = lim v ∧ e 2 = .v (.int .u32 (d : Int)) ∧ e 12 = .v (.int .i64 w.length) ∧ e 13 = .v (.int .i64 (k : Int))) ∧ ∃ w' c r, (e 7 = .v (.int .u32 (c : Nat)) ∧ e 8 = .v (.int .i32 (r : Nat)) ∧ m = upd σ K (some (.row sv 156 1 (u16s (pre ++ (w' ++ post))) 0))) ∧ w'.length = w.length ∧ Lm w' ∧ c < 65536 ∧ (v.length < k → c = 0) ∧ r ≤ 1 ∧ (∀ j, k ≤ j → gN w' j = gN w j) ∧ nv (w'.take k) + d * nv (v.take k) = nv (w.take k) + 65536 ^ k * (c + r)) (fun k => w.length - k) 0 (by rfl) ?_ ?_
  · rintro k e m ⟨hk, ⟨e0, e1, e2, e12, e13⟩, w', c, r, ⟨e7, e8, rfl⟩, hwl, hLw, hc, hcz, hr, hsame, hv⟩
    by_cases hlt : k < w.length
    · have gw := gN_lt lw k
      have gv := gN_lt lv k
      have hgw := hsame k (Nat.le_refl _)
      have mid := gN_mid (pre := pre) (post := post) (show k < w'.length by omega)
      have smid := fun x => set_mid (pre := pre) (post := post) (show k < w'.length by omega) x
      have hln : (pre ++ (w' ++ post)).length = pre.length + (w'.length + post.length) := by simp
      have bd := mul_bd hd gv
      have step : ∀ (x r' c1 : Nat), c1 = c + d * gN v k → x + c1 % 65536 + r = gN w k + 65536 * r' → x < 65536 → r' ≤ 1 →
          (w'.set k x).length = w.length ∧ Lm (w'.set k x) ∧ c1 / 65536 < 65536 ∧ (v.length < k + 1 → c1 / 65536 = 0) ∧ r' ≤ 1 ∧ (∀ j, k + 1 ≤ j → gN (w'.set k x) j = gN w j) ∧ nv ((w'.set k x).take (k + 1)) + d * nv (v.take (k + 1)) = nv (w.take (k + 1)) + 65536 ^ (k + 1) * (c1 / 65536 + r') := by
        intro x r' c1 h1 h2 h3 h4
        have h5 := submul_step hv h1 h2
        refine ⟨by simpa using hwl, hLw.set k h3, by omega, fun h6 => ?_, h4, fun j hj => ?_, ?_⟩
        · have : gN v k = 0 := gN_out (by omega)
          rw [this, Nat.mul_zero] at h1
          omega
        · rw [gN_set (by omega), if_neg (by omega)]; exact hsame j (by omega)
        · rw [nv_set_take (by omega), nv_take_succ, nv_take_succ, Nat.pow_succ]
          exact h5
      by_cases hkv : k < v.length
      · generalize hxy : d * gN v k = xy at *
        by_cases hneg : gN w k < (c + xy) % 65536 + r
        · have hs := step (gN w k + 65536 - (c + xy) % 65536 - r) 1 (c + xy) rfl (by omega) (by omega) (by omega)
          have wv : (gN w k : Int) - ((c + xy) % 65536 : Nat) - r + 65536 = ((gN w k + 65536 - (c + xy) % 65536 - r : Nat) : Int) := by omega
          have wm : (gN w k + 65536 - (c + xy) % 65536 - r) % 65536 = gN w k + 65536 - (c + xy) % 65536 - r := Nat.mod_eq_of_lt (by omega)
          (focus (refine wkvp (w_a e0 (w_a e1 (w_a e2 (w_a e12 (w_a e13 (w_a e7 (w_a e8 (w_a hln (w_a hwl (w_a mid (w_a smid (w_a hgw (w_a @add_nat (w_a @mul_nat (w_a @cut_nat (w_a hxy (w_a wv (w_a wm w_t)))))))))))))))))) w_t ?_; (repeat' first | exact w_t | apply w_l); all_goals intros))
          exact ⟨k + 1, ⟨by omega, by exact gV (And.intro e0 (And.intro e1 (And.intro e2 (And.intro e12 e13)))), _, _, 1, ⟨by exact gC, by exact gC, by (simp (disch := omega) only [go_sem, upd_upd] <;> repeat' first | rfl | refine ⟨?_, ?_⟩)⟩, hs⟩, by omega⟩
        · have hs := step (gN w k - (c + xy) % 65536 - r) 0 (c + xy) rfl (by omega) (by omega) (by omega)
          have wv : (gN w k : Int) - ((c + xy) % 65536 : Nat) - r = ((gN w k - (c + xy) % 65536 - r : Nat) : Int) := by omega
          have wm : (gN w k - (c + xy) % 65536 - r) % 65536 = gN w k - (c + xy) % 65536 - r := Nat.mod_eq_of_lt (by omega)
          (focus (refine wkvp (w_a e0 (w_a e1 (w_a e2 (w_a e12 (w_a e13 (w_a e7 (w_a e8 (w_a hln (w_a hwl (w_a mid (w_a smid (w_a hgw (w_a @add_nat (w_a @mul_nat (w_a @cut_nat (w_a hxy (w_a wv (w_a wm w_t)))))))))))))))))) w_t ?_; (repeat' first | exact w_t | apply w_l); all_goals intros))
          exact ⟨k + 1, ⟨by omega, by exact gV (And.intro e0 (And.intro e1 (And.intro e2 (And.intro e12 e13)))), _, _, 0, ⟨by exact gC, by exact gC, by (simp (disch := omega) only [go_sem, upd_upd] <;> repeat' first | rfl | refine ⟨?_, ?_⟩)⟩, hs⟩, by omega⟩
      · have g0 : gN v k = 0 := gN_out (by omega)
        have hcm : c % 65536 = c := Nat.mod_eq_of_lt hc
        simp only [g0, Nat.mul_zero, Nat.add_zero] at step
        by_cases hneg : gN w k < c + r
        · have hs := step (gN w k + 65536 - c - r) 1 c rfl (by omega) (by omega) (by omega)
          have wv : (gN w k : Int) - (c : Nat) - r + 65536 = ((gN w k + 65536 - c - r : Nat) : Int) := by omega
          have wm : (gN w k + 65536 - c - r) % 65536 = gN w k + 65536 - c - r := Nat.mod_eq_of_lt (by omega)
          (focus (refine wkvp (w_a e0 (w_a e1 (w_a e2 (w_a e12 (w_a e13 (w_a e7 (w_a e8 (w_a hln (w_a hwl (w_a mid (w_a smid (w_a hgw (w_a @cut_nat (w_a hcm (w_a wv (w_a wm w_t)))))))))))))))) w_t ?_; (repeat' first | exact w_t | apply w_l); all_goals intros))
          exact ⟨k + 1, ⟨by omega, by exact gV (And.intro e0 (And.intro e1 (And.intro e2 (And.intro e12 e13)))), _, _, 1, ⟨by exact gC, by exact gC, by (simp (disch := omega) only [go_sem, upd_upd] <;> repeat' first | rfl | refine ⟨?_, ?_⟩)⟩, hs⟩, by omega⟩
        · have hs := step (gN w k - c - r) 0 c rfl (by omega) (by omega) (by omega)
          have wv : (gN w k : Int) - (c : Nat) - r = ((gN w k - c - r : Nat) : Int) := by omega
          have wm : (gN w k - c - r) % 65536 = gN w k - c - r := Nat.mod_eq_of_lt (by omega)
          (focus (refine wkvp (w_a e0 (w_a e1 (w_a e2 (w_a e12 (w_a e13 (w_a e7 (w_a e8 (w_a hln (w_a hwl (w_a mid (w_a smid (w_a hgw (w_a @cut_nat (w_a hcm (w_a wv (w_a wm w_t)))))))))))))))) w_t ?_; (repeat' first | exact w_t | apply w_l); all_goals intros))
          exact ⟨k + 1, ⟨by omega, by exact gV (And.intro e0 (And.intro e1 (And.intro e2 (And.intro e12 e13)))), _, _, 0, ⟨by exact gC, by exact gC, by (simp (disch := omega) only [go_sem, upd_upd] <;> repeat' first | rfl | refine ⟨?_, ?_⟩)⟩, hs⟩, by omega⟩
    · have hkw : k = w.length := by omega
      subst hkw
      have hc0 := hcz (by omega)
      subst hc0
      rw [take_all (by omega), take_all (by omega), take_all (Nat.le_refl _), Nat.zero_add] at hv
      (focus (refine wkvp (w_a e0 (w_a e1 (w_a e2 (w_a e12 (w_a e13 (w_a e7 (w_a e8 w_t))))))) w_t ?_; (repeat' first | exact w_t | apply w_l); all_goals intros))
      simp (disch := omega) only [go_sem]
      refine ⟨w', r, ?_, ?_, hwl, hLw, hr, hv⟩ <;> rfl
  · exact ⟨Nat.zero_le _, by exact gC, w, 0, 0, ⟨by exact gC, by exact gC, by rw [upd_same hσ]⟩, rfl, lw, by omega, fun _ => rfl, by omega, fun _ _ => rfl, by simp [nv]⟩

set_option maxHeartbeats 1000000 in
theorem natRestore (σ : Mem) (K : Nat) (sv : Value) (pre w post v : List Nat) (hσ : σ K = some (.row sv 156 1 (u16s (pre ++ (w ++ post))) 0)) (hwv : v.length ≤ w.length) (hsz : (pre ++ (w ++ post)).length ≤ 1000000000) (lw : Lm w) (lv : Lm v) :
    ACall Tryz.prog 249 [.view K sv 1 pre.length w.length, lim v] σ fun r σ' => ∃ (w' : List Nat) (c : Nat), r = .tup [] ∧ σ' = upd σ K (some (.row sv 156 1 (u16s (pre ++ (w' ++ post))) 0)) ∧ w'.length = w.length ∧ Lm w' ∧ c ≤ 1 ∧ nv w' + 65536 ^ w.length * c = nv w + nv v := by
  have hsz2 : pre.length + (w.length + post.length) ≤ 1000000000 := by simpa using hsz
  refine acall_inline (tok := 0) (rs := []) Tryz.func249 rfl Tryz.ntmps249 Tryz.results249 Tryz.call249 (by rfl) (by simp) ?_
  (focus (refine wkvp w_t w_t ?_; (repeat' first | exact w_t | apply w_l); all_goals intros))
  refine r_loopE (ι := Nat) (fun k e m => k ≤ w.length ∧ (e 0 = .view K sv 1 pre.length w.length ∧ e 1 = lim v ∧ e 7 = .v (.int .i64 w.length) ∧ e 8 = .v (.int .i64 (k : Int))) ∧ ∃ w' c, (e 4 = .v (.int .u32 (c : Nat)) ∧ m = upd σ K (some (.row sv 156 1 (u16s (pre ++ (w' ++ post))) 0))) ∧ w'.length = w.length ∧ Lm w' ∧ c ≤ 1 ∧ (∀ j, k ≤ j → gN w' j = gN w j) ∧ nv (w'.take k) + 65536 ^ k * c = nv (w.take k) + nv (v.take k)) (fun k => w.length - k) 0 (by rfl) ?_ ?_
  · rintro k e m ⟨hk, ⟨e0, e1, e7, e8⟩, w', c, ⟨e4, rfl⟩, hwl, hLw, hc, hsame, hv⟩
    by_cases hlt : k < w.length
    · have gw := gN_lt lw k
      have gv := gN_lt lv k
      have hgw := hsame k (Nat.le_refl _)
      have mid := gN_mid (pre := pre) (post := post) (show k < w'.length by omega)
      have smid := fun x => set_mid (pre := pre) (post := post) (show k < w'.length by omega) x
      have hln : (pre ++ (w' ++ post)).length = pre.length + (w'.length + post.length) := by simp
      have hs := add_step (x := gN w k) (y := gN v k) hv
      have w1 : (c + gN w k + gN v k) / 65536 ≤ 1 := by omega
      have w2 : (c + gN w k + gN v k) % 65536 < 65536 := by omega
      have hsm : ∀ x j, k + 1 ≤ j → gN (w'.set k x) j = gN w j := fun x j hj => by
        rw [gN_set (by omega), if_neg (by omega)]; exact hsame j (by omega)
      rw [← nv_set_take (o := w') (by omega), ← Nat.pow_succ, ← nv_take_succ, ← nv_take_succ] at hs
      by_cases hkv : k < v.length
      · (focus (refine wkvp (w_a e0 (w_a e1 (w_a e7 (w_a e8 (w_a e4 (w_a hln (w_a hwl (w_a mid (w_a smid (w_a hgw (w_a @add_nat (w_a @cut_nat w_t)))))))))))) w_t ?_; (repeat' first | exact w_t | apply w_l); all_goals intros))
        exact ⟨k + 1, ⟨by omega, by exact gV (And.intro e0 (And.intro e1 (And.intro e7 e8))), _, _, ⟨by exact gC, by (simp (disch := omega) only [go_sem, upd_upd] <;> repeat' first | rfl | refine ⟨?_, ?_⟩)⟩, by simpa using hwl, hLw.set k w2, w1, hsm _, hs⟩, by omega⟩
      · have g0 : gN v k = 0 := gN_out (by omega)
        simp only [g0, Nat.add_zero] at hs w1 w2
        (focus (refine wkvp (w_a e0 (w_a e1 (w_a e7 (w_a e8 (w_a e4 (w_a hln (w_a hwl (w_a mid (w_a smid (w_a hgw (w_a @add_nat (w_a @cut_nat w_t)))))))))))) w_t ?_; (repeat' first | exact w_t | apply w_l); all_goals intros))
        exact ⟨k + 1, ⟨by omega, by exact gV (And.intro e0 (And.intro e1 (And.intro e7 e8))), _, _, ⟨by exact gC, by (simp (disch := omega) only [go_sem, upd_upd] <;> repeat' first | rfl | refine ⟨?_, ?_⟩)⟩, by simpa using hwl, hLw.set k w2, w1, hsm _, hs⟩, by omega⟩
    · have hkw : k = w.length := by omega
      subst hkw
      rw [take_all (by omega), take_all (Nat.le_refl _), take_all hwv] at hv
      (focus (refine wkvp (w_a e0 (w_a e1 (w_a e7 (w_a e8 (w_a e4 w_t))))) w_t ?_; (repeat' first | exact w_t | apply w_l); all_goals intros))
      simp (disch := omega) only [go_sem]
      refine ⟨w', c, ?_, hwl, hLw, hc, hv⟩ <;> rfl
  · exact ⟨Nat.zero_le _, by exact gC, w, 0, ⟨by exact gC, by rw [upd_same hσ]⟩, rfl, lw, by omega, fun _ _ => rfl, by simp [nv]⟩
end Go.Proofs.YteiopjkamgmfpaaGreatDoor
end

section
namespace Go.Proofs.YteiopjkamgmfpaaGreatDoor
open Go Go.RowKit Go.Pg
set_option linter.unusedSimpArgs false
set_option linter.unusedVariables false
set_option maxRecDepth 20000
attribute [local go_sem] Tryz.underlying45 Tryz.underlying3 Tryz.underlying156 Tryz.underlying202 Tryz.underlying115 Tryz.underlying21 Tryz.underlying5 sz3 by3 z3 szL byL zL
attribute [-bool_to_prop] Bool.and_eq_decide Bool.or_eq_decide Bool.decide_beq_decide decide_eq_decide

set_option maxHeartbeats 1000000 in
theorem natTooGreat (σ : Mem) (sv : Value) (g2 g3 g5 g7 g9 g10 : Nat) (U post v : List Nat) (d r j : Nat) (h2 : σ 2 = some (.box g2 45 [.view 44 sv 1 0 U.length] false)) (h3 : σ 3 = some (.box g3 45 [lim v] false)) (h5 : σ 5 = some (.box g5 3 [.v (.int .i64 v.length)] false))
    (h7 : σ 7 = some (.box g7 3 [.v (.int .i64 (j : Int))] false)) (h9 : σ 9 = some (.box g9 115 [.v (.int .u64 (d : Int))] false)) (h10 : σ 10 = some (.box g10 115 [.v (.int .u64 (r : Int))] false)) (h44 : σ 44 = some (.row sv 156 1 (u16s (U ++ post)) 0))
    (hn : 2 ≤ v.length) (hj : j + v.length < U.length) (hsz : U.length + post.length ≤ 1000000000) (lv : Lm v) (lU : Lm U) (hr : r < 65536) :
    ACall Tryz.prog 247 [.pbox 9 g9 0, .pbox 3 g3 0, .pbox 5 g5 0, .pbox 10 g10 0, .pbox 2 g2 0, .pbox 7 g7 0] σ fun x σ' => x = .v (.bool (decide (65536 ≤ d) || decide (r * 65536 + gN U (j + v.length - 2) < d * gN v (v.length - 2)))) ∧ σ' = σ := by
  refine acall_inline (tok := 0) (rs := [.tmp 6]) Tryz.func247 rfl Tryz.ntmps247 Tryz.results247 Tryz.call247 (by rfl) (by simp) ?_
  by_cases hd : 65536 ≤ d
  · (focus (refine wkvd (w_a h2 (w_a h3 (w_a h5 (w_a h7 (w_a h9 (w_a h10 (w_a h44 w_t))))))) w_t w_t ?_; (repeat' first | exact w_t | apply w_l); all_goals intros))
    simp (disch := omega) only [go_sem, decide_eq_true hd]
  · have gv := gN_lt lv (v.length - 2)
    have gu := gN_lt lU (j + v.length - 2)
    have bd := mul_bd (x := d) (by omega) gv
    have e1 : (v.length : Int) - 2 = ((v.length - 2 : Nat) : Int) := by omega
    have e2 : ((j + v.length : Nat) : Int) - 2 = ((j + v.length - 2 : Nat) : Int) := by omega
    have hg : gN (U ++ post) (j + v.length - 2) = gN U (j + v.length - 2) := gN_left (by omega)
    have hl : (U ++ post).length = U.length + post.length := List.length_append
    generalize hxy : d * gN v (v.length - 2) = xy at *
    by_cases ht : r * 65536 + gN U (j + v.length - 2) < xy
    · (focus (refine wkvd (w_a h2 (w_a h3 (w_a h5 (w_a h7 (w_a h9 (w_a h10 (w_a h44 (w_a e1 (w_a e2 (w_a hg (w_a hl (w_a @add_nat (w_a @mul_nat (w_a hxy (w_a @Nat.zero_add w_t))))))))))))))) w_t w_t ?_; (repeat' first | exact w_t | apply w_l); all_goals intros))
      simp (disch := omega) only [go_sem, decide_eq_true ht]
    · (focus (refine wkvd (w_a h2 (w_a h3 (w_a h5 (w_a h7 (w_a h9 (w_a h10 (w_a h44 (w_a e1 (w_a e2 (w_a hg (w_a hl (w_a @add_nat (w_a @mul_nat (w_a hxy (w_a @Nat.zero_add w_t))))))))))))))) w_t w_t ?_; (repeat' first | exact w_t | apply w_l); all_goals intros))
      simp (disch := omega) only [go_sem, decide_eq_false hd, decide_eq_false ht]
end Go.Proofs.YteiopjkamgmfpaaGreatDoor
end

section
namespace Go.Proofs.YteiopjkamgmfpaaGreatDoor
open Go Go.RowKit Go.Pg
set_option linter.unusedSimpArgs false
set_option linter.unusedVariables false
set_option maxRecDepth 20000
attribute [local go_sem] Tryz.underlying45 Tryz.underlying3 Tryz.underlying156 Tryz.underlying202 Tryz.underlying115 Tryz.underlying21 Tryz.underlying5 sz3 by3 z3 szL byL zL szQ zQ
attribute [-bool_to_prop] Bool.and_eq_decide Bool.or_eq_decide Bool.decide_beq_decide decide_eq_decide

theorem o_acall {P : Program} {t d f : Nat} {args : List AV} {K : St → Prop} {e : Nat → AV} {m : Mem} {R : AV → Mem → Prop} (c : ACall P f args m R) (h : ∀ r σ', R r σ' → K ⟨upd e d r, σ'⟩) : aRes P t (some d) (.call f args) K ⟨e, m⟩ := c.mono h

theorem natSubtract' {σ : Mem} {K : Nat} {sv : Value} {pre w post v : List Nat} {d i len : Nat} (hi : pre.length = i) (hw : w.length = len) (hσ : σ K = some (.row sv 156 1 (u16s (pre ++ (w ++ post))) 0)) (hwv : len = v.length + 1) (hsz : (pre ++ (w ++ post)).length ≤ 1000000000) (lw : Lm w) (lv : Lm v) (hd : d < 65536) :
    ACall Tryz.prog 248 [.view K sv 1 i len, lim v, .v (.int .u32 (d : Int))] σ fun r σ' => ∃ (w' : List Nat) (b : Nat), r = .v (.bool (decide (0 < (b : Int)))) ∧ σ' = upd σ K (some (.row sv 156 1 (u16s (pre ++ (w' ++ post))) 0)) ∧ w'.length = len ∧ Lm w' ∧ b ≤ 1 ∧ nv w' + d * nv v = nv w + 65536 ^ len * b := by
  subst hi; subst hw
  exact natSubtract σ K sv pre w post v d hσ hwv hsz lw lv hd
theorem natRestore' {σ : Mem} {K : Nat} {sv : Value} {pre w post v : List Nat} {i len : Nat} (hi : pre.length = i) (hw : w.length = len) (hσ : σ K = some (.row sv 156 1 (u16s (pre ++ (w ++ post))) 0)) (hwv : v.length ≤ len) (hsz : (pre ++ (w ++ post)).length ≤ 1000000000) (lw : Lm w) (lv : Lm v) :
    ACall Tryz.prog 249 [.view K sv 1 i len, lim v] σ fun r σ' => ∃ (w' : List Nat) (c : Nat), r = .tup [] ∧ σ' = upd σ K (some (.row sv 156 1 (u16s (pre ++ (w' ++ post))) 0)) ∧ w'.length = len ∧ Lm w' ∧ c ≤ 1 ∧ nv w' + 65536 ^ len * c = nv w + nv v := by
  subst hi; subst hw
  exact natRestore σ K sv pre w post v hσ hwv hsz lw lv

/-- What holds of the row, the quotient's limbs and the two numbers, k digits being still to be found. -/
structure LongInv (U v q U' : List Nat) (k : Nat) : Prop where
  ql : q.length = U.length - v.length
  qL : Lm q
  qz : ∀ j, j < k → gN q j = 0
  ul : U'.length = U.length
  uL : Lm U'
  eq : nv U' + nv v * nv (q.drop k) * 65536 ^ k = nv U
  lt : nv (U'.drop k) < nv v
/-- One digit found. -/
theorem LongInv.step {U v q U' w'' : List Nat} {j n : Nat} (h : LongInv U v q U' (j + 1)) (hn : v.length = n) (lv : Lm v) (hj : j + n < U.length) (hw : w''.length = n + 1) (hwL : Lm w'')
    (hwv : nv w'' = nv ((U'.drop j).take (n + 1)) % nv v) (hd : nv ((U'.drop j).take (n + 1)) / nv v < 65536) :
    LongInv U v (q.set j (nv ((U'.drop j).take (n + 1)) / nv v)) (U'.take j ++ (w'' ++ U'.drop (j + n + 1))) j := by
  have hV : 0 < nv v := Nat.lt_of_le_of_lt (Nat.zero_le _) h.lt
  have hz := drop_zero lv hn h.lt
  rw [List.drop_drop, show j + 1 + n = j + n + 1 by omega] at hz
  have hql := h.ql
  have hul := h.ul
  have hlj : (U'.take j).length = j := by rw [List.length_take]; omega
  have hj1 : nv (U'.drop j) = nv ((U'.drop j).take (n + 1)) := by
    have := nv_split (U'.drop j) (n + 1)
    rw [List.drop_drop, show j + (n + 1) = j + n + 1 by omega, hz] at this
    omega
  have hw2 : nv (w'' ++ U'.drop (j + n + 1)) = nv w'' := by rw [nv_append, hz]; omega
  have hdr : nv ((U'.take j ++ (w'' ++ U'.drop (j + n + 1))).drop j) = nv w'' := by
    rw [List.drop_append_of_le_length (by omega), List.drop_eq_nil_of_le (by omega), List.nil_append, hw2]
  refine ⟨by simpa using hql, h.qL.set j hd, fun i hi => ?_, by simp; omega, (h.uL.take j).append (hwL.append (h.uL.drop _)), ?_, by rw [hdr, hwv]; exact Nat.mod_lt _ hV⟩
  · rw [gN_set (by omega), if_neg (by omega)]; exact h.qz i (by omega)
  · have h1 := h.eq
    have h2 := nv_split U' j
    have h3 := Nat.div_add_mod (nv ((U'.drop j).take (n + 1))) (nv v)
    rw [nv_append, hlj, hw2, hwv, nv_drop (q.set j _), gN_set (by omega), if_pos rfl, List.drop_set_of_lt (by omega)]
    rw [← h1, h2, hj1, Nat.mul_add, Nat.add_mul, Nat.pow_succ]
    generalize nv ((U'.drop j).take (n + 1)) = W at *
    generalize nv (q.drop (j + 1)) = Q at *
    have e1 : nv v * (W / nv v) * 65536 ^ j + 65536 ^ j * (W % nv v) = 65536 ^ j * W := by
      rw [Nat.mul_comm (nv v * (W / nv v)), ← Nat.mul_add, h3]
    have e2 : nv v * (65536 * Q) * 65536 ^ j = nv v * Q * (65536 ^ j * 65536) := by
      simp only [Nat.mul_assoc, Nat.mul_left_comm, Nat.mul_comm]
    omega

set_option maxHeartbeats 4000000 in
theorem natLong (σ : Mem) (sv : Value) (U post v : List Nat) (n : Nat) (hvn : v.length = n) (h44 : σ 44 = some (.row sv 156 1 (u16s (U ++ post)) 0)) (hn : 2 ≤ n) (hlen : n < U.length) (hsz : U.length + post.length ≤ 1000000000) (lU : Lm U) (lp : Lm post) (lv : Lm v)
    (hvt : 0 < gN v (n - 1)) (hlt : nv (U.drop (U.length - n)) < nv v) :
    ACall Tryz.prog 219 [.view 44 sv 1 0 U.length, lim v] σ fun r σ' => ∃ U' : List Nat, r = lim (toL (nv U / nv v)) ∧ σ' 44 = some (.row sv 156 1 (u16s (U' ++ post)) 0) ∧ U'.length = U.length ∧ Lm U' ∧ nv U' = nv U % nv v := by
  have hc : (U.length : Int) - (n : Int) = ((U.length - n : Nat) : Int) := by omega
  refine acall_inline (tok := 0) (rs := [.tmp 4]) Tryz.func219 rfl Tryz.ntmps219 Tryz.results219 Tryz.call219 (by rfl) (by simp) ?_
  (focus (refine wkvp (w_a hvn (w_a hc w_t)) w_t ?_; (repeat' first | exact w_t | apply w_l); all_goals intros))
  refine r_loopE (ι := Nat) (fun k e m => k ≤ U.length - n ∧ ∃ g2 g3 g5 g7 svo q U', (e 2 = .pbox 2 g2 0 ∧ e 3 = .pbox 3 g3 0 ∧ e 5 = .pbox 5 g5 0 ∧ e 6 = .own 18 svo ∧ e 7 = .pbox 7 g7 0) ∧ m 2 = some (.box g2 45 [.view 44 sv 1 0 U.length] false) ∧ m 3 = some (.box g3 45 [lim v] false) ∧ m 5 = some (.box g5 3 [.v (.int .i64 n)] false) ∧ m 7 = some (.box g7 3 [.v (.int .i64 ((k : Int) - 1))] false) ∧
    m 18 = some (.row svo 156 1 (u16s q) 0) ∧ m 44 = some (.row sv 156 1 (u16s (U' ++ post)) 0) ∧ LongInv U v q U' k) (fun k => k) (U.length - n) (by rfl) ?_ ?_
  · rintro k e m ⟨hk, g2, g3, g5, g7, svo, q, U', ⟨e2, e3, e5, e6, e7⟩, m2, m3, m5, m7, m18, m44, inv⟩
    have hql := inv.ql
    rw [hvn] at hql
    have hul := inv.ul
    rcases Nat.eq_zero_or_pos k with h0 | h0
    · subst h0
      have h1 := inv.eq
      have h2 := inv.lt
      rw [List.drop_zero] at h1 h2
      rw [Nat.pow_zero, Nat.mul_one] at h1
      have hq : nv U / nv v = nv q := by rw [← h1, Nat.add_comm, Nat.mul_add_div (by omega), Nat.div_eq_of_lt h2, Nat.add_zero]
      have hr : nv U' = nv U % nv v := by rw [← h1, Nat.add_comm, Nat.mul_add_mod, Nat.mod_eq_of_lt h2]
      (repeat' (first | (with_reducible first | refine stp ?_ | apply gx1 | apply gx2 | apply gx3 | apply gx4 | apply gx5 | apply gx6 | apply gx7 | apply gw1 (natTrim q (by omega) inv.qL)) | (with_reducible refine all_v ?_; intro _) | ((with_reducible refine gE ?_); (try simp (disch := omega) only [go_sem, e2, e3, e5, e6, e7, m2, m3, m5, m7, m18, m44]) <;> first | rfl | omega) | with_reducible refine t_in_other (by decide) ?_))
      simp (disch := omega) only [go_sem, hq]
      refine ⟨U', ?_, hul, inv.uL, hr⟩
      simp (disch := omega) only [go_sem, m44]
    · obtain ⟨j, rfl⟩ : ∃ j, k = j + 1 := ⟨k - 1, by omega⟩
      have ej : ((j + 1 : Nat) : Int) - 1 = (j : Int) := by omega
      rw [ej] at m7
      have g0 := gN_lt inv.uL (j + n)
      have g1 := gN_lt inv.uL (j + n - 1)
      have g2' := gN_lt inv.uL (j + n - 2)
      have gv1 := gN_lt lv (n - 1)
      have gv2 := gN_lt lv (n - 2)
      have hl : (U' ++ post).length = U'.length + post.length := List.length_append
      have x0 : gN (U' ++ post) (j + n) = gN U' (j + n) := gN_left (by omega)
      have x1 : gN (U' ++ post) (j + n - 1) = gN U' (j + n - 1) := gN_left (by omega)
      have ex1 : ((j + n : Nat) : Int) - 1 = ((j + n - 1 : Nat) : Int) := by omega
      have ex2 : (n : Int) - 1 = ((n - 1 : Nat) : Int) := by omega
      -- the segment
      have hwl : ((U'.drop j).take (n + 1)).length = n + 1 := by rw [List.length_take, List.length_drop]; omega
      have hwL : Lm ((U'.drop j).take (n + 1)) := (inv.uL.drop j).take _
      have wg : ∀ i, i ≤ n → gN ((U'.drop j).take (n + 1)) i = gN U' (j + i) := fun i hi => by rw [gN_take (by omega), gN_drop]
      have hW := nv_top3 hwl hn
      rw [wg n (Nat.le_refl _), wg (n - 1) (by omega), wg (n - 2) (by omega), show j + (n - 1) = j + n - 1 by omega, show j + (n - 2) = j + n - 2 by omega] at hW
      have hwl2 := nv_take_lt hwL (n - 2)
      have hVt := nv_top2 hvn hn
      have hvl2 := nv_take_lt lv (n - 2)
      have hV : 0 < nv v := Nat.lt_of_le_of_lt (Nat.zero_le _) inv.lt
      have htop : gN U' (j + n) ≤ gN v (n - 1) := by
        have := top_le (inv.uL.drop (j + 1)) lv hvn hn inv.lt
        rwa [gN_drop, show j + 1 + (n - 1) = j + n by omega] at this
      have hWV : nv ((U'.drop j).take (n + 1)) / nv v < 65536 := by
        rw [Nat.div_lt_iff_lt_mul hV]
        have h1 := nv_split (U'.drop j) (n + 1)
        have h2 := nv_drop U' j
        have h3 := inv.lt
        have h4 := gN_lt inv.uL j
        omega
      obtain ⟨high, hhigh⟩ : ∃ h, gN U' (j + n) * 65536 + gN U' (j + n - 1) = h := ⟨_, rfl⟩
      rw [hhigh] at hW
      have hinit := kn_init (Nat.pow_pos (by omega)) hVt hW hwl2 g2' hvt (Nat.div_mul_le_self (nv ((U'.drop j).take (n + 1))) (nv v))
      have hhd := Nat.div_add_mod high (gN v (n - 1))
      have hhr := Nat.mod_lt high hvt
      have hhq := Nat.div_le_self high (gN v (n - 1))
      rw [Nat.mul_comm] at hhd
      have hv1i : (gN v (n - 1) : Int) ≠ 0 := by omega
      have hq1 : (high : Int) / (gN v (n - 1) : Int) ≤ 4294967296 := by
        have : ((high / gN v (n - 1) : Nat) : Int) ≤ 4294967296 := by omega
        exact this
      have wq : IntKind.u64.wrap ((high / gN v (n - 1) : Nat) : Int) = ((high / gN v (n - 1) : Nat) : Int) := wrap_u64 (Int.natCast_nonneg _) (by omega)
      (repeat' (first | (with_reducible first | refine stp ?_ | apply gx1 | apply gx2 | apply gx3 | apply gx4 | apply gx5 | apply gx6 | apply gx7 | apply gy8 | apply gz2 | apply gz3) | (with_reducible refine all_v ?_; intro _) | ((with_reducible refine gE ?_); (try simp (disch := omega) only [go_sem, e2, e3, e5, e6, e7, m2, m3, m5, m7, m18, m44, hl, hul, hvn, x0, x1, ex1, ex2, hhigh, hv1i, add_nat, quo_nat, rem_nat, Nat.zero_add, wq]) <;> first | rfl | omega) | with_reducible refine t_in_other (by decide) ?_ | ((with_reducible apply gy1); iterate 3 focus rfl) | ((with_reducible apply gy2); iterate 3 focus rfl) | ((with_reducible apply gy3); iterate 2 focus rfl) | ((with_reducible apply gy4); iterate 1 focus rfl) | ((with_reducible apply gy5); iterate 4 focus rfl) | ((with_reducible apply gy5c); iterate 4 focus rfl) | ((with_reducible apply gy6); iterate 4 focus rfl) | ((with_reducible apply d_bar); iterate 3 focus rfl) | ((with_reducible apply q_pub); iterate 1 focus rfl) | ((with_reducible apply gy7); iterate 1 focus rfl) | ((with_reducible apply gy9); (focus ((with_reducible refine gE ?_); (try simp (disch := omega) only [go_sem, e2, e3, e5, e6, e7, m2, m3, m5, m7, m18, m44, hl, hul, hvn, x0, x1, ex1, ex2, hhigh, hv1i, add_nat, quo_nat, rem_nat, Nat.zero_add, wq]) <;> rfl))) | ((with_reducible apply gz1); (focus first | rfl | (simp (disch := omega) only [go_sem, e2, e3, e5, e6, e7, m2, m3, m5, m7, m18, m44, hl, hul, hvn, x0, x1, ex1, ex2, hhigh, hv1i, add_nat, quo_nat, rem_nat, Nat.zero_add, wq]; done))) | ((with_reducible apply r_drawD (pickR []) [] [9, 10]); (focus kernel_rfl); (focus rfl); (focus kernel_rfl); (focus (simp only [List.length_cons, List.length_nil, Nat.reduceAdd]; rfl)))))
      rename_i g9 g10
      have hlj : (U'.take j).length = j := by rw [List.length_take]; omega
      have hsplit : U' ++ post = U'.take j ++ ((U'.drop j).take (n + 1) ++ (U'.drop (j + n + 1) ++ post)) := by
        have e1 : U' = U'.take j ++ ((U'.drop j).take (n + 1) ++ U'.drop (j + n + 1)) := by
          rw [show j + n + 1 = j + (n + 1) by omega, ← List.drop_drop, List.take_append_drop, List.take_append_drop]
        rw [← List.append_assoc ((U'.drop j).take (n + 1)), ← List.append_assoc, ← e1]
      have esub : j + n + 1 - j = n + 1 := by omega
      obtain ⟨W, hWd⟩ : ∃ W, nv ((U'.drop j).take (n + 1)) = W := ⟨_, rfl⟩
      have hstep := fun (w'' : List Nat) hw hwL2 hwv => inv.step (w'' := w'') hvn lv (by omega) hw hwL2 hwv hWV
      rw [hWd] at hinit hWV hW hstep
      have hzz : ∀ d r, high = d * gN v (n - 1) + r → 65536 ≤ r → d < 65536 ∧ d * gN v (n - 2) ≤ r * 65536 + gN U' (j + n - 2) := by
        intro d r h1 h2
        have hd : d < 65536 := by
          rcases Nat.lt_or_ge d 65536 with h3 | h3
          · exact h3
          · exfalso
            have h4 : 65536 * gN v (n - 1) ≤ d * gN v (n - 1) := Nat.mul_le_mul_right _ h3
            omega
        have := mul_bd hd gv2
        omega
      refine r_loopE (ι := Nat) (fun d e' m' => (e' 2 = .pbox 2 g2 0 ∧ e' 3 = .pbox 3 g3 0 ∧ e' 5 = .pbox 5 g5 0 ∧ e' 6 = .own 18 svo ∧ e' 7 = .pbox 7 g7 0 ∧ e' 9 = .pbox 9 g9 0 ∧ e' 10 = .pbox 10 g10 0 ∧ e' 11 = .fn 247 [.pbox 9 g9 0, .pbox 3 g3 0, .pbox 5 g5 0, .pbox 10 g10 0, .pbox 2 g2 0, .pbox 7 g7 0]) ∧
        m' 2 = some (.box g2 45 [.view 44 sv 1 0 U.length] false) ∧ m' 3 = some (.box g3 45 [lim v] false) ∧ m' 5 = some (.box g5 3 [.v (.int .i64 n)] false) ∧ m' 7 = some (.box g7 3 [.v (.int .i64 (j : Int))] false) ∧ m' 18 = some (.row svo 156 1 (u16s q) 0) ∧ m' 44 = some (.row sv 156 1 (u16s (U' ++ post)) 0) ∧
        m' 9 = some (.box g9 115 [.v (.int .u64 (d : Int))] false) ∧ ∃ r : Nat, m' 10 = some (.box g10 115 [.v (.int .u64 (r : Int))] false) ∧ high = d * gN v (n - 1) + r ∧ W / nv v ≤ d ∧ d ≤ high ∧ r < 131072) (fun d => d) (high / gN v (n - 1)) (by rfl) ?_ ?_
      · rintro d e m ⟨⟨e2, e3, e5, e6, e7, e9, e10, e11⟩, m2, m3, m5, m7, m18, m44, m9, r, m10, hhi, hqd, hdh, hr2⟩
        have ct := fun hr => natTooGreat m sv g2 g3 g5 g7 g9 g10 U' post v d r j (by rw [hul]; exact m2) m3 (by rw [hvn]; exact m5) m7 m9 m10 m44 (by omega) (by omega) (by omega) lv inv.uL hr
        rw [hvn] at ct
        by_cases hgo : r < 65536 ∧ (65536 ≤ d ∨ r * 65536 + gN U' (j + n - 2) < d * gN v (n - 2))
        · obtain ⟨hr, ht⟩ := hgo
          have hb : (decide (65536 ≤ d) || decide (r * 65536 + gN U' (j + n - 2) < d * gN v (n - 2))) = true := by simpa using ht
          have hd1 : 1 ≤ d := by
            rcases Nat.eq_zero_or_pos d with h | h
            · subst h; omega
            · exact h
          have ed : (d : Int) - 1 = ((d - 1 : Nat) : Int) := by omega
          have hq2 : W / nv v ≤ d - 1 := by
            rcases ht with h | h
            · omega
            · have h1 := kn_step hVt hW hwl2 hhi h
              rw [← Nat.div_lt_iff_lt_mul hV] at h1
              omega
          have hh2 : high = (d - 1) * gN v (n - 1) + (r + gN v (n - 1)) := by
            obtain ⟨d', rfl⟩ : ∃ d', d = d' + 1 := ⟨d - 1, by omega⟩
            rw [Nat.add_sub_cancel, hhi, Nat.add_mul, Nat.one_mul]
            omega
          (repeat' (first | (with_reducible first | refine stp ?_ | apply gx1 | apply gx2 | apply gx3 | apply gx4 | apply gx5 | apply gx6 | apply gx7 | apply gy8 | apply gz2 | apply gz3 | refine o_lent (ct hr) ?_) | (with_reducible refine all_v ?_; intro _) | ((with_reducible refine gE ?_); (try simp (disch := omega) only [go_sem, e2, e3, e5, e6, e7, e9, e10, e11, m2, m3, m5, m7, m18, m44, m9, m10, hb, ed, ex2, hvn, add_nat]) <;> first | rfl | omega) | with_reducible refine t_in_other (by decide) ?_ | ((with_reducible apply gy1); iterate 3 focus rfl) | ((with_reducible apply gy2); iterate 3 focus rfl) | ((with_reducible apply gy3); iterate 2 focus rfl) | ((with_reducible apply gy4); iterate 1 focus rfl) | ((with_reducible apply gy5); iterate 4 focus rfl) | ((with_reducible apply gy5c); iterate 4 focus rfl) | ((with_reducible apply gy6); iterate 4 focus rfl) | ((with_reducible apply d_bar); iterate 3 focus rfl) | ((with_reducible apply q_pub); iterate 1 focus rfl) | ((with_reducible apply gy7); iterate 1 focus rfl) | ((with_reducible apply gy9); (focus ((with_reducible refine gE ?_); (try simp (disch := omega) only [go_sem, e2, e3, e5, e6, e7, e9, e10, e11, m2, m3, m5, m7, m18, m44, m9, m10, hb, ed, ex2, hvn, add_nat]) <;> rfl))) | ((with_reducible apply gz1); (focus first | rfl | (simp (disch := omega) only [go_sem, e2, e3, e5, e6, e7, e9, e10, e11, m2, m3, m5, m7, m18, m44, m9, m10, hb, ed, ex2, hvn, add_nat]; done))) | ((with_reducible apply r_drawD (pickR []) [8] []); (focus kernel_rfl); (focus rfl); (focus kernel_rfl); (focus (simp only [List.length_cons, List.length_nil, Nat.reduceAdd]; rfl)))))
          exact ⟨d - 1, ⟨⟨by exact gW e2, by exact gW e3, by exact gW e5, by exact gW e6, by exact gW e7, by exact gW e9, by exact gW e10, by exact gW e11⟩, by exact gW m2, by exact gW m3, by exact gW m5, by exact gW m7, by exact gW m18, by exact gW m44, by exact gC, _, by exact gC, hh2, hq2, by omega, by omega⟩, by omega⟩
        · obtain ⟨hd, hdv⟩ : d < 65536 ∧ d * gN v (n - 2) ≤ r * 65536 + gN U' (j + n - 2) := by
            rcases Nat.lt_or_ge r 65536 with h | h
            · have h2 : ¬ (65536 ≤ d ∨ r * 65536 + gN U' (j + n - 2) < d * gN v (n - 2)) := fun h2 => hgo ⟨h, h2⟩
              omega
            · exact hzz d r hhi h
          have hb : (decide (65536 ≤ d) || decide (r * 65536 + gN U' (j + n - 2) < d * gN v (n - 2))) = false := by
            rw [Bool.or_eq_false_iff, decide_eq_false_iff_not, decide_eq_false_iff_not]; omega
          have hnear := kn_near hV hqd (kn_exit hVt hvl2 hW hhi hvt hd hdv)
          have csub := natSubtract' (K := 44) (sv := sv) (σ := m) (post := U'.drop (j + n + 1) ++ post) (v := v) (d := d) hlj hwl (by rw [← hsplit]; exact m44) (by omega) (by rw [← hsplit]; omega) hwL lv hd
          rcases Nat.lt_or_ge r 65536 with hr | hr
          all_goals
            (repeat' (first | (with_reducible first | refine stp ?_ | apply gx1 | apply gx2 | apply gx3 | apply gx4 | apply gx5 | apply gx6 | apply gx7 | apply gy8 | apply gz2 | apply gz3 | refine o_lent (ct hr) ?_) | (with_reducible refine all_v ?_; intro _) | ((with_reducible refine gE ?_); (try simp (disch := omega) only [go_sem, e2, e3, e5, e6, e7, e9, e10, e11, m2, m3, m5, m7, m18, m44, m9, m10, hb, ex2, hvn, add_nat, cast_succ, esub, Nat.zero_add]) <;> first | rfl | omega) | with_reducible refine t_in_other (by decide) ?_ | ((with_reducible apply gy1); iterate 3 focus rfl) | ((with_reducible apply gy2); iterate 3 focus rfl) | ((with_reducible apply gy3); iterate 2 focus rfl) | ((with_reducible apply gy4); iterate 1 focus rfl) | ((with_reducible apply gy5); iterate 4 focus rfl) | ((with_reducible apply gy5c); iterate 4 focus rfl) | ((with_reducible apply gy6); iterate 4 focus rfl) | ((with_reducible apply d_bar); iterate 3 focus rfl) | ((with_reducible apply q_pub); iterate 1 focus rfl) | ((with_reducible apply gy7); iterate 1 focus rfl) | ((with_reducible apply gy9); (focus ((with_reducible refine gE ?_); (try simp (disch := omega) only [go_sem, e2, e3, e5, e6, e7, e9, e10, e11, m2, m3, m5, m7, m18, m44, m9, m10, hb, ex2, hvn, add_nat, cast_succ, esub, Nat.zero_add]) <;> rfl))) | ((with_reducible apply gz1); (focus first | rfl | (simp (disch := omega) only [go_sem, e2, e3, e5, e6, e7, e9, e10, e11, m2, m3, m5, m7, m18, m44, m9, m10, hb, ex2, hvn, add_nat, cast_succ, esub, Nat.zero_add]; done))) | ((with_reducible apply r_drawD (pickR []) [10] []); (focus kernel_rfl); (focus rfl); (focus kernel_rfl); (focus (simp only [List.length_cons, List.length_nil, Nat.reduceAdd]; rfl)))))
            refine o_acall csub ?_
            rintro _ _ ⟨w', b, rfl, rfl, hwl', hwL', hb1, heq⟩
            rw [hWd] at heq
            have hw'p : nv w' < 65536 ^ (n + 1) := by have := nv_lt hwL'; rwa [hwl'] at this
            have hcase := subDone hV hw'p hb1 heq hnear
            have ej2 : (j : Int) - 1 = (j : Int) - 1 := rfl
            rcases hcase with ⟨rfl, hdq, hwm⟩ | ⟨rfl, hdq⟩
            · have inv' := hstep w' hwl' hwL' hwm
              rw [← hdq] at inv'
              have hdm : d % 65536 = d := Nat.mod_eq_of_lt hd
              (repeat' (first | (with_reducible first | refine stp ?_ | apply gx1 | apply gx2 | apply gx3 | apply gx4 | apply gx5 | apply gx6 | apply gx7 | apply gy8 | apply gz2 | apply gz3) | (with_reducible refine all_v ?_; intro _) | ((with_reducible refine gE ?_); (try simp (disch := omega) only [go_sem, e2, e3, e5, e6, e7, e9, e10, e11, m2, m3, m5, m7, m18, m44, m9, m10, hql, cut_nat, hdm, Int.natCast_zero, Int.lt_irrefl]) <;> first | rfl | omega) | with_reducible refine t_in_other (by decide) ?_ | ((with_reducible apply gy1); iterate 3 focus rfl) | ((with_reducible apply gy2); iterate 3 focus rfl) | ((with_reducible apply gy3); iterate 2 focus rfl) | ((with_reducible apply gy4); iterate 1 focus rfl) | ((with_reducible apply gy5); iterate 4 focus rfl) | ((with_reducible apply gy5c); iterate 4 focus rfl) | ((with_reducible apply gy6); iterate 4 focus rfl) | ((with_reducible apply d_bar); iterate 3 focus rfl) | ((with_reducible apply q_pub); iterate 1 focus rfl) | ((with_reducible apply gy7); iterate 1 focus rfl) | ((with_reducible apply gy9); (focus ((with_reducible refine gE ?_); (try simp (disch := omega) only [go_sem, e2, e3, e5, e6, e7, e9, e10, e11, m2, m3, m5, m7, m18, m44, m9, m10, hql, cut_nat, hdm, Int.natCast_zero, Int.lt_irrefl]) <;> rfl))) | ((with_reducible apply gz1); (focus first | rfl | (simp (disch := omega) only [go_sem, e2, e3, e5, e6, e7, e9, e10, e11, m2, m3, m5, m7, m18, m44, m9, m10, hql, cut_nat, hdm, Int.natCast_zero, Int.lt_irrefl]; done))) | ((with_reducible apply r_drawD (pickR []) [10] []); (focus kernel_rfl); (focus rfl); (focus kernel_rfl); (focus (simp only [List.length_cons, List.length_nil, Nat.reduceAdd]; rfl)))))
              exact ⟨j, ⟨by omega, g2, g3, g5, _, svo, q.set j d, U'.take j ++ (w' ++ U'.drop (j + n + 1)), ⟨by exact gW e2, by exact gW e3, by exact gW e5, by exact gW e6, by exact gC⟩, by exact gW m2, by exact gW m3, by exact gW m5, by exact gC, by exact gC, by (simp (disch := omega) only [go_sem, List.append_assoc] <;> repeat' first | rfl | refine ⟨?_, ?_⟩), inv'⟩, by omega⟩
            · have crest := fun (σ : Mem) h => natRestore' (σ := σ) (K := 44) (sv := sv) (post := U'.drop (j + n + 1) ++ post) (v := v) hlj hwl' h (by omega) (by rw [hsplit] at hl; simp only [List.length_append] at hl ⊢; omega) hwL' lv
              have hd1 : 1 ≤ d := by rw [hdq]; exact Nat.le_add_left 1 _
              have ed : (d : Int) - 1 = ((d - 1 : Nat) : Int) := by omega
              have one : (0 : Int) < ((1 : Nat) : Int) := by omega
              (repeat' (first | (with_reducible first | refine stp ?_ | apply gx1 | apply gx2 | apply gx3 | apply gx4 | apply gx5 | apply gx6 | apply gx7 | apply gy8 | apply gz2 | apply gz3) | (with_reducible refine all_v ?_; intro _) | ((with_reducible refine gE ?_); (try simp (disch := omega) only [go_sem, e2, e3, e5, e6, e7, e9, e10, e11, m2, m3, m5, m7, m18, m44, m9, m10, ed, one, add_nat, cast_succ, esub, Nat.zero_add]) <;> first | rfl | omega) | with_reducible refine t_in_other (by decide) ?_ | ((with_reducible apply gy1); iterate 3 focus rfl) | ((with_reducible apply gy2); iterate 3 focus rfl) | ((with_reducible apply gy3); iterate 2 focus rfl) | ((with_reducible apply gy4); iterate 1 focus rfl) | ((with_reducible apply gy5); iterate 4 focus rfl) | ((with_reducible apply gy5c); iterate 4 focus rfl) | ((with_reducible apply gy6); iterate 4 focus rfl) | ((with_reducible apply d_bar); iterate 3 focus rfl) | ((with_reducible apply q_pub); iterate 1 focus rfl) | ((with_reducible apply gy7); iterate 1 focus rfl) | ((with_reducible apply gy9); (focus ((with_reducible refine gE ?_); (try simp (disch := omega) only [go_sem, e2, e3, e5, e6, e7, e9, e10, e11, m2, m3, m5, m7, m18, m44, m9, m10, ed, one, add_nat, cast_succ, esub, Nat.zero_add]) <;> rfl))) | ((with_reducible apply gz1); (focus first | rfl | (simp (disch := omega) only [go_sem, e2, e3, e5, e6, e7, e9, e10, e11, m2, m3, m5, m7, m18, m44, m9, m10, ed, one, add_nat, cast_succ, esub, Nat.zero_add]; done))) | ((with_reducible apply r_drawD (pickR []) [8] []); (focus kernel_rfl); (focus rfl); (focus kernel_rfl); (focus (simp only [List.length_cons, List.length_nil, Nat.reduceAdd]; rfl)))))
              refine o_acall (crest _ (by exact gC)) ?_
              rintro _ _ ⟨w'', c, rfl, rfl, hwl'', hwL'', hc1, heq2⟩
              have hw''p : nv w'' < 65536 ^ (n + 1) := by have := nv_lt hwL''; rwa [hwl''] at this
              have hVp : nv v ≤ 65536 ^ (n + 1) := by
                have h1 := nv_lt lv
                rw [hvn] at h1
                have h2 : 65536 ^ n ≤ 65536 ^ (n + 1) := Nat.pow_le_pow_right (by omega) (by omega)
                omega
              have hwm := resDone hV hVp hw''p hc1 (by rw [← hdq]; exact heq) heq2
              have inv' := hstep w'' hwl'' hwL'' hwm
              have hdq2 : d - 1 = W / nv v := by rw [hdq, Nat.add_sub_cancel]
              rw [← hdq2] at inv'
              have hdm : (d - 1) % 65536 = d - 1 := Nat.mod_eq_of_lt (by omega)
              (focus (refine wkvd (w_a e2 (w_a e3 (w_a e5 (w_a e6 (w_a e7 (w_a e9 (w_a e10 (w_a e11 (w_a m2 (w_a m3 (w_a m5 (w_a m7 (w_a m18 (w_a m44 (w_a m9 (w_a m10 (w_a hql (w_a @cut_nat (w_a hdm w_t))))))))))))))))))) w_t w_t ?_; (repeat' first | exact w_t | apply w_l); all_goals intros))
              exact ⟨j, ⟨by omega, g2, g3, g5, _, svo, q.set j (d - 1), U'.take j ++ (w'' ++ U'.drop (j + n + 1)), ⟨by exact gW e2, by exact gW e3, by exact gW e5, by exact gW e6, by exact gC⟩, by exact gW m2, by exact gW m3, by exact gW m5, by exact gC, by exact gC, by (simp (disch := omega) only [go_sem, List.append_assoc] <;> repeat' first | rfl | refine ⟨?_, ?_⟩), inv'⟩, by omega⟩
      · exact ⟨⟨by exact gW e2, by exact gW e3, by exact gW e5, by exact gW e6, by exact gW e7, by exact gC, by exact gC, by exact gC⟩, by exact gW m2, by exact gW m3, by exact gW m5, by exact gW m7, by exact gW m18, by exact gW m44, by exact gC, _, by exact gC, by omega, hinit, by omega, by omega⟩
  · refine ⟨Nat.le_refl _, _, _, _, _, _, List.replicate (U.length - n) 0, U, ⟨by exact gC, by exact gC, by exact gC, by exact gC, by exact gC⟩, by exact gC, by exact gC, by exact gC, by exact gC, by exact gC, by exact gW h44, ⟨by rw [hvn]; simp, Lm.zeros _, fun _ _ => gN_zeros _ _, rfl, lU, ?_, hlt⟩⟩
    rw [List.drop_eq_nil_of_le (by simp)]
    simp [nv]
end Go.Proofs.YteiopjkamgmfpaaGreatDoor
end

section
namespace Go.Proofs.YteiopjkamgmfpaaGreatDoor
open Go Go.RowKit Go.Pg
set_option linter.unusedSimpArgs false
set_option linter.unusedVariables false
set_option maxRecDepth 20000
attribute [local go_sem] Tryz.underlying45 Tryz.underlying3 Tryz.underlying156 Tryz.underlying202 Tryz.underlying115 Tryz.underlying21 Tryz.underlying5 sz3 by3 z3 szL byL zL
attribute [-bool_to_prop] Bool.and_eq_decide Bool.or_eq_decide Bool.decide_beq_decide decide_eq_decide

theorem len8_lt (i : Nat) : i < 2 ^ len8 i := by
  unfold len8
  split
  · rename_i h; subst h; decide
  · exact Nat.lt_log2_self
theorem len16_lt (x : Nat) : x < 2 ^ len16 x := by
  unfold len16
  split
  · have := len8_lt (x / 256)
    rw [Nat.pow_add]
    have e : (2 : Nat) ^ 8 = 256 := rfl
    omega
  · exact len8_lt x
theorem u16s_two (a : List Nat) : u16s a ++ [.v (.int .u16 0), .v (.int .u16 0)] = u16s (a ++ [0, 0]) := by simp [u16s]
theorem Wk.three {a a' b b' c : AV} (h1 : Wk a a') (h2 : Wk b b') : Wk (.tup [a, b, c]) (.tup [a', b', c]) := by
  refine .tup _ _ rfl fun j x y h3 h4 => ?_
  match j with
  | 0 => simp at h3 h4; subst h3; subst h4; exact h1
  | 1 => simp at h3 h4; subst h3; subst h4; exact h2
  | 2 => simp at h3 h4; subst h3; subst h4; exact .refl _
  | j + 3 => simp at h3

/-- The length of a shifted divisor. -/
theorem shifted_len {b s n : Nat} (h0 : b ≠ 0) (hn : (toL b).length = n) (hs : s = 16 - len16 (gN (toL b) (n - 1))) : (toL (b * 2 ^ s)).length = n := by
  have h1 := (toL_top h0).1
  have ht := gN_lt (lm_toL b) (n - 1)
  have hbd := len16_bd ht
  have hlt := len16_lt (gN (toL b) (n - 1))
  have hp := Nat.two_pow_pos s
  have h3 : (toL b).length ≤ (toL (b * 2 ^ s)).length := toL_len_mono (Nat.le_mul_of_pos_right _ hp)
  have h4 : (toL (b * 2 ^ s)).length ≤ n := by
    rw [toL_len_lt]
    have h5 := nv_split (toL b) (n - 1)
    rw [nv_toL, nv_drop, show n - 1 + 1 = n by omega, List.drop_eq_nil_of_le (by omega)] at h5
    simp only [nv, Nat.mul_zero, Nat.add_zero] at h5
    have h6 := nv_take_lt (lm_toL b) (n - 1)
    generalize gN (toL b) (n - 1) = t at *
    have h7 : b < 65536 ^ (n - 1) * 2 ^ len16 t := by
      have h10 : 65536 ^ (n - 1) * (t + 1) ≤ 65536 ^ (n - 1) * 2 ^ len16 t := Nat.mul_le_mul_left _ hlt
      rw [Nat.mul_add, Nat.mul_one] at h10
      omega
    have h8 : b * 2 ^ s < 65536 ^ (n - 1) * 2 ^ len16 t * 2 ^ s := Nat.mul_lt_mul_of_pos_right h7 hp
    have h9 : 2 ^ len16 t * 2 ^ s = 65536 := by
      rw [← Nat.pow_add, hs, show len16 t + (16 - len16 t) = 16 by omega]
    rw [Nat.mul_assoc, h9, ← Nat.pow_succ, Nat.succ_eq_add_one, show n - 1 + 1 = n by omega] at h8
    exact h8
  omega

set_option maxHeartbeats 2000000 in
theorem natDivMod (a b : List Nat) (ha : a.length ≤ 200000000) (hb : b.length ≤ 200000000) (la : Lm a) (lb : Lm b) (h0 : nv b ≠ 0) : Pure Tryz.prog 177 [lim a, lim b] (.tup [lim (toL (nv a / nv b)), lim (toL (nv a % nv b)), .v (.int .i64 0)]) := by
  have h1 := toL_len_le la
  have h2 := toL_len_le lb
  have va := nv_toL (nv a)
  have vb := nv_toL (nv b)
  have ma := lm_toL (nv a)
  have mb := lm_toL (nv b)
  obtain ⟨hb1, hb2⟩ := toL_top h0
  have cc := natCmp (toL (nv a)) (toL (nv b)) (by omega) (by omega) ma mb
  rw [va, vb] at cc
  by_cases hlt : nv a < nv b
  · rw [show toL (nv a / nv b) = [] by rw [Nat.div_eq_of_lt hlt, toL_zero], Nat.mod_eq_of_lt hlt]
    refine Pure.wk ?_ (Wk.three (.nil 1) (.refl _))
    have hcm : cmpN (nv a) (nv b) = -1 := if_pos hlt
    have cn := natNorm (toL (nv a)) (by omega) ma
    rw [va] at cn
    refine pure_intro (tok := 0) (rs := [.tmp 4, .tmp 5, .tmp 6]) Tryz.func177 rfl Tryz.ntmps177 Tryz.results177 Tryz.call177 (by rfl) (by simp) ?_
    (focus (refine wkvp (w_a hcm w_t) (w_a (natTrim a (by omega) la) (w_a (natTrim b (by omega) lb) (w_a cc (w_a cn w_t)))) ?_; (repeat' first | exact w_t | apply w_l); all_goals intros))
    simp (disch := omega) only [go_sem]
  · have hcm : 0 ≤ cmpN (nv a) (nv b) := by unfold cmpN; rw [if_neg hlt]; split <;> omega
    by_cases hone : (toL (nv b)).length = 1
    · have e0 : nv b = gN (toL (nv b)) 0 := by
        have := nv_split (toL (nv b)) 0
        rw [nv_drop, List.drop_eq_nil_of_le (by omega), vb] at this
        simpa [nv] using this
      have gb := gN_lt mb 0
      have cb := natByLimb (toL (nv a)) (gN (toL (nv b)) 0) (by omega) ma (by omega) gb
      rw [va, ← e0] at cb
      have hr := Nat.mod_lt (nv a) (Nat.pos_of_ne_zero h0)
      have co := natOf (nv a % nv b) (by omega)
      refine pure_intro (tok := 0) (rs := [.tmp 4, .tmp 5, .tmp 6]) Tryz.func177 rfl Tryz.ntmps177 Tryz.results177 Tryz.call177 (by rfl) (by simp) ?_
      have wr : IntKind.u64.wrap ((nv a % nv b : Nat) : Int) = ((nv a % nv b : Nat) : Int) := wrap_u64 (Int.natCast_nonneg _) (by omega)
      (repeat' (first | (with_reducible first | refine stp ?_ | apply gx1 | apply gx2 | apply gx3 | apply gx4 | apply gx5 | apply gx6 | apply gx7 | refine gw0 (natTrim a (by omega) la) ?_ ?_ | refine gw0 (natTrim b (by omega) lb) ?_ ?_ | refine gw0 (cc) ?_ ?_ | refine gw0 (cb) ?_ ?_ | refine gw0 (co) ?_ ?_) | (with_reducible refine all_v ?_; intro _) | ((with_reducible refine gE ?_); (try simp (disch := omega) only [go_sem, hone, ← e0, wr]) <;> first | rfl | omega) | with_reducible refine t_in_other (by decide) ?_))
      simp (disch := omega) only [go_sem]
    · -- the long road
      obtain ⟨n, hn⟩ : ∃ n, (toL (nv b)).length = n := ⟨_, rfl⟩
      rw [hn] at hb1 hb2 hone h2
      have ht := gN_lt mb (n - 1)
      have hbd := len16_bd ht
      obtain ⟨s, hs⟩ : ∃ s, 16 - len16 (gN (toL (nv b)) (n - 1)) = s := ⟨_, rfl⟩
      have hs15 : s ≤ 15 := by omega
      have hvl := shifted_len h0 hn hs.symm
      have ha0 : nv a ≠ 0 := by omega
      have hab : n ≤ (toL (nv a)).length := by rw [← hn]; exact toL_len_mono (by omega)
      have clz := bitsLz16 (gN (toL (nv b)) (n - 1)) ht
      rw [hs] at clz
      have en : (n : Int) - 1 = ((n - 1 : Nat) : Int) := by omega
      have hp := Nat.two_pow_pos s
      obtain ⟨A, hA⟩ : ∃ A, toL (nv a) = A := ⟨_, rfl⟩
      rw [hA] at va ma h1 hab cc
      have hVlen : A.length ≤ (toL (nv a * 2 ^ s)).length := by rw [← hA]; exact toL_len_mono (Nat.le_mul_of_pos_right _ hp)
      have hV2 : nv a * 2 ^ s < 65536 ^ (A.length + 1) := by
        have h3 := nv_lt ma
        rw [va] at h3
        have h4 : (2 : Nat) ^ s ≤ 2 ^ 16 := Nat.pow_le_pow_right (by omega) (by omega)
        rw [Nat.pow_succ]
        exact Nat.lt_of_lt_of_le (Nat.mul_lt_mul_of_pos_right h3 hp) (Nat.mul_le_mul_left _ h4)
      have hVlen2 : (toL (nv a * 2 ^ s)).length ≤ A.length + 1 := toL_len_lt.2 hV2
      have hdl : nv a * 2 ^ s / 65536 ^ (A.length + 1 - n) < nv b * 2 ^ s := by
        rw [Nat.div_lt_iff_lt_mul (Nat.pow_pos (by omega))]
        have h3 := nv_lt ma
        rw [va] at h3
        have h5 : 65536 ^ (n - 1) ≤ nv b := by
          rcases Nat.lt_or_ge (nv b) (65536 ^ (n - 1)) with h | h
          · have := toL_len_lt.2 h
            omega
          · exact h
        have h6 : 65536 ^ A.length = 65536 ^ (n - 1) * 65536 ^ (A.length + 1 - n) := by rw [← Nat.pow_add]; congr 1; omega
        have h7 : 65536 ^ (n - 1) * 65536 ^ (A.length + 1 - n) ≤ nv b * 65536 ^ (A.length + 1 - n) := Nat.mul_le_mul_right _ h5
        have h8 : nv a < nv b * 65536 ^ (A.length + 1 - n) := by omega
        have h9 := Nat.mul_lt_mul_of_pos_right h8 hp
        rwa [Nat.mul_right_comm] at h9
      have qe : nv a * 2 ^ s / (nv b * 2 ^ s) = nv a / nv b := Nat.mul_div_mul_right _ _ hp
      have re : nv a * 2 ^ s % (nv b * 2 ^ s) = (nv a % nv b) * 2 ^ s := Nat.mul_mod_mul_right _ _ _
      have cv := natShl (toL (nv b)) s (by omega) mb (by omega)
      rw [vb] at cv
      refine pure_intro (tok := 0) (rs := [.tmp 4, .tmp 5, .tmp 6]) Tryz.func177 rfl Tryz.ntmps177 Tryz.results177 Tryz.call177 (by rfl) (by simp) ?_
      (focus (refine wkvp (w_a hn (w_a hA (w_a en w_t))) (w_a (natTrim a (by omega) la) (w_a (natTrim b (by omega) lb) (w_a cc (w_a clz w_t)))) ?_; (repeat' first | exact w_t | apply w_l); all_goals intros))
      refine o_acall (natShlOwn _ A s (by omega) ma (by omega) (by rw [va]; exact ha0)) ?_
      rintro _ _ ⟨sv, o, rfl, rfl, hol, hLo, hov⟩
      rw [va] at hov
      rw [va]
      have hlen := toL_len_le hLo
      rw [hov] at hlen
      obtain ⟨L, hL⟩ : ∃ L, o.take (toL (nv a * 2 ^ s)).length ++ [0, 0] = L := ⟨_, rfl⟩
      have hLl : L.length = (toL (nv a * 2 ^ s)).length + 2 := by rw [← hL, List.length_append, List.length_take]; simp; omega
      have hot : o.take (toL (nv a * 2 ^ s)).length = toL (nv a * 2 ^ s) := by
        obtain ⟨k, h3, h4⟩ := toL_take hLo
        rw [hov] at h4
        have h5 : k = (toL (nv a * 2 ^ s)).length := by rw [← h4, List.length_take]; omega
        rw [← h5, h4]
      have hLn : nv L = nv a * 2 ^ s := by rw [← hL, hot, nv_append, nv_toL]; simp [nv]
      have hLL : Lm L := by rw [← hL, hot]; exact (lm_toL _).append fun y hy => by simp at hy; omega
      have hes : u16s o = u16s o := rfl
      have e3 : ((A.length : Nat) : Int) + 1 = ((A.length + 1 : Nat) : Int) := by omega
      (repeat' (first | (with_reducible first | refine stp ?_ | apply gx1 | apply gx2 | apply gx3 | apply gx4 | apply gx5 | apply gx6 | apply gx7 | refine gw0 (cv) ?_ ?_) | (with_reducible refine all_v ?_; intro _) | ((with_reducible refine gE ?_); (try simp (disch := omega) only [go_sem, hol, u16s_two, hL, hLl, e3, ← hvl]) <;> first | rfl | omega) | with_reducible refine t_in_other (by decide) ?_))
      have hUl : (L.take (A.length + 1)).length = A.length + 1 := by rw [List.length_take]; omega
      have hUn : nv (L.take (A.length + 1)) = nv a * 2 ^ s := by
        have h3 := nv_split L (A.length + 1)
        rw [hLn] at h3
        rcases Nat.eq_zero_or_pos (nv (L.drop (A.length + 1))) with h4 | h4
        · rw [h4, Nat.mul_zero, Nat.add_zero] at h3; exact h3.symm
        · have := Nat.le_mul_of_pos_right (65536 ^ (A.length + 1)) h4
          omega
      rename_i sv2 sv'
      have vn : nv (toL (nv b * 2 ^ s)) = nv b * 2 ^ s := nv_toL _
      have hb20 : nv b * 2 ^ s ≠ 0 := by
        have := Nat.mul_pos (Nat.pos_of_ne_zero h0) hp
        omega
      have htop := (toL_top hb20).2
      rw [hvl] at htop
      have hTD : (L.take (A.length + 1)) ++ (L.drop (A.length + 1)) = L := List.take_append_drop _ _
      have clong := fun (σ : Mem) h44 => natLong σ sv' (L.take (A.length + 1)) (L.drop (A.length + 1)) (toL (nv b * 2 ^ s)) n hvl h44 (by omega) (by rw [hUl]; omega) (by rw [hUl, List.length_drop]; omega) (hLL.take _) (hLL.drop _) (lm_toL _) htop
        (by rw [hUl, ← nv_div (hLL.take _), hUn, vn]; exact hdl)
      rw [hUl, hUn, vn, qe, re] at clong
      refine o_acall (clong _ (by rw [hTD]; (simp (disch := omega) only [go_sem, u16s_two, hL] <;> repeat' first | rfl | refine ⟨?_, ?_⟩))) ?_
      rintro _ σ' ⟨U', rfl, h44', hUl', hUL', hUn'⟩
      have ct := natTrim U' (by omega) hUL'
      rw [hUn'] at ct
      have htk : (U' ++ L.drop (A.length + 1)).take (A.length + 1) = U' := by rw [← hUl']; exact List.take_left
      rcases Nat.eq_zero_or_pos s with hs0 | hs0
      · subst hs0
        have cr := natShl (toL ((nv a % nv b) * 2 ^ 0)) 0 (by have := toL_len_le hUL'; rw [hUn'] at this; omega) (lm_toL _) (by omega)
        rw [nv_toL, Nat.pow_zero, Nat.mul_one, Nat.mul_one] at cr
        rw [Nat.pow_zero, Nat.mul_one] at ct
        have ez : (0 : Int) - ((0 : Nat) : Int) = ((0 : Nat) : Int) := by omega
        (repeat' (first | (with_reducible first | refine stp ?_ | apply gx1 | apply gx2 | apply gx3 | apply gx4 | apply gx5 | apply gx6 | apply gx7 | apply gw1 (ct) | refine gw0 (cr) ?_ ?_) | (with_reducible refine all_v ?_; intro _) | ((with_reducible refine gE ?_); (try simp (disch := omega) only [go_sem, h44', htk, Nat.zero_add, Nat.sub_zero, List.drop_zero, ez]) <;> first | rfl | omega) | with_reducible refine t_in_other (by decide) ?_))
        simp (disch := omega) only [go_sem]
      · have cr := natShr (toL ((nv a % nv b) * 2 ^ s)) s (by have := toL_len_le hUL'; rw [hUn'] at this; omega) (lm_toL _) hs0 (by omega)
        rw [nv_toL, Nat.mul_div_cancel _ hp] at cr
        have ez : (0 : Int) - (s : Int) = -(s : Int) := by omega
        (repeat' (first | (with_reducible first | refine stp ?_ | apply gx1 | apply gx2 | apply gx3 | apply gx4 | apply gx5 | apply gx6 | apply gx7 | apply gw1 (ct) | refine gw0 (cr) ?_ ?_) | (with_reducible refine all_v ?_; intro _) | ((with_reducible refine gE ?_); (try simp (disch := omega) only [go_sem, h44', htk, Nat.zero_add, Nat.sub_zero, List.drop_zero, ez]) <;> first | rfl | omega) | with_reducible refine t_in_other (by decide) ?_))
        simp (disch := omega) only [go_sem]

end Go.Proofs.YteiopjkamgmfpaaGreatDoor
end

section
namespace Go.Proofs.YteiopjkamgmfpaaGreatDoor
open Go Go.RowKit Go.Pg
set_option linter.unusedSimpArgs false
set_option linter.unusedVariables false
set_option maxRecDepth 20000
attribute [local go_sem] Tryz.underlying45 Tryz.underlying3 Tryz.underlying156 Tryz.underlying202 Tryz.underlying115 Tryz.underlying21 Tryz.underlying5 sz3 by3 z3 szL byL zL
attribute [-bool_to_prop] Bool.and_eq_decide Bool.or_eq_decide Bool.decide_beq_decide decide_eq_decide

set_option maxHeartbeats 1000000 in
theorem natGcd (a b : List Nat) (ha : a.length ≤ 200000000) (hb : b.length ≤ 200000000) (la : Lm a) (lb : Lm b) : Pure Tryz.prog 117 [lim a, lim b] (lim (toL (Nat.gcd (nv a) (nv b)))) := by
  have h1 := toL_len_le la
  have h2 := toL_len_le lb
  have cu : ∀ x : Nat, (toL x).length ≤ 200000000 → Pure Tryz.prog 176 [lim (toL x)] (.tup [.v (.int .u64 (if x < 18446744073709551616 then (x : Int) else 0)), .v (.bool (decide (x < 18446744073709551616)))]) := by
    intro x hx
    have := natUint (toL x) (by omega) (lm_toL x)
    rwa [nv_toL] at this
  have cd : ∀ x y : Nat, (toL x).length ≤ 200000000 → (toL y).length ≤ 200000000 → y ≠ 0 → Pure Tryz.prog 177 [lim (toL x), lim (toL y)] (.tup [lim (toL (x / y)), lim (toL (x % y)), .v (.int .i64 0)]) := by
    intro x y hx hy h0
    have := natDivMod (toL x) (toL y) hx hy (lm_toL x) (lm_toL y) (by rw [nv_toL]; exact h0)
    rwa [nv_toL, nv_toL] at this
  refine pure_intro (tok := 0) (rs := [.tmp 4]) Tryz.func117 rfl Tryz.ntmps117 Tryz.results117 Tryz.call117 (by rfl) (by simp) ?_
  (focus (refine wkvp w_t (w_a (natNorm a (by omega) la) (w_a (natNorm b (by omega) lb) w_t)) ?_; (repeat' first | exact w_t | apply w_l); all_goals intros))
  refine r_loopE (ι := Nat) (fun y e m => ∃ x, (e 0 = lim (toL x) ∧ e 1 = lim (toL y)) ∧ (toL x).length ≤ 200000000 ∧ (toL y).length ≤ 200000000 ∧ Nat.gcd x y = Nat.gcd (nv a) (nv b)) (fun y => y) (nv b) (by rfl) ?_ ?_
  · rintro y e m ⟨x, ⟨e0, e1⟩, hx, hy, hg⟩
    rcases Nat.eq_zero_or_pos y with h0 | h0
    · subst h0
      have hl := toL_len_zero.2 (rfl : (0 : Nat) = 0)
      rw [Nat.gcd_zero_right] at hg
      (focus (refine wkvp (w_a e0 (w_a e1 (w_a hl w_t))) w_t ?_; (repeat' first | exact w_t | apply w_l); all_goals intros))
      simp (disch := omega) only [go_sem, hg]
    · have hl : 0 < (toL y).length := by
        have := (toL_top (show y ≠ 0 by omega)).1
        omega
      by_cases hs : x < 18446744073709551616 ∧ y < 18446744073709551616
      · obtain ⟨hsx, hsy⟩ := hs
        have dx : decide (x < 18446744073709551616) = true := decide_eq_true hsx
        have dy : decide (y < 18446744073709551616) = true := decide_eq_true hsy
        (repeat' (first | (with_reducible first | refine stp ?_ | apply gx1 | apply gx2 | apply gx3 | apply gx4 | apply gx5 | apply gx6 | apply gx7 | refine gw0 (cu x hx) ?_ ?_ | refine gw0 (cu y hy) ?_ ?_) | (with_reducible refine all_v ?_; intro _) | ((with_reducible refine gE ?_); (try simp (disch := omega) only [go_sem, e0, e1, if_pos hsx, if_pos hsy, dx, dy]) <;> first | rfl | omega) | with_reducible refine t_in_other (by decide) ?_))
        refine r_loopE (ι := Nat) (fun Y e m => ∃ X : Nat, (e 5 = .v (.int .u64 (X : Int)) ∧ e 7 = .v (.int .u64 (Y : Int))) ∧ X < 18446744073709551616 ∧ Y < 18446744073709551616 ∧ Nat.gcd X Y = Nat.gcd (nv a) (nv b)) (fun Y => Y) y (by rfl) ?_ ?_
        · rintro Y e m ⟨X, ⟨e5, e7⟩, hX, hY, hg2⟩
          rcases Nat.eq_zero_or_pos Y with h3 | h3
          · subst h3
            rw [Nat.gcd_zero_right] at hg2
            have co := natOf X hX
            rw [hg2] at co
            rw [hg2] at e5
            (focus (refine wkvp (w_a e5 (w_a e7 (w_a @Int.natCast_zero w_t))) (w_a co w_t) ?_; (repeat' first | exact w_t | apply w_l); all_goals intros))
            simp (disch := omega) only [go_sem]
          · have hn : (Y : Int) ≠ 0 := by omega
            have hm := Nat.mod_lt X h3
            (focus (refine wkvd (w_a e5 (w_a e7 (w_a @rem_nat (w_a hn w_t)))) w_t w_t ?_; (repeat' first | exact w_t | apply w_l); all_goals intros))
            exact ⟨X % Y, ⟨Y, ⟨by exact gC, by exact gC⟩, hY, by omega, by rw [← hg2, Nat.gcd_comm X Y, Nat.gcd_rec Y X, Nat.gcd_comm]⟩, hm⟩
        · exact ⟨x, ⟨by exact gC, by exact gC⟩, hsx, hsy, hg⟩
      · have hm := Nat.mod_lt x h0
        have hml : (toL (x % y)).length ≤ 200000000 := Nat.le_trans (toL_len_mono (Nat.le_of_lt hm)) hy
        have hdd : (decide (x < 18446744073709551616) && decide (y < 18446744073709551616)) = false := by
          rw [Bool.and_eq_false_iff, decide_eq_false_iff_not, decide_eq_false_iff_not]
          omega
        have hgg : Nat.gcd y (x % y) = Nat.gcd (nv a) (nv b) := by rw [← hg, Nat.gcd_comm x y, Nat.gcd_rec y x, Nat.gcd_comm]
        by_cases hsx : x < 18446744073709551616
        · have hsy : ¬ y < 18446744073709551616 := fun h => hs ⟨hsx, h⟩
          have dx : decide (x < 18446744073709551616) = true := decide_eq_true hsx
          have dy : decide (y < 18446744073709551616) = false := decide_eq_false hsy
          (repeat' (first | (with_reducible first | refine stp ?_ | apply gx1 | apply gx2 | apply gx3 | apply gx4 | apply gx5 | apply gx6 | apply gx7 | refine gw0 (cu x hx) ?_ ?_ | refine gw0 (cu y hy) ?_ ?_ | refine gw0 (cd x y hx hy (by omega)) ?_ ?_) | (with_reducible refine all_v ?_; intro _) | ((with_reducible refine gE ?_); (try simp (disch := omega) only [go_sem, e0, e1, if_pos hsx, if_neg hsy, dx, dy]) <;> first | rfl | omega) | with_reducible refine t_in_other (by decide) ?_))
          exact ⟨x % y, ⟨y, ⟨by exact gW e1, by exact gC⟩, hy, hml, hgg⟩, hm⟩
        · have dx : decide (x < 18446744073709551616) = false := decide_eq_false hsx
          by_cases hsy : y < 18446744073709551616
          · have dy : decide (y < 18446744073709551616) = true := decide_eq_true hsy
            (repeat' (first | (with_reducible first | refine stp ?_ | apply gx1 | apply gx2 | apply gx3 | apply gx4 | apply gx5 | apply gx6 | apply gx7 | refine gw0 (cu x hx) ?_ ?_ | refine gw0 (cu y hy) ?_ ?_ | refine gw0 (cd x y hx hy (by omega)) ?_ ?_) | (with_reducible refine all_v ?_; intro _) | ((with_reducible refine gE ?_); (try simp (disch := omega) only [go_sem, e0, e1, if_neg hsx, if_pos hsy, dx, dy]) <;> first | rfl | omega) | with_reducible refine t_in_other (by decide) ?_))
            exact ⟨x % y, ⟨y, ⟨by exact gW e1, by exact gC⟩, hy, hml, hgg⟩, hm⟩
          · have dy : decide (y < 18446744073709551616) = false := decide_eq_false hsy
            (repeat' (first | (with_reducible first | refine stp ?_ | apply gx1 | apply gx2 | apply gx3 | apply gx4 | apply gx5 | apply gx6 | apply gx7 | refine gw0 (cu x hx) ?_ ?_ | refine gw0 (cu y hy) ?_ ?_ | refine gw0 (cd x y hx hy (by omega)) ?_ ?_) | (with_reducible refine all_v ?_; intro _) | ((with_reducible refine gE ?_); (try simp (disch := omega) only [go_sem, e0, e1, if_neg hsx, if_neg hsy, dx, dy]) <;> first | rfl | omega) | with_reducible refine t_in_other (by decide) ?_))
            exact ⟨x % y, ⟨y, ⟨by exact gW e1, by exact gC⟩, hy, hml, hgg⟩, hm⟩
  · exact ⟨nv a, ⟨by exact gC, by exact gC⟩, by omega, by omega, rfl⟩
end Go.Proofs.YteiopjkamgmfpaaGreatDoor
end

section
namespace Go.Proofs.YteiopjkamgmfpaaGreatDoor
open Go Go.RowKit Go.Pg
set_option linter.unusedSimpArgs false
set_option linter.unusedVariables false
set_option maxRecDepth 20000
attribute [local go_sem] Tryz.underlying45 Tryz.underlying3 Tryz.underlying156 Tryz.underlying202 Tryz.underlying115 Tryz.underlying21 Tryz.underlying5 sz3 by3 z3 szL byL zL
attribute [-bool_to_prop] Bool.and_eq_decide Bool.or_eq_decide Bool.decide_beq_decide decide_eq_decide

theorem refNorm (l : List Nat) (hs : l.length ≤ 1000000000) (hl : Lm l) : Pure Tryz.prog 140 [lim l] (lim (toL (nv l))) := by
  refine pure_intro (tok := 0) (rs := [.tmp 2]) Tryz.func140 rfl Tryz.ntmps140 Tryz.results140 Tryz.call140 (by rfl) (by simp) ?_
  (focus (refine wkvp w_t w_t ?_; (repeat' first | exact w_t | apply w_l); all_goals intros))
  refine r_loopE (ι := Nat) (fun k e m => k ≤ l.length ∧ e 0 = lim l ∧ e 3 = .v (.int .i64 (k : Int)) ∧ ∀ j, k ≤ j → gN l j = 0) (fun k => k) l.length (by rfl) ?_ ?_
  · rintro k e m ⟨hk, e0, e3, hz⟩
    have gl := gN_lt hl (k - 1)
    have hln : (l.take k).length = k := by rw [List.length_take]; omega
    by_cases h0 : k = 0
    · subst h0
      have := nv_trim hl hk hz (.inl rfl)
      (focus (refine wkvp (w_a e0 (w_a e3 (w_a @l_drop0 w_t))) w_t ?_; (repeat' first | exact w_t | apply w_l); all_goals intros))
      simp (disch := omega) only [go_sem]
      rw [← this]; rfl
    · by_cases h1 : gN l (k - 1) = 0
      · (focus (refine wkvp (w_a e0 (w_a e3 w_t)) w_t ?_; (repeat' first | exact w_t | apply w_l); all_goals intros))
        exact ⟨k - 1, ⟨by omega, by exact gW e0, by (simp (disch := omega) only [go_sem, e3]; congr 2; omega), fun j hj => by
          rcases Nat.lt_or_ge j k with h2 | h2
          · rw [show j = k - 1 by omega]; exact h1
          · exact hz j h2⟩, by omega⟩
      · have := nv_trim hl hk hz (.inr (by omega))
        (focus (refine wkvp (w_a e0 (w_a e3 (w_a @l_drop0 (w_a hln w_t)))) w_t ?_; (repeat' first | exact w_t | apply w_l); all_goals intros))
        simp (disch := omega) only [go_sem, this]
  · exact ⟨Nat.le_refl _, by exact gC, by exact gC, fun j hj => gN_out hj⟩

theorem refOf (n : Nat) (hn : n < 18446744073709551616) : Pure Tryz.prog 78 [.v (.int .u64 (n : Int))] (lim (toL n)) := by
  have b1 := (toL_len_lt (n := n) (k := 4)).2 hn
  refine pure_intro (tok := 0) (rs := [.tmp 2]) Tryz.func78 rfl Tryz.ntmps78 Tryz.results78 Tryz.call78 (by rfl) (by simp) ?_
  (focus (refine wkvp w_t w_t ?_; (repeat' first | exact w_t | apply w_l); all_goals intros))
  refine r_frz (Frz.nilOwn (d := 3) 11 1 156 (by exact gC)) ?_
  refine r_loopE (ι := Nat) (fun k e m => k ≤ n ∧ e 0 = .v (.int .u64 (k : Int)) ∧ ∃ sv l, e 3 = .own 11 sv ∧ m 11 = some (.row sv 156 1 (u16s l) 0) ∧ l ++ toL k = toL n) (fun k => k) n (by rfl) ?_ ?_
  · rintro k e m ⟨hk, e0, sv, l, e3, em, hl⟩
    by_cases hk0 : k = 0
    · subst hk0
      rw [toL_zero, List.append_nil] at hl
      (focus (refine wkvp (w_a e0 (w_a e3 (w_a @Int.natCast_zero w_t))) w_t ?_; (repeat' first | exact w_t | apply w_l); all_goals intros))
      simp (disch := omega) only [go_sem, em, hl]
    · have b2 : l.length ≤ (toL n).length := by rw [← hl]; simp
      have hne : k ≠ 0 := hk0
      have r1 : (k : Int).tmod 65536 = ((k % 65536 : Nat) : Int) := rem_nat k 65536
      have r2 : (k : Int).tdiv 65536 = ((k / 65536 : Nat) : Int) := quo_nat k 65536
      have r3 : k % 65536 % 65536 = k % 65536 := Nat.mod_mod _ _
      (focus (refine wkvp (w_a e0 (w_a e3 (w_a em (w_a r1 (w_a r2 (w_a @cut_nat (w_a r3 w_t))))))) w_t ?_; (repeat' first | exact w_t | apply w_l); all_goals intros))
      refine ⟨k / 65536, ⟨by omega, by exact gW e0, _, l ++ [k % 65536], by exact gC, by exact gC, ?_⟩, by omega⟩
      rw [← hl, toL_pos hk0]; simp
  · exact ⟨Nat.le_refl _, by exact gC, _, [], by exact gC, by exact gC, by simp⟩

theorem refShort (l : List Nat) (hs : l.length ≤ 4) (hl : Lm l) : Pure Tryz.prog 194 [lim l] (.v (.int .u64 (nv l : Nat))) := by
  refine pure_intro (tok := 0) (rs := [.tmp 2]) Tryz.func194 rfl Tryz.ntmps194 Tryz.results194 Tryz.call194 (by rfl) (by simp) ?_
  (focus (refine wkvp w_t w_t ?_; (repeat' first | exact w_t | apply w_l); all_goals intros))
  refine r_loopE (ι := Nat) (fun k e m => k ≤ l.length ∧ e 0 = lim l ∧ e 4 = .v (.int .i64 ((k : Int) - 1)) ∧ e 3 = .v (.int .u64 (nv (l.drop k) : Nat))) (fun k => k) l.length (by rfl) ?_ ?_
  · rintro k e m ⟨hk, e0, e4, e3⟩
    by_cases h0 : k = 0
    · subst h0
      rw [List.drop_zero] at e3
      (focus (refine wkvp (w_a e0 (w_a e4 (w_a e3 w_t))) w_t ?_; (repeat' first | exact w_t | apply w_l); all_goals intros))
      simp (disch := omega) only [go_sem]
    · have gl := gN_lt hl (k - 1)
      have b1 := nv_lt (hl.drop k)
      have b2 : 65536 ^ (l.drop k).length ≤ 65536 ^ 3 := Nat.pow_le_pow_right (by omega) (by rw [List.length_drop]; omega)
      have e1 : (nv (l.drop k) : Int) * 65536 = ((nv (l.drop k) * 65536 : Nat) : Int) := by omega
      (focus (refine wkvp (w_a e0 (w_a e4 (w_a e3 (w_a e1 (w_a @add_nat w_t))))) w_t ?_; (repeat' first | exact w_t | apply w_l); all_goals intros))
      refine ⟨k - 1, ⟨by omega, by exact gW e0, by (simp (disch := omega) only [go_sem, e4]; congr 2; omega), ?_⟩, by omega⟩
      simp (disch := omega) only [go_sem]
      rw [nv_drop l (k - 1), show k - 1 + 1 = k by omega]
      congr 3; omega
  · exact ⟨Nat.le_refl _, by exact gC, by exact gC, by (simp (disch := omega) only [go_sem, List.drop_length] <;> repeat' first | rfl | refine ⟨?_, ?_⟩)⟩

theorem refLimb (l : List Nat) (i : Nat) (hs : l.length ≤ 1000000000) (hl : Lm l) : Pure Tryz.prog 193 [lim l, .v (.int .i64 (i : Int))] (.v (.int .i64 (gN l i : Nat))) := by
  have gl := gN_lt hl i
  refine pure_intro (tok := 0) (rs := [.tmp 4]) Tryz.func193 rfl Tryz.ntmps193 Tryz.results193 Tryz.call193 (by rfl) (by simp) ?_
  by_cases h : i < l.length
  · (focus (refine wkvp w_t w_t ?_; (repeat' first | exact w_t | apply w_l); all_goals intros))
    simp (disch := omega) only [go_sem]
  · have g0 : gN l i = 0 := gN_out (by omega)
    (focus (refine wkvp w_t w_t ?_; (repeat' first | exact w_t | apply w_l); all_goals intros))
    simp (disch := omega) only [go_sem, g0]; rfl

theorem refCmp (a b : List Nat) (ha : a.length ≤ 1000000000) (hb : b.length ≤ 1000000000) (la : Lm a) (lb : Lm b) : Pure Tryz.prog 198 [lim a, lim b] (.v (.int .i64 (cmpN (nv a) (nv b)))) := by
  have cl := fun i => refLimb a i ha la
  have cr := fun i => refLimb b i hb lb
  refine pure_intro (tok := 0) (rs := [.tmp 4]) Tryz.func198 rfl Tryz.ntmps198 Tryz.results198 Tryz.call198 (by rfl) (by simp) ?_
  have hmx : max (a.length : Int) (b.length : Int) = ((max a.length b.length : Nat) : Int) := by omega
  obtain ⟨M, hM⟩ : ∃ M, max a.length b.length = M := ⟨_, rfl⟩
  (focus (refine wkvp (w_a hmx (w_a hM w_t)) w_t ?_; (repeat' first | exact w_t | apply w_l); all_goals intros))
  refine r_loopE (ι := Nat) (fun k e m => k ≤ M ∧ e 0 = lim a ∧ e 1 = lim b ∧ e 5 = .v (.int .i64 ((k : Int) - 1)) ∧ nv (a.drop k) = nv (b.drop k)) (fun k => k) M (by rfl) ?_ ?_
  · rintro k e m ⟨hk, e0, e1, e5, hz⟩
    by_cases h0 : k = 0
    · subst h0
      rw [List.drop_zero, List.drop_zero] at hz
      (focus (refine wkvp (w_a e0 (w_a e1 (w_a e5 w_t))) w_t ?_; (repeat' first | exact w_t | apply w_l); all_goals intros))
      simp (disch := omega) only [go_sem, cmpN, hz, Nat.lt_irrefl, if_false]
    · obtain ⟨j, rfl⟩ : ∃ j, k = j + 1 := ⟨k - 1, by omega⟩
      have ej : ((j + 1 : Nat) : Int) - 1 = (j : Int) := by omega
      rw [ej] at e5
      have ga := gN_lt la j
      have gb := gN_lt lb j
      by_cases p1 : gN a j < gN b j
      · have := nv_cmp la lb hz p1
        (focus (refine wkvp (w_a e0 (w_a e1 (w_a e5 w_t))) (w_a (cl j) (w_a (cr j) w_t)) ?_; (repeat' first | exact w_t | apply w_l); all_goals intros))
        simp (disch := omega) only [go_sem, cmpN, if_pos this]
      · by_cases p2 : gN b j < gN a j
        · have := nv_cmp lb la hz.symm p2
          have this2 : ¬ nv a < nv b := by omega
          (focus (refine wkvp (w_a e0 (w_a e1 (w_a e5 w_t))) (w_a (cl j) (w_a (cr j) w_t)) ?_; (repeat' first | exact w_t | apply w_l); all_goals intros))
          simp (disch := omega) only [go_sem, cmpN, if_pos this, if_neg this2]
        · (focus (refine wkvp (w_a e0 (w_a e1 (w_a e5 w_t))) (w_a (cl j) (w_a (cr j) w_t)) ?_; (repeat' first | exact w_t | apply w_l); all_goals intros))
          refine ⟨j, ⟨by omega, by exact gW e0, by exact gW e1, by exact gW e5, ?_⟩, by omega⟩
          rw [nv_drop, nv_drop b, hz]
          omega
  · refine ⟨Nat.le_refl _, by exact gC, by exact gC, by exact gC, ?_⟩
    rw [List.drop_eq_nil_of_le (by omega), List.drop_eq_nil_of_le (by omega)]

set_option maxHeartbeats 1000000 in
theorem refAdd (a b : List Nat) (ha : a.length ≤ 400000000) (hb : b.length ≤ 400000000) (la : Lm a) (lb : Lm b) : Pure Tryz.prog 144 [lim a, lim b] (lim (toL (nv a + nv b))) := by
  have cl := fun i => refLimb a i (by omega) la
  have cr := fun i => refLimb b i (by omega) lb
  refine pure_intro (tok := 0) (rs := [.tmp 4]) Tryz.func144 rfl Tryz.ntmps144 Tryz.results144 Tryz.call144 (by rfl) (by simp) ?_
  (focus (refine wkvp w_t w_t ?_; (repeat' first | exact w_t | apply w_l); all_goals intros))
  refine r_frz (Frz.nilOwn (d := 5) 39 1 156 (by exact gC)) ?_
  refine r_loopE (ι := Nat) (fun k e m => k ≤ max a.length b.length + 1 ∧ (e 0 = lim a ∧ e 1 = lim b ∧ e 7 = .v (.int .i64 (k : Int))) ∧ ∃ sv o c, (e 5 = .own 39 sv ∧ e 6 = .v (.int .i64 (c : Nat)) ∧ m 39 = some (.row sv 156 1 (u16s o) 0)) ∧ o.length = k ∧ Lm o ∧ c ≤ 1 ∧ (max a.length b.length < k → c = 0) ∧ nv o + 65536 ^ k * c = nv (a.take k) + nv (b.take k)) (fun k => max a.length b.length + 1 - k) 0 (by rfl) ?_ ?_
  · rintro k e m ⟨hk, ⟨e0, e1, e7⟩, sv, o, c, ⟨e5, e6, em⟩, hol, hLo, hc, hcz, hv⟩
    by_cases hgo : k < a.length ∨ k < b.length ∨ 0 < c
    · have ga := gN_lt la k
      have gb := gN_lt lb k
      have hs := add_step (x := gN a k) (y := gN b k) hv
      rw [← nv_take_succ, ← nv_take_succ, ← Nat.pow_succ] at hs
      have ecomm : gN a k + gN b k + c = c + gN a k + gN b k := by omega
      have w1 : (c + gN a k + gN b k) / 65536 ≤ 1 := by omega
      have w2 : (c + gN a k + gN b k) % 65536 < 65536 := Nat.mod_lt _ (by omega)
      have r1 : ((c + gN a k + gN b k : Nat) : Int).tmod 65536 = (((c + gN a k + gN b k) % 65536 : Nat) : Int) := rem_nat _ 65536
      have r2 : ((c + gN a k + gN b k : Nat) : Int).tdiv 65536 = (((c + gN a k + gN b k) / 65536 : Nat) : Int) := quo_nat _ 65536
      have r3 : (c + gN a k + gN b k) % 65536 % 65536 = (c + gN a k + gN b k) % 65536 := Nat.mod_mod _ _
      have nvs : nv (o ++ [(c + gN a k + gN b k) % 65536]) = nv o + 65536 ^ k * ((c + gN a k + gN b k) % 65536) := by rw [nv_append, hol]; simp [nv]
      rw [← nvs] at hs
      have hz2 : max a.length b.length < k + 1 → (c + gN a k + gN b k) / 65536 = 0 := by
        intro h
        have g1 : gN a k = 0 := gN_out (by omega)
        have g2 : gN b k = 0 := gN_out (by omega)
        omega
      have hkm : k ≤ max a.length b.length := by omega
      have fin := fun (sv : Value) (e : Nat → AV) (m : Mem) (h1 : e 0 = lim a ∧ e 1 = lim b ∧ e 7 = .v (.int .i64 ((k + 1 : Nat) : Int))) (h2 : e 5 = .own 39 sv ∧ e 6 = .v (.int .i64 ((c + gN a k + gN b k) / 65536 : Nat)) ∧ m 39 = some (.row sv 156 1 (u16s (o ++ [(c + gN a k + gN b k) % 65536])) 0)) =>
        show ∃ k', (k' ≤ max a.length b.length + 1 ∧ (e 0 = lim a ∧ e 1 = lim b ∧ e 7 = .v (.int .i64 (k' : Int))) ∧ ∃ sv o c, (e 5 = .own 39 sv ∧ e 6 = .v (.int .i64 (c : Nat)) ∧ m 39 = some (.row sv 156 1 (u16s o) 0)) ∧ o.length = k' ∧ Lm o ∧ c ≤ 1 ∧ (max a.length b.length < k' → c = 0) ∧ nv o + 65536 ^ k' * c = nv (a.take k') + nv (b.take k')) ∧ max a.length b.length + 1 - k' < max a.length b.length + 1 - k from
        ⟨k + 1, ⟨by omega, h1, sv, _, _, h2, by simp [hol], hLo.append (Lm.one w2), w1, hz2, hs⟩, by omega⟩
      by_cases h3 : k < a.length
      · (focus (refine wkvp (w_a e0 (w_a e1 (w_a e7 (w_a e5 (w_a e6 (w_a em (w_a hol (w_a @u16s_len (w_a @add_nat (w_a ecomm (w_a r1 (w_a r2 (w_a r3 (w_a @cut_nat w_t)))))))))))))) (w_a (cl k) (w_a (cr k) w_t)) ?_; (repeat' first | exact w_t | apply w_l); all_goals intros))
        exact fin _ _ _ ⟨by exact gW e0, by exact gW e1, by exact gS⟩ ⟨by exact gC, by exact gC, by exact gC⟩
      · by_cases h4 : k < b.length
        · (focus (refine wkvp (w_a e0 (w_a e1 (w_a e7 (w_a e5 (w_a e6 (w_a em (w_a hol (w_a @u16s_len (w_a @add_nat (w_a ecomm (w_a r1 (w_a r2 (w_a r3 (w_a @cut_nat w_t)))))))))))))) (w_a (cl k) (w_a (cr k) w_t)) ?_; (repeat' first | exact w_t | apply w_l); all_goals intros))
          exact fin _ _ _ ⟨by exact gW e0, by exact gW e1, by exact gS⟩ ⟨by exact gC, by exact gC, by exact gC⟩
        · have hc1 : 0 < c := by omega
          (focus (refine wkvp (w_a e0 (w_a e1 (w_a e7 (w_a e5 (w_a e6 (w_a em (w_a hol (w_a @u16s_len (w_a @add_nat (w_a ecomm (w_a r1 (w_a r2 (w_a r3 (w_a @cut_nat w_t)))))))))))))) (w_a (cl k) (w_a (cr k) w_t)) ?_; (repeat' first | exact w_t | apply w_l); all_goals intros))
          exact fin _ _ _ ⟨by exact gW e0, by exact gW e1, by exact gS⟩ ⟨by exact gC, by exact gC, by exact gC⟩
    · have hc0 : c = 0 := by omega
      subst hc0
      rw [take_all (by omega), take_all (by omega), Nat.mul_zero, Nat.add_zero] at hv
      (repeat' (first | (with_reducible first | refine stp ?_ | apply gx1 | apply gx2 | apply gx3 | apply gx4 | apply gx5 | apply gx6 | apply gx7 | apply gw1 (refNorm o (by omega) hLo)) | (with_reducible refine all_v ?_; intro _) | ((with_reducible refine gE ?_); (try simp (disch := omega) only [go_sem, e0, e1, e7, e5, e6, em]) <;> first | rfl | omega) | with_reducible refine t_in_other (by decide) ?_))
      simp (disch := omega) only [go_sem, hv]
  · exact ⟨by omega, ⟨by exact gC, by exact gC, by exact gC⟩, _, [], 0, ⟨by exact gC, by exact gC, by exact gC⟩, rfl, Lm.nil, by omega, fun _ => rfl, by simp [nv]⟩
end Go.Proofs.YteiopjkamgmfpaaGreatDoor
end

section
namespace Go.Proofs.YteiopjkamgmfpaaGreatDoor
open Go Go.RowKit Go.Pg
set_option linter.unusedSimpArgs false
set_option linter.unusedVariables false
set_option maxRecDepth 20000
attribute [local go_sem] Tryz.underlying45 Tryz.underlying3 Tryz.underlying156 Tryz.underlying202 Tryz.underlying115 Tryz.underlying21 Tryz.underlying5 sz3 by3 z3 szL byL zL
attribute [-bool_to_prop] Bool.and_eq_decide Bool.or_eq_decide Bool.decide_beq_decide decide_eq_decide

set_option maxHeartbeats 1000000 in
theorem refSub (a b : List Nat) (ha : a.length ≤ 1000000000) (hb : b.length ≤ 1000000000) (la : Lm a) (lb : Lm b) :
    Pure Tryz.prog 196 [lim a, lim b] (.tup [lim (if nv a < nv b then [] else toL (nv a - nv b)), .v (.int .i64 (if nv a < nv b then 2 else 0))]) := by
  have cl := fun i => refLimb a i ha la
  have cr := fun i => refLimb b i hb lb
  have cc := refCmp a b ha hb la lb
  by_cases hlt : nv a < nv b
  · rw [if_pos hlt, if_pos hlt]
    refine Pure.wk ?_ (okTup rfl)
    refine pure_intro (tok := 0) (rs := [.tmp 4, .tmp 5]) Tryz.func196 rfl Tryz.ntmps196 Tryz.results196 Tryz.call196 (by rfl) (by simp) ?_
    have hc : cmpN (nv a) (nv b) = -1 := by unfold cmpN; rw [if_pos hlt]
    (focus (refine wkvp (w_a hc w_t) (w_a cc w_t) ?_; (repeat' first | exact w_t | apply w_l); all_goals intros))
    simp (disch := omega) only [go_sem]
  · rw [if_neg hlt, if_neg hlt]
    have hc : 0 ≤ cmpN (nv a) (nv b) := by unfold cmpN; rw [if_neg hlt]; split <;> omega
    refine pure_intro (tok := 0) (rs := [.tmp 4, .tmp 5]) Tryz.func196 rfl Tryz.ntmps196 Tryz.results196 Tryz.call196 (by rfl) (by simp) ?_
    (focus (refine wkvp w_t (w_a cc w_t) ?_; (repeat' first | exact w_t | apply w_l); all_goals intros))
    refine r_frz (Frz.nilOwn (d := 6) 37 1 156 (by exact gC)) ?_
    refine r_loopE (ι := Nat) (fun k e m => k ≤ a.length ∧ (e 0 = lim a ∧ e 1 = lim b ∧ e 8 = .v (.int .i64 (k : Int))) ∧ ∃ sv o r, (e 6 = .own 37 sv ∧ e 7 = .v (.int .i64 (r : Nat)) ∧ m 37 = some (.row sv 156 1 (u16s o) 0)) ∧ o.length = k ∧ Lm o ∧ r ≤ 1 ∧ nv o + nv (b.take k) = nv (a.take k) + 65536 ^ k * r) (fun k => a.length - k) 0 (by rfl) ?_ ?_
    · rintro k e m ⟨hk, ⟨e0, e1, e8⟩, sv, o, r, ⟨e6, e7, em⟩, hol, hLo, hr, hv⟩
      have ga := gN_lt la k
      have gb := gN_lt lb k
      by_cases hlt2 : k < a.length
      · have step : ∀ (d r' : Nat), d + r + gN b k = gN a k + 65536 * r' → d < 65536 → r' ≤ 1 → (o ++ [d]).length = k + 1 ∧ Lm (o ++ [d]) ∧ r' ≤ 1 ∧ nv (o ++ [d]) + nv (b.take (k + 1)) = nv (a.take (k + 1)) + 65536 ^ (k + 1) * r' := by
          intro d r' hd h3 h4
          have := sub_step hv hd
          have nvs : nv (o ++ [d]) = nv o + 65536 ^ k * d := by rw [nv_append, hol]; simp [nv]
          rw [nvs, nv_take_succ, nv_take_succ, Nat.pow_succ]
          exact ⟨by simp [hol], hLo.append (Lm.one h3), h4, this⟩
        by_cases hneg : gN a k < gN b k + r
        · have hs := step (gN a k + 65536 - gN b k - r) 1 (by omega) (by omega) (by omega)
          have w : (gN a k : Int) - gN b k - r + 65536 = ((gN a k + 65536 - gN b k - r : Nat) : Int) := by omega
          (focus (refine wkvp (w_a e0 (w_a e1 (w_a e8 (w_a e6 (w_a e7 (w_a em (w_a hol (w_a w w_t)))))))) (w_a (cl k) (w_a (cr k) w_t)) ?_; (repeat' first | exact w_t | apply w_l); all_goals intros))
          exact ⟨k + 1, ⟨by omega, ⟨by exact gW e0, by exact gW e1, by exact gV e8⟩, _, _, 1, ⟨by exact gC, by exact gC, by exact gC⟩, hs⟩, by omega⟩
        · have hs := step (gN a k - gN b k - r) 0 (by omega) (by omega) (by omega)
          have w : (gN a k : Int) - gN b k - r = ((gN a k - gN b k - r : Nat) : Int) := by omega
          (focus (refine wkvp (w_a e0 (w_a e1 (w_a e8 (w_a e6 (w_a e7 (w_a em (w_a hol (w_a w w_t)))))))) (w_a (cl k) (w_a (cr k) w_t)) ?_; (repeat' first | exact w_t | apply w_l); all_goals intros))
          exact ⟨k + 1, ⟨by omega, ⟨by exact gW e0, by exact gW e1, by exact gV e8⟩, _, _, 0, ⟨by exact gC, by exact gC, by exact gC⟩, hs⟩, by omega⟩
      · have hka : k = a.length := by omega
        have hbs := nv_split b k
        have hno := nv_lt hLo
        rw [hol] at hno
        rw [take_all (l := a) (by omega)] at hv
        have hno2 : nv o = nv a - nv b := by
          have hbd : nv (b.drop k) = 0 := by
            rcases Nat.eq_zero_or_pos (nv (b.drop k)) with h3 | h3
            · exact h3
            · have h4 := Nat.le_mul_of_pos_right (65536 ^ k) h3
              have h5 := nv_lt la
              rw [← hka] at h5
              omega
          rw [hbd, Nat.mul_zero, Nat.add_zero] at hbs
          have hr0 : r = 0 := by
            rcases Nat.eq_zero_or_pos r with h3 | h3
            · exact h3
            · have : r = 1 := by omega
              subst this
              omega
          subst hr0
          omega
        (repeat' (first | (with_reducible first | refine stp ?_ | apply gx1 | apply gx2 | apply gx3 | apply gx4 | apply gx5 | apply gx6 | apply gx7 | apply gw1 (refNorm o (by omega) hLo)) | (with_reducible refine all_v ?_; intro _) | ((with_reducible refine gE ?_); (try simp (disch := omega) only [go_sem, e0, e1, e8, e6, e7, em]) <;> first | rfl | omega) | with_reducible refine t_in_other (by decide) ?_))
        simp (disch := omega) only [go_sem, hno2]
    · exact ⟨Nat.zero_le _, ⟨by exact gC, by exact gC, by exact gC⟩, _, [], 0, ⟨by exact gC, by exact gC, by exact gC⟩, rfl, Lm.nil, by omega, by simp [nv]⟩

/-- No leading zeros. -/
def valL (l : List Nat) : Bool := decide (l.length = 0) || !decide (gN l (l.length - 1) = 0)
theorem valL_iff {l : List Nat} (h : Lm l) : valL l = true ↔ l = toL (nv l) := by
  unfold valL
  constructor
  · intro h1
    refine canon h ?_
    simp only [Bool.or_eq_true, decide_eq_true_eq, Bool.not_eq_true', decide_eq_false_iff_not] at h1
    rcases h1 with h1 | h1
    · exact .inl (List.eq_nil_of_length_eq_zero h1)
    · exact .inr (by omega)
  · intro h1
    by_cases h0 : nv l = 0
    · rw [h0, toL_zero] at h1; subst h1; rfl
    · obtain ⟨h2, h3⟩ := toL_top h0
      rw [← h1] at h2 h3
      simp only [Bool.or_eq_true, decide_eq_true_eq, Bool.not_eq_true', decide_eq_false_iff_not]
      exact .inr (by omega)
theorem refValid (l : List Nat) (hs : l.length ≤ 1000000000) (hl : Lm l) : Pure Tryz.prog 105 [lim l] (.v (.bool (valL l))) := by
  refine pure_intro (tok := 0) (rs := [.tmp 2]) Tryz.func105 rfl Tryz.ntmps105 Tryz.results105 Tryz.call105 (by rfl) (by simp) ?_
  have gl := gN_lt hl (l.length - 1)
  unfold valL
  by_cases h0 : l.length = 0
  · (focus (refine wkvp (w_a h0 w_t) w_t ?_; (repeat' first | exact w_t | apply w_l); all_goals intros))
    simp (disch := omega) only [go_sem, h0]
  · by_cases h1 : gN l (l.length - 1) = 0
    · (focus (refine wkvp (w_a h1 (w_a @Int.natCast_zero w_t)) w_t ?_; (repeat' first | exact w_t | apply w_l); all_goals intros))
      simp (disch := omega) only [go_sem, h0, h1]
    · (focus (refine wkvp w_t w_t ?_; (repeat' first | exact w_t | apply w_l); all_goals intros))
      simp (disch := omega) only [go_sem, h0, h1]

theorem refSameN (a b : List Nat) (ha : a.length ≤ 1000000000) (hb : b.length ≤ 1000000000) (la : Lm a) (lb : Lm b) : Pure Tryz.prog 106 [lim a, lim b] (.v (.bool (decide (a = b)))) := by
  refine pure_intro (tok := 0) (rs := [.tmp 4]) Tryz.func106 rfl Tryz.ntmps106 Tryz.results106 Tryz.call106 (by rfl) (by simp) ?_
  by_cases hl : a.length = b.length
  · (focus (refine wkvp (w_a hl w_t) w_t ?_; (repeat' first | exact w_t | apply w_l); all_goals intros))
    refine r_loopE (ι := Nat) (fun k e m => k ≤ a.length ∧ (e 0 = lim a ∧ e 1 = lim b ∧ e 5 = .v (.int .i64 (k : Int))) ∧ ∀ j, j < k → gN a j = gN b j) (fun k => a.length - k) 0 (by rfl) ?_ ?_
    · rintro k e m ⟨hk, ⟨e0, e1, e5⟩, hs⟩
      by_cases hlt : k < a.length
      · by_cases p : gN a k = gN b k
        · (focus (refine wkvd (w_a e0 (w_a e1 (w_a e5 w_t))) w_t w_t ?_; (repeat' first | exact w_t | apply w_l); all_goals intros))
          exact ⟨k + 1, ⟨by omega, ⟨by exact gW e0, by exact gW e1, by exact gV e5⟩, fun j hj => by
            rcases Nat.lt_or_ge j k with h1 | h1
            · exact hs j h1
            · rw [show j = k by omega]; exact p⟩, by omega⟩
        · have hne : decide (a = b) = false := decide_eq_false fun h => p (by rw [h])
          (focus (refine wkvd (w_a e0 (w_a e1 (w_a e5 w_t))) w_t w_t ?_; (repeat' first | exact w_t | apply w_l); all_goals intros))
          simp (disch := omega) only [go_sem, hne]
      · have he : decide (a = b) = true := decide_eq_true (List.ext_getElem hl fun j h1 h2 => by
          have := hs j (by omega)
          rwa [gN_at h1, gN_at h2] at this)
        (focus (refine wkvd (w_a e0 (w_a e1 (w_a e5 w_t))) w_t w_t ?_; (repeat' first | exact w_t | apply w_l); all_goals intros))
        simp (disch := omega) only [go_sem, he]
    · exact ⟨Nat.zero_le _, ⟨by exact gC, by exact gC, by exact gC⟩, fun j hj => by omega⟩
  · have hne : decide (a = b) = false := decide_eq_false fun h => hl (by rw [h])
    (focus (refine wkvp w_t w_t ?_; (repeat' first | exact w_t | apply w_l); all_goals intros))
    simp (disch := omega) only [go_sem, hne]

set_option maxHeartbeats 1000000 in
theorem refMul (a b : List Nat) (ha : a.length ≤ 400000000) (hb : b.length ≤ 400000000) (la : Lm a) (lb : Lm b) : Pure Tryz.prog 134 [lim a, lim b] (lim (toL (nv a * nv b))) := by
  have cr := fun i => refLimb b i (by omega) lb
  refine pure_intro (tok := 0) (rs := [.tmp 4]) Tryz.func134 rfl Tryz.ntmps134 Tryz.results134 Tryz.call134 (by rfl) (by simp) ?_
  (focus (refine wkvp (w_a @add_nat (w_a @cast_succ w_t)) w_t ?_; (repeat' first | exact w_t | apply w_l); all_goals intros))
  refine r_loopE (ι := Nat) (fun i e m => i ≤ a.length ∧ (e 0 = lim a ∧ e 1 = lim b ∧ e 6 = .v (.int .i64 i)) ∧ ∃ sv o, (e 5 = .own 16 sv ∧ m 16 = some (.row sv 156 1 (u16s o) 0)) ∧ o.length = a.length + b.length + 1 ∧ Lm o ∧ (∀ j, i + b.length ≤ j → gN o j = 0) ∧ nv o = nv (a.take i) * nv b) (fun i => a.length - i) 0 (by rfl) ?_ ?_
  · rintro i e m ⟨hi, ⟨e0, e1, e6⟩, sv, o, ⟨e5, em⟩, hol, hLo, hz, hv⟩
    by_cases hlt : i < a.length
    · have gx := gN_lt la i
      (focus (refine wkvp (w_a e0 (w_a e1 (w_a e6 (w_a e5 (w_a em (w_a hol (w_a @add_nat w_t))))))) w_t ?_; (repeat' first | exact w_t | apply w_l); all_goals intros))
      refine r_loopE (ι := Nat) (fun k e' m' => k ≤ b.length + 1 ∧ (e' 0 = lim a ∧ e' 1 = lim b ∧ e' 6 = .v (.int .i64 i) ∧ e' 8 = .v (.int .i64 k) ∧ e' 5 = .own 16 sv) ∧ ∃ o' c, (e' 7 = .v (.int .u64 (c : Nat)) ∧ m' 16 = some (.row sv 156 1 (u16s o') 0)) ∧ o'.length = a.length + b.length + 1 ∧ Lm o' ∧ c < 65536 ∧ (b.length < k → c = 0) ∧ (∀ j, i + max b.length k ≤ j → gN o' j = 0) ∧ nv o' + 65536 ^ (i + k) * c = nv o + 65536 ^ i * nv (b.take k) * gN a i) (fun k => b.length + 1 - k) 0 (by rfl) ?_ ?_
      · rintro k e m ⟨hk, ⟨e0, e1, e6, e8, e5⟩, o', c, ⟨e7, em⟩, hol', hLo', hc, hcz, hz', hv'⟩
        have gy := gN_lt lb k
        have go := gN_lt hLo' (i + k)
        have bd := mul_bd gx gy
        by_cases hgo : k < b.length ∨ 0 < c
        · have hkb : k ≤ b.length := by
            rcases hgo with h | h
            · omega
            · rcases Nat.lt_or_ge b.length k with h2 | h2
              · have := hcz h2; omega
              · exact h2
          have hs := mul_step (x := gN a i) (y := gN b k) rfl (nv_set (o := o') (j := i + k) (by omega) _) hv'
          rw [← mul_part, ← nv_take_succ, ← Nat.pow_succ, Nat.succ_eq_add_one, Nat.add_assoc i] at hs
          have ecomm : gN o' (i + k) + gN a i * gN b k + c = c + (gN o' (i + k) + gN a i * gN b k) := by omega
          have hcz2 : b.length < k + 1 → (c + (gN o' (i + k) + gN a i * gN b k)) / 65536 = 0 := by
            intro h
            have g1 : gN b k = 0 := gN_out (by omega)
            have g2 := hz' (i + k) (by omega)
            rw [g1, g2]
            omega
          have w1 : (c + (gN o' (i + k) + gN a i * gN b k)) / 65536 < 65536 := by omega
          have w2 : (c + (gN o' (i + k) + gN a i * gN b k)) % 65536 < 65536 := by omega
          generalize hxy : gN a i * gN b k = xy at *
          have r1 : ((c + (gN o' (i + k) + xy) : Nat) : Int).tmod 65536 = (((c + (gN o' (i + k) + xy)) % 65536 : Nat) : Int) := rem_nat _ 65536
          have r2 : ((c + (gN o' (i + k) + xy) : Nat) : Int).tdiv 65536 = (((c + (gN o' (i + k) + xy)) / 65536 : Nat) : Int) := quo_nat _ 65536
          have r3 : (c + (gN o' (i + k) + xy)) % 65536 % 65536 = (c + (gN o' (i + k) + xy)) % 65536 := Nat.mod_mod _ _
          have hzz : ∀ j, i + max b.length (k + 1) ≤ j → gN (o'.set (i + k) ((c + (gN o' (i + k) + xy)) % 65536)) j = 0 := fun j hj => by
            rw [gN_set (by omega), if_neg (by omega)]; exact hz' j (by omega)
          by_cases h3 : k < b.length
          · (repeat' (first | (with_reducible first | refine stp ?_ | apply gx1 | apply gx2 | apply gx3 | apply gx4 | apply gx5 | apply gx6 | apply gx7 | apply gy8 | apply gz2 | apply gz3 | refine gw0 (cr k) ?_ ?_ | refine gw3 (cr k) ?_ ?_ ?_) | (with_reducible refine all_v ?_; intro _) | ((with_reducible refine gE ?_); (try simp (disch := omega) only [go_sem, e0, e1, e6, e8, e5, e7, em, hol', add_nat, mul_nat, cut_nat, hxy, ecomm, r1, r2, r3]) <;> first | rfl | omega) | with_reducible refine t_in_other (by decide) ?_ | ((with_reducible apply gy1); iterate 3 focus rfl) | ((with_reducible apply gy2); iterate 3 focus rfl) | ((with_reducible apply gy3); iterate 2 focus rfl) | ((with_reducible apply gy4); iterate 1 focus rfl) | ((with_reducible apply gy5); iterate 4 focus rfl) | ((with_reducible apply gy5c); iterate 4 focus rfl) | ((with_reducible apply gy6); iterate 4 focus rfl) | ((with_reducible apply d_bar); iterate 3 focus rfl) | ((with_reducible apply q_pub); iterate 1 focus rfl) | ((with_reducible apply gy7); iterate 1 focus rfl) | ((with_reducible apply gy9); (focus ((with_reducible refine gE ?_); (try simp (disch := omega) only [go_sem, e0, e1, e6, e8, e5, e7, em, hol', add_nat, mul_nat, cut_nat, hxy, ecomm, r1, r2, r3]) <;> rfl))) | ((with_reducible apply gz1); (focus first | rfl | (simp (disch := omega) only [go_sem, e0, e1, e6, e8, e5, e7, em, hol', add_nat, mul_nat, cut_nat, hxy, ecomm, r1, r2, r3]; done))) | ((with_reducible apply r_drawD (pickR [(14, .v (.int .i64 (gN b k : Nat)))]) [] []); (focus kernel_rfl); (focus rfl); (focus kernel_rfl); (focus (simp only [List.length_cons, List.length_nil, Nat.reduceAdd]; rfl)))))
            exact ⟨k + 1, ⟨by omega, ⟨by exact gW e0, by exact gW e1, by exact gW e6, by exact gS, by exact gW e5⟩, _, _, ⟨by exact gC, by exact gC⟩, by simpa using hol', hLo'.set _ w2, w1, hcz2, hzz, hs⟩, by omega⟩
          · have hc1 : 0 < c := by omega
            (repeat' (first | (with_reducible first | refine stp ?_ | apply gx1 | apply gx2 | apply gx3 | apply gx4 | apply gx5 | apply gx6 | apply gx7 | apply gy8 | apply gz2 | apply gz3 | refine gw0 (cr k) ?_ ?_ | refine gw3 (cr k) ?_ ?_ ?_) | (with_reducible refine all_v ?_; intro _) | ((with_reducible refine gE ?_); (try simp (disch := omega) only [go_sem, e0, e1, e6, e8, e5, e7, em, hol', add_nat, mul_nat, cut_nat, hxy, ecomm, r1, r2, r3]) <;> first | rfl | omega) | with_reducible refine t_in_other (by decide) ?_ | ((with_reducible apply gy1); iterate 3 focus rfl) | ((with_reducible apply gy2); iterate 3 focus rfl) | ((with_reducible apply gy3); iterate 2 focus rfl) | ((with_reducible apply gy4); iterate 1 focus rfl) | ((with_reducible apply gy5); iterate 4 focus rfl) | ((with_reducible apply gy5c); iterate 4 focus rfl) | ((with_reducible apply gy6); iterate 4 focus rfl) | ((with_reducible apply d_bar); iterate 3 focus rfl) | ((with_reducible apply q_pub); iterate 1 focus rfl) | ((with_reducible apply gy7); iterate 1 focus rfl) | ((with_reducible apply gy9); (focus ((with_reducible refine gE ?_); (try simp (disch := omega) only [go_sem, e0, e1, e6, e8, e5, e7, em, hol', add_nat, mul_nat, cut_nat, hxy, ecomm, r1, r2, r3]) <;> rfl))) | ((with_reducible apply gz1); (focus first | rfl | (simp (disch := omega) only [go_sem, e0, e1, e6, e8, e5, e7, em, hol', add_nat, mul_nat, cut_nat, hxy, ecomm, r1, r2, r3]; done))) | ((with_reducible apply r_drawD (pickR [(14, .v (.int .i64 (gN b k : Nat)))]) [] []); (focus kernel_rfl); (focus rfl); (focus kernel_rfl); (focus (simp only [List.length_cons, List.length_nil, Nat.reduceAdd]; rfl)))))
            exact ⟨k + 1, ⟨by omega, ⟨by exact gW e0, by exact gW e1, by exact gW e6, by exact gS, by exact gW e5⟩, _, _, ⟨by exact gC, by exact gC⟩, by simpa using hol', hLo'.set _ w2, w1, hcz2, hzz, hs⟩, by omega⟩
        · have hc0 : c = 0 := by omega
          subst hc0
          rw [take_all (l := b) (by omega), Nat.mul_zero, Nat.add_zero] at hv'
          (focus (refine wkvd (w_a e0 (w_a e1 (w_a e6 (w_a e8 (w_a e5 (w_a e7 (w_a em (w_a @Int.natCast_zero w_t)))))))) w_t w_t ?_; (repeat' first | exact w_t | apply w_l); all_goals intros))
          refine ⟨i + 1, ⟨by omega, ⟨by exact gW e0, by exact gW e1, by exact gS⟩, sv, o', ⟨by exact gW e5, by exact gW em⟩, hol', hLo', fun j hj => hz' j (by omega), ?_⟩, by omega⟩
          rw [hv', hv, nv_take_succ, Nat.add_mul]
          congr 1
          simp only [Nat.mul_assoc, Nat.mul_comm, Nat.mul_left_comm]
      · exact ⟨by omega, ⟨by exact gW e0, by exact gW e1, by exact gW e6, by exact gC, by exact gW e5⟩, _, 0, ⟨by exact gC, by exact gW em⟩, hol, hLo, by omega, fun _ => rfl, fun j hj => hz j (by omega), by simp [nv]⟩
    · have hiA : i = a.length := by omega
      subst hiA
      rw [take_all (Nat.le_refl _)] at hv
      (repeat' (first | (with_reducible first | refine stp ?_ | apply gx1 | apply gx2 | apply gx3 | apply gx4 | apply gx5 | apply gx6 | apply gx7 | apply gw1 (refNorm o (by omega) hLo)) | (with_reducible refine all_v ?_; intro _) | ((with_reducible refine gE ?_); (try simp (disch := omega) only [go_sem, e0, e1, e6, e5, em, hol]) <;> first | rfl | omega) | with_reducible refine t_in_other (by decide) ?_))
      simp (disch := omega) only [go_sem, hv]
  · exact ⟨Nat.zero_le _, ⟨by exact gC, by exact gC, by exact gC⟩, _, List.replicate (a.length + b.length + 1) 0, ⟨by exact gC, by exact gC⟩, by simp, Lm.zeros _, fun j hj => gN_zeros _ _, by simp [nv, nv_zeros]⟩

theorem refDigit (R B : Nat) (hR : (toL R).length ≤ 300000000) (hB : (toL B).length ≤ 200000000) (h0 : 0 < B) (hlt : R < B * 65536) : Pure Tryz.prog 195 [lim (toL R), lim (toL B)] (.v (.int .u64 ((R / B : Nat) : Int))) := by
  refine pure_intro (tok := 0) (rs := [.tmp 4]) Tryz.func195 rfl Tryz.ntmps195 Tryz.results195 Tryz.call195 (by rfl) (by simp) ?_
  (focus (refine wkvp w_t w_t ?_; (repeat' first | exact w_t | apply w_l); all_goals intros))
  refine r_loopE (ι := Nat × Nat) (fun p e m => (e 0 = lim (toL R) ∧ e 1 = lim (toL B) ∧ e 5 = .v (.int .u64 (p.1 : Int)) ∧ e 6 = .v (.int .u64 (p.2 : Int))) ∧ p.1 ≤ p.2 ∧ p.2 ≤ 65535 ∧ B * p.1 ≤ R ∧ R < B * (p.2 + 1)) (fun p => p.2 - p.1) (0, 65535) (by rfl) ?_ ?_
  · rintro ⟨lo, hi⟩ e m ⟨⟨e0, e1, e5, e6⟩, h1, h2, h3, h4⟩
    simp only at e5 e6 h1 h2 h3 h4
    by_cases hlh : lo < hi
    · obtain ⟨mid, hmid⟩ : ∃ mid, (lo + hi + 1) / 2 = mid := ⟨_, rfl⟩
      have r2 : ((lo + hi + 1 : Nat) : Int).tdiv 2 = ((mid : Nat) : Int) := by rw [← hmid]; exact quo_nat _ 2
      have co := refOf mid (by omega)
      have lm : (toL mid).length ≤ 4 := toL_len_lt.2 (by omega)
      have cm := refMul (toL B) (toL mid) (by omega) (by omega) (lm_toL _) (lm_toL _)
      rw [nv_toL, nv_toL] at cm
      have lbm : (toL (B * mid)).length ≤ 1000000000 := by
        have h5 : (toL (B * mid)).length ≤ (toL B).length + 4 := by
          rw [toL_len_lt, Nat.pow_add]
          have h6 := toL_len_lt.1 (Nat.le_refl (toL B).length)
          exact Nat.mul_lt_mul'' h6 (by omega)
        omega
      have cc := refCmp (toL (B * mid)) (toL R) lbm (by omega) (lm_toL _) (lm_toL _)
      rw [nv_toL, nv_toL] at cc
      by_cases hle : B * mid ≤ R
      · have hc : cmpN (B * mid) R ≤ 0 := by unfold cmpN; split; omega; split <;> omega
        (focus (refine wkvp (w_a e0 (w_a e1 (w_a e5 (w_a e6 (w_a @add_nat (w_a @cast_succ (w_a r2 (w_a hc w_t)))))))) (w_a co (w_a cm (w_a cc w_t))) ?_; (repeat' first | exact w_t | apply w_l); all_goals intros))
        exact ⟨(mid, hi), ⟨⟨by exact gW e0, by exact gW e1, by exact gC, by exact gW e6⟩, by omega, h2, hle, h4⟩, by simp only; omega⟩
      · have hc : 0 < cmpN (B * mid) R := by unfold cmpN; rw [if_neg (by omega), if_pos (by omega)]; omega
        have em1 : (mid : Int) - 1 = ((mid - 1 : Nat) : Int) := by omega
        (focus (refine wkvp (w_a e0 (w_a e1 (w_a e5 (w_a e6 (w_a @add_nat (w_a @cast_succ (w_a r2 (w_a hc (w_a em1 w_t))))))))) (w_a co (w_a cm (w_a cc w_t))) ?_; (repeat' first | exact w_t | apply w_l); all_goals intros))
        exact ⟨(lo, mid - 1), ⟨⟨by exact gW e0, by exact gW e1, by exact gW e5, by exact gC⟩, by simp only; omega, by simp only; omega, h3, by simp only; rw [show mid - 1 + 1 = mid by omega]; omega⟩, by simp only; omega⟩
    · have hh : lo = hi := by omega
      subst hh
      have hd : R / B = lo := Nat.div_eq_of_lt_le (by rw [Nat.mul_comm]; exact h3) (by rw [Nat.mul_comm]; exact h4)
      (focus (refine wkvp (w_a e0 (w_a e1 (w_a e5 (w_a e6 w_t)))) w_t ?_; (repeat' first | exact w_t | apply w_l); all_goals intros))
      simp (disch := omega) only [go_sem, hd]
  · exact ⟨⟨by exact gC, by exact gC, by exact gC, by exact gC⟩, by simp, by simp, by simp, by simpa using hlt⟩

theorem u16s_cons (x : Nat) (l : List Nat) : AV.v (.int .u16 (x : Int)) :: u16s l = u16s (x :: l) := rfl

set_option maxHeartbeats 1000000 in
theorem refDivMod (a b : List Nat) (ha : a.length ≤ 200000000) (hb : b.length ≤ 200000000) (la : Lm a) (lb : Lm b) (h0 : nv b ≠ 0) : Pure Tryz.prog 141 [lim a, lim b] (.tup [lim (toL (nv a / nv b)), lim (toL (nv a % nv b)), .v (.int .i64 0)]) := by
  have h1 := toL_len_le la
  have h2 := toL_len_le lb
  have va := nv_toL (nv a)
  have vb := nv_toL (nv b)
  have ma := lm_toL (nv a)
  have mb := lm_toL (nv b)
  have hb1 := (toL_top h0).1
  have hbp := Nat.pos_of_ne_zero h0
  by_cases h4 : (toL (nv a)).length ≤ 4 ∧ (toL (nv b)).length ≤ 4
  · obtain ⟨h4a, h4b⟩ := h4
    have ca := refShort (toL (nv a)) h4a ma
    have cb := refShort (toL (nv b)) h4b mb
    rw [va] at ca
    rw [vb] at cb
    have hA := toL_len_lt.1 h4a
    have hB := toL_len_lt.1 h4b
    have hq := Nat.div_le_self (nv a) (nv b)
    have hr := Nat.mod_le (nv a) (nv b)
    have cq := refOf (nv a / nv b) (by omega)
    have cr := refOf (nv a % nv b) (by omega)
    have wq : IntKind.u64.wrap ((nv a / nv b : Nat) : Int) = ((nv a / nv b : Nat) : Int) := wrap_u64 (Int.natCast_nonneg _) (by
      have : ((nv a / nv b : Nat) : Int) ≤ (nv a : Int) := Int.ofNat_le.2 hq
      omega)
    have hn : ((nv b : Nat) : Int) ≠ 0 := by omega
    refine pure_intro (tok := 0) (rs := [.tmp 4, .tmp 5, .tmp 6]) Tryz.func141 rfl Tryz.ntmps141 Tryz.results141 Tryz.call141 (by rfl) (by simp) ?_
    (focus (refine wkvd (w_a @quo_nat (w_a @rem_nat (w_a wq (w_a hn w_t)))) (w_a (refNorm a (by omega) la) (w_a (refNorm b (by omega) lb) (w_a ca (w_a cb (w_a cq (w_a cr w_t)))))) w_t ?_; (repeat' first | exact w_t | apply w_l); all_goals intros))
    simp (disch := omega) only [go_sem]
  · have h4' : ((toL (nv a)).length ≤ 4) → 4 < (toL (nv b)).length := fun h => by
      rcases Nat.lt_or_ge 4 (toL (nv b)).length with h3 | h3
      · exact h3
      · exact absurd ⟨h, h3⟩ h4
    obtain ⟨A, hA⟩ : ∃ A, toL (nv a) = A := ⟨_, rfl⟩
    rw [hA] at va ma h1 h4'
    refine pure_intro (tok := 0) (rs := [.tmp 4, .tmp 5, .tmp 6]) Tryz.func141 rfl Tryz.ntmps141 Tryz.results141 Tryz.call141 (by rfl) (by simp) ?_
    rcases Nat.lt_or_ge 4 A.length with h5 | h5
    rotate_left
    have h6 := h4' h5
    all_goals
      (focus (refine wkvp (w_a hA w_t) (w_a (refNorm a (by omega) la) (w_a (refNorm b (by omega) lb) w_t)) ?_; (repeat' first | exact w_t | apply w_l); all_goals intros))
      rw [hA]
      refine r_frz (Frz.trans (Frz.nil (d := 7) 1 (by exact gC)) (Frz.nil (d := 8) 1 (by exact gC))) ?_
      refine r_loopF (ι := Nat) (fun k e m => k ≤ A.length ∧ (e 0 = lim A ∧ e 1 = lim (toL (nv b)) ∧ e 9 = .v (.int .i64 ((k : Int) - 1))) ∧ ∃ ql R, (e 7 = lim ql ∧ e 8 = lim (toL R)) ∧ ql.length = A.length - k ∧ Lm ql ∧ R < nv b ∧ nv (A.drop k) = nv ql * nv b + R) (fun k => k) A.length (by rfl) ?_ ?_
      · rintro k e m ⟨hk, ⟨e0, e1, e9⟩, ql, R, ⟨e7, e8⟩, hql, hqL, hR, hv⟩
        by_cases hk0 : k = 0
        · subst hk0
          rw [List.drop_zero, va] at hv
          have hq : nv ql = nv a / nv b := by rw [hv, Nat.mul_comm, Nat.mul_add_div hbp, Nat.div_eq_of_lt hR, Nat.add_zero]
          have hr : R = nv a % nv b := by rw [hv, Nat.mul_comm, Nat.mul_add_mod, Nat.mod_eq_of_lt hR]
          have cn := refNorm ql (by omega) hqL
          rw [hq] at cn
          rw [hr] at e8
          (focus (refine wkvp (w_a e0 (w_a e1 (w_a e9 (w_a e7 (w_a e8 w_t))))) (w_a cn w_t) ?_; (repeat' first | exact w_t | apply w_l); all_goals intros))
          simp (disch := omega) only [go_sem]
        · obtain ⟨j, rfl⟩ : ∃ j, k = j + 1 := ⟨k - 1, by omega⟩
          have ej : ((j + 1 : Nat) : Int) - 1 = (j : Int) := by omega
          rw [ej] at e9
          have gx := gN_lt ma j
          have hRl : (toL R).length ≤ (toL (nv b)).length := toL_len_mono (by omega)
          have cn := refNorm (gN A j :: toL R) (by simp; omega) (fun y hy => by
            rcases List.mem_cons.1 hy with rfl | hy
            · exact gx
            · exact lm_toL R y hy)
          have en : nv (gN A j :: toL R) = gN A j + 65536 * R := by rw [nv, nv_toL]
          rw [en] at cn
          have hX : gN A j + 65536 * R < nv b * 65536 := by omega
          obtain ⟨X, hXd⟩ : ∃ X, gN A j + 65536 * R = X := ⟨_, rfl⟩
          rw [hXd] at cn hX
          have hXl : (toL X).length ≤ (toL (nv b)).length + 1 := by
            rw [toL_len_lt, Nat.pow_succ]
            exact Nat.lt_of_lt_of_le hX (Nat.mul_le_mul_right _ (Nat.le_of_lt (toL_len_lt.1 (Nat.le_refl (toL (nv b)).length))))
          have cd := refDigit X (nv b) (by omega) (by omega) hbp hX
          have hd : X / nv b < 65536 := by rw [Nat.div_lt_iff_lt_mul hbp, Nat.mul_comm]; exact hX
          have hdm := Nat.div_add_mod X (nv b)
          have hml := Nat.mod_lt X hbp
          have co := refOf (X / nv b) (by omega)
          have ld : (toL (X / nv b)).length ≤ 1 := toL_len_lt.2 (by omega)
          have cm := refMul (toL (nv b)) (toL (X / nv b)) (by omega) (by omega) (lm_toL _) (lm_toL _)
          rw [nv_toL, nv_toL] at cm
          have hle : nv b * (X / nv b) ≤ X := by omega
          have cs := refSub (toL X) (toL (nv b * (X / nv b))) (by omega) (Nat.le_trans (toL_len_mono hle) (by omega)) (lm_toL _) (lm_toL _)
          rw [nv_toL, nv_toL, if_neg (by omega), if_neg (by omega), show X - nv b * (X / nv b) = X % nv b by omega] at cs
          have hcut : X / nv b % 65536 = X / nv b := Nat.mod_eq_of_lt hd
          (repeat' (first | (with_reducible first | refine stp ?_ | apply gx1 | apply gx2 | apply gx3 | apply gx4 | apply gx5 | apply gx6 | apply gx7 | apply gw1 (cn) | refine gw0 (cd) ?_ ?_ | refine gw0 (co) ?_ ?_ | refine gw0 (cm) ?_ ?_ | refine gw0 (cs) ?_ ?_) | (with_reducible refine all_v ?_; intro _) | ((with_reducible refine gE ?_); (try simp (disch := omega) only [go_sem, e0, e1, e9, e7, e8, u16s_cons, cut_nat, hcut]) <;> first | rfl | omega) | with_reducible refine t_in_other (by decide) ?_))
          refine ⟨j, _, Frz.own (d := 7) (by exact gC) (by exact gC), ⟨by omega, ⟨by exact gW e0, by exact gW e1, by exact gC⟩, X / nv b :: ql, X % nv b, ⟨by (simp (disch := omega) only [go_sem, u16s_cons] <;> repeat' first | rfl | refine ⟨?_, ?_⟩), by exact gC⟩, by simp [hql]; omega, ?_, hml, ?_⟩, by omega⟩
          · intro y hy
            rcases List.mem_cons.1 hy with rfl | hy
            · exact hd
            · exact hqL y hy
          · rw [nv_drop, hv, nv, Nat.add_mul, Nat.mul_add 65536, ← hXd]
            rw [← hXd] at hdm
            rw [Nat.mul_comm] at hdm
            have : 65536 * (nv ql * nv b) = 65536 * nv ql * nv b := by rw [Nat.mul_assoc]
            omega
      · exact ⟨Nat.le_refl _, ⟨by exact gC, by exact gC, by exact gC⟩, [], 0, ⟨by (simp (disch := omega) only [go_sem, u16s_nil] <;> repeat' first | rfl | refine ⟨?_, ?_⟩), by (simp (disch := omega) only [go_sem, toL_zero, u16s_nil] <;> repeat' first | rfl | refine ⟨?_, ?_⟩)⟩, by simp, Lm.nil, hbp, by rw [List.drop_eq_nil_of_le (Nat.le_refl _)]; simp [nv]⟩

theorem refGcd (a b : List Nat) (ha : a.length ≤ 200000000) (hb : b.length ≤ 200000000) (la : Lm a) (lb : Lm b) : Pure Tryz.prog 107 [lim a, lim b] (lim (toL (Nat.gcd (nv a) (nv b)))) := by
  have h1 := toL_len_le la
  have h2 := toL_len_le lb
  have cd : ∀ x y : Nat, (toL x).length ≤ 200000000 → (toL y).length ≤ 200000000 → y ≠ 0 → Pure Tryz.prog 141 [lim (toL x), lim (toL y)] (.tup [lim (toL (x / y)), lim (toL (x % y)), .v (.int .i64 0)]) := by
    intro x y hx hy h0
    have := refDivMod (toL x) (toL y) hx hy (lm_toL x) (lm_toL y) (by rw [nv_toL]; exact h0)
    rwa [nv_toL, nv_toL] at this
  refine pure_intro (tok := 0) (rs := [.tmp 4]) Tryz.func107 rfl Tryz.ntmps107 Tryz.results107 Tryz.call107 (by rfl) (by simp) ?_
  (focus (refine wkvp w_t (w_a (refNorm a (by omega) la) (w_a (refNorm b (by omega) lb) w_t)) ?_; (repeat' first | exact w_t | apply w_l); all_goals intros))
  refine r_loopE (ι := Nat) (fun y e m => ∃ x, (e 0 = lim (toL x) ∧ e 1 = lim (toL y)) ∧ (toL x).length ≤ 200000000 ∧ (toL y).length ≤ 200000000 ∧ Nat.gcd x y = Nat.gcd (nv a) (nv b)) (fun y => y) (nv b) (by rfl) ?_ ?_
  · rintro y e m ⟨x, ⟨e0, e1⟩, hx, hy, hg⟩
    rcases Nat.eq_zero_or_pos y with h0 | h0
    · subst h0
      have hl := toL_len_zero.2 (rfl : (0 : Nat) = 0)
      rw [Nat.gcd_zero_right] at hg
      (focus (refine wkvp (w_a e0 (w_a e1 (w_a hl w_t))) w_t ?_; (repeat' first | exact w_t | apply w_l); all_goals intros))
      simp (disch := omega) only [go_sem, hg]
    · have hl : 0 < (toL y).length := by
        have := (toL_top (show y ≠ 0 by omega)).1
        omega
      have hm := Nat.mod_lt x h0
      have hml : (toL (x % y)).length ≤ 200000000 := Nat.le_trans (toL_len_mono (Nat.le_of_lt hm)) hy
      have hgg : Nat.gcd y (x % y) = Nat.gcd (nv a) (nv b) := by rw [← hg, Nat.gcd_comm x y, Nat.gcd_rec y x, Nat.gcd_comm]
      (focus (refine wkvp (w_a e0 (w_a e1 w_t)) (w_a (cd x y hx hy (by omega)) w_t) ?_; (repeat' first | exact w_t | apply w_l); all_goals intros))
      exact ⟨x % y, ⟨y, ⟨by exact gW e1, by exact gC⟩, hy, hml, hgg⟩, hm⟩
  · exact ⟨nv a, ⟨by exact gC, by exact gC⟩, by omega, by omega, rfl⟩
end Go.Proofs.YteiopjkamgmfpaaGreatDoor
end

section
namespace Go.Proofs.YteiopjkamgmfpaaGreatDoor
open Go Go.RowKit Go.Pg
set_option linter.unusedSimpArgs false
set_option linter.unusedVariables false
set_option maxRecDepth 20000
attribute [-bool_to_prop] Bool.and_eq_decide Bool.or_eq_decide Bool.decide_beq_decide decide_eq_decide

theorem nAdd (n m : Nat) (hn : (toL n).length ≤ 100000000) (hm : (toL m).length ≤ 100000000) : Pure Tryz.prog 240 [lim (toL n), lim (toL m)] (lim (toL (n + m))) := by
  have := natAdd (toL n) (toL m) (by omega) (by omega) (lm_toL _) (lm_toL _)
  rwa [nv_toL, nv_toL] at this

theorem nMul (n m : Nat) (hn : (toL n).length ≤ 100000000) (hm : (toL m).length ≤ 100000000) : Pure Tryz.prog 121 [lim (toL n), lim (toL m)] (lim (toL (n * m))) := by
  have := natMul (toL n) (toL m) (by omega) (by omega) (lm_toL _) (lm_toL _)
  rwa [nv_toL, nv_toL] at this

theorem nCmp (n m : Nat) (hn : (toL n).length ≤ 100000000) (hm : (toL m).length ≤ 100000000) : Pure Tryz.prog 215 [lim (toL n), lim (toL m)] (.v (.int .i64 (cmpN n m))) := by
  have := natCmp (toL n) (toL m) (by omega) (by omega) (lm_toL _) (lm_toL _)
  rwa [nv_toL, nv_toL] at this

theorem nSub (n m : Nat) (hn : (toL n).length ≤ 100000000) (hm : (toL m).length ≤ 100000000) : Pure Tryz.prog 241 [lim (toL n), lim (toL m)] (.tup [lim (if n < m then [] else toL (n - m)), .v (.int .i64 (if n < m then 2 else 0))]) := by
  have := natSub (toL n) (toL m) (by omega) (by omega) (lm_toL _) (lm_toL _)
  rwa [nv_toL, nv_toL] at this

theorem nDivMod (n m : Nat) (hn : (toL n).length ≤ 100000000) (hm : (toL m).length ≤ 100000000) (h0 : m ≠ 0) : Pure Tryz.prog 177 [lim (toL n), lim (toL m)] (.tup [lim (toL (n / m)), lim (toL (n % m)), .v (.int .i64 0)]) := by
  have := natDivMod (toL n) (toL m) (by omega) (by omega) (lm_toL _) (lm_toL _) (by rw [nv_toL]; exact h0)
  rwa [nv_toL, nv_toL] at this

theorem nGcd (n m : Nat) (hn : (toL n).length ≤ 100000000) (hm : (toL m).length ≤ 100000000) : Pure Tryz.prog 117 [lim (toL n), lim (toL m)] (lim (toL (Nat.gcd n m))) := by
  have := natGcd (toL n) (toL m) (by omega) (by omega) (lm_toL _) (lm_toL _)
  rwa [nv_toL, nv_toL] at this

theorem nNorm (n : Nat) (hn : (toL n).length ≤ 100000000) : Pure Tryz.prog 175 [lim (toL n)] (lim (toL n)) := by
  have := natNorm (toL n) (by omega) (lm_toL _)
  rwa [nv_toL] at this

theorem nBits (n : Nat) (hn : (toL n).length ≤ 100000000) : Pure Tryz.prog 178 [lim (toL n)] (.v (.int .i64 (bitsN n : Nat))) := by
  have := natBits (toL n) (by omega) (lm_toL _)
  rwa [nv_toL] at this

theorem rAdd (n m : Nat) (hn : (toL n).length ≤ 100000000) (hm : (toL m).length ≤ 100000000) : Pure Tryz.prog 144 [lim (toL n), lim (toL m)] (lim (toL (n + m))) := by
  have := refAdd (toL n) (toL m) (by omega) (by omega) (lm_toL _) (lm_toL _)
  rwa [nv_toL, nv_toL] at this

theorem rMul (n m : Nat) (hn : (toL n).length ≤ 100000000) (hm : (toL m).length ≤ 100000000) : Pure Tryz.prog 134 [lim (toL n), lim (toL m)] (lim (toL (n * m))) := by
  have := refMul (toL n) (toL m) (by omega) (by omega) (lm_toL _) (lm_toL _)
  rwa [nv_toL, nv_toL] at this

theorem rCmp (n m : Nat) (hn : (toL n).length ≤ 100000000) (hm : (toL m).length ≤ 100000000) : Pure Tryz.prog 198 [lim (toL n), lim (toL m)] (.v (.int .i64 (cmpN n m))) := by
  have := refCmp (toL n) (toL m) (by omega) (by omega) (lm_toL _) (lm_toL _)
  rwa [nv_toL, nv_toL] at this

theorem rSub (n m : Nat) (hn : (toL n).length ≤ 100000000) (hm : (toL m).length ≤ 100000000) : Pure Tryz.prog 196 [lim (toL n), lim (toL m)] (.tup [lim (if n < m then [] else toL (n - m)), .v (.int .i64 (if n < m then 2 else 0))]) := by
  have := refSub (toL n) (toL m) (by omega) (by omega) (lm_toL _) (lm_toL _)
  rwa [nv_toL, nv_toL] at this

theorem rDivMod (n m : Nat) (hn : (toL n).length ≤ 100000000) (hm : (toL m).length ≤ 100000000) (h0 : m ≠ 0) : Pure Tryz.prog 141 [lim (toL n), lim (toL m)] (.tup [lim (toL (n / m)), lim (toL (n % m)), .v (.int .i64 0)]) := by
  have := refDivMod (toL n) (toL m) (by omega) (by omega) (lm_toL _) (lm_toL _) (by rw [nv_toL]; exact h0)
  rwa [nv_toL, nv_toL] at this

theorem rGcd (n m : Nat) (hn : (toL n).length ≤ 100000000) (hm : (toL m).length ≤ 100000000) : Pure Tryz.prog 107 [lim (toL n), lim (toL m)] (lim (toL (Nat.gcd n m))) := by
  have := refGcd (toL n) (toL m) (by omega) (by omega) (lm_toL _) (lm_toL _)
  rwa [nv_toL, nv_toL] at this

theorem rNorm (n : Nat) (hn : (toL n).length ≤ 100000000) : Pure Tryz.prog 140 [lim (toL n)] (lim (toL n)) := by
  have := refNorm (toL n) (by omega) (lm_toL _)
  rwa [nv_toL] at this

theorem szB : szOf Tryz.prog 4 = some 1 := by kernel_rfl
theorem zB : zeroOf Tryz.prog 4 = some (.bool false) := by kernel_rfl
theorem szNat : szOf Tryz.prog 45 = some 1 := by kernel_rfl
theorem zNat : zeroOf Tryz.prog 45 = some (.slice none 0 0) := by kernel_rfl
theorem szInt : szOf Tryz.prog 47 = some 2 := by kernel_rfl
theorem zInt : zeroOf Tryz.prog 47 = some (.agg #[.bool false, .slice none 0 0]) := by kernel_rfl
theorem szRat : szOf Tryz.prog 49 = some 3 := by kernel_rfl
theorem zRat : zeroOf Tryz.prog 49 = some (.agg #[.bool false, .slice none 0 0, .slice none 0 0]) := by kernel_rfl

/-- An integer: its sign's mark and its absolute value. -/
abbrev intA (s : Bool) (n : Nat) : AV := .agg [.v (.bool s), lim (toL n)]
def zI (s : Bool) (n : Nat) : Int := if s then -(n : Int) else n
/-- An integer, canonical. -/
abbrev intZ (z : Int) : AV := intA (decide (z < 0)) z.natAbs
theorem zI_abs (z : Int) : zI (decide (z < 0)) z.natAbs = z := by
  unfold zI
  by_cases h : z < 0
  · rw [if_pos (by simpa using h)]; omega
  · rw [if_neg (by simpa using h)]; omega
theorem zI_natAbs (s : Bool) (n : Nat) : (zI s n).natAbs = n := by cases s <;> simp [zI]
theorem zI_lt (s : Bool) (n : Nat) : decide (zI s n < 0) = (s && decide (0 < n)) := by
  cases s
  · simp [zI]
  · simp only [zI, if_true, Bool.true_and]
    by_cases h : 0 < n
    · rw [decide_eq_true (by omega), decide_eq_true h]
    · rw [decide_eq_false (by omega), decide_eq_false h]
theorem intZ_of (s : Bool) (n : Nat) : intZ (zI s n) = .agg [.v (.bool (s && decide (0 < n))), lim (toL n)] := by
  unfold intZ intA
  rw [zI_lt, zI_natAbs]
theorem toL_len_pos {n : Nat} : (0 < (toL n).length) ↔ 0 < n := by
  have := @toL_len_zero n
  omega
end Go.Proofs.YteiopjkamgmfpaaGreatDoor
end

section
namespace Go.Proofs.YteiopjkamgmfpaaGreatDoor
open Go Go.RowKit Go.Pg
set_option linter.unusedSimpArgs false
set_option linter.unusedVariables false
set_option maxRecDepth 20000
attribute [local go_sem] Tryz.underlying45 Tryz.underlying3 Tryz.underlying156 Tryz.underlying115 Tryz.underlying4 Tryz.underlying47 Tryz.underlying49 Tryz.underlying34 Tryz.underlying198 sz3 by3 z3 szL byL zL szB zB szNat zNat szInt zInt szRat zRat
attribute [-bool_to_prop] Bool.and_eq_decide Bool.or_eq_decide Bool.decide_beq_decide decide_eq_decide

theorem intMade (s : Bool) (n : Nat) (hn : (toL n).length ≤ 1000000000) : Pure Tryz.prog 160 [.v (.bool s), lim (toL n)] (intZ (zI s n)) := by
  rw [intZ_of]
  have hp := @toL_len_pos n
  cases s
  · refine pure_intro (tok := 0) Tryz.func160 rfl Tryz.ntmps160 Tryz.results160 Tryz.call160 (by rfl) (by simp) ?_
    (focus (refine wkvp w_t w_t ?_; (repeat' first | exact w_t | apply w_l); all_goals intros))
    simp (disch := omega) only [go_sem, Bool.false_and]
  · by_cases h : 0 < n
    · refine pure_intro (tok := 0) Tryz.func160 rfl Tryz.ntmps160 Tryz.results160 Tryz.call160 (by rfl) (by simp) ?_
      (focus (refine wkvp w_t w_t ?_; (repeat' first | exact w_t | apply w_l); all_goals intros))
      simp (disch := omega) only [go_sem, decide_eq_true h]
    · refine pure_intro (tok := 0) Tryz.func160 rfl Tryz.ntmps160 Tryz.results160 Tryz.call160 (by rfl) (by simp) ?_
      (focus (refine wkvp w_t w_t ?_; (repeat' first | exact w_t | apply w_l); all_goals intros))
      simp (disch := omega) only [go_sem, decide_eq_false h]

theorem intOf' (s : Bool) (n : Nat) (hn : (toL n).length ≤ 100000000) : Pure Tryz.prog 221 [.v (.bool s), lim (toL n)] (intZ (zI s n)) := by
  rw [intZ_of]
  have hp := @toL_len_pos n
  cases s
  · refine pure_intro (tok := 0) Tryz.func221 rfl Tryz.ntmps221 Tryz.results221 Tryz.call221 (by rfl) (by simp) ?_
    (focus (refine wkvp w_t (w_a (nNorm n hn) w_t) ?_; (repeat' first | exact w_t | apply w_l); all_goals intros))
    simp (disch := omega) only [go_sem, Bool.false_and]
  · by_cases h : 0 < n
    · refine pure_intro (tok := 0) Tryz.func221 rfl Tryz.ntmps221 Tryz.results221 Tryz.call221 (by rfl) (by simp) ?_
      (focus (refine wkvp w_t (w_a (nNorm n hn) w_t) ?_; (repeat' first | exact w_t | apply w_l); all_goals intros))
      simp (disch := omega) only [go_sem, decide_eq_true h]
    · refine pure_intro (tok := 0) Tryz.func221 rfl Tryz.ntmps221 Tryz.results221 Tryz.call221 (by rfl) (by simp) ?_
      (focus (refine wkvp w_t (w_a (nNorm n hn) w_t) ?_; (repeat' first | exact w_t | apply w_l); all_goals intros))
      simp (disch := omega) only [go_sem, decide_eq_false h]

theorem intNorm (s : Bool) (n : Nat) (hn : (toL n).length ≤ 100000000) : Pure Tryz.prog 179 [intA s n] (intZ (zI s n)) := by
  refine pure_intro (tok := 0) Tryz.func179 rfl Tryz.ntmps179 Tryz.results179 Tryz.call179 (by rfl) (by simp) ?_
  (focus (refine wkvp w_t (w_a (intOf' s n hn) w_t) ?_; (repeat' first | exact w_t | apply w_l); all_goals intros))
  simp (disch := omega) only [go_sem]

theorem intSign (s : Bool) (n : Nat) (hn : (toL n).length ≤ 100000000) : Pure Tryz.prog 122 [intA s n] (.v (.int .i64 (zI s n).sign)) := by
  by_cases h : n = 0
  · have hb : bitsN n = 0 := bitsN_zero.2 h
    have hz : (zI s n).sign = 0 := by subst h; cases s <;> rfl
    rw [hz]
    refine pure_intro (tok := 0) Tryz.func122 rfl Tryz.ntmps122 Tryz.results122 Tryz.call122 (by rfl) (by simp) ?_
    (focus (refine wkvp (w_a hb (w_a @Int.natCast_zero w_t)) (w_a (nBits n hn) w_t) ?_; (repeat' first | exact w_t | apply w_l); all_goals intros))
    simp (disch := omega) only [go_sem]
  · have hb : bitsN n ≠ 0 := fun e => h (bitsN_zero.1 e)
    cases s
    · have hz : (zI false n).sign = 1 := Int.sign_eq_one_of_pos (by simp [zI]; omega)
      rw [hz]
      refine pure_intro (tok := 0) Tryz.func122 rfl Tryz.ntmps122 Tryz.results122 Tryz.call122 (by rfl) (by simp) ?_
      (focus (refine wkvp w_t (w_a (nBits n hn) w_t) ?_; (repeat' first | exact w_t | apply w_l); all_goals intros))
      simp (disch := omega) only [go_sem]
    · have hz : (zI true n).sign = -1 := Int.sign_eq_neg_one_of_neg (by simp [zI]; omega)
      rw [hz]
      refine pure_intro (tok := 0) Tryz.func122 rfl Tryz.ntmps122 Tryz.results122 Tryz.call122 (by rfl) (by simp) ?_
      (focus (refine wkvp w_t (w_a (nBits n hn) w_t) ?_; (repeat' first | exact w_t | apply w_l); all_goals intros))
      simp (disch := omega) only [go_sem]

/-- The order of two integers. -/
def cmpZ (a b : Int) : Int := if a < b then -1 else if b < a then 1 else 0

theorem intCmpN (n m : Nat) (hn : (toL n).length ≤ 100000000) (hm : (toL m).length ≤ 100000000) : Pure Tryz.prog 261 [lim (toL n), lim (toL m)] (.v (.int .i64 (cmpN n m))) := by
  refine pure_intro (tok := 0) Tryz.func261 rfl Tryz.ntmps261 Tryz.results261 Tryz.call261 (by rfl) (by simp) ?_
  (focus (refine wkvp w_t (w_a (nCmp n m hn hm) w_t) ?_; (repeat' first | exact w_t | apply w_l); all_goals intros))
  simp (disch := omega) only [go_sem]

set_option maxHeartbeats 1000000 in
theorem intCmp (s t : Bool) (n m : Nat) (hn : (toL n).length ≤ 100000000) (hm : (toL m).length ≤ 100000000) : Pure Tryz.prog 245 [intA s n, intA t m] (.v (.int .i64 (cmpZ (zI s n) (zI t m)))) := by
  have cs := intSign s n hn
  have ct := intSign t m hm
  rcases Int.lt_trichotomy (zI s n).sign (zI t m).sign with h | h | h
  · have hc : cmpZ (zI s n) (zI t m) = -1 := by
      unfold cmpZ
      rw [if_pos]
      rcases Int.lt_trichotomy (zI s n) 0 with h1 | h1 | h1 <;> rcases Int.lt_trichotomy (zI t m) 0 with h2 | h2 | h2 <;> first
        | omega
        | (exfalso; simp [Int.sign_eq_neg_one_of_neg, Int.sign_eq_one_of_pos, h1, h2] at h)
    rw [hc]
    refine pure_intro (tok := 0) Tryz.func245 rfl Tryz.ntmps245 Tryz.results245 Tryz.call245 (by rfl) (by simp) ?_
    (repeat' (first | (with_reducible first | refine stp ?_ | apply gx1 | apply gx2 | apply gx3 | apply gx4 | apply gx5 | apply gx6 | apply gx7 | apply gy8 | apply gz2 | apply gz3 | refine gw0 (cs) ?_ ?_ | refine gw3 (cs) ?_ ?_ ?_ | refine gw0 (ct) ?_ ?_ | refine gw3 (ct) ?_ ?_ ?_) | (with_reducible refine all_v ?_; intro _) | ((with_reducible refine gE ?_); (try simp (disch := omega) only [go_sem]) <;> first | rfl | omega) | with_reducible refine t_in_other (by decide) ?_ | ((with_reducible apply gy1); iterate 3 focus rfl) | ((with_reducible apply gy2); iterate 3 focus rfl) | ((with_reducible apply gy3); iterate 2 focus rfl) | ((with_reducible apply gy4); iterate 1 focus rfl) | ((with_reducible apply gy5); iterate 4 focus rfl) | ((with_reducible apply gy5c); iterate 4 focus rfl) | ((with_reducible apply gy6); iterate 4 focus rfl) | ((with_reducible apply d_bar); iterate 3 focus rfl) | ((with_reducible apply q_pub); iterate 1 focus rfl) | ((with_reducible apply gy7); iterate 1 focus rfl) | ((with_reducible apply gy9); (focus ((with_reducible refine gE ?_); (try simp (disch := omega) only [go_sem]) <;> rfl))) | ((with_reducible apply gz1); (focus first | rfl | (simp (disch := omega) only [go_sem]; done))) | ((with_reducible apply r_drawD (pickR [(1, .v (.int .i64 (zI s n).sign)), (3, .v (.int .i64 (zI t m).sign))]) [] []); (focus kernel_rfl); (focus rfl); (focus kernel_rfl); (focus (simp only [List.length_cons, List.length_nil, Nat.reduceAdd]; rfl)))))
    simp (disch := omega) only [go_sem]
  · have hcc : cmpZ (zI s n) (zI t m) = if (zI s n).sign < 0 then cmpN m n else cmpN n m := by
      unfold cmpZ cmpN
      cases s <;> cases t <;> simp only [zI, if_true, Bool.false_eq_true, if_false] at h ⊢
      · have hs0 : ¬ (n : Int).sign < 0 := by
          have := Int.sign_nonneg_iff.2 (Int.natCast_nonneg n)
          omega
        simp only [hs0, if_false, Int.ofNat_lt]
      · have h1 := Int.sign_nonneg_iff.2 (Int.natCast_nonneg n)
        have h2 : (-(m : Int)).sign ≤ 0 := by
          rcases Nat.eq_zero_or_pos m with h3 | h3
          · subst h3; simp
          · rw [Int.sign_eq_neg_one_of_neg (by omega)]; omega
        have h3 : (n : Int).sign = 0 := by omega
        have h4 : n = 0 := by have := Int.sign_eq_zero_iff_zero.1 h3; omega
        have h5 : m = 0 := by rw [h3] at h; have := Int.sign_eq_zero_iff_zero.1 h.symm; omega
        subst h4; subst h5; simp
      · have h1 := Int.sign_nonneg_iff.2 (Int.natCast_nonneg m)
        have h2 : (-(n : Int)).sign ≤ 0 := by
          rcases Nat.eq_zero_or_pos n with h3 | h3
          · subst h3; simp
          · rw [Int.sign_eq_neg_one_of_neg (by omega)]; omega
        have h3 : (m : Int).sign = 0 := by omega
        have h4 : m = 0 := by have := Int.sign_eq_zero_iff_zero.1 h3; omega
        have h5 : n = 0 := by rw [h3] at h; have := Int.sign_eq_zero_iff_zero.1 h; omega
        subst h4; subst h5; simp
      · rcases Nat.eq_zero_or_pos n with h3 | h3
        · subst h3
          have h5 : m = 0 := by have := Int.sign_eq_zero_iff_zero.1 h.symm; omega
          subst h5; simp
        · rw [if_pos (c := (-(n : Int)).sign < 0) (by rw [Int.sign_eq_neg_one_of_neg (by omega)]; omega)]
          have e1 : (-(n : Int) < -(m : Int)) ↔ m < n := by omega
          have e2 : (-(m : Int) < -(n : Int)) ↔ n < m := by omega
          simp only [e1, e2]
    rw [hcc]
    by_cases hneg : (zI s n).sign < 0
    · rw [if_pos hneg]
      refine pure_intro (tok := 0) Tryz.func245 rfl Tryz.ntmps245 Tryz.results245 Tryz.call245 (by rfl) (by simp) ?_
      (repeat' (first | (with_reducible first | refine stp ?_ | apply gx1 | apply gx2 | apply gx3 | apply gx4 | apply gx5 | apply gx6 | apply gx7 | apply gy8 | apply gz2 | apply gz3 | refine gw0 (cs) ?_ ?_ | refine gw3 (cs) ?_ ?_ ?_ | refine gw0 (ct) ?_ ?_ | refine gw3 (ct) ?_ ?_ ?_ | refine gw0 (intCmpN m n hm hn) ?_ ?_ | refine gw3 (intCmpN m n hm hn) ?_ ?_ ?_) | (with_reducible refine all_v ?_; intro _) | ((with_reducible refine gE ?_); (try simp (disch := omega) only [go_sem]) <;> first | rfl | omega) | with_reducible refine t_in_other (by decide) ?_ | ((with_reducible apply gy1); iterate 3 focus rfl) | ((with_reducible apply gy2); iterate 3 focus rfl) | ((with_reducible apply gy3); iterate 2 focus rfl) | ((with_reducible apply gy4); iterate 1 focus rfl) | ((with_reducible apply gy5); iterate 4 focus rfl) | ((with_reducible apply gy5c); iterate 4 focus rfl) | ((with_reducible apply gy6); iterate 4 focus rfl) | ((with_reducible apply d_bar); iterate 3 focus rfl) | ((with_reducible apply q_pub); iterate 1 focus rfl) | ((with_reducible apply gy7); iterate 1 focus rfl) | ((with_reducible apply gy9); (focus ((with_reducible refine gE ?_); (try simp (disch := omega) only [go_sem]) <;> rfl))) | ((with_reducible apply gz1); (focus first | rfl | (simp (disch := omega) only [go_sem]; done))) | ((with_reducible apply r_drawD (pickR [(1, .v (.int .i64 (zI s n).sign)), (3, .v (.int .i64 (zI t m).sign))]) [] []); (focus kernel_rfl); (focus rfl); (focus kernel_rfl); (focus (simp only [List.length_cons, List.length_nil, Nat.reduceAdd]; rfl)))))
      simp (disch := omega) only [go_sem]
    · rw [if_neg hneg]
      refine pure_intro (tok := 0) Tryz.func245 rfl Tryz.ntmps245 Tryz.results245 Tryz.call245 (by rfl) (by simp) ?_
      (repeat' (first | (with_reducible first | refine stp ?_ | apply gx1 | apply gx2 | apply gx3 | apply gx4 | apply gx5 | apply gx6 | apply gx7 | apply gy8 | apply gz2 | apply gz3 | refine gw0 (cs) ?_ ?_ | refine gw3 (cs) ?_ ?_ ?_ | refine gw0 (ct) ?_ ?_ | refine gw3 (ct) ?_ ?_ ?_ | refine gw0 (intCmpN n m hn hm) ?_ ?_ | refine gw3 (intCmpN n m hn hm) ?_ ?_ ?_) | (with_reducible refine all_v ?_; intro _) | ((with_reducible refine gE ?_); (try simp (disch := omega) only [go_sem]) <;> first | rfl | omega) | with_reducible refine t_in_other (by decide) ?_ | ((with_reducible apply gy1); iterate 3 focus rfl) | ((with_reducible apply gy2); iterate 3 focus rfl) | ((with_reducible apply gy3); iterate 2 focus rfl) | ((with_reducible apply gy4); iterate 1 focus rfl) | ((with_reducible apply gy5); iterate 4 focus rfl) | ((with_reducible apply gy5c); iterate 4 focus rfl) | ((with_reducible apply gy6); iterate 4 focus rfl) | ((with_reducible apply d_bar); iterate 3 focus rfl) | ((with_reducible apply q_pub); iterate 1 focus rfl) | ((with_reducible apply gy7); iterate 1 focus rfl) | ((with_reducible apply gy9); (focus ((with_reducible refine gE ?_); (try simp (disch := omega) only [go_sem]) <;> rfl))) | ((with_reducible apply gz1); (focus first | rfl | (simp (disch := omega) only [go_sem]; done))) | ((with_reducible apply r_drawD (pickR [(1, .v (.int .i64 (zI s n).sign)), (3, .v (.int .i64 (zI t m).sign))]) [] []); (focus kernel_rfl); (focus rfl); (focus kernel_rfl); (focus (simp only [List.length_cons, List.length_nil, Nat.reduceAdd]; rfl)))))
      simp (disch := omega) only [go_sem]
  · have hc : cmpZ (zI s n) (zI t m) = 1 := by
      have h0 : zI t m < zI s n := by
        rcases Int.lt_trichotomy (zI s n) 0 with h1 | h1 | h1 <;> rcases Int.lt_trichotomy (zI t m) 0 with h2 | h2 | h2 <;> first
          | omega
          | (exfalso; simp [Int.sign_eq_neg_one_of_neg, Int.sign_eq_one_of_pos, h1, h2] at h)
      unfold cmpZ
      rw [if_neg (by omega), if_pos h0]
    rw [hc]
    refine pure_intro (tok := 0) Tryz.func245 rfl Tryz.ntmps245 Tryz.results245 Tryz.call245 (by rfl) (by simp) ?_
    (repeat' (first | (with_reducible first | refine stp ?_ | apply gx1 | apply gx2 | apply gx3 | apply gx4 | apply gx5 | apply gx6 | apply gx7 | apply gy8 | apply gz2 | apply gz3 | refine gw0 (cs) ?_ ?_ | refine gw3 (cs) ?_ ?_ ?_ | refine gw0 (ct) ?_ ?_ | refine gw3 (ct) ?_ ?_ ?_) | (with_reducible refine all_v ?_; intro _) | ((with_reducible refine gE ?_); (try simp (disch := omega) only [go_sem]) <;> first | rfl | omega) | with_reducible refine t_in_other (by decide) ?_ | ((with_reducible apply gy1); iterate 3 focus rfl) | ((with_reducible apply gy2); iterate 3 focus rfl) | ((with_reducible apply gy3); iterate 2 focus rfl) | ((with_reducible apply gy4); iterate 1 focus rfl) | ((with_reducible apply gy5); iterate 4 focus rfl) | ((with_reducible apply gy5c); iterate 4 focus rfl) | ((with_reducible apply gy6); iterate 4 focus rfl) | ((with_reducible apply d_bar); iterate 3 focus rfl) | ((with_reducible apply q_pub); iterate 1 focus rfl) | ((with_reducible apply gy7); iterate 1 focus rfl) | ((with_reducible apply gy9); (focus ((with_reducible refine gE ?_); (try simp (disch := omega) only [go_sem]) <;> rfl))) | ((with_reducible apply gz1); (focus first | rfl | (simp (disch := omega) only [go_sem]; done))) | ((with_reducible apply r_drawD (pickR [(1, .v (.int .i64 (zI s n).sign)), (3, .v (.int .i64 (zI t m).sign))]) [] []); (focus kernel_rfl); (focus rfl); (focus kernel_rfl); (focus (simp only [List.length_cons, List.length_nil, Nat.reduceAdd]; rfl)))))
    simp (disch := omega) only [go_sem]

theorem intMul (s t : Bool) (n m : Nat) (hn : (toL n).length ≤ 100000000) (hm : (toL m).length ≤ 100000000) : Pure Tryz.prog 120 [intA s n, intA t m] (intZ (zI s n * zI t m)) := by
  have e : zI s n * zI t m = zI (s != t) (n * m) := by cases s <;> cases t <;> simp [zI, Int.mul_neg, Int.neg_mul]
  have lm : (toL (n * m)).length ≤ 1000000000 := by
    have h5 : (toL (n * m)).length ≤ (toL n).length + (toL m).length := by
      rw [toL_len_lt, Nat.pow_add]
      exact Nat.mul_lt_mul'' (toL_len_lt.1 (Nat.le_refl _)) (toL_len_lt.1 (Nat.le_refl _))
    omega
  rw [e]
  have hne : (!(s == t)) = (s != t) := rfl
  refine pure_intro (tok := 0) Tryz.func120 rfl Tryz.ntmps120 Tryz.results120 Tryz.call120 (by rfl) (by simp) ?_
  (repeat' (first | (with_reducible first | refine stp ?_ | apply gx1 | apply gx2 | apply gx3 | apply gx4 | apply gx5 | apply gx6 | apply gx7 | apply gy8 | apply gz2 | apply gz3 | refine gw0 (nMul n m hn hm) ?_ ?_ | refine gw3 (nMul n m hn hm) ?_ ?_ ?_ | refine gw0 (intMade (s != t) (n * m) lm) ?_ ?_ | refine gw3 (intMade (s != t) (n * m) lm) ?_ ?_ ?_) | (with_reducible refine all_v ?_; intro _) | ((with_reducible refine gE ?_); (try simp (disch := omega) only [go_sem, hne]) <;> first | rfl | omega) | with_reducible refine t_in_other (by decide) ?_ | ((with_reducible apply gy1); iterate 3 focus rfl) | ((with_reducible apply gy2); iterate 3 focus rfl) | ((with_reducible apply gy3); iterate 2 focus rfl) | ((with_reducible apply gy4); iterate 1 focus rfl) | ((with_reducible apply gy5); iterate 4 focus rfl) | ((with_reducible apply gy5c); iterate 4 focus rfl) | ((with_reducible apply gy6); iterate 4 focus rfl) | ((with_reducible apply d_bar); iterate 3 focus rfl) | ((with_reducible apply q_pub); iterate 1 focus rfl) | ((with_reducible apply gy7); iterate 1 focus rfl) | ((with_reducible apply gy9); (focus ((with_reducible refine gE ?_); (try simp (disch := omega) only [go_sem, hne]) <;> rfl))) | ((with_reducible apply gz1); (focus first | rfl | (simp (disch := omega) only [go_sem, hne]; done))) | ((with_reducible apply r_drawD (pickR [(9, lim (toL (n * m))), (10, intZ (zI (s != t) (n * m)))]) [11] []); (focus kernel_rfl); (focus rfl); (focus kernel_rfl); (focus (simp only [List.length_cons, List.length_nil, Nat.reduceAdd]; rfl)))))
  simp (disch := omega) only [go_sem]

set_option maxHeartbeats 1000000 in
theorem intAdd (s t : Bool) (n m : Nat) (hn : (toL n).length ≤ 100000000) (hm : (toL m).length ≤ 100000000) : Pure Tryz.prog 211 [intA s n, intA t m] (intZ (zI s n + zI t m)) := by
  by_cases hst : s = t
  · subst hst
    have e : zI s n + zI s m = zI s (n + m) := by cases s <;> simp [zI] <;> omega
    have la : (toL (n + m)).length ≤ 1000000000 := by
      have h5 : (toL (n + m)).length ≤ max (toL n).length (toL m).length + 1 := by
        rw [toL_len_lt, Nat.pow_succ]
        have h1 := toL_len_lt.1 (Nat.le_max_left (toL n).length (toL m).length)
        have h2 := toL_len_lt.1 (Nat.le_max_right (toL n).length (toL m).length)
        generalize 65536 ^ max (toL n).length (toL m).length = p at *
        omega
      omega
    rw [e]
    have hb : (s == s) = true := by cases s <;> rfl
    refine pure_intro (tok := 0) Tryz.func211 rfl Tryz.ntmps211 Tryz.results211 Tryz.call211 (by rfl) (by simp) ?_
    (repeat' (first | (with_reducible first | refine stp ?_ | apply gx1 | apply gx2 | apply gx3 | apply gx4 | apply gx5 | apply gx6 | apply gx7 | apply gy8 | apply gz2 | apply gz3 | refine gw0 (nAdd n m hn hm) ?_ ?_ | refine gw3 (nAdd n m hn hm) ?_ ?_ ?_ | refine gw0 (intMade s (n + m) la) ?_ ?_ | refine gw3 (intMade s (n + m) la) ?_ ?_ ?_) | (with_reducible refine all_v ?_; intro _) | ((with_reducible refine gE ?_); (try simp (disch := omega) only [go_sem, hb]) <;> first | rfl | omega) | with_reducible refine t_in_other (by decide) ?_ | ((with_reducible apply gy1); iterate 3 focus rfl) | ((with_reducible apply gy2); iterate 3 focus rfl) | ((with_reducible apply gy3); iterate 2 focus rfl) | ((with_reducible apply gy4); iterate 1 focus rfl) | ((with_reducible apply gy5); iterate 4 focus rfl) | ((with_reducible apply gy5c); iterate 4 focus rfl) | ((with_reducible apply gy6); iterate 4 focus rfl) | ((with_reducible apply d_bar); iterate 3 focus rfl) | ((with_reducible apply q_pub); iterate 1 focus rfl) | ((with_reducible apply gy7); iterate 1 focus rfl) | ((with_reducible apply gy9); (focus ((with_reducible refine gE ?_); (try simp (disch := omega) only [go_sem, hb]) <;> rfl))) | ((with_reducible apply gz1); (focus first | rfl | (simp (disch := omega) only [go_sem, hb]; done))) | ((with_reducible apply r_drawD (pickR [(6, lim (toL (n + m))), (7, intZ (zI s (n + m)))]) [8] []); (focus kernel_rfl); (focus rfl); (focus kernel_rfl); (focus (simp only [List.length_cons, List.length_nil, Nat.reduceAdd]; rfl)))))
    simp (disch := omega) only [go_sem]
  · have hb : (s == t) = false := by cases s <;> cases t <;> first | rfl | exact absurd rfl hst
    have ht : t = !s := by cases s <;> cases t <;> first | rfl | exact absurd rfl hst
    by_cases hlt : n < m
    · have hc : cmpN n m = -1 := if_pos hlt
      have e : zI s n + zI t m = zI t (m - n) := by rw [ht]; cases s <;> simp [zI] <;> omega
      have ls : (toL (m - n)).length ≤ 1000000000 := Nat.le_trans (toL_len_mono (Nat.sub_le _ _)) (by omega)
      have cs := nSub m n hm hn
      rw [if_neg (by omega), if_neg (by omega)] at cs
      rw [e]
      refine pure_intro (tok := 0) Tryz.func211 rfl Tryz.ntmps211 Tryz.results211 Tryz.call211 (by rfl) (by simp) ?_
      (focus (refine wkvd (w_a hb (w_a hc w_t)) (w_a (nCmp n m hn hm) (w_a cs (w_a (intMade t (m - n) ls) w_t))) w_t ?_; (repeat' first | exact w_t | apply w_l); all_goals intros))
      simp (disch := omega) only [go_sem]
    · have hc : 0 ≤ cmpN n m := by unfold cmpN; rw [if_neg hlt]; split <;> omega
      have e : zI s n + zI t m = zI s (n - m) := by rw [ht]; cases s <;> simp [zI] <;> omega
      have ls : (toL (n - m)).length ≤ 1000000000 := Nat.le_trans (toL_len_mono (Nat.sub_le _ _)) (by omega)
      have cs := nSub n m hn hm
      rw [if_neg (by omega), if_neg (by omega)] at cs
      rw [e]
      refine pure_intro (tok := 0) Tryz.func211 rfl Tryz.ntmps211 Tryz.results211 Tryz.call211 (by rfl) (by simp) ?_
      (focus (refine wkvd (w_a hb w_t) (w_a (nCmp n m hn hm) (w_a cs (w_a (intMade s (n - m) ls) w_t))) w_t ?_; (repeat' first | exact w_t | apply w_l); all_goals intros))
      simp (disch := omega) only [go_sem]


end Go.Proofs.YteiopjkamgmfpaaGreatDoor
end

section
namespace Go.Proofs.YteiopjkamgmfpaaGreatDoor
open Go Go.RowKit Go.Pg
set_option linter.unusedSimpArgs false
set_option linter.unusedVariables false
set_option maxRecDepth 20000
attribute [-bool_to_prop] Bool.and_eq_decide Bool.or_eq_decide Bool.decide_beq_decide decide_eq_decide

/-- What reads like a also reads like b, inside structs too. -/
inductive Vk : AV → AV → Prop
  | refl (a : AV) : Vk a a
  | nil (m : Nat) : Vk (.v (.slice none 0 0)) (.sl m [])
  | agg (xs ys : List AV) (hl : xs.length = ys.length) (h : ∀ (j : Nat) (a b : AV), xs[j]? = some a → ys[j]? = some b → Vk a b) : Vk (.agg xs) (.agg ys)
  | tup (xs ys : List AV) (hl : xs.length = ys.length) (h : ∀ (j : Nat) (a b : AV), xs[j]? = some a → ys[j]? = some b → Vk a b) : Vk (.tup xs) (.tup ys)
  | sl (m : Nat) (es es' : List AV) (hl : es.length = es'.length) (hm : ∀ e ∈ es', e.cells.length = m) (hok : ∀ e ∈ es', e.ok = true) (hf : (flat es).length = (flat es').length) (h : ∀ (j : Nat) (a b : AV), (flat es)[j]? = some a → (flat es')[j]? = some b → Vk a b) : Vk (.sl m es) (.sl m es')
theorem Vk.rd {w : World} {imm : Imm} {a b : AV} (h : Vk a b) : ∀ {x : Value}, Rd w imm a x → Rd w imm b x := by
  induction h with
  | refl a => exact fun h => h
  | nil m =>
    intro x h
    cases h
    exact .sl m [] none 0 (fun _ => undef) (by simp) (by simp) (Nat.le_refl _) (by simp) (by simp) (by simp [flat])
  | agg xs ys hl _ ih =>
    intro x h
    cases h with
    | agg _ vs hl2 hr =>
      refine .agg ys vs (by omega) fun j b x h1 h2 => ?_
      have hj : j < xs.length := by rw [hl]; exact (List.getElem?_eq_some_iff.1 h1).1
      exact ih j xs[j] b (List.getElem?_eq_getElem hj) h1 (hr j xs[j] x (List.getElem?_eq_getElem hj) h2)
  | tup xs ys hl _ ih =>
    intro x h
    cases h with
    | tup _ vs hl2 hr =>
      refine .tup ys vs (by omega) fun j b x h1 h2 => ?_
      have hj : j < xs.length := by rw [hl]; exact (List.getElem?_eq_some_iff.1 h1).1
      exact ih j xs[j] b (List.getElem?_eq_getElem hj) h1 (hr j xs[j] x (List.getElem?_eq_getElem hj) h2)
  | sl m es es' hl hm hok hf _ ih =>
    intro x h
    obtain ⟨A, cap, f, rfl, hcap, _, _, hn, hA, hr⟩ := (Rs.pure h).sl_inv
    rw [hl]
    refine .sl m es' A cap f hm hok (by omega) (fun h => hn (by omega)) (fun j hj => hA j (by rw [hl]; exact hj)) fun j b hb => ?_
    have hj : j < (flat es).length := by rw [hf]; exact (List.getElem?_eq_some_iff.1 hb).1
    exact ih j _ b (List.getElem?_eq_getElem hj) hb (hr j _ (List.getElem?_eq_getElem hj))
/-- Likewise for lists. -/
def VkL (xs ys : List AV) : Prop := xs.length = ys.length ∧ ∀ (j : Nat) (a b : AV), xs[j]? = some a → ys[j]? = some b → Vk a b
theorem VkL.nil : VkL [] [] := ⟨rfl, fun j a b h => by simp at h⟩
theorem VkL.cons {a b : AV} {xs ys : List AV} (h : Vk a b) (t : VkL xs ys) : VkL (a :: xs) (b :: ys) := by
  refine ⟨by simp [t.1], fun j x y h1 h2 => ?_⟩
  cases j with
  | zero => simp at h1 h2; subst h1; subst h2; exact h
  | succ j => exact t.2 j x y (by simpa using h1) (by simpa using h2)
theorem VkL.refl (xs : List AV) : VkL xs xs := ⟨rfl, fun j a b h1 h2 => by rw [h1] at h2; cases h2; exact .refl _⟩
theorem Vk.aggL {xs ys : List AV} (h : VkL xs ys) : Vk (.agg xs) (.agg ys) := .agg xs ys h.1 h.2
theorem pure_vk {P : Program} {f : FuncId} {args args' : List AV} {r r' : AV} (h : Pure P f args' r) (ha : VkL args args') (hw : Vk r r') : Pure P f args r' := by
  refine ⟨h.1, fun w imm vs h1 h2 h3 => (h.2 w imm vs h1 (by rw [← ha.1]; exact h2) fun j b x e1 e2 => ?_).mono fun e w' he => ?_⟩
  · have hj : j < args.length := by rw [ha.1]; exact (List.getElem?_eq_some_iff.1 e1).1
    exact (ha.2 j args[j] b (List.getElem?_eq_getElem hj) e1).rd (h3 j args[j] x (List.getElem?_eq_getElem hj) e2)
  · obtain ⟨x, imm', e1, e2, e3⟩ := he
    exact ⟨x, imm', e1, hw.rd e2, e3⟩
theorem pure_vkA {P : Program} {f : FuncId} {args args' : List AV} {r : AV} (h : Pure P f args' r) (ha : VkL args args') : Pure P f args r := pure_vk h ha (.refl _)
theorem pure_vkR {P : Program} {f : FuncId} {args : List AV} {r r' : AV} (h : Pure P f args r) (hw : Vk r r') : Pure P f args r' := pure_vk h (.refl _) hw

theorem lg_mul (n m : Nat) : (toL (n * m)).length ≤ (toL n).length + (toL m).length := by
  rw [toL_len_lt, Nat.pow_add]
  exact Nat.mul_lt_mul'' (toL_len_lt.1 (Nat.le_refl _)) (toL_len_lt.1 (Nat.le_refl _))
theorem lg_add (n m : Nat) : (toL (n + m)).length ≤ max ((toL n).length) ((toL m).length) + 1 := by
  rw [toL_len_lt, Nat.pow_succ]
  have h1 := toL_len_lt.1 (Nat.le_max_left ((toL n).length) ((toL m).length))
  have h2 := toL_len_lt.1 (Nat.le_max_right ((toL n).length) ((toL m).length))
  generalize 65536 ^ max ((toL n).length) ((toL m).length) = p at *
  omega
theorem lg_mono {n m : Nat} (h : n ≤ m) : (toL n).length ≤ (toL m).length := toL_len_mono h
theorem lg_one : (toL 1).length = 1 := by rw [toL_pos (by omega)]; simp [toL_zero]
theorem toL_one : toL 1 = [1] := by rw [toL_pos (by omega)]; simp [toL_zero]

/-- A rational number. -/
abbrev ratQ (q : Rat) : AV := .agg [.v (.bool (decide (q.num < 0))), lim (toL q.num.natAbs), lim (toL q.den)]
/-- Sign, and what is above and below the line, in any form. -/
abbrev ratA (s : Bool) (n d : Nat) : AV := .agg [.v (.bool s), lim (toL n), lim (toL d)]
/-- Numbers of at most k limbs above and below the line. -/
def Sz (q : Rat) (k : Nat) : Prop := (toL q.num.natAbs).length ≤ k ∧ (toL q.den).length ≤ k
theorem Sz.mono {q : Rat} {k j : Nat} (h : Sz q k) (hk : k ≤ j) : Sz q j := ⟨Nat.le_trans h.1 hk, Nat.le_trans h.2 hk⟩
theorem ratQ_mk (z : Int) (m : Nat) (hm : m ≠ 0) : ratQ (mkRat z m) = .agg [.v (.bool (decide (z < 0))), lim (toL (z.natAbs / Nat.gcd z.natAbs m)), lim (toL (m / Nat.gcd z.natAbs m))] := by
  unfold ratQ
  rw [Rat.num_mkRat, Rat.den_mkRat, if_neg hm, if_neg hm, Nat.gcd_comm m z.natAbs]
  have hg : 0 < Nat.gcd z.natAbs m := Nat.gcd_pos_of_pos_right _ (by omega)
  have hd : ((Nat.gcd z.natAbs m : Nat) : Int) ∣ z := Int.ofNat_dvd_left.2 (Nat.gcd_dvd_left _ _)
  generalize Nat.gcd z.natAbs m = g at *
  obtain ⟨k, hk⟩ := hd
  have hgz : (g : Int) ≠ 0 := by omega
  have e1 : z / (g : Int) = k := by rw [hk, Int.mul_ediv_cancel_left _ hgz]
  have e2 : z.natAbs / g = k.natAbs := by rw [hk, Int.natAbs_mul, Int.natAbs_natCast, Nat.mul_div_cancel_left _ hg]
  have e3 : (z < 0) ↔ (k < 0) := by
    rw [hk]
    constructor
    · intro h
      rcases (by omega : k < 0 ∨ 0 ≤ k) with h1 | h1
      · exact h1
      · have := Int.mul_nonneg (show (0 : Int) ≤ g by omega) h1
        omega
    · intro h
      exact Int.mul_neg_of_pos_of_neg (by omega) h
  rw [e1, e2]
  simp only [e3]
theorem Sz.mk {z : Int} {m k : Nat} (hz : (toL z.natAbs).length ≤ k) (hm : (toL m).length ≤ k) (hk : 1 ≤ k) : Sz (mkRat z m) k := by
  unfold Sz
  rw [Rat.num_mkRat, Rat.den_mkRat]
  by_cases h : m = 0
  · rw [if_pos h, if_pos h]
    refine ⟨?_, by rw [lg_one]; exact hk⟩
    show (toL 0).length ≤ k
    rw [toL_zero]; simp
  · rw [if_neg h, if_neg h]
    refine ⟨Nat.le_trans (lg_mono ?_) hz, Nat.le_trans (lg_mono (Nat.div_le_self _ _)) hm⟩
    have hd : ((Nat.gcd m z.natAbs : Nat) : Int) ∣ z := Int.ofNat_dvd_left.2 (Nat.gcd_dvd_right _ _)
    have hg : 0 < Nat.gcd m z.natAbs := Nat.gcd_pos_of_pos_left _ (by omega)
    generalize Nat.gcd m z.natAbs = g at *
    obtain ⟨c, hc⟩ := hd
    rw [hc, Int.mul_ediv_cancel_left _ (by omega), Int.natAbs_mul, Int.natAbs_natCast]
    exact Nat.le_mul_of_pos_left _ hg
theorem natAbs_add_le (a b : Int) : (a + b).natAbs ≤ a.natAbs + b.natAbs := by omega
theorem Sz.pos {q : Rat} {k : Nat} (h : Sz q k) : 1 ≤ k := by
  have h1 := toL_len_pos.2 q.den_pos
  have h2 := h.2
  omega
theorem lg_cross (a b : Rat) {j k : Nat} (ha : Sz a j) (hb : Sz b k) : (toL (a.num * b.den).natAbs).length ≤ j + k := by
  rw [Int.natAbs_mul, Int.natAbs_natCast]
  exact Nat.le_trans (lg_mul _ _) (Nat.add_le_add ha.1 hb.2)
theorem Sz.mul {a b : Rat} {j k : Nat} (ha : Sz a j) (hb : Sz b k) : Sz (a * b) (j + k) := by
  rw [Rat.mul_def']
  refine Sz.mk ?_ (Nat.le_trans (lg_mul _ _) (Nat.add_le_add ha.2 hb.2)) (by have := ha.pos; omega)
  rw [Int.natAbs_mul]
  exact Nat.le_trans (lg_mul _ _) (Nat.add_le_add ha.1 hb.1)
theorem Sz.add {a b : Rat} {j k : Nat} (ha : Sz a j) (hb : Sz b k) : Sz (a + b) (j + k + 1) := by
  rw [Rat.add_def']
  refine Sz.mk ?_ (Nat.le_trans (lg_mul _ _) (by have := ha.2; have := hb.2; omega)) (by omega)
  have h1 := lg_cross a b ha hb
  have h2 := lg_cross b a hb ha
  have h3 := lg_mono (natAbs_add_le (a.num * b.den) (b.num * a.den))
  have h4 := lg_add (a.num * b.den).natAbs (b.num * a.den).natAbs
  omega
theorem Sz.neg {a : Rat} {j : Nat} (ha : Sz a j) : Sz (-a) j := by
  unfold Sz
  rw [Rat.neg_num, Rat.neg_den, Int.natAbs_neg]
  exact ha
theorem Sz.sub {a b : Rat} {j k : Nat} (ha : Sz a j) (hb : Sz b k) : Sz (a - b) (j + k + 1) := by
  rw [Rat.sub_eq_add_neg]
  exact ha.add hb.neg
theorem Sz.inv {a : Rat} {j : Nat} (ha : Sz a j) : Sz (a⁻¹) j := by
  unfold Sz
  rw [Rat.num_inv, Rat.den_inv]
  by_cases h : a.num = 0
  · rw [if_pos h, h]
    refine ⟨?_, by rw [lg_one]; exact ha.pos⟩
    have : (Int.sign 0 * (a.den : Int)).natAbs = 0 := by simp
    rw [this]
    show (toL 0).length ≤ j
    rw [toL_zero]; simp
  · rw [if_neg h]
    refine ⟨?_, ha.1⟩
    rw [Int.natAbs_mul, Int.natAbs_natCast, Int.natAbs_sign_of_ne_zero h, Nat.one_mul]
    exact ha.2
theorem Sz.int {z : Int} {k : Nat} (h : (toL z.natAbs).length ≤ k) (hk : 1 ≤ k) : Sz (z : Rat) k := ⟨h, by show (toL 1).length ≤ k; rw [lg_one]; exact hk⟩

/-- The order of two rational numbers. -/
def cmpQ (a b : Rat) : Int := if a < b then -1 else if b < a then 1 else 0
theorem cmpQ_z (a b : Rat) : cmpQ a b = cmpZ (a.num * b.den) (b.num * a.den) := by
  unfold cmpQ cmpZ
  simp only [Rat.lt_iff]

theorem iMul (z w : Int) (hz : (toL z.natAbs).length ≤ 100000000) (hw : (toL w.natAbs).length ≤ 100000000) : Pure Tryz.prog 120 [intZ z, intZ w] (intZ (z * w)) := by
  have := intMul (decide (z < 0)) (decide (w < 0)) z.natAbs w.natAbs hz hw
  rwa [zI_abs, zI_abs] at this
theorem iAddA (z : Int) (t : Bool) (m : Nat) (hz : (toL z.natAbs).length ≤ 100000000) (hm : (toL m).length ≤ 100000000) : Pure Tryz.prog 211 [intZ z, intA t m] (intZ (z + zI t m)) := by
  have := intAdd (decide (z < 0)) t z.natAbs m hz hm
  rwa [zI_abs] at this
theorem iAdd0 (t : Bool) (m : Nat) (hm : (toL m).length ≤ 100000000) : Pure Tryz.prog 211 [.agg [.v (.bool false), .v (.slice none 0 0)], intA t m] (intZ (zI t m)) := by
  have h := iAddA 0 t m (by show (toL 0).length ≤ _; rw [toL_zero]; simp) hm
  rw [Int.zero_add] at h
  refine pure_vkA h (.cons (.aggL (.cons (.refl _) (.cons ?_ .nil))) (.cons (.refl _) .nil))
  show Vk _ (.sl 1 (u16s (toL 0)))
  rw [toL_zero]
  exact .nil 1
theorem iSign (z : Int) (hz : (toL z.natAbs).length ≤ 100000000) : Pure Tryz.prog 122 [intZ z] (.v (.int .i64 z.sign)) := by
  have := intSign (decide (z < 0)) z.natAbs hz
  rwa [zI_abs] at this
def sumC (z w : Int) : Nat → List AV
  | 0 => [.v (.bool false), .v (.slice none 0 0)]
  | 1 => [.v (.bool (decide (z < 0))), lim (toL z.natAbs)]
  | _ => [.v (.bool (decide (z + w < 0))), lim (toL (z + w).natAbs)]
theorem u16s_c (x : Nat) (l : List Nat) : u16s (x :: l) = AV.v (.int .u16 (x : Int)) :: u16s l := rfl
theorem szShape : szOf Tryz.prog 198 = some 2 := by kernel_rfl
theorem zShape : zeroOf Tryz.prog 198 = some (.agg #[.int .i64 0, .int .u16 0]) := by kernel_rfl
theorem eqShape : eqTy Tryz.prog 198 = true := by kernel_rfl
theorem nat_sz1 (n : Nat) (h : n < 65536) : Sz (n : Rat) 1 := ⟨toL_len_lt.2 (by show ((n : Int)).natAbs < _; simpa using h), toL_len_lt.2 (by show 1 < 65536 ^ 1; decide)⟩
end Go.Proofs.YteiopjkamgmfpaaGreatDoor
end

section
namespace Go.Proofs.YteiopjkamgmfpaaGreatDoor
open Go Go.RowKit Go.Pg
set_option linter.unusedSimpArgs false
set_option linter.unusedVariables false
set_option maxRecDepth 20000
attribute [local go_sem] Tryz.underlying45 Tryz.underlying3 Tryz.underlying156 Tryz.underlying115 Tryz.underlying4 Tryz.underlying47 Tryz.underlying49 Tryz.underlying34 Tryz.underlying198 sz3 by3 z3 szL byL zL szB zB szNat zNat szInt zInt szRat zRat szShape zShape eqShape Tryz.underlying230
attribute [-bool_to_prop] Bool.and_eq_decide Bool.or_eq_decide Bool.decide_beq_decide decide_eq_decide
theorem intOf (n : Nat) (hn : n < 9223372036854775808) : Pure Tryz.prog 97 [.v (.int .i64 (n : Int))] (intA false n) := by
  have l4 : (toL n).length ≤ 4 := toL_len_lt.2 (by omega)
  have hm := intMade false n (by omega)
  rw [intZ_of, Bool.false_and] at hm
  refine pure_intro (tok := 0) Tryz.func97 rfl Tryz.ntmps97 Tryz.results97 Tryz.call97 (by rfl) (by simp) ?_
  (focus (refine wkvp w_t (w_a (natOf n (by omega)) (w_a hm w_t)) ?_; (repeat' first | exact w_t | apply w_l); all_goals intros))
  simp (disch := omega) only [go_sem]

theorem ratUnit : Pure Tryz.prog 98 [] (lim (toL 1)) := by
  rw [toL_one]
  refine pure_intro (tok := 0) Tryz.func98 rfl Tryz.ntmps98 Tryz.results98 Tryz.call98 (by rfl) (by simp) ?_
  (focus (refine wkvp w_t w_t ?_; (repeat' first | exact w_t | apply w_l); all_goals intros))
  exact gC

theorem ratWhole (n : Nat) : Pure Tryz.prog 170 [lim (toL n)] (intA false n) := by
  refine pure_intro (tok := 0) Tryz.func170 rfl Tryz.ntmps170 Tryz.results170 Tryz.call170 (by rfl) (by simp) ?_
  (focus (refine wkvp w_t w_t ?_; (repeat' first | exact w_t | apply w_l); all_goals intros))
  simp (disch := omega) only [go_sem]

theorem ratOne (n : Nat) (hn : (toL n).length ≤ 100000000) : Pure Tryz.prog 116 [lim (toL n)] (.v (.bool (decide (n = 1)))) := by
  by_cases h0 : n = 0
  · subst h0
    rw [toL_zero]
    refine pure_intro (tok := 0) Tryz.func116 rfl Tryz.ntmps116 Tryz.results116 Tryz.call116 (by rfl) (by simp) ?_
    (focus (refine wkvp w_t w_t ?_; (repeat' first | exact w_t | apply w_l); all_goals intros))
    simp (disch := omega) only [go_sem, Bool.and_self]
  · have hd : decide (n = 1) = (((((toL (n / 65536)).length + 1 : Nat) : Int) == 1) && (((n % 65536 : Nat) : Int) == 1)) := by
      have hp := @toL_len_pos (n / 65536)
      rw [Bool.eq_iff_iff]
      simp only [decide_eq_true_eq, Bool.and_eq_true, beq_iff_eq]
      omega
    rw [toL_pos (by omega), hd]
    refine pure_intro (tok := 0) Tryz.func116 rfl Tryz.ntmps116 Tryz.results116 Tryz.call116 (by rfl) (by simp) ?_
    (focus (refine wkvp (w_a @u16s_c w_t) w_t ?_; (repeat' first | exact w_t | apply w_l); all_goals intros))
    simp (disch := omega) only [go_sem]

theorem ratPartsA (s : Bool) (n d : Nat) (h2 : (toL d).length ≤ 10000000) (h0 : d ≠ 0) : Pure Tryz.prog 118 [ratA s n d] (.tup [intA s n, lim (toL d)]) := by
  have hb : bitsN d ≠ 0 := fun e => h0 (bitsN_zero.1 e)
  refine pure_intro (tok := 0) Tryz.func118 rfl Tryz.ntmps118 Tryz.results118 Tryz.call118 (by rfl) (by simp) ?_
  (repeat' (first | (with_reducible first | refine stp ?_ | apply gx1 | apply gx2 | apply gx3 | apply gx4 | apply gx5 | apply gx6 | apply gx7 | apply gy8 | apply gz2 | apply gz3 | refine gw0 (nBits d (by omega)) ?_ ?_ | refine gw3 (nBits d (by omega)) ?_ ?_ ?_) | (with_reducible refine all_v ?_; intro _) | ((with_reducible refine gE ?_); (try simp (disch := omega) only [go_sem]) <;> first | rfl | omega) | with_reducible refine t_in_other (by decide) ?_ | ((with_reducible apply gy1); iterate 3 focus rfl) | ((with_reducible apply gy2); iterate 3 focus rfl) | ((with_reducible apply gy3); iterate 2 focus rfl) | ((with_reducible apply gy4); iterate 1 focus rfl) | ((with_reducible apply gy5); iterate 4 focus rfl) | ((with_reducible apply gy5c); iterate 4 focus rfl) | ((with_reducible apply gy6); iterate 4 focus rfl) | ((with_reducible apply d_bar); iterate 3 focus rfl) | ((with_reducible apply q_pub); iterate 1 focus rfl) | ((with_reducible apply gy7); iterate 1 focus rfl) | ((with_reducible apply gy9); (focus ((with_reducible refine gE ?_); (try simp (disch := omega) only [go_sem]) <;> rfl))) | ((with_reducible apply gz1); (focus first | rfl | (simp (disch := omega) only [go_sem]; done))) | ((with_reducible apply r_drawD (pickR []) [] [2]); (focus kernel_rfl); (focus rfl); (focus kernel_rfl); (focus (simp only [List.length_cons, List.length_nil, Nat.reduceAdd]; rfl)))))
  simp (disch := omega) only [go_sem]
theorem ratParts (q : Rat) {k : Nat} (h : Sz q k) (hk : k ≤ 10000000) : Pure Tryz.prog 118 [ratQ q] (.tup [intZ q.num, lim (toL q.den)]) :=
  ratPartsA _ _ _ (Nat.le_trans h.2 hk) q.den_nz

set_option maxHeartbeats 1000000 in
theorem ratReduced (s : Bool) (n m : Nat) (hn : (toL n).length ≤ 10000000) (hm : (toL m).length ≤ 10000000) (h0 : m ≠ 0) : Pure Tryz.prog 119 [intA s n, lim (toL m)] (ratQ (mkRat (zI s n) m)) := by
  have cn := intNorm s n (by omega)
  have hz := zI_natAbs s n
  rw [ratQ_mk _ _ h0]
  generalize zI s n = z at *
  subst hz
  have hmp := toL_len_pos.2 (Nat.pos_of_ne_zero h0)
  have g0 : Nat.gcd z.natAbs m ≠ 0 := Nat.ne_of_gt (Nat.gcd_pos_of_pos_right _ (by omega))
  have hg : (toL (Nat.gcd z.natAbs m)).length ≤ 10000000 := Nat.le_trans (lg_mono (Nat.le_of_dvd (by omega) (Nat.gcd_dvd_right _ _))) hm
  have cg := nGcd z.natAbs m (by omega) (by omega)
  have c1 := ratOne m (by omega)
  have c2 := ratOne (Nat.gcd z.natAbs m) (by omega)
  by_cases hz0 : z.natAbs = 0
  · have hzz : z = 0 := by omega
    subst hzz
    have l0 : (toL 0).length = 0 := by rw [toL_zero]; rfl
    have n0 : Int.natAbs 0 = 0 := rfl
    have hd : decide ((0 : Int) < 0) = false := rfl
    have cn : Pure Tryz.prog 179 [intA s 0] (.agg [.v (.bool false), lim (toL 0)]) := cn
    rw [n0] at hn ⊢
    rw [Nat.gcd_zero_left, Nat.zero_div, Nat.div_self (by omega), hd]
    refine pure_vkR (r := .agg [.v (.bool false), .v (.slice none 0 0), lim (toL 1)]) ?_ (.aggL (.cons (.refl _) (.cons ?_ (VkL.refl _))))
    · refine pure_intro (tok := 0) Tryz.func119 rfl Tryz.ntmps119 Tryz.results119 Tryz.call119 (by rfl) (by simp) ?_
      (focus (refine wkvp (w_a l0 w_t) (w_a (nNorm m (by omega)) (w_a cn (w_a ratUnit w_t))) ?_; (repeat' first | exact w_t | apply w_l); all_goals intros))
      simp (disch := omega) only [go_sem]
    · show Vk _ (.sl 1 (u16s (toL 0)))
      rw [toL_zero]
      exact .nil 1
  · have hzp := toL_len_pos.2 (Nat.pos_of_ne_zero hz0)
    by_cases hm1 : m = 1
    · subst hm1
      rw [Nat.gcd_one_right, Nat.div_one, Nat.div_one]
      refine pure_intro (tok := 0) Tryz.func119 rfl Tryz.ntmps119 Tryz.results119 Tryz.call119 (by rfl) (by simp) ?_
      (focus (refine wkvp w_t (w_a (nNorm 1 (by omega)) (w_a cn (w_a c1 w_t))) ?_; (repeat' first | exact w_t | apply w_l); all_goals intros))
      simp (disch := omega) only [go_sem]
    · have d1 : decide (m = 1) = false := decide_eq_false hm1
      rw [d1] at c1
      by_cases hg1 : Nat.gcd z.natAbs m = 1
      · have d2 : decide (Nat.gcd z.natAbs m = 1) = true := decide_eq_true hg1
        rw [d2] at c2
        rw [hg1, Nat.div_one, Nat.div_one]
        refine pure_intro (tok := 0) Tryz.func119 rfl Tryz.ntmps119 Tryz.results119 Tryz.call119 (by rfl) (by simp) ?_
        (focus (refine wkvp w_t (w_a (nNorm m (by omega)) (w_a cn (w_a c1 (w_a cg (w_a c2 w_t))))) ?_; (repeat' first | exact w_t | apply w_l); all_goals intros))
        simp (disch := omega) only [go_sem]
      · have d2 : decide (Nat.gcd z.natAbs m = 1) = false := decide_eq_false hg1
        rw [d2] at c2
        refine pure_intro (tok := 0) Tryz.func119 rfl Tryz.ntmps119 Tryz.results119 Tryz.call119 (by rfl) (by simp) ?_
        (focus (refine wkvd w_t (w_a (nNorm m (by omega)) (w_a cn (w_a c1 (w_a cg (w_a c2 (w_a (nDivMod z.natAbs (Nat.gcd z.natAbs m) (by omega) (by omega) g0) (w_a (nDivMod m (Nat.gcd z.natAbs m) (by omega) (by omega) g0) w_t))))))) w_t ?_; (repeat' first | exact w_t | apply w_l); all_goals intros))
        simp (disch := omega) only [go_sem]


theorem ratSign (q : Rat) {k : Nat} (h : Sz q k) (hk : k ≤ 10000000) : Pure Tryz.prog 59 [ratQ q] (.v (.int .i64 q.num.sign)) := by
  have h1 := h.1
  refine pure_intro (tok := 0) Tryz.func59 rfl Tryz.ntmps59 Tryz.results59 Tryz.call59 (by rfl) (by simp) ?_
  (focus (refine wkvp w_t (w_a (ratParts q h hk) (w_a (iSign q.num (by omega)) w_t)) ?_; (repeat' first | exact w_t | apply w_l); all_goals intros))
  simp (disch := omega) only [go_sem]


theorem ratSumA (s t : Bool) (n m : Nat) (hn : (toL n).length ≤ 100000000) (hm : (toL m).length ≤ 100000000) : Pure Tryz.prog 169 [.sl 2 [intA s n, intA t m]] (intZ (zI s n + zI t m)) := by
  have cz := iAdd0 s n hn
  have ca := iAddA (zI s n) t m (by rw [zI_natAbs]; exact hn) hm
  generalize zI s n = z at *
  generalize zI t m = w at *
  refine pure_intro (tok := 0) Tryz.func169 rfl Tryz.ntmps169 Tryz.results169 Tryz.call169 (by rfl) (by simp) ?_
  (focus (refine wkvp w_t w_t ?_; (repeat' first | exact w_t | apply w_l); all_goals intros))
  refine r_loopE (ι := Nat) (fun k e mm => k ≤ 2 ∧ e 6 = .sl 2 [intA s n, intA t m] ∧ e 7 = .v (.int .i64 2) ∧ e 8 = .v (.int .i64 (k : Int)) ∧ ∃ g2 g, e 2 = .pbox 2 g2 0 ∧ mm 2 = some (.box g2 47 [.v (.bool false), .v (.slice none 0 0)] false) ∧ e 3 = .pbox 3 g 0 ∧ mm 3 = some (.box g 47 (sumC z w k) false)) (fun k => 2 - k) 0 (by rfl) ?_ ?_
  · rintro k e mm ⟨hk, e6, e7, e8, g2, g, e2, m2, e3, m3⟩
    match k, hk with
    | 0, _ =>
      simp only [sumC] at m3
      (focus (refine wkvp (w_a e6 (w_a e7 (w_a e8 (w_a e2 (w_a m2 (w_a e3 (w_a m3 (w_a @Int.natCast_zero w_t)))))))) (w_a cz w_t) ?_; (repeat' first | exact w_t | apply w_l); all_goals intros))
      exact ⟨1, ⟨by omega, by exact gW e6, by exact gW e7, by exact gW e8, g2, g, by exact gW e2, by exact gW m2, by exact gW e3, by (simp (disch := omega) only [go_sem, m3, sumC] <;> repeat' first | rfl | refine ⟨?_, ?_⟩)⟩, by omega⟩
    | 1, _ =>
      simp only [sumC] at m3
      (focus (refine wkvp (w_a e6 (w_a e7 (w_a e8 (w_a e2 (w_a m2 (w_a e3 (w_a m3 (w_a @Int.natCast_one w_t)))))))) (w_a ca w_t) ?_; (repeat' first | exact w_t | apply w_l); all_goals intros))
      exact ⟨2, ⟨by omega, by exact gW e6, by exact gW e7, by exact gW e8, g2, g, by exact gW e2, by exact gW m2, by exact gW e3, by (simp (disch := omega) only [go_sem, m3, sumC] <;> repeat' first | rfl | refine ⟨?_, ?_⟩)⟩, by omega⟩
    | 2, _ =>
      simp only [sumC] at m3
      (focus (refine wkvp (w_a e6 (w_a e7 (w_a e8 (w_a e2 (w_a m2 (w_a e3 (w_a m3 w_t))))))) w_t ?_; (repeat' first | exact w_t | apply w_l); all_goals intros))
      simp (disch := omega) only [go_sem, e2]
  · exact ⟨by omega, by exact gC, by exact gC, by exact gC, _, _, by exact gC, by exact gC, by exact gC, by (simp (disch := omega) only [go_sem, sumC] <;> repeat' first | rfl | refine ⟨?_, ?_⟩)⟩
theorem ratSum (z w : Int) (hz : (toL z.natAbs).length ≤ 100000000) (hw : (toL w.natAbs).length ≤ 100000000) : Pure Tryz.prog 169 [.sl 2 [intZ z, intZ w]] (intZ (z + w)) := by
  have := ratSumA (decide (z < 0)) (decide (w < 0)) z.natAbs w.natAbs hz hw
  rwa [zI_abs, zI_abs] at this

end Go.Proofs.YteiopjkamgmfpaaGreatDoor
end

section
namespace Go.Proofs.YteiopjkamgmfpaaGreatDoor
open Go Go.RowKit Go.Pg
set_option linter.unusedSimpArgs false
set_option linter.unusedVariables false
set_option maxRecDepth 20000
attribute [local go_sem] Tryz.underlying45 Tryz.underlying3 Tryz.underlying156 Tryz.underlying115 Tryz.underlying4 Tryz.underlying47 Tryz.underlying49 Tryz.underlying34 sz3 by3 z3 szL byL zL szB zB szNat zNat szInt zInt szRat zRat Tryz.underlying230
attribute [-bool_to_prop] Bool.and_eq_decide Bool.or_eq_decide Bool.decide_beq_decide decide_eq_decide

theorem ratOf (n : Nat) (hn : n < 9223372036854775808) : Pure Tryz.prog 38 [.v (.int .i64 (n : Int))] (ratQ (n : Rat)) := by
  refine pure_intro (tok := 0) Tryz.func38 rfl Tryz.ntmps38 Tryz.results38 Tryz.call38 (by rfl) (by simp) ?_
  have hd : decide ((n : Rat).num < 0) = false := decide_eq_false (by show ¬ ((n : Int) < 0); omega)
  have hn' : (n : Rat).num.natAbs = n := Int.natAbs_natCast n
  unfold ratQ
  rw [hd, hn', Rat.den_natCast]
  (focus (refine wkvp w_t (w_a (intOf n hn) (w_a ratUnit w_t)) ?_; (repeat' first | exact w_t | apply w_l); all_goals intros))
  simp (disch := omega) only [go_sem]

theorem ratMul (a b : Rat) {j k : Nat} (ha : Sz a j) (hb : Sz b k) (hj : j ≤ 2000000) (hk : k ≤ 2000000) : Pure Tryz.prog 58 [ratQ a, ratQ b] (ratQ (a * b)) := by
  obtain ⟨a1, a2⟩ := id ha
  obtain ⟨b1, b2⟩ := id hb
  have l1 : (toL (a.num * b.num).natAbs).length ≤ j + k := by rw [Int.natAbs_mul]; exact Nat.le_trans (lg_mul _ _) (by omega)
  have l2 : (toL (a.den * b.den)).length ≤ j + k := Nat.le_trans (lg_mul _ _) (by omega)
  have c := ratReduced (decide (a.num * b.num < 0)) (a.num * b.num).natAbs (a.den * b.den) (by omega) (by omega) (Nat.mul_ne_zero a.den_nz b.den_nz)
  rw [zI_abs, ← Rat.mul_def'] at c
  refine pure_intro (tok := 0) Tryz.func58 rfl Tryz.ntmps58 Tryz.results58 Tryz.call58 (by rfl) (by simp) ?_
  (focus (refine wkvp w_t (w_a (ratParts a ha (by omega)) (w_a (ratParts b hb (by omega)) (w_a (iMul a.num b.num (by omega) (by omega)) (w_a (nMul a.den b.den (by omega) (by omega)) (w_a c w_t))))) ?_; (repeat' first | exact w_t | apply w_l); all_goals intros))
  simp (disch := omega) only [go_sem]

set_option maxHeartbeats 1000000 in
theorem ratAddA (s t : Bool) (n d m c : Nat) {j k : Nat} (a1 : (toL n).length ≤ j) (a2 : (toL d).length ≤ j) (b1 : (toL m).length ≤ k) (b2 : (toL c).length ≤ k) (hd0 : d ≠ 0) (hc0 : c ≠ 0) (hj : j ≤ 2000000) (hk : k ≤ 2000000) :
    Pure Tryz.prog 109 [ratA s n d, ratA t m c] (ratQ (mkRat (zI s n) d + mkRat (zI t m) c)) := by
  have oa := ratOne d (by omega)
  have ob := ratOne c (by omega)
  have l2 : (toL (d * c)).length ≤ j + k := Nat.le_trans (lg_mul _ _) (by omega)
  have z1 := zI_natAbs s n
  have w1 := zI_natAbs t m
  have pa := ratPartsA s n d (by omega) hd0
  have pb := ratPartsA t m c (by omega) hc0
  have eq : mkRat (zI s n) d + mkRat (zI t m) c = mkRat (zI s n * c + zI t m * d) (d * c) := Rat.mkRat_add_mkRat _ _ hd0 hc0
  have cs0 := ratSumA s t n m (by omega) (by omega)
  have cm1 : Pure Tryz.prog 120 [intA s n, intA false c] (intZ (zI s n * c)) := intMul s false n c (by omega) (by omega)
  have cm2 : Pure Tryz.prog 120 [intA t m, intA false d] (intZ (zI t m * d)) := intMul t false m d (by omega) (by omega)
  rw [eq]
  have x1 : (toL (zI s n * c).natAbs).length ≤ j + k := by
    rw [Int.natAbs_mul, Int.natAbs_natCast, z1]
    exact Nat.le_trans (lg_mul _ _) (by omega)
  have x2 : (toL (zI t m * d).natAbs).length ≤ j + k := by
    rw [Int.natAbs_mul, Int.natAbs_natCast, w1]
    exact Nat.le_trans (lg_mul _ _) (by omega)
  by_cases h1 : d = 1 ∧ c = 1
  · obtain ⟨h1, h2⟩ := h1
    have l1 : (toL (zI s n + zI t m).natAbs).length ≤ j + k + 1 := by
      have h3 := lg_mono (natAbs_add_le (zI s n) (zI t m))
      have h4 := lg_add (zI s n).natAbs (zI t m).natAbs
      rw [z1, w1] at h3 h4
      omega
    have c := ratReduced (decide (zI s n + zI t m < 0)) (zI s n + zI t m).natAbs 1 (by omega) (by rw [lg_one]; omega) (by omega)
    rw [zI_abs] at c
    subst h1; subst h2
    rw [decide_eq_true rfl] at oa ob
    have e1 : zI s n * ((1 : Nat) : Int) + zI t m * ((1 : Nat) : Int) = zI s n + zI t m := by omega
    rw [e1, Nat.mul_one]
    refine pure_intro (tok := 0) Tryz.func109 rfl Tryz.ntmps109 Tryz.results109 Tryz.call109 (by rfl) (by simp) ?_
    (repeat' (first | (with_reducible first | refine stp ?_ | apply gx1 | apply gx2 | apply gx3 | apply gx4 | apply gx5 | apply gx6 | apply gx7 | apply gy8 | apply gz2 | apply gz3 | refine gw0 (pa) ?_ ?_ | refine gw3 (pa) ?_ ?_ ?_ | refine gw0 (pb) ?_ ?_ | refine gw3 (pb) ?_ ?_ ?_ | refine gw0 (oa) ?_ ?_ | refine gw3 (oa) ?_ ?_ ?_ | refine gw0 (ob) ?_ ?_ | refine gw3 (ob) ?_ ?_ ?_ | apply gw1 (cs0) | refine gw0 (c) ?_ ?_ | refine gw3 (c) ?_ ?_ ?_) | (with_reducible refine all_v ?_; intro _) | ((with_reducible refine gE ?_); (try simp (disch := omega) only [go_sem]) <;> first | rfl | omega) | with_reducible refine t_in_other (by decide) ?_ | ((with_reducible apply gy1); iterate 3 focus rfl) | ((with_reducible apply gy2); iterate 3 focus rfl) | ((with_reducible apply gy3); iterate 2 focus rfl) | ((with_reducible apply gy4); iterate 1 focus rfl) | ((with_reducible apply gy5); iterate 4 focus rfl) | ((with_reducible apply gy5c); iterate 4 focus rfl) | ((with_reducible apply gy6); iterate 4 focus rfl) | ((with_reducible apply d_bar); iterate 3 focus rfl) | ((with_reducible apply q_pub); iterate 1 focus rfl) | ((with_reducible apply gy7); iterate 1 focus rfl) | ((with_reducible apply gy9); (focus ((with_reducible refine gE ?_); (try simp (disch := omega) only [go_sem]) <;> rfl))) | ((with_reducible apply gz1); (focus first | rfl | (simp (disch := omega) only [go_sem]; done))) | ((with_reducible apply r_drawD (pickR []) [] []); (focus kernel_rfl); (focus rfl); (focus kernel_rfl); (focus (simp only [List.length_cons, List.length_nil, Nat.reduceAdd]; rfl)))))
    simp (disch := omega) only [go_sem]
  · have l1 : (toL (zI s n * c + zI t m * d).natAbs).length ≤ j + k + 1 := by
      have h3 := lg_mono (natAbs_add_le (zI s n * c) (zI t m * d))
      have h4 := lg_add (zI s n * c).natAbs (zI t m * d).natAbs
      omega
    have cr := ratReduced (decide (zI s n * c + zI t m * d < 0)) (zI s n * c + zI t m * d).natAbs (d * c) (by omega) (by omega) (Nat.mul_ne_zero hd0 hc0)
    rw [zI_abs] at cr
    have cs := ratSum (zI s n * c) (zI t m * d) (by omega) (by omega)
    have cw1 := ratWhole c
    have cw2 := ratWhole d
    have cm := nMul d c (by omega) (by omega)
    generalize zI s n * (c : Int) = y1 at *
    generalize zI t m * (d : Int) = y2 at *
    by_cases h2 : d = 1
    · have h3 : c ≠ 1 := fun h => h1 ⟨h2, h⟩
      rw [decide_eq_true h2] at oa
      rw [decide_eq_false h3] at ob
      refine pure_intro (tok := 0) Tryz.func109 rfl Tryz.ntmps109 Tryz.results109 Tryz.call109 (by rfl) (by simp) ?_
      (repeat' (first | (with_reducible first | refine stp ?_ | apply gx1 | apply gx2 | apply gx3 | apply gx4 | apply gx5 | apply gx6 | apply gx7 | apply gy8 | apply gz2 | apply gz3 | refine gw0 (pa) ?_ ?_ | refine gw3 (pa) ?_ ?_ ?_ | refine gw0 (pb) ?_ ?_ | refine gw3 (pb) ?_ ?_ ?_ | refine gw0 (oa) ?_ ?_ | refine gw3 (oa) ?_ ?_ ?_ | refine gw0 (ob) ?_ ?_ | refine gw3 (ob) ?_ ?_ ?_ | refine gw0 (cw1) ?_ ?_ | refine gw3 (cw1) ?_ ?_ ?_ | refine gw0 (cm1) ?_ ?_ | refine gw3 (cm1) ?_ ?_ ?_ | refine gw0 (cw2) ?_ ?_ | refine gw3 (cw2) ?_ ?_ ?_ | refine gw0 (cm2) ?_ ?_ | refine gw3 (cm2) ?_ ?_ ?_ | refine gw0 (cs) ?_ ?_ | refine gw3 (cs) ?_ ?_ ?_ | refine gw0 (cm) ?_ ?_ | refine gw3 (cm) ?_ ?_ ?_ | refine gw0 (cr) ?_ ?_ | refine gw3 (cr) ?_ ?_ ?_) | (with_reducible refine all_v ?_; intro _) | ((with_reducible refine gE ?_); (try simp (disch := omega) only [go_sem]) <;> first | rfl | omega) | with_reducible refine t_in_other (by decide) ?_ | ((with_reducible apply gy1); iterate 3 focus rfl) | ((with_reducible apply gy2); iterate 3 focus rfl) | ((with_reducible apply gy3); iterate 2 focus rfl) | ((with_reducible apply gy4); iterate 1 focus rfl) | ((with_reducible apply gy5); iterate 4 focus rfl) | ((with_reducible apply gy5c); iterate 4 focus rfl) | ((with_reducible apply gy6); iterate 4 focus rfl) | ((with_reducible apply d_bar); iterate 3 focus rfl) | ((with_reducible apply q_pub); iterate 1 focus rfl) | ((with_reducible apply gy7); iterate 1 focus rfl) | ((with_reducible apply gy9); (focus ((with_reducible refine gE ?_); (try simp (disch := omega) only [go_sem]) <;> rfl))) | ((with_reducible apply gz1); (focus first | rfl | (simp (disch := omega) only [go_sem]; done))) | ((with_reducible apply r_drawD (pickR [(2, intA false c), (3, intZ y1), (6, intA false d), (7, intZ y2), (8, .sl 2 [intZ y1, intZ y2]), (9, intZ (y1 + y2)), (12, lim (toL (d * c))), (13, ratQ (mkRat (y1 + y2) (d * c)))]) [] [4]); (focus kernel_rfl); (focus rfl); (focus kernel_rfl); (focus (simp only [List.length_cons, List.length_nil, Nat.reduceAdd]; rfl)))))
      simp (disch := omega) only [go_sem]
    · rw [decide_eq_false h2] at oa
      refine pure_intro (tok := 0) Tryz.func109 rfl Tryz.ntmps109 Tryz.results109 Tryz.call109 (by rfl) (by simp) ?_
      (repeat' (first | (with_reducible first | refine stp ?_ | apply gx1 | apply gx2 | apply gx3 | apply gx4 | apply gx5 | apply gx6 | apply gx7 | apply gy8 | apply gz2 | apply gz3 | refine gw0 (pa) ?_ ?_ | refine gw3 (pa) ?_ ?_ ?_ | refine gw0 (pb) ?_ ?_ | refine gw3 (pb) ?_ ?_ ?_ | refine gw0 (oa) ?_ ?_ | refine gw3 (oa) ?_ ?_ ?_ | refine gw0 (cw1) ?_ ?_ | refine gw3 (cw1) ?_ ?_ ?_ | refine gw0 (cm1) ?_ ?_ | refine gw3 (cm1) ?_ ?_ ?_ | refine gw0 (cw2) ?_ ?_ | refine gw3 (cw2) ?_ ?_ ?_ | refine gw0 (cm2) ?_ ?_ | refine gw3 (cm2) ?_ ?_ ?_ | refine gw0 (cs) ?_ ?_ | refine gw3 (cs) ?_ ?_ ?_ | refine gw0 (cm) ?_ ?_ | refine gw3 (cm) ?_ ?_ ?_ | refine gw0 (cr) ?_ ?_ | refine gw3 (cr) ?_ ?_ ?_) | (with_reducible refine all_v ?_; intro _) | ((with_reducible refine gE ?_); (try simp (disch := omega) only [go_sem]) <;> first | rfl | omega) | with_reducible refine t_in_other (by decide) ?_ | ((with_reducible apply gy1); iterate 3 focus rfl) | ((with_reducible apply gy2); iterate 3 focus rfl) | ((with_reducible apply gy3); iterate 2 focus rfl) | ((with_reducible apply gy4); iterate 1 focus rfl) | ((with_reducible apply gy5); iterate 4 focus rfl) | ((with_reducible apply gy5c); iterate 4 focus rfl) | ((with_reducible apply gy6); iterate 4 focus rfl) | ((with_reducible apply d_bar); iterate 3 focus rfl) | ((with_reducible apply q_pub); iterate 1 focus rfl) | ((with_reducible apply gy7); iterate 1 focus rfl) | ((with_reducible apply gy9); (focus ((with_reducible refine gE ?_); (try simp (disch := omega) only [go_sem]) <;> rfl))) | ((with_reducible apply gz1); (focus first | rfl | (simp (disch := omega) only [go_sem]; done))) | ((with_reducible apply r_drawD (pickR [(2, intA false c), (3, intZ y1), (6, intA false d), (7, intZ y2), (8, .sl 2 [intZ y1, intZ y2]), (9, intZ (y1 + y2)), (12, lim (toL (d * c))), (13, ratQ (mkRat (y1 + y2) (d * c)))]) [] [4]); (focus kernel_rfl); (focus rfl); (focus kernel_rfl); (focus (simp only [List.length_cons, List.length_nil, Nat.reduceAdd]; rfl)))))
      simp (disch := omega) only [go_sem]
theorem ratAdd (a b : Rat) {j k : Nat} (ha : Sz a j) (hb : Sz b k) (hj : j ≤ 2000000) (hk : k ≤ 2000000) : Pure Tryz.prog 109 [ratQ a, ratQ b] (ratQ (a + b)) := by
  have := ratAddA (decide (a.num < 0)) (decide (b.num < 0)) a.num.natAbs a.den b.num.natAbs b.den ha.1 ha.2 hb.1 hb.2 a.den_nz b.den_nz hj hk
  rwa [zI_abs, zI_abs, Rat.mkRat_self, Rat.mkRat_self] at this

theorem ratSub (a b : Rat) {j k : Nat} (ha : Sz a j) (hb : Sz b k) (hj : j ≤ 2000000) (hk : k ≤ 2000000) : Pure Tryz.prog 111 [ratQ a, ratQ b] (ratQ (a - b)) := by
  have c := ratAddA (decide (a.num < 0)) (!decide (b.num < 0)) a.num.natAbs a.den b.num.natAbs b.den ha.1 ha.2 hb.1 hb.2 a.den_nz b.den_nz hj hk
  have e : zI (!decide (b.num < 0)) b.num.natAbs = -b.num := by
    have := zI_abs b.num
    unfold zI at *
    by_cases h : b.num < 0
    · simp only [decide_eq_true h, Bool.not_true, Bool.false_eq_true, if_false]; omega
    · simp only [decide_eq_false h, Bool.not_false, if_true]; omega
  have e2 : mkRat (-b.num) b.den = -b := by rw [← Rat.neg_mkRat, Rat.mkRat_self]
  rw [zI_abs, e, Rat.mkRat_self, e2, ← Rat.sub_eq_add_neg] at c
  refine pure_intro (tok := 0) Tryz.func111 rfl Tryz.ntmps111 Tryz.results111 Tryz.call111 (by rfl) (by simp) ?_
  (focus (refine wkvp w_t (w_a c w_t) ?_; (repeat' first | exact w_t | apply w_l); all_goals intros))
  simp (disch := omega) only [go_sem]

end Go.Proofs.YteiopjkamgmfpaaGreatDoor
end

section
namespace Go.Proofs.YteiopjkamgmfpaaGreatDoor
open Go Go.RowKit Go.Pg
set_option linter.unusedSimpArgs false
set_option linter.unusedVariables false
set_option maxRecDepth 20000
attribute [local go_sem] Tryz.underlying45 Tryz.underlying3 Tryz.underlying156 Tryz.underlying115 Tryz.underlying4 Tryz.underlying47 Tryz.underlying49 Tryz.underlying34 sz3 by3 z3 szL byL zL szB zB szNat zNat szInt zInt szRat zRat Tryz.underlying230
attribute [-bool_to_prop] Bool.and_eq_decide Bool.or_eq_decide Bool.decide_beq_decide decide_eq_decide

theorem intZ_neg {z : Int} (h : z < 0) : intZ z = intA true z.natAbs := by unfold intZ; rw [decide_eq_true h]
theorem intZ_pos {z : Int} (h : ¬ z < 0) : intZ z = intA false z.natAbs := by unfold intZ; rw [decide_eq_false h]

theorem zOf' (s : Bool) (n : Nat) (hn : (toL n).length ≤ 100000000) : Pure Tryz.prog 143 [.v (.bool s), lim (toL n)] (intZ (zI s n)) := by
  rw [intZ_of]
  have hp := @toL_len_pos n
  cases s
  · refine pure_intro (tok := 0) Tryz.func143 rfl Tryz.ntmps143 Tryz.results143 Tryz.call143 (by rfl) (by simp) ?_
    (focus (refine wkvp w_t (w_a (rNorm n hn) w_t) ?_; (repeat' first | exact w_t | apply w_l); all_goals intros))
    simp (disch := omega) only [go_sem, Bool.false_and]
  · by_cases h : 0 < n
    · have h2 := hp.2 h
      refine pure_intro (tok := 0) Tryz.func143 rfl Tryz.ntmps143 Tryz.results143 Tryz.call143 (by rfl) (by simp) ?_
      (focus (refine wkvp w_t (w_a (rNorm n hn) w_t) ?_; (repeat' first | exact w_t | apply w_l); all_goals intros))
      simp (disch := omega) only [go_sem, decide_eq_true h]
    · have h2 : ¬ 0 < (toL n).length := fun h3 => h (hp.1 h3)
      refine pure_intro (tok := 0) Tryz.func143 rfl Tryz.ntmps143 Tryz.results143 Tryz.call143 (by rfl) (by simp) ?_
      (focus (refine wkvp w_t (w_a (rNorm n hn) w_t) ?_; (repeat' first | exact w_t | apply w_l); all_goals intros))
      simp (disch := omega) only [go_sem, decide_eq_false h]

theorem zNorm (s : Bool) (n : Nat) (hn : (toL n).length ≤ 100000000) : Pure Tryz.prog 142 [intA s n] (intZ (zI s n)) := by
  refine pure_intro (tok := 0) Tryz.func142 rfl Tryz.ntmps142 Tryz.results142 Tryz.call142 (by rfl) (by simp) ?_
  (focus (refine wkvp w_t (w_a (zOf' s n hn) w_t) ?_; (repeat' first | exact w_t | apply w_l); all_goals intros))
  simp (disch := omega) only [go_sem]
theorem zNormZ (z : Int) (hz : (toL z.natAbs).length ≤ 100000000) : Pure Tryz.prog 142 [intZ z] (intZ z) := by
  have := zNorm (decide (z < 0)) z.natAbs hz
  rwa [zI_abs] at this

theorem zOf (n : Nat) (hn : n < 9223372036854775808) : Pure Tryz.prog 77 [.v (.int .i64 (n : Int))] (intA false n) := by
  have l4 : (toL n).length ≤ 4 := toL_len_lt.2 (by omega)
  have hm := zOf' false n (by omega)
  rw [intZ_of, Bool.false_and] at hm
  refine pure_intro (tok := 0) Tryz.func77 rfl Tryz.ntmps77 Tryz.results77 Tryz.call77 (by rfl) (by simp) ?_
  (focus (refine wkvp w_t (w_a (refOf n (by omega)) (w_a hm w_t)) ?_; (repeat' first | exact w_t | apply w_l); all_goals intros))
  simp (disch := omega) only [go_sem]


theorem zSign (z : Int) (hz : (toL z.natAbs).length ≤ 100000000) : Pure Tryz.prog 137 [intZ z] (.v (.int .i64 z.sign)) := by
  have cn := zNormZ z hz
  have hp := @toL_len_pos z.natAbs
  rcases Int.lt_trichotomy z 0 with h | h | h
  · rw [Int.sign_eq_neg_one_of_neg h]
    have h2 := hp.2 (by omega)
    rw [intZ_neg h] at cn ⊢
    refine pure_intro (tok := 0) Tryz.func137 rfl Tryz.ntmps137 Tryz.results137 Tryz.call137 (by rfl) (by simp) ?_
    (focus (refine wkvp w_t (w_a cn w_t) ?_; (repeat' first | exact w_t | apply w_l); all_goals intros))
    simp (disch := omega) only [go_sem]
  · have h2 : ¬ 0 < (toL z.natAbs).length := fun h3 => by have := hp.1 h3; omega
    have hs : z.sign = 0 := by rw [h]; rfl
    rw [hs]
    rw [intZ_pos (by omega)] at cn ⊢
    refine pure_intro (tok := 0) Tryz.func137 rfl Tryz.ntmps137 Tryz.results137 Tryz.call137 (by rfl) (by simp) ?_
    (focus (refine wkvp w_t (w_a cn w_t) ?_; (repeat' first | exact w_t | apply w_l); all_goals intros))
    simp (disch := omega) only [go_sem]
  · rw [Int.sign_eq_one_of_pos h]
    have h2 := hp.2 (by omega)
    rw [intZ_pos (by omega)] at cn ⊢
    refine pure_intro (tok := 0) Tryz.func137 rfl Tryz.ntmps137 Tryz.results137 Tryz.call137 (by rfl) (by simp) ?_
    (focus (refine wkvp w_t (w_a cn w_t) ?_; (repeat' first | exact w_t | apply w_l); all_goals intros))
    simp (disch := omega) only [go_sem]

theorem zCmp (z w : Int) (hz : (toL z.natAbs).length ≤ 100000000) (hw : (toL w.natAbs).length ≤ 100000000) : Pure Tryz.prog 149 [intZ z, intZ w] (.v (.int .i64 (cmpZ z w))) := by
  have c1 := zNormZ z hz
  have c2 := zNormZ w hw
  have ca := rCmp z.natAbs w.natAbs hz hw
  have cb := rCmp w.natAbs z.natAbs hw hz
  by_cases h1 : z < 0
  · by_cases h2 : w < 0
    · have hc : cmpZ z w = cmpN w.natAbs z.natAbs := by
        unfold cmpZ cmpN
        have e1 : (z < w) ↔ (w.natAbs < z.natAbs) := by omega
        have e2 : (w < z) ↔ (z.natAbs < w.natAbs) := by omega
        simp only [e1, e2]
      rw [hc]
      rw [intZ_neg h1] at c1 ⊢
      rw [intZ_neg h2] at c2 ⊢
      refine pure_intro (tok := 0) Tryz.func149 rfl Tryz.ntmps149 Tryz.results149 Tryz.call149 (by rfl) (by simp) ?_
      (repeat' (first | (with_reducible first | refine stp ?_ | apply gx1 | apply gx2 | apply gx3 | apply gx4 | apply gx5 | apply gx6 | apply gx7 | apply gy8 | apply gz2 | apply gz3 | refine gw0 (c1) ?_ ?_ | refine gw3 (c1) ?_ ?_ ?_ | refine gw0 (c2) ?_ ?_ | refine gw3 (c2) ?_ ?_ ?_ | refine gw0 (cb) ?_ ?_ | refine gw3 (cb) ?_ ?_ ?_) | (with_reducible refine all_v ?_; intro _) | ((with_reducible refine gE ?_); (try simp (disch := omega) only [go_sem]) <;> first | rfl | omega) | with_reducible refine t_in_other (by decide) ?_ | ((with_reducible apply gy1); iterate 3 focus rfl) | ((with_reducible apply gy2); iterate 3 focus rfl) | ((with_reducible apply gy3); iterate 2 focus rfl) | ((with_reducible apply gy4); iterate 1 focus rfl) | ((with_reducible apply gy5); iterate 4 focus rfl) | ((with_reducible apply gy5c); iterate 4 focus rfl) | ((with_reducible apply gy6); iterate 4 focus rfl) | ((with_reducible apply d_bar); iterate 3 focus rfl) | ((with_reducible apply q_pub); iterate 1 focus rfl) | ((with_reducible apply gy7); iterate 1 focus rfl) | ((with_reducible apply gy9); (focus ((with_reducible refine gE ?_); (try simp (disch := omega) only [go_sem]) <;> rfl))) | ((with_reducible apply gz1); (focus first | rfl | (simp (disch := omega) only [go_sem]; done))) | ((with_reducible apply r_drawD (pickR [(1, .agg [.v (.bool true), lim (toL z.natAbs)]), (3, .agg [.v (.bool true), lim (toL w.natAbs)])]) [4,5] []); (focus kernel_rfl); (focus rfl); (focus kernel_rfl); (focus (simp only [List.length_cons, List.length_nil, Nat.reduceAdd]; rfl)))))
      simp (disch := omega) only [go_sem]
    · have hc : cmpZ z w = -1 := if_pos (by omega)
      rw [hc]
      rw [intZ_neg h1] at c1 ⊢
      rw [intZ_pos h2] at c2 ⊢
      refine pure_intro (tok := 0) Tryz.func149 rfl Tryz.ntmps149 Tryz.results149 Tryz.call149 (by rfl) (by simp) ?_
      (repeat' (first | (with_reducible first | refine stp ?_ | apply gx1 | apply gx2 | apply gx3 | apply gx4 | apply gx5 | apply gx6 | apply gx7 | apply gy8 | apply gz2 | apply gz3 | refine gw0 (c1) ?_ ?_ | refine gw3 (c1) ?_ ?_ ?_ | refine gw0 (c2) ?_ ?_ | refine gw3 (c2) ?_ ?_ ?_) | (with_reducible refine all_v ?_; intro _) | ((with_reducible refine gE ?_); (try simp (disch := omega) only [go_sem]) <;> first | rfl | omega) | with_reducible refine t_in_other (by decide) ?_ | ((with_reducible apply gy1); iterate 3 focus rfl) | ((with_reducible apply gy2); iterate 3 focus rfl) | ((with_reducible apply gy3); iterate 2 focus rfl) | ((with_reducible apply gy4); iterate 1 focus rfl) | ((with_reducible apply gy5); iterate 4 focus rfl) | ((with_reducible apply gy5c); iterate 4 focus rfl) | ((with_reducible apply gy6); iterate 4 focus rfl) | ((with_reducible apply d_bar); iterate 3 focus rfl) | ((with_reducible apply q_pub); iterate 1 focus rfl) | ((with_reducible apply gy7); iterate 1 focus rfl) | ((with_reducible apply gy9); (focus ((with_reducible refine gE ?_); (try simp (disch := omega) only [go_sem]) <;> rfl))) | ((with_reducible apply gz1); (focus first | rfl | (simp (disch := omega) only [go_sem]; done))) | ((with_reducible apply r_drawD (pickR [(1, .agg [.v (.bool true), lim (toL z.natAbs)]), (3, .agg [.v (.bool false), lim (toL w.natAbs)])]) [4,5] []); (focus kernel_rfl); (focus rfl); (focus kernel_rfl); (focus (simp only [List.length_cons, List.length_nil, Nat.reduceAdd]; rfl)))))
      simp (disch := omega) only [go_sem]
  · by_cases h2 : w < 0
    · have hc : cmpZ z w = 1 := by unfold cmpZ; rw [if_neg (by omega), if_pos (by omega)]
      rw [hc]
      rw [intZ_pos h1] at c1 ⊢
      rw [intZ_neg h2] at c2 ⊢
      refine pure_intro (tok := 0) Tryz.func149 rfl Tryz.ntmps149 Tryz.results149 Tryz.call149 (by rfl) (by simp) ?_
      (repeat' (first | (with_reducible first | refine stp ?_ | apply gx1 | apply gx2 | apply gx3 | apply gx4 | apply gx5 | apply gx6 | apply gx7 | apply gy8 | apply gz2 | apply gz3 | refine gw0 (c1) ?_ ?_ | refine gw3 (c1) ?_ ?_ ?_ | refine gw0 (c2) ?_ ?_ | refine gw3 (c2) ?_ ?_ ?_) | (with_reducible refine all_v ?_; intro _) | ((with_reducible refine gE ?_); (try simp (disch := omega) only [go_sem]) <;> first | rfl | omega) | with_reducible refine t_in_other (by decide) ?_ | ((with_reducible apply gy1); iterate 3 focus rfl) | ((with_reducible apply gy2); iterate 3 focus rfl) | ((with_reducible apply gy3); iterate 2 focus rfl) | ((with_reducible apply gy4); iterate 1 focus rfl) | ((with_reducible apply gy5); iterate 4 focus rfl) | ((with_reducible apply gy5c); iterate 4 focus rfl) | ((with_reducible apply gy6); iterate 4 focus rfl) | ((with_reducible apply d_bar); iterate 3 focus rfl) | ((with_reducible apply q_pub); iterate 1 focus rfl) | ((with_reducible apply gy7); iterate 1 focus rfl) | ((with_reducible apply gy9); (focus ((with_reducible refine gE ?_); (try simp (disch := omega) only [go_sem]) <;> rfl))) | ((with_reducible apply gz1); (focus first | rfl | (simp (disch := omega) only [go_sem]; done))) | ((with_reducible apply r_drawD (pickR [(1, .agg [.v (.bool false), lim (toL z.natAbs)]), (3, .agg [.v (.bool true), lim (toL w.natAbs)])]) [4,5] []); (focus kernel_rfl); (focus rfl); (focus kernel_rfl); (focus (simp only [List.length_cons, List.length_nil, Nat.reduceAdd]; rfl)))))
      simp (disch := omega) only [go_sem]
    · have hc : cmpZ z w = cmpN z.natAbs w.natAbs := by
        unfold cmpZ cmpN
        have e1 : (z < w) ↔ (z.natAbs < w.natAbs) := by omega
        have e2 : (w < z) ↔ (w.natAbs < z.natAbs) := by omega
        simp only [e1, e2]
      rw [hc]
      rw [intZ_pos h1] at c1 ⊢
      rw [intZ_pos h2] at c2 ⊢
      refine pure_intro (tok := 0) Tryz.func149 rfl Tryz.ntmps149 Tryz.results149 Tryz.call149 (by rfl) (by simp) ?_
      (repeat' (first | (with_reducible first | refine stp ?_ | apply gx1 | apply gx2 | apply gx3 | apply gx4 | apply gx5 | apply gx6 | apply gx7 | apply gy8 | apply gz2 | apply gz3 | refine gw0 (c1) ?_ ?_ | refine gw3 (c1) ?_ ?_ ?_ | refine gw0 (c2) ?_ ?_ | refine gw3 (c2) ?_ ?_ ?_ | refine gw0 (ca) ?_ ?_ | refine gw3 (ca) ?_ ?_ ?_) | (with_reducible refine all_v ?_; intro _) | ((with_reducible refine gE ?_); (try simp (disch := omega) only [go_sem]) <;> first | rfl | omega) | with_reducible refine t_in_other (by decide) ?_ | ((with_reducible apply gy1); iterate 3 focus rfl) | ((with_reducible apply gy2); iterate 3 focus rfl) | ((with_reducible apply gy3); iterate 2 focus rfl) | ((with_reducible apply gy4); iterate 1 focus rfl) | ((with_reducible apply gy5); iterate 4 focus rfl) | ((with_reducible apply gy5c); iterate 4 focus rfl) | ((with_reducible apply gy6); iterate 4 focus rfl) | ((with_reducible apply d_bar); iterate 3 focus rfl) | ((with_reducible apply q_pub); iterate 1 focus rfl) | ((with_reducible apply gy7); iterate 1 focus rfl) | ((with_reducible apply gy9); (focus ((with_reducible refine gE ?_); (try simp (disch := omega) only [go_sem]) <;> rfl))) | ((with_reducible apply gz1); (focus first | rfl | (simp (disch := omega) only [go_sem]; done))) | ((with_reducible apply r_drawD (pickR [(1, .agg [.v (.bool false), lim (toL z.natAbs)]), (3, .agg [.v (.bool false), lim (toL w.natAbs)])]) [4,5] []); (focus kernel_rfl); (focus rfl); (focus kernel_rfl); (focus (simp only [List.length_cons, List.length_nil, Nat.reduceAdd]; rfl)))))
      simp (disch := omega) only [go_sem]

theorem zMul (s t : Bool) (n m : Nat) (hn : (toL n).length ≤ 40000000) (hm : (toL m).length ≤ 40000000) : Pure Tryz.prog 133 [intA s n, intA t m] (intZ (zI s n * zI t m)) := by
  have e : zI s n * zI t m = zI (s != t) (n * m) := by cases s <;> cases t <;> simp [zI, Int.mul_neg, Int.neg_mul]
  have lm := lg_mul n m
  have hne : (!(s == t)) = (s != t) := rfl
  rw [e]
  refine pure_intro (tok := 0) Tryz.func133 rfl Tryz.ntmps133 Tryz.results133 Tryz.call133 (by rfl) (by simp) ?_
  (repeat' (first | (with_reducible first | refine stp ?_ | apply gx1 | apply gx2 | apply gx3 | apply gx4 | apply gx5 | apply gx6 | apply gx7 | apply gy8 | apply gz2 | apply gz3 | refine gw0 (rMul n m (by omega) (by omega)) ?_ ?_ | refine gw3 (rMul n m (by omega) (by omega)) ?_ ?_ ?_ | refine gw0 (zOf' (s != t) (n * m) (by omega)) ?_ ?_ | refine gw3 (zOf' (s != t) (n * m) (by omega)) ?_ ?_ ?_) | (with_reducible refine all_v ?_; intro _) | ((with_reducible refine gE ?_); (try simp (disch := omega) only [go_sem, hne]) <;> first | rfl | omega) | with_reducible refine t_in_other (by decide) ?_ | ((with_reducible apply gy1); iterate 3 focus rfl) | ((with_reducible apply gy2); iterate 3 focus rfl) | ((with_reducible apply gy3); iterate 2 focus rfl) | ((with_reducible apply gy4); iterate 1 focus rfl) | ((with_reducible apply gy5); iterate 4 focus rfl) | ((with_reducible apply gy5c); iterate 4 focus rfl) | ((with_reducible apply gy6); iterate 4 focus rfl) | ((with_reducible apply d_bar); iterate 3 focus rfl) | ((with_reducible apply q_pub); iterate 1 focus rfl) | ((with_reducible apply gy7); iterate 1 focus rfl) | ((with_reducible apply gy9); (focus ((with_reducible refine gE ?_); (try simp (disch := omega) only [go_sem, hne]) <;> rfl))) | ((with_reducible apply gz1); (focus first | rfl | (simp (disch := omega) only [go_sem, hne]; done))) | ((with_reducible apply r_drawD (pickR [(9, lim (toL (n * m))), (10, intZ (zI (s != t) (n * m)))]) [11] []); (focus kernel_rfl); (focus rfl); (focus kernel_rfl); (focus (simp only [List.length_cons, List.length_nil, Nat.reduceAdd]; rfl)))))
  simp (disch := omega) only [go_sem]

set_option maxHeartbeats 1000000 in
theorem zAdd (s t : Bool) (n m : Nat) (hn : (toL n).length ≤ 40000000) (hm : (toL m).length ≤ 40000000) : Pure Tryz.prog 208 [intA s n, intA t m] (intZ (zI s n + zI t m)) := by
  by_cases hst : s = t
  · subst hst
    have e : zI s n + zI s m = zI s (n + m) := by cases s <;> simp [zI] <;> omega
    have la := lg_add n m
    rw [e]
    have hb : (s == s) = true := by cases s <;> rfl
    refine pure_intro (tok := 0) Tryz.func208 rfl Tryz.ntmps208 Tryz.results208 Tryz.call208 (by rfl) (by simp) ?_
    (repeat' (first | (with_reducible first | refine stp ?_ | apply gx1 | apply gx2 | apply gx3 | apply gx4 | apply gx5 | apply gx6 | apply gx7 | apply gy8 | apply gz2 | apply gz3 | refine gw0 (rAdd n m (by omega) (by omega)) ?_ ?_ | refine gw3 (rAdd n m (by omega) (by omega)) ?_ ?_ ?_ | refine gw0 (zOf' s (n + m) (by omega)) ?_ ?_ | refine gw3 (zOf' s (n + m) (by omega)) ?_ ?_ ?_) | (with_reducible refine all_v ?_; intro _) | ((with_reducible refine gE ?_); (try simp (disch := omega) only [go_sem, hb]) <;> first | rfl | omega) | with_reducible refine t_in_other (by decide) ?_ | ((with_reducible apply gy1); iterate 3 focus rfl) | ((with_reducible apply gy2); iterate 3 focus rfl) | ((with_reducible apply gy3); iterate 2 focus rfl) | ((with_reducible apply gy4); iterate 1 focus rfl) | ((with_reducible apply gy5); iterate 4 focus rfl) | ((with_reducible apply gy5c); iterate 4 focus rfl) | ((with_reducible apply gy6); iterate 4 focus rfl) | ((with_reducible apply d_bar); iterate 3 focus rfl) | ((with_reducible apply q_pub); iterate 1 focus rfl) | ((with_reducible apply gy7); iterate 1 focus rfl) | ((with_reducible apply gy9); (focus ((with_reducible refine gE ?_); (try simp (disch := omega) only [go_sem, hb]) <;> rfl))) | ((with_reducible apply gz1); (focus first | rfl | (simp (disch := omega) only [go_sem, hb]; done))) | ((with_reducible apply r_drawD (pickR [(6, lim (toL (n + m))), (7, intZ (zI s (n + m)))]) [8] []); (focus kernel_rfl); (focus rfl); (focus kernel_rfl); (focus (simp only [List.length_cons, List.length_nil, Nat.reduceAdd]; rfl)))))
    simp (disch := omega) only [go_sem]
  · have hb : (s == t) = false := by cases s <;> cases t <;> first | rfl | exact absurd rfl hst
    have ht : t = !s := by cases s <;> cases t <;> first | rfl | exact absurd rfl hst
    have c1 := rSub n m (by omega) (by omega)
    have c2 := rSub m n (by omega) (by omega)
    by_cases hlt : n < m
    · have e : zI s n + zI t m = zI t (m - n) := by rw [ht]; cases s <;> simp [zI] <;> omega
      have ls : (toL (m - n)).length ≤ 100000000 := Nat.le_trans (lg_mono (Nat.sub_le _ _)) (by omega)
      rw [if_pos hlt, if_pos hlt] at c1
      rw [if_neg (by omega), if_neg (by omega)] at c2
      rw [e]
      refine pure_intro (tok := 0) Tryz.func208 rfl Tryz.ntmps208 Tryz.results208 Tryz.call208 (by rfl) (by simp) ?_
      (focus (refine wkvd (w_a hb w_t) (w_a c1 (w_a c2 (w_a (zOf' t (m - n) ls) w_t))) w_t ?_; (repeat' first | exact w_t | apply w_l); all_goals intros))
      simp (disch := omega) only [go_sem]
    · have e : zI s n + zI t m = zI s (n - m) := by rw [ht]; cases s <;> simp [zI] <;> omega
      have ls : (toL (n - m)).length ≤ 100000000 := Nat.le_trans (lg_mono (Nat.sub_le _ _)) (by omega)
      rw [if_neg hlt, if_neg hlt] at c1
      rw [e]
      refine pure_intro (tok := 0) Tryz.func208 rfl Tryz.ntmps208 Tryz.results208 Tryz.call208 (by rfl) (by simp) ?_
      (focus (refine wkvd (w_a hb w_t) (w_a c1 (w_a (zOf' s (n - m) ls) w_t)) w_t ?_; (repeat' first | exact w_t | apply w_l); all_goals intros))
      simp (disch := omega) only [go_sem]


end Go.Proofs.YteiopjkamgmfpaaGreatDoor
end

section
namespace Go.Proofs.YteiopjkamgmfpaaGreatDoor
open Go Go.RowKit Go.Pg
set_option linter.unusedSimpArgs false
set_option linter.unusedVariables false
set_option maxRecDepth 20000
attribute [local go_sem] Tryz.underlying45 Tryz.underlying3 Tryz.underlying156 Tryz.underlying115 Tryz.underlying4 Tryz.underlying47 Tryz.underlying49 Tryz.underlying34 sz3 by3 z3 szL byL zL szB zB szNat zNat szInt zInt szRat zRat Tryz.underlying230
attribute [-bool_to_prop] Bool.and_eq_decide Bool.or_eq_decide Bool.decide_beq_decide decide_eq_decide

theorem gcd_le_l (n m : Nat) (h : m ≠ 0) : Nat.gcd n m ≠ 0 := Nat.ne_of_gt (Nat.gcd_pos_of_pos_right _ (Nat.pos_of_ne_zero h))
theorem intZ_div (s : Bool) (n g : Nat) (hg : g ∣ n) (h0 : g ≠ 0) : intZ (zI s (n / g)) = .agg [.v (.bool (decide (zI s n < 0))), lim (toL (n / g))] := by
  rw [intZ_of, zI_lt]
  have : (0 < n / g) ↔ (0 < n) := by
    obtain ⟨k, rfl⟩ := hg
    rw [Nat.mul_div_cancel_left _ (Nat.pos_of_ne_zero h0)]
    constructor
    · intro h; exact Nat.mul_pos (Nat.pos_of_ne_zero h0) h
    · intro h; exact Nat.pos_of_ne_zero fun e => by rw [e] at h; simp at h
  simp only [this]

set_option maxHeartbeats 1000000 in
theorem qOver (s : Bool) (n m : Nat) (hn : (toL n).length ≤ 10000000) (hm : (toL m).length ≤ 10000000) (h0 : m ≠ 0) : Pure Tryz.prog 76 [intA s n, lim (toL m)] (ratQ (mkRat (zI s n) m)) := by
  rw [ratQ_mk _ _ h0, zI_natAbs]
  have g0 := gcd_le_l n m h0
  have hgd := Nat.gcd_dvd_left n m
  have hmp := toL_len_pos.2 (Nat.pos_of_ne_zero h0)
  have hg : (toL (Nat.gcd n m)).length ≤ 10000000 := Nat.le_trans (lg_mono (Nat.le_of_dvd (by omega) (Nat.gcd_dvd_right _ _))) hm
  have hq : (toL (n / Nat.gcd n m)).length ≤ 10000000 := Nat.le_trans (lg_mono (Nat.div_le_self _ _)) hn
  have cg := rGcd n m (by omega) (by omega)
  have c1 := rDivMod n (Nat.gcd n m) (by omega) (by omega) g0
  have c2 := rDivMod m (Nat.gcd n m) (by omega) (by omega) g0
  have cn := zNorm s (n / Nat.gcd n m) (by omega)
  rw [intZ_div s n _ hgd g0] at cn
  refine pure_intro (tok := 0) Tryz.func76 rfl Tryz.ntmps76 Tryz.results76 Tryz.call76 (by rfl) (by simp) ?_
  (focus (refine wkvp w_t (w_a (rNorm m (by omega)) (w_a cg (w_a c1 (w_a c2 (w_a cn w_t))))) ?_; (repeat' first | exact w_t | apply w_l); all_goals intros))
  simp (disch := omega) only [go_sem]

theorem qNorm (q : Rat) {k : Nat} (h : Sz q k) (hk : k ≤ 10000000) : Pure Tryz.prog 138 [ratQ q] (ratQ q) := by
  have c := qOver (decide (q.num < 0)) q.num.natAbs q.den (Nat.le_trans h.1 hk) (Nat.le_trans h.2 hk) q.den_nz
  rw [zI_abs, Rat.mkRat_self] at c
  refine pure_intro (tok := 0) Tryz.func138 rfl Tryz.ntmps138 Tryz.results138 Tryz.call138 (by rfl) (by simp) ?_
  (focus (refine wkvp w_t (w_a c w_t) ?_; (repeat' first | exact w_t | apply w_l); all_goals intros))
  simp (disch := omega) only [go_sem]

theorem qWhole (n : Nat) : Pure Tryz.prog 150 [lim (toL n)] (intA false n) := by
  refine pure_intro (tok := 0) Tryz.func150 rfl Tryz.ntmps150 Tryz.results150 Tryz.call150 (by rfl) (by simp) ?_
  (focus (refine wkvp w_t w_t ?_; (repeat' first | exact w_t | apply w_l); all_goals intros))
  simp (disch := omega) only [go_sem]


theorem qOf (n : Nat) (hn : n < 9223372036854775808) : Pure Tryz.prog 26 [.v (.int .i64 (n : Int))] (ratQ (n : Rat)) := by
  have l4 : (toL n).length ≤ 4 := toL_len_lt.2 (by omega)
  have c := qOver false n 1 (by omega) (by rw [lg_one]; omega) (by omega)
  have e : mkRat (zI false n) 1 = (n : Rat) := by
    have := Rat.mkRat_self (n : Rat)
    exact this
  rw [e] at c
  refine pure_intro (tok := 0) Tryz.func26 rfl Tryz.ntmps26 Tryz.results26 Tryz.call26 (by rfl) (by simp) ?_
  (focus (refine wkvp w_t (w_a (zOf n hn) (w_a (refOf 1 (by omega)) (w_a c w_t))) ?_; (repeat' first | exact w_t | apply w_l); all_goals intros))
  simp (disch := omega) only [go_sem]

theorem qMul (a b : Rat) {j k : Nat} (ha : Sz a j) (hb : Sz b k) (hj : j ≤ 2000000) (hk : k ≤ 2000000) : Pure Tryz.prog 67 [ratQ a, ratQ b] (ratQ (a * b)) := by
  obtain ⟨a1, a2⟩ := id ha
  obtain ⟨b1, b2⟩ := id hb
  have l1 : (toL (a.num * b.num).natAbs).length ≤ j + k := by rw [Int.natAbs_mul]; exact Nat.le_trans (lg_mul _ _) (by omega)
  have l2 : (toL (a.den * b.den)).length ≤ j + k := Nat.le_trans (lg_mul _ _) (by omega)
  have c := qOver (decide (a.num * b.num < 0)) (a.num * b.num).natAbs (a.den * b.den) (by omega) (by omega) (Nat.mul_ne_zero a.den_nz b.den_nz)
  rw [zI_abs, ← Rat.mul_def'] at c
  have cz := zMul (decide (a.num < 0)) (decide (b.num < 0)) a.num.natAbs b.num.natAbs (by omega) (by omega)
  rw [zI_abs, zI_abs] at cz
  have cd := rMul a.den b.den (by omega) (by omega)
  generalize a * b = q at *
  generalize a.num * b.num = y at *
  refine pure_intro (tok := 0) Tryz.func67 rfl Tryz.ntmps67 Tryz.results67 Tryz.call67 (by rfl) (by simp) ?_
  (repeat' (first | (with_reducible first | refine stp ?_ | apply gx1 | apply gx2 | apply gx3 | apply gx4 | apply gx5 | apply gx6 | apply gx7 | apply gy8 | apply gz2 | apply gz3 | refine gw0 (cz) ?_ ?_ | refine gw3 (cz) ?_ ?_ ?_ | refine gw0 (cd) ?_ ?_ | refine gw3 (cd) ?_ ?_ ?_ | refine gw0 (c) ?_ ?_ | refine gw3 (c) ?_ ?_ ?_) | (with_reducible refine all_v ?_; intro _) | ((with_reducible refine gE ?_); (try simp (disch := omega) only [go_sem]) <;> first | rfl | omega) | with_reducible refine t_in_other (by decide) ?_ | ((with_reducible apply gy1); iterate 3 focus rfl) | ((with_reducible apply gy2); iterate 3 focus rfl) | ((with_reducible apply gy3); iterate 2 focus rfl) | ((with_reducible apply gy4); iterate 1 focus rfl) | ((with_reducible apply gy5); iterate 4 focus rfl) | ((with_reducible apply gy5c); iterate 4 focus rfl) | ((with_reducible apply gy6); iterate 4 focus rfl) | ((with_reducible apply d_bar); iterate 3 focus rfl) | ((with_reducible apply q_pub); iterate 1 focus rfl) | ((with_reducible apply gy7); iterate 1 focus rfl) | ((with_reducible apply gy9); (focus ((with_reducible refine gE ?_); (try simp (disch := omega) only [go_sem]) <;> rfl))) | ((with_reducible apply gz1); (focus first | rfl | (simp (disch := omega) only [go_sem]; done))) | ((with_reducible apply r_drawD (pickR [(4, intZ y), (9, lim (toL (a.den * b.den))), (10, ratQ q)]) [11] []); (focus kernel_rfl); (focus rfl); (focus kernel_rfl); (focus (simp only [List.length_cons, List.length_nil, Nat.reduceAdd]; rfl)))))
  simp (disch := omega) only [go_sem]

set_option maxHeartbeats 1000000 in
theorem qAdd (a b : Rat) {j k : Nat} (ha : Sz a j) (hb : Sz b k) (hj : j ≤ 2000000) (hk : k ≤ 2000000) : Pure Tryz.prog 162 [ratQ a, ratQ b] (ratQ (a + b)) := by
  obtain ⟨a1, a2⟩ := id ha
  obtain ⟨b1, b2⟩ := id hb
  have na := qNorm a ha (by omega)
  have nb := qNorm b hb (by omega)
  have cm1 := zMul (decide (a.num < 0)) false a.num.natAbs b.den (by omega) (by omega)
  have cm2 := zMul (decide (b.num < 0)) false b.num.natAbs a.den (by omega) (by omega)
  rw [zI_abs] at cm1 cm2
  have cm1 : Pure Tryz.prog 133 [intZ a.num, intA false b.den] (intZ (a.num * b.den)) := cm1
  have cm2 : Pure Tryz.prog 133 [intZ b.num, intA false a.den] (intZ (b.num * a.den)) := cm2
  have x1 : (toL (a.num * b.den).natAbs).length ≤ j + k := lg_cross a b ha hb
  have x2 : (toL (b.num * a.den).natAbs).length ≤ k + j := lg_cross b a hb ha
  have l1 : (toL (a.num * b.den + b.num * a.den).natAbs).length ≤ j + k + 1 := by
    have h3 := lg_mono (natAbs_add_le (a.num * b.den) (b.num * a.den))
    have h4 := lg_add (a.num * b.den).natAbs (b.num * a.den).natAbs
    omega
  have l2 : (toL (a.den * b.den)).length ≤ j + k := Nat.le_trans (lg_mul _ _) (by omega)
  have ca := zAdd (decide (a.num * b.den < 0)) (decide (b.num * a.den < 0)) (a.num * b.den).natAbs (b.num * a.den).natAbs (by omega) (by omega)
  rw [zI_abs, zI_abs] at ca
  have c := qOver (decide (a.num * b.den + b.num * a.den < 0)) (a.num * b.den + b.num * a.den).natAbs (a.den * b.den) (by omega) (by omega) (Nat.mul_ne_zero a.den_nz b.den_nz)
  rw [zI_abs, ← Rat.add_def'] at c
  have cw1 := qWhole b.den
  have cw2 := qWhole a.den
  have cd := rMul a.den b.den (by omega) (by omega)
  generalize a + b = q at *
  generalize a.num * (b.den : Int) = y1 at *
  generalize b.num * (a.den : Int) = y2 at *
  refine pure_intro (tok := 0) Tryz.func162 rfl Tryz.ntmps162 Tryz.results162 Tryz.call162 (by rfl) (by simp) ?_
  (focus (refine wkvp w_t w_t ?_; (repeat' first | exact w_t | apply w_l); all_goals intros))
  apply r_drawD (pickR [(1, ratQ a), (3, ratQ b)]) [4, 5] [] (by kernel_rfl) (by rfl) (by kernel_rfl); (focus (simp only [List.length_cons, List.length_nil, Nat.reduceAdd]; rfl))
  (focus (refine wkud w_t (w_a na (w_a nb w_t)) ?_; (repeat' first | exact w_t | apply w_l); all_goals intros))
  apply r_drawD (pickR [(4, intA false b.den), (5, intZ y1), (10, intA false a.den), (11, intZ y2), (12, intZ (y1 + y2)), (17, lim (toL (a.den * b.den))), (18, ratQ q)]) [19] [] (by kernel_rfl) (by rfl) (by kernel_rfl); (focus (simp only [List.length_cons, List.length_nil, Nat.reduceAdd]; rfl))
  (focus (refine wkud w_t (w_a cw1 (w_a cm1 (w_a cw2 (w_a cm2 (w_a ca (w_a cd (w_a c w_t))))))) ?_; (repeat' first | exact w_t | apply w_l); all_goals intros))
  simp (disch := omega) only [go_sem]



set_option maxHeartbeats 1000000 in
theorem qCmp (a b : Rat) {j k : Nat} (ha : Sz a j) (hb : Sz b k) (hj : j ≤ 2000000) (hk : k ≤ 2000000) : Pure Tryz.prog 82 [ratQ a, ratQ b] (.v (.int .i64 (cmpQ a b))) := by
  obtain ⟨a1, a2⟩ := id ha
  obtain ⟨b1, b2⟩ := id hb
  have na := qNorm a ha (by omega)
  have nb := qNorm b hb (by omega)
  have cm1 := zMul (decide (a.num < 0)) false a.num.natAbs b.den (by omega) (by omega)
  have cm2 := zMul (decide (b.num < 0)) false b.num.natAbs a.den (by omega) (by omega)
  rw [zI_abs] at cm1 cm2
  have cm1 : Pure Tryz.prog 133 [intZ a.num, intA false b.den] (intZ (a.num * b.den)) := cm1
  have cm2 : Pure Tryz.prog 133 [intZ b.num, intA false a.den] (intZ (b.num * a.den)) := cm2
  have x1 : (toL (a.num * b.den).natAbs).length ≤ j + k := lg_cross a b ha hb
  have x2 : (toL (b.num * a.den).natAbs).length ≤ k + j := lg_cross b a hb ha
  have cc := zCmp (a.num * b.den) (b.num * a.den) (by omega) (by omega)
  rw [cmpQ_z]
  have cw1 := qWhole b.den
  have cw2 := qWhole a.den
  generalize a.num * (b.den : Int) = y1 at *
  generalize b.num * (a.den : Int) = y2 at *
  refine pure_intro (tok := 0) Tryz.func82 rfl Tryz.ntmps82 Tryz.results82 Tryz.call82 (by rfl) (by simp) ?_
  (focus (refine wkvp w_t w_t ?_; (repeat' first | exact w_t | apply w_l); all_goals intros))
  apply r_drawD (pickR [(1, ratQ a), (3, ratQ b)]) [4, 5] [] (by kernel_rfl) (by rfl) (by kernel_rfl); (focus (simp only [List.length_cons, List.length_nil, Nat.reduceAdd]; rfl))
  (focus (refine wkud w_t (w_a na (w_a nb w_t)) ?_; (repeat' first | exact w_t | apply w_l); all_goals intros))
  apply r_drawD (pickR [(4, intA false b.den), (5, intZ y1), (10, intA false a.den), (11, intZ y2), (12, .v (.int .i64 (cmpZ y1 y2)))]) [] [] (by kernel_rfl) (by rfl) (by kernel_rfl); (focus (simp only [List.length_cons, List.length_nil, Nat.reduceAdd]; rfl))
  (focus (refine wkud w_t (w_a cw1 (w_a cm1 (w_a cw2 (w_a cm2 (w_a cc w_t))))) ?_; (repeat' first | exact w_t | apply w_l); all_goals intros))
  simp (disch := omega) only [go_sem]





end Go.Proofs.YteiopjkamgmfpaaGreatDoor
end

section
namespace Go.Proofs.YteiopjkamgmfpaaGreatDoor
open Go Go.RowKit Go.Pg
set_option linter.unusedSimpArgs false
set_option linter.unusedVariables false
set_option maxRecDepth 20000
attribute [local go_sem] Tryz.underlying45 Tryz.underlying3 Tryz.underlying2 Tryz.underlying156 Tryz.underlying115 Tryz.underlying5 Tryz.underlying212 Tryz.underlying9 Tryz.underlying4 Tryz.underlying47 Tryz.underlying49 Tryz.underlying34 sz3 by3 z3 szL byL zL szB zB szNat zNat szInt zInt szRat zRat szU8 byU8 zU8 szStr zStr
attribute [-bool_to_prop] Bool.and_eq_decide Bool.or_eq_decide Bool.decide_beq_decide decide_eq_decide
/-- The digits of a number, ahead of what is there. -/
def decB : Nat → Nat → ByteArray → ByteArray
  | 0, _, s => s
  | f + 1, n, s => if n = 0 then s else decB f (n / 10) (strOf [((48 + n % 10 : Nat) : Int)] ++ s)
def decS (n : Nat) : ByteArray := if n = 0 then strOf [48] else decB n n ByteArray.empty
theorem strOf_size (l : List Int) : (strOf l).size = l.length := by
  have key : ∀ (l : List Int) (s : ByteArray), (l.foldl (fun r n => r.push (UInt8.ofNat n.toNat)) s).size = s.size + l.length := by
    intro l
    induction l with
    | nil => intro s; rfl
    | cons a l ih => intro s; rw [List.foldl_cons, ih, ByteArray.size_push, List.length_cons]; omega
  unfold strOf
  rw [key]
  show 0 + l.length = l.length
  omega
/-- The decimal form of an integer and of a fraction. -/
def decZ (z : Int) : ByteArray := if z < 0 then strOf [45] ++ decS z.natAbs else decS z.natAbs
def decQ (q : Rat) : ByteArray := if q.den = 1 then decZ q.num else decZ q.num ++ strOf [47] ++ decS q.den
theorem decB_size {k : Nat} : ∀ (f n : Nat) (s : ByteArray), n < 10 ^ k → (decB f n s).size ≤ s.size + k := by
  induction k with
  | zero =>
    intro f n s h
    have : n = 0 := by simpa using h
    subst this
    cases f <;> simp [decB]
  | succ k ih =>
    intro f n s h
    cases f with
    | zero => simp [decB]
    | succ f =>
      unfold decB
      split
      · omega
      · have := ih f (n / 10) (strOf [((48 + n % 10 : Nat) : Int)] ++ s) (by rw [Nat.pow_succ] at h; omega)
        rw [ByteArray.size_append, strOf_size] at this
        simp only [List.length_cons, List.length_nil] at this
        omega
theorem decS_size (n : Nat) : (decS n).size ≤ 5 * (toL n).length + 1 := by
  unfold decS
  split
  · rw [strOf_size]; simp
  · have h1 := toL_len_lt.1 (Nat.le_refl ((toL n).length))
    have h3 : 65536 ^ (toL n).length ≤ 10 ^ (5 * (toL n).length) := by
      rw [Nat.pow_mul]
      exact Nat.pow_le_pow_left (by decide) _
    have := decB_size (k := 5 * (toL n).length) n n ByteArray.empty (by omega)
    have e : ByteArray.empty.size = 0 := rfl
    omega
end Go.Proofs.YteiopjkamgmfpaaGreatDoor
end
