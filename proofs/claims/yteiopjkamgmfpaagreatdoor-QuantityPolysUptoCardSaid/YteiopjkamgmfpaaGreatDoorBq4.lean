/- Contracts of the functions that the law reaches, and the rules by which they are walked. They say what a call hands back for every input within the bounds that each names; no other condition. -/
import Derived.Test.YteiopjkamgmfpaaGreatDoorBq3
import Derived.Laws.RangeString
import Derived.Lib.OthersKept
import Derived.Laws.Strings
section
namespace Go.Proofs.YteiopjkamgmfpaaGreatDoor
open Go Go.RowKit Go.Pg
set_option linter.unusedSimpArgs false
set_option linter.unusedVariables false
set_option maxRecDepth 20000
attribute [local go_sem] Tryz.underlying3 Tryz.underlying2 Tryz.underlying4 Tryz.underlying34 Tryz.underlying27 Tryz.underlying110 Tryz.underlying109 Tryz.underlying75 Tryz.underlying72 Tryz.underlying9 Tryz.underlying49 sz3 by3 z3 szQuant zQuant szCor zCor szC3 zC3 szErr zErr szStr byStr zStr eqQuant Bool.and_self szRat zRat
attribute [-bool_to_prop] Bool.and_eq_decide Bool.or_eq_decide Bool.decide_beq_decide decide_eq_decide
/-- strconv's digits. -/
def dig36 : ByteArray := ⟨#[48, 49, 50, 51, 52, 53, 54, 55, 56, 57, 97, 98, 99, 100, 101, 102, 103, 104, 105, 106, 107, 108, 109, 110, 111, 112, 113, 114, 115, 116, 117, 118, 119, 120, 121, 122]⟩
def dig200 : ByteArray := ⟨#[48, 48, 48, 49, 48, 50, 48, 51, 48, 52, 48, 53, 48, 54, 48, 55, 48, 56, 48, 57, 49, 48, 49, 49, 49, 50, 49, 51, 49, 52, 49, 53, 49, 54, 49, 55, 49, 56, 49, 57, 50, 48, 50, 49, 50, 50, 50, 51, 50, 52, 50, 53, 50, 54, 50, 55, 50, 56, 50, 57, 51, 48, 51, 49, 51, 50, 51, 51, 51, 52, 51, 53, 51, 54, 51, 55, 51, 56, 51, 57, 52, 48, 52, 49, 52, 50, 52, 51, 52, 52, 52, 53, 52, 54, 52, 55, 52, 56, 52, 57, 53, 48, 53, 49, 53, 50, 53, 51, 53, 52, 53, 53, 53, 54, 53, 55, 53, 56, 53, 57, 54, 48, 54, 49, 54, 50, 54, 51, 54, 52, 54, 53, 54, 54, 54, 55, 54, 56, 54, 57, 55, 48, 55, 49, 55, 50, 55, 51, 55, 52, 55, 53, 55, 54, 55, 55, 55, 56, 55, 57, 56, 48, 56, 49, 56, 50, 56, 51, 56, 52, 56, 53, 56, 54, 56, 55, 56, 56, 56, 57, 57, 48, 57, 49, 57, 50, 57, 51, 57, 52, 57, 53, 57, 54, 57, 55, 57, 56, 57, 57]⟩
theorem dig36_at : ∀ n, n < 10 → dig36.extract n (n + 1) = decS n := by decide +kernel
theorem dig200_at : ∀ n, n < 100 → 10 ≤ n → dig200.extract (n * 2) (n * 2 + 2) = decS n := by decide +kernel
theorem scSmall (n : Nat) (hn : n < 100) : Pure Tryz.prog 235 [iv (n : Int)] (.v (.string (decS n))) := by
  by_cases h : n < 10
  · refine pure_intro (tok := 0) Tryz.func235 rfl Tryz.ntmps235 Tryz.results235 Tryz.call235 (by rfl) (by simp) ?_
    (focus (refine wkvd w_t w_t w_t ?_; (repeat' first | exact w_t | apply w_l); all_goals intros))
    simp (disch := omega) only [go_sem]
    exact congrArg (fun s => AV.v (.string s)) (dig36_at n h)
  · have e1 : (n : Int) * 2 = ((n * 2 : Nat) : Int) := by omega
    have e2 : ((n * 2 : Nat) : Int) + 2 = ((n * 2 + 2 : Nat) : Int) := by omega
    refine pure_intro (tok := 0) Tryz.func235 rfl Tryz.ntmps235 Tryz.results235 Tryz.call235 (by rfl) (by simp) ?_
    (repeat' (first | (with_reducible first | refine stp ?_ | apply gx1 | apply gx2 | apply gx3 | apply gx4 | apply gx5 | apply gx6 | apply gx7 | apply gy8 | apply gz2 | apply gz3) | (with_reducible refine all_v ?_; intro _) | ((with_reducible refine gE ?_); (try simp (disch := omega) only [go_sem, e1, e2, List.append_eq, List.length_append]) <;> first | rfl | omega) | with_reducible refine t_in_other (by decide) ?_ | ((with_reducible apply gy1); iterate 3 focus rfl) | ((with_reducible apply gy2); iterate 3 focus rfl) | ((with_reducible apply gy3); iterate 2 focus rfl) | ((with_reducible apply gy4); iterate 1 focus rfl) | ((with_reducible apply gy5); iterate 4 focus rfl) | ((with_reducible apply gy5c); iterate 4 focus rfl) | ((with_reducible apply gy6); iterate 4 focus rfl) | ((with_reducible apply d_bar); iterate 3 focus rfl) | ((with_reducible apply q_pub); iterate 1 focus rfl) | ((with_reducible apply gy7); iterate 1 focus rfl) | ((with_reducible apply gy9); (focus ((with_reducible refine gE ?_); (try simp (disch := omega) only [go_sem, e1, e2, List.append_eq, List.length_append]) <;> rfl))) | ((with_reducible apply gz1); (focus first | rfl | (simp (disch := omega) only [go_sem, e1, e2, List.append_eq, List.length_append]; done))) | ((with_reducible apply r_drawD (pickR []) [] []); (focus kernel_rfl); (focus rfl); (focus kernel_rfl); (focus (simp only [List.length_cons, List.length_nil, Nat.reduceAdd]; rfl)))))
    simp (disch := omega) only [go_sem]
    exact congrArg (fun s => AV.v (.string s)) (dig200_at n hn (by omega))
theorem scFormat (n : Nat) (hn : n < 100) : Pure Tryz.prog 197 [.v (.int .i64 (n : Int)), iv 10] (.v (.string (decS n))) := by
  have c := scSmall n hn
  refine pure_intro (tok := 0) Tryz.func197 rfl Tryz.ntmps197 Tryz.results197 Tryz.call197 (by rfl) (by simp) ?_
  (focus (refine wkvd w_t (w_a c w_t) w_t ?_; (repeat' first | exact w_t | apply w_l); all_goals intros))
  simp (disch := omega) only [go_sem]
theorem scItoaI (n : Nat) (hn : n < 100) : Pure Tryz.prog 148 [iv (n : Int)] (.v (.string (decS n))) := by
  have c := scFormat n hn
  refine pure_intro (tok := 0) Tryz.func148 rfl Tryz.ntmps148 Tryz.results148 Tryz.call148 (by rfl) (by simp) ?_
  (focus (refine wkvd w_t (w_a c w_t) w_t ?_; (repeat' first | exact w_t | apply w_l); all_goals intros))
  simp (disch := omega) only [go_sem]
theorem scItoa (n : Nat) (hn : n < 100) : Pure Tryz.prog 81 [iv (n : Int)] (.v (.string (decS n))) := by
  have c := scItoaI n hn
  refine pure_intro (tok := 0) Tryz.func81 rfl Tryz.ntmps81 Tryz.results81 Tryz.call81 (by rfl) (by simp) ?_
  (focus (refine wkvd w_t (w_a c w_t) w_t ?_; (repeat' first | exact w_t | apply w_l); all_goals intros))
  simp (disch := omega) only [go_sem]
/-- The text of a quantity. -/
def c1 (s : ByteArray) (ss : List ByteArray) (n : Int) : ByteArray := s ++ ss.getD n.toNat ByteArray.empty
def Qt.txt (q : Qt) (ss : List ByteArray) : ByteArray :=
  if q.k = 3 then ⟨#[116, 40]⟩ ++ decS q.a.toNat ++ ⟨#[41]⟩
  else (if q.k = 2 then ⟨#[80, 40]⟩ else ⟨#[83, 40]⟩) ++ ss.getD q.a.toNat ByteArray.empty ++ ⟨#[44, 32]⟩ ++ ss.getD q.b.toNat ByteArray.empty ++ ⟨#[44, 32]⟩ ++ ss.getD q.c.toNat ByteArray.empty ++ ⟨#[41]⟩
theorem chk_ok {k a b c n m : Int} (h : Qt.chk ⟨k, a, b, c⟩ n m = 0) : (k = 3 ∧ 0 ≤ a ∧ a < 64 ∧ a < m) ∨ (k ≠ 3 ∧ (k = 1 ∨ k = 2) ∧ (0 ≤ a ∧ a < n) ∧ (0 ≤ b ∧ b < n) ∧ (0 ≤ c ∧ c < n)) := by
  unfold Qt.chk Qt.ok at h
  simp only [decide_eq_true_eq] at h
  split at h
  · split at h
    · split at h <;> omega
    · split at h <;> omega
  · omega
theorem strs_at {ss : List ByteArray} {j : Nat} (h : j < ss.length) : (ss.map strA).getD j .u = strA (ss.getD j ByteArray.empty) := by
  rw [List.getD_eq_getElem?_getD, List.getElem?_map, List.getElem?_eq_getElem h, List.getD_eq_getElem?_getD, List.getElem?_eq_getElem h]; rfl
theorem strs_sz {ss : List ByteArray} (h : ∀ s ∈ ss, s.size ≤ 1000) (j : Nat) : (ss.getD j ByteArray.empty).size ≤ 1000 := by
  rw [List.getD_eq_getElem?_getD]
  rcases Nat.lt_or_ge j ss.length with h1 | h1
  · rw [List.getElem?_eq_getElem h1]; exact h _ (List.getElem_mem h1)
  · rw [List.getElem?_eq_none h1]; exact Nat.zero_le _
set_option maxHeartbeats 4000000 in
theorem quText (k a b c : Int) (ss : List ByteArray) (hl : ss.length ≤ 1000000000) (hs : ∀ s ∈ ss, s.size ≤ 1000) : Pure Tryz.prog 28 [Qt.av ⟨k, a, b, c⟩, .sl 1 (ss.map strA)] (if Qt.chk ⟨k, a, b, c⟩ ss.length 64 = 0 then .tup [strA (Qt.txt ⟨k, a, b, c⟩ ss), iv 0] else .tup [strA ⟨#[]⟩, iv (Qt.chk ⟨k, a, b, c⟩ ss.length 64)]) := by
  have cc := quCheck k a b c ss.length 64
  have ok := @chk_ok k a b c ss.length 64
  generalize Qt.chk ⟨k, a, b, c⟩ ss.length 64 = v at *
  by_cases hv : v = 0
  · subst hv
    rw [if_pos rfl]
    rcases ok rfl with ⟨rfl, h1, h2, h3⟩ | ⟨h0, h1, h2, h3, h4⟩
    · obtain ⟨n, rfl⟩ : ∃ n : Nat, a = n := ⟨a.toNat, by omega⟩
      have ci := scItoa n (by omega)
      have z := decS_size n
      have zl : (toL n).length ≤ 1 := toL_len_lt.2 (by omega)
      have e : Qt.txt ⟨3, n, b, c⟩ ss = ⟨#[116, 40]⟩ ++ decS n ++ ⟨#[41]⟩ := by unfold Qt.txt; rfl
      rw [e]
      generalize decS n = s at *
      have s1 : (⟨#[116, 40]⟩ : ByteArray).size = 2 := rfl
      have s2 : (⟨#[41]⟩ : ByteArray).size = 1 := rfl
      refine pure_intro (tok := 0) Tryz.func28 rfl Tryz.ntmps28 Tryz.results28 Tryz.call28 (by rfl) (by simp) ?_
      (focus (refine wkld (w_a @ByteArray.size_append (w_a s1 (w_a s2 (w_a @l_map w_t)))) (w_a cc (w_a ci w_t)) w_t w_t ?_; (repeat' first | exact w_t | apply w_l); all_goals intros))
    · obtain ⟨x, rfl⟩ : ∃ n : Nat, a = n := ⟨a.toNat, by omega⟩
      obtain ⟨y, rfl⟩ : ∃ n : Nat, b = n := ⟨b.toNat, by omega⟩
      obtain ⟨w, rfl⟩ : ∃ n : Nat, c = n := ⟨c.toNat, by omega⟩
      have hx := strs_at (ss := ss) (j := x) (by omega)
      have hy := strs_at (ss := ss) (j := y) (by omega)
      have hw := strs_at (ss := ss) (j := w) (by omega)
      have zx := strs_sz hs x
      have zy := strs_sz hs y
      have zw := strs_sz hs w
      unfold Qt.txt
      simp only [Int.toNat_natCast]
      generalize ss.getD x ByteArray.empty = sx at *
      generalize ss.getD y ByteArray.empty = sy at *
      generalize ss.getD w ByteArray.empty = sw at *
      have s1 : (⟨#[83, 40]⟩ : ByteArray).size = 2 := rfl
      have s2 : (⟨#[80, 40]⟩ : ByteArray).size = 2 := rfl
      have s3 : (⟨#[44, 32]⟩ : ByteArray).size = 2 := rfl
      have s4 : (⟨#[41]⟩ : ByteArray).size = 1 := rfl
      refine pure_intro (tok := 0) Tryz.func28 rfl Tryz.ntmps28 Tryz.results28 Tryz.call28 (by rfl) (by simp) ?_
      (focus (refine wkld (w_a @ByteArray.size_append (w_a s1 (w_a s2 (w_a s3 (w_a s4 (w_a @l_map (w_a hx (w_a hy (w_a hw w_t))))))))) (w_a cc w_t) w_t w_t ?_; (repeat' first | exact w_t | apply w_l); all_goals intros))
  · rw [if_neg hv]
    refine pure_intro (tok := 0) Tryz.func28 rfl Tryz.ntmps28 Tryz.results28 Tryz.call28 (by rfl) (by simp) ?_
    (focus (refine wkld (w_a @l_map w_t) (w_a cc w_t) w_t w_t ?_; (repeat' first | exact w_t | apply w_l); all_goals intros))
end Go.Proofs.YteiopjkamgmfpaaGreatDoor
end

section
namespace Go.Proofs.YteiopjkamgmfpaaGreatDoor
open Go Go.RowKit Go.Pg
set_option linter.unusedSimpArgs false
set_option linter.unusedVariables false
set_option maxRecDepth 20000
attribute [local go_sem] Tryz.underlying3 Tryz.underlying2 Tryz.underlying4 Tryz.underlying34 Tryz.underlying27 Tryz.underlying110 Tryz.underlying109 Tryz.underlying75 Tryz.underlying72 Tryz.underlying9 Tryz.underlying49 sz3 by3 z3 szQuant zQuant szCor zCor szC3 zC3 szErr zErr szStr byStr zStr eqQuant Bool.and_self szRat zRat
attribute [-bool_to_prop] Bool.and_eq_decide Bool.or_eq_decide Bool.decide_beq_decide decide_eq_decide

/-- The points of a quantity. -/
def isP (a b c : Int) (p : Nat) : Bool := decide (a = (p : Int) ∨ b = (p : Int) ∨ c = (p : Int))
def Qt.pts (q : Qt) : List Int := if q.ok = true ∧ q.k ≠ 3 then ((List.range 40).filter (isP q.a q.b q.c)).map fun n : Nat => (n : Int) else []
end Go.Proofs.YteiopjkamgmfpaaGreatDoor
end

section
namespace Go.Proofs.YteiopjkamgmfpaaGreatDoor
open Go Go.RowKit Go.Pg
set_option linter.unusedSimpArgs false
set_option linter.unusedVariables false
set_option maxRecDepth 20000
attribute [local go_sem] Tryz.underlying3 Tryz.underlying4 Tryz.underlying34 Tryz.underlying49 Tryz.underlying45 Tryz.underlying47 Tryz.underlying66 Tryz.underlying181 sz3 by3 z3 szErr zErr szRat zRat szNat zNat szInt zInt szB zB szPt byPt zPt szVec zVec
attribute [-bool_to_prop] Bool.and_eq_decide Bool.or_eq_decide Bool.decide_beq_decide decide_eq_decide
/-- A point. -/
abbrev ptQ (x y : Rat) : AV := .agg [.v (.bool (decide (x.num < 0))), lim (toL x.num.natAbs), lim (toL x.den), .v (.bool (decide (y.num < 0))), lim (toL y.num.natAbs), lim (toL y.den)]
theorem plFrom (a b c d : Rat) {j : Nat} (ha : Sz a j) (hb : Sz b j) (hc : Sz c j) (hd : Sz d j) (hj : j ≤ 100000) : Pure Tryz.prog 145 [ptQ a b, ptQ c d] (ptQ (c - a) (d - b)) := by
  have c1 := ratSub c a hc ha (by omega) (by omega)
  have c2 := ratSub d b hd hb (by omega) (by omega)
  generalize c - a = u at *
  generalize d - b = v at *
  refine pure_intro (tok := 0) Tryz.func145 rfl Tryz.ntmps145 Tryz.results145 Tryz.call145 (by rfl) (by simp) ?_
  (repeat' (first | (with_reducible first | refine stp ?_ | apply gx1 | apply gx2 | apply gx3 | apply gx4 | apply gx5 | apply gx6 | apply gx7 | apply gy8 | apply gz2 | apply gz3 | refine gw0 (c1) ?_ ?_ | refine gw3 (c1) ?_ ?_ ?_ | refine gw0 (c2) ?_ ?_ | refine gw3 (c2) ?_ ?_ ?_) | (with_reducible refine all_v ?_; intro _) | ((with_reducible refine gE ?_); (try simp (disch := omega) only [go_sem]) <;> first | rfl | omega) | with_reducible refine t_in_other (by decide) ?_ | ((with_reducible apply gy1); iterate 3 focus rfl) | ((with_reducible apply gy2); iterate 3 focus rfl) | ((with_reducible apply gy3); iterate 2 focus rfl) | ((with_reducible apply gy4); iterate 1 focus rfl) | ((with_reducible apply gy5); iterate 4 focus rfl) | ((with_reducible apply gy5c); iterate 4 focus rfl) | ((with_reducible apply gy6); iterate 4 focus rfl) | ((with_reducible apply d_bar); iterate 3 focus rfl) | ((with_reducible apply q_pub); iterate 1 focus rfl) | ((with_reducible apply gy7); iterate 1 focus rfl) | ((with_reducible apply gy9); (focus ((with_reducible refine gE ?_); (try simp (disch := omega) only [go_sem]) <;> rfl))) | ((with_reducible apply gz1); (focus first | rfl | (simp (disch := omega) only [go_sem]; done))) | ((with_reducible apply r_drawD (pickR [(4, ratQ u), (9, ratQ v)]) [] [4]); (focus kernel_rfl); (focus rfl); (focus kernel_rfl); (focus (simp only [List.length_cons, List.length_nil, Nat.reduceAdd]; rfl)))))
  simp (disch := omega) only [go_sem]
theorem plCross (a b c d : Rat) {j : Nat} (ha : Sz a j) (hb : Sz b j) (hc : Sz c j) (hd : Sz d j) (hj : j ≤ 100000) : Pure Tryz.prog 146 [ptQ a b, ptQ c d] (ratQ (a * d - b * c)) := by
  have c1 := ratMul a d ha hd (by omega) (by omega)
  have c2 := ratMul b c hb hc (by omega) (by omega)
  have c3 := ratSub (a * d) (b * c) (ha.mul hd) (hb.mul hc) (by omega) (by omega)
  generalize a * d - b * c = x at *
  generalize a * d = u at *
  generalize b * c = v at *
  refine pure_intro (tok := 0) Tryz.func146 rfl Tryz.ntmps146 Tryz.results146 Tryz.call146 (by rfl) (by simp) ?_
  (repeat' (first | (with_reducible first | refine stp ?_ | apply gx1 | apply gx2 | apply gx3 | apply gx4 | apply gx5 | apply gx6 | apply gx7 | apply gy8 | apply gz2 | apply gz3 | refine gw0 (c1) ?_ ?_ | refine gw3 (c1) ?_ ?_ ?_ | refine gw0 (c2) ?_ ?_ | refine gw3 (c2) ?_ ?_ ?_ | refine gw0 (c3) ?_ ?_ | refine gw3 (c3) ?_ ?_ ?_) | (with_reducible refine all_v ?_; intro _) | ((with_reducible refine gE ?_); (try simp (disch := omega) only [go_sem]) <;> first | rfl | omega) | with_reducible refine t_in_other (by decide) ?_ | ((with_reducible apply gy1); iterate 3 focus rfl) | ((with_reducible apply gy2); iterate 3 focus rfl) | ((with_reducible apply gy3); iterate 2 focus rfl) | ((with_reducible apply gy4); iterate 1 focus rfl) | ((with_reducible apply gy5); iterate 4 focus rfl) | ((with_reducible apply gy5c); iterate 4 focus rfl) | ((with_reducible apply gy6); iterate 4 focus rfl) | ((with_reducible apply d_bar); iterate 3 focus rfl) | ((with_reducible apply q_pub); iterate 1 focus rfl) | ((with_reducible apply gy7); iterate 1 focus rfl) | ((with_reducible apply gy9); (focus ((with_reducible refine gE ?_); (try simp (disch := omega) only [go_sem]) <;> rfl))) | ((with_reducible apply gz1); (focus first | rfl | (simp (disch := omega) only [go_sem]; done))) | ((with_reducible apply r_drawD (pickR [(4, ratQ u), (9, ratQ v), (10, ratQ x)]) [] [4]); (focus kernel_rfl); (focus rfl); (focus kernel_rfl); (focus (simp only [List.length_cons, List.length_nil, Nat.reduceAdd]; rfl)))))
  simp (disch := omega) only [go_sem]
theorem plDot (a b c d : Rat) {j : Nat} (ha : Sz a j) (hb : Sz b j) (hc : Sz c j) (hd : Sz d j) (hj : j ≤ 100000) : Pure Tryz.prog 147 [ptQ a b, ptQ c d] (ratQ (a * c + b * d)) := by
  have c1 := ratMul a c ha hc (by omega) (by omega)
  have c2 := ratMul b d hb hd (by omega) (by omega)
  have c3 := ratAdd (a * c) (b * d) (ha.mul hc) (hb.mul hd) (by omega) (by omega)
  generalize a * c + b * d = x at *
  generalize a * c = u at *
  generalize b * d = v at *
  refine pure_intro (tok := 0) Tryz.func147 rfl Tryz.ntmps147 Tryz.results147 Tryz.call147 (by rfl) (by simp) ?_
  (repeat' (first | (with_reducible first | refine stp ?_ | apply gx1 | apply gx2 | apply gx3 | apply gx4 | apply gx5 | apply gx6 | apply gx7 | apply gy8 | apply gz2 | apply gz3 | refine gw0 (c1) ?_ ?_ | refine gw3 (c1) ?_ ?_ ?_ | refine gw0 (c2) ?_ ?_ | refine gw3 (c2) ?_ ?_ ?_ | refine gw0 (c3) ?_ ?_ | refine gw3 (c3) ?_ ?_ ?_) | (with_reducible refine all_v ?_; intro _) | ((with_reducible refine gE ?_); (try simp (disch := omega) only [go_sem]) <;> first | rfl | omega) | with_reducible refine t_in_other (by decide) ?_ | ((with_reducible apply gy1); iterate 3 focus rfl) | ((with_reducible apply gy2); iterate 3 focus rfl) | ((with_reducible apply gy3); iterate 2 focus rfl) | ((with_reducible apply gy4); iterate 1 focus rfl) | ((with_reducible apply gy5); iterate 4 focus rfl) | ((with_reducible apply gy5c); iterate 4 focus rfl) | ((with_reducible apply gy6); iterate 4 focus rfl) | ((with_reducible apply d_bar); iterate 3 focus rfl) | ((with_reducible apply q_pub); iterate 1 focus rfl) | ((with_reducible apply gy7); iterate 1 focus rfl) | ((with_reducible apply gy9); (focus ((with_reducible refine gE ?_); (try simp (disch := omega) only [go_sem]) <;> rfl))) | ((with_reducible apply gz1); (focus first | rfl | (simp (disch := omega) only [go_sem]; done))) | ((with_reducible apply r_drawD (pickR [(4, ratQ u), (9, ratQ v), (10, ratQ x)]) [] [4]); (focus kernel_rfl); (focus rfl); (focus kernel_rfl); (focus (simp only [List.length_cons, List.length_nil, Nat.reduceAdd]; rfl)))))
  simp (disch := omega) only [go_sem]
abbrev PQ := Rat × Rat
abbrev PQ.av (p : PQ) : AV := ptQ p.1 p.2
def PQ.sz (p : PQ) (j : Nat) : Prop := Sz p.1 j ∧ Sz p.2 j
def crossP (p q r s : PQ) : Rat := (q.1 - p.1) * (s.2 - r.2) - (q.2 - p.2) * (s.1 - r.1)
def dotP (p q r s : PQ) : Rat := (q.1 - p.1) * (s.1 - r.1) + (q.2 - p.2) * (s.2 - r.2)
theorem dotP_sz {p q r s : PQ} {j : Nat} (hp : p.sz j) (hq : q.sz j) (hr : r.sz j) (hs : s.sz j) : Sz (dotP p q r s) (8 * j + 5) := by
  unfold dotP
  exact (((hq.1.sub hp.1).mul (hs.1.sub hr.1)).add ((hq.2.sub hp.2).mul (hs.2.sub hr.2))).mono (by omega)
theorem plCrossP (p q r s : PQ) {j : Nat} (hp : p.sz j) (hq : q.sz j) (hr : r.sz j) (hs : s.sz j) (hj : j ≤ 10000) : Pure Tryz.prog 79 [p.av, q.av, r.av, s.av] (ratQ (crossP p q r s)) := by
  have c1 := plFrom p.1 p.2 q.1 q.2 hp.1 hp.2 hq.1 hq.2 (by omega)
  have c2 := plFrom r.1 r.2 s.1 s.2 hr.1 hr.2 hs.1 hs.2 (by omega)
  have c3 := plCross (q.1 - p.1) (q.2 - p.2) (s.1 - r.1) (s.2 - r.2) (hq.1.sub hp.1) (hq.2.sub hp.2) (hs.1.sub hr.1) (hs.2.sub hr.2) (by omega)
  unfold crossP
  obtain ⟨p1, p2⟩ := p
  obtain ⟨q1, q2⟩ := q
  obtain ⟨r1, r2⟩ := r
  obtain ⟨s1, s2⟩ := s
  simp only at *
  generalize (q1 - p1) * (s2 - r2) - (q2 - p2) * (s1 - r1) = x at *
  generalize q1 - p1 = a at *
  generalize q2 - p2 = b at *
  generalize s1 - r1 = c at *
  generalize s2 - r2 = d at *
  refine pure_intro (tok := 0) Tryz.func79 rfl Tryz.ntmps79 Tryz.results79 Tryz.call79 (by rfl) (by simp) ?_
  (repeat' (first | (with_reducible first | refine stp ?_ | apply gx1 | apply gx2 | apply gx3 | apply gx4 | apply gx5 | apply gx6 | apply gx7 | apply gy8 | apply gz2 | apply gz3 | refine gw0 (c1) ?_ ?_ | refine gw3 (c1) ?_ ?_ ?_ | refine gw0 (c2) ?_ ?_ | refine gw3 (c2) ?_ ?_ ?_ | refine gw0 (c3) ?_ ?_ | refine gw3 (c3) ?_ ?_ ?_) | (with_reducible refine all_v ?_; intro _) | ((with_reducible refine gE ?_); (try simp (disch := omega) only [go_sem]) <;> first | rfl | omega) | with_reducible refine t_in_other (by decide) ?_ | ((with_reducible apply gy1); iterate 3 focus rfl) | ((with_reducible apply gy2); iterate 3 focus rfl) | ((with_reducible apply gy3); iterate 2 focus rfl) | ((with_reducible apply gy4); iterate 1 focus rfl) | ((with_reducible apply gy5); iterate 4 focus rfl) | ((with_reducible apply gy5c); iterate 4 focus rfl) | ((with_reducible apply gy6); iterate 4 focus rfl) | ((with_reducible apply d_bar); iterate 3 focus rfl) | ((with_reducible apply q_pub); iterate 1 focus rfl) | ((with_reducible apply gy7); iterate 1 focus rfl) | ((with_reducible apply gy9); (focus ((with_reducible refine gE ?_); (try simp (disch := omega) only [go_sem]) <;> rfl))) | ((with_reducible apply gz1); (focus first | rfl | (simp (disch := omega) only [go_sem]; done))) | ((with_reducible apply r_drawD (pickR [(2, ptQ a b), (5, ptQ c d), (6, ratQ x)]) [] [8]); (focus kernel_rfl); (focus rfl); (focus kernel_rfl); (focus (simp only [List.length_cons, List.length_nil, Nat.reduceAdd]; rfl)))))
  simp (disch := omega) only [go_sem]
theorem plDotP (p q r s : PQ) {j : Nat} (hp : p.sz j) (hq : q.sz j) (hr : r.sz j) (hs : s.sz j) (hj : j ≤ 10000) : Pure Tryz.prog 80 [p.av, q.av, r.av, s.av] (ratQ (dotP p q r s)) := by
  have c1 := plFrom p.1 p.2 q.1 q.2 hp.1 hp.2 hq.1 hq.2 (by omega)
  have c2 := plFrom r.1 r.2 s.1 s.2 hr.1 hr.2 hs.1 hs.2 (by omega)
  have c3 := plDot (q.1 - p.1) (q.2 - p.2) (s.1 - r.1) (s.2 - r.2) (hq.1.sub hp.1) (hq.2.sub hp.2) (hs.1.sub hr.1) (hs.2.sub hr.2) (by omega)
  unfold dotP
  obtain ⟨p1, p2⟩ := p
  obtain ⟨q1, q2⟩ := q
  obtain ⟨r1, r2⟩ := r
  obtain ⟨s1, s2⟩ := s
  simp only at *
  generalize (q1 - p1) * (s1 - r1) + (q2 - p2) * (s2 - r2) = x at *
  generalize q1 - p1 = a at *
  generalize q2 - p2 = b at *
  generalize s1 - r1 = c at *
  generalize s2 - r2 = d at *
  refine pure_intro (tok := 0) Tryz.func80 rfl Tryz.ntmps80 Tryz.results80 Tryz.call80 (by rfl) (by simp) ?_
  (repeat' (first | (with_reducible first | refine stp ?_ | apply gx1 | apply gx2 | apply gx3 | apply gx4 | apply gx5 | apply gx6 | apply gx7 | apply gy8 | apply gz2 | apply gz3 | refine gw0 (c1) ?_ ?_ | refine gw3 (c1) ?_ ?_ ?_ | refine gw0 (c2) ?_ ?_ | refine gw3 (c2) ?_ ?_ ?_ | refine gw0 (c3) ?_ ?_ | refine gw3 (c3) ?_ ?_ ?_) | (with_reducible refine all_v ?_; intro _) | ((with_reducible refine gE ?_); (try simp (disch := omega) only [go_sem]) <;> first | rfl | omega) | with_reducible refine t_in_other (by decide) ?_ | ((with_reducible apply gy1); iterate 3 focus rfl) | ((with_reducible apply gy2); iterate 3 focus rfl) | ((with_reducible apply gy3); iterate 2 focus rfl) | ((with_reducible apply gy4); iterate 1 focus rfl) | ((with_reducible apply gy5); iterate 4 focus rfl) | ((with_reducible apply gy5c); iterate 4 focus rfl) | ((with_reducible apply gy6); iterate 4 focus rfl) | ((with_reducible apply d_bar); iterate 3 focus rfl) | ((with_reducible apply q_pub); iterate 1 focus rfl) | ((with_reducible apply gy7); iterate 1 focus rfl) | ((with_reducible apply gy9); (focus ((with_reducible refine gE ?_); (try simp (disch := omega) only [go_sem]) <;> rfl))) | ((with_reducible apply gz1); (focus first | rfl | (simp (disch := omega) only [go_sem]; done))) | ((with_reducible apply r_drawD (pickR [(2, ptQ a b), (5, ptQ c d), (6, ratQ x)]) [] [8]); (focus kernel_rfl); (focus rfl); (focus kernel_rfl); (focus (simp only [List.length_cons, List.length_nil, Nat.reduceAdd]; rfl)))))
  simp (disch := omega) only [go_sem]
theorem qEqual (a b : Rat) {j k : Nat} (ha : Sz a j) (hb : Sz b k) (hj : j ≤ 1000000) (hk : k ≤ 1000000) : Pure Tryz.prog 29 [ratQ a, ratQ b] (.v (.bool (decide (a = b)))) := by
  have c := qCmp a b ha hb (by omega) (by omega)
  have e : (cmpQ a b == 0) = decide (a = b) := by
    rw [Bool.eq_iff_iff, beq_iff_eq, decide_eq_true_eq]
    unfold cmpQ
    constructor
    · intro h
      split at h
      · omega
      · split at h
        · omega
        · rename_i h1 h2
          exact Rat.le_antisymm (Rat.not_lt.1 h2) (Rat.not_lt.1 h1)
    · rintro rfl
      simp
  rw [← e]
  generalize cmpQ a b = s at *
  refine pure_intro (tok := 0) Tryz.func29 rfl Tryz.ntmps29 Tryz.results29 Tryz.call29 (by rfl) (by simp) ?_
  (focus (refine wkvp w_t (w_a c w_t) ?_; (repeat' first | exact w_t | apply w_l); all_goals intros))
  simp (disch := omega) only [go_sem]
end Go.Proofs.YteiopjkamgmfpaaGreatDoor
end

section
namespace Go.Proofs.YteiopjkamgmfpaaGreatDoor
open Go Go.RowKit Go.Pg
set_option linter.unusedSimpArgs false
set_option linter.unusedVariables false
set_option maxRecDepth 20000
attribute [local go_sem] Tryz.underlying3 Tryz.underlying2 Tryz.underlying4 Tryz.underlying34 Tryz.underlying27 Tryz.underlying110 Tryz.underlying109 Tryz.underlying75 Tryz.underlying72 Tryz.underlying9 Tryz.underlying49 Tryz.underlying116 Tryz.underlying66 Tryz.underlying67 sz3 by3 z3 szQuant zQuant szCor zCor szC3 zC3 szErr zErr szStr byStr zStr eqQuant Bool.and_self szRat zRat szPt byPt zPt
attribute [-bool_to_prop] Bool.and_eq_decide Bool.or_eq_decide Bool.decide_beq_decide decide_eq_decide
/-- The value of a quantity. -/
def Qt.val (q : Qt) (ps : List PQ) (rs : List Rat) : Rat :=
  if q.k = 3 then rs.getD q.a.toNat 0
  else if q.k = 1 then crossP (ps.getD q.a.toNat (0, 0)) (ps.getD q.b.toNat (0, 0)) (ps.getD q.a.toNat (0, 0)) (ps.getD q.c.toNat (0, 0))
  else 2 * dotP (ps.getD q.b.toNat (0, 0)) (ps.getD q.a.toNat (0, 0)) (ps.getD q.b.toNat (0, 0)) (ps.getD q.c.toNat (0, 0))
theorem chk_val {k a b c n m : Int} (h : Qt.chk ⟨k, a, b, c⟩ n m = 0) : (k = 3 ∧ 0 ≤ a ∧ a < 64 ∧ a < m) ∨ (k ≠ 3 ∧ (k = 1 ∨ k = 2) ∧ (0 ≤ a ∧ a < n) ∧ (0 ≤ b ∧ b < n) ∧ (0 ≤ c ∧ c < n)) := chk_ok h
abbrev zeroQ : AV := .agg [.v (.bool false), .v (.slice none 0 0), .v (.slice none 0 0)]
set_option maxHeartbeats 4000000 in
theorem quValue (k a b c : Int) (ps : List PQ) (rs : List Rat) {j : Nat} (hl : ps.length ≤ 1000000000) (hr : rs.length ≤ 1000000000) (hp : ∀ p ∈ ps, p.sz j) (hq : ∀ r ∈ rs, Sz r j) (hj : j ≤ 10000) :
    Pure Tryz.prog 27 [Qt.av ⟨k, a, b, c⟩, .sl 6 (ps.map PQ.av), .sl 3 (rs.map ratQ)] (if Qt.chk ⟨k, a, b, c⟩ ps.length rs.length = 0 then .tup [ratQ (Qt.val ⟨k, a, b, c⟩ ps rs), iv 0] else .tup [zeroQ, iv (Qt.chk ⟨k, a, b, c⟩ ps.length rs.length)]) := by
  have cc := quCheck k a b c ps.length rs.length
  have ok := @chk_val k a b c ps.length rs.length
  generalize Qt.chk ⟨k, a, b, c⟩ ps.length rs.length = v at *
  by_cases hv : v = 0
  · subst hv
    rw [if_pos rfl]
    rcases ok rfl with ⟨rfl, h1, h2, h3⟩ | ⟨h0, h1, h2, h3, h4⟩
    · obtain ⟨x, rfl⟩ : ∃ n : Nat, a = n := ⟨a.toNat, by omega⟩
      have hx := getD_mapA (f := ratQ) (l := rs) (d := 0) (j := x) (by omega)
      rw [show Qt.val ⟨3, x, b, c⟩ ps rs = rs.getD x 0 from by unfold Qt.val; rfl]
      generalize rs.getD x 0 = q at *
      refine pure_intro (tok := 0) Tryz.func27 rfl Tryz.ntmps27 Tryz.results27 Tryz.call27 (by rfl) (by simp) ?_
      (focus (refine wkld (w_a @l_map (w_a hx w_t)) (w_a cc w_t) w_t w_t ?_; (repeat' first | exact w_t | apply w_l); all_goals intros))
    · obtain ⟨x, rfl⟩ : ∃ n : Nat, a = n := ⟨a.toNat, by omega⟩
      obtain ⟨y, rfl⟩ : ∃ n : Nat, b = n := ⟨b.toNat, by omega⟩
      obtain ⟨w, rfl⟩ : ∃ n : Nat, c = n := ⟨c.toNat, by omega⟩
      have hx := getD_mapA (f := PQ.av) (l := ps) (d := (0, 0)) (j := x) (by omega)
      have hy := getD_mapA (f := PQ.av) (l := ps) (d := (0, 0)) (j := y) (by omega)
      have hw := getD_mapA (f := PQ.av) (l := ps) (d := (0, 0)) (j := w) (by omega)
      have zx := hp _ (getD_mem (d := (0, 0)) (show x < ps.length by omega))
      have zy := hp _ (getD_mem (d := (0, 0)) (show y < ps.length by omega))
      have zw := hp _ (getD_mem (d := (0, 0)) (show w < ps.length by omega))
      rw [show Qt.val ⟨k, x, y, w⟩ ps rs = if k = 1 then crossP (ps.getD x (0, 0)) (ps.getD y (0, 0)) (ps.getD x (0, 0)) (ps.getD w (0, 0)) else 2 * dotP (ps.getD y (0, 0)) (ps.getD x (0, 0)) (ps.getD y (0, 0)) (ps.getD w (0, 0)) from by
        unfold Qt.val; simp only [Int.toNat_natCast]; rw [if_neg h0]]
      generalize ps.getD x (0, 0) = X at *
      generalize ps.getD y (0, 0) = Y at *
      generalize ps.getD w (0, 0) = W at *
      have k1 := plCrossP X Y X W zx zy zx zw (by omega)
      have k2 := plDotP Y X Y W zy zx zy zw (by omega)
      have k3 : Pure Tryz.prog 38 [iv 2] (ratQ 2) := ratOf 2 (by omega)
      have k4 := ratMul 2 (dotP Y X Y W) (nat_sz1 2 (by omega)) (dotP_sz zy zx zy zw) (by omega) (by omega)
      have e2 : ((2 : Nat) : Rat) = 2 := rfl
      generalize crossP X Y X W = u at *
      generalize 2 * dotP Y X Y W = z at *
      generalize dotP Y X Y W = v at *
      generalize (2 : Rat) = tw at *
      obtain ⟨X1, X2⟩ := X
      obtain ⟨Y1, Y2⟩ := Y
      obtain ⟨W1, W2⟩ := W
      rcases h1 with rfl | rfl
      · rw [if_pos rfl]
        refine pure_intro (tok := 0) Tryz.func27 rfl Tryz.ntmps27 Tryz.results27 Tryz.call27 (by rfl) (by simp) ?_
        (focus (refine wkld (w_a @l_map (w_a hx (w_a hy (w_a hw w_t)))) (w_a cc (w_a k1 w_t)) w_t w_t ?_; (repeat' first | exact w_t | apply w_l); all_goals intros))
      · rw [if_neg (by omega)]
        refine pure_intro (tok := 0) Tryz.func27 rfl Tryz.ntmps27 Tryz.results27 Tryz.call27 (by rfl) (by simp) ?_
        (focus (refine wkld (w_a @l_map (w_a hx (w_a hy (w_a hw w_t)))) (w_a cc (w_a k2 (w_a k3 (w_a k4 w_t)))) w_t (w_a (w_d 6 [] [] []) (w_a (w_d 9 [(0, ratQ tw), (5, ratQ v), (6, ratQ z)] [] [6]) w_t)) ?_; (repeat' first | exact w_t | apply w_l); all_goals intros))
  · rw [if_neg hv]
    refine pure_intro (tok := 0) Tryz.func27 rfl Tryz.ntmps27 Tryz.results27 Tryz.call27 (by rfl) (by simp) ?_
    (focus (refine wkld (w_a @l_map w_t) (w_a cc w_t) w_t w_t ?_; (repeat' first | exact w_t | apply w_l); all_goals intros))
/-- Short names, few of them. -/
def shortB (ss : List ByteArray) : Bool := decide (ss.length ≤ 60) && ss.all fun s => decide (s.size ≤ 30)
end Go.Proofs.YteiopjkamgmfpaaGreatDoor
end

section
namespace Go.Proofs.YteiopjkamgmfpaaGreatDoor
open Go Go.RowKit Go.Pg
set_option linter.unusedSimpArgs false
set_option linter.unusedVariables false
set_option maxRecDepth 20000
attribute [local go_sem] Tryz.underlying3 Tryz.underlying2 Tryz.underlying4 Tryz.underlying34 Tryz.underlying27 Tryz.underlying75 Tryz.underlying72 Tryz.underlying9 Tryz.underlying49 Tryz.underlying116 Tryz.underlying66 Tryz.underlying67 sz3 by3 z3 szQuant zQuant szErr zErr szStr byStr zStr eqQuant Bool.and_self szRat zRat szPt byPt zPt
attribute [-bool_to_prop] Bool.and_eq_decide Bool.or_eq_decide Bool.decide_beq_decide decide_eq_decide
theorem lqArea (a b c : Int) : Pure Tryz.prog 24 [iv a, iv b, iv c] (Qt.av ⟨1, a, b, c⟩) := by
  refine pure_intro (tok := 0) Tryz.func24 rfl Tryz.ntmps24 Tryz.results24 Tryz.call24 (by rfl) (by simp) ?_
  (focus (refine wkld w_t w_t w_t w_t ?_; (repeat' first | exact w_t | apply w_l); all_goals intros))
theorem lqPyth (a b c : Int) : Pure Tryz.prog 25 [iv a, iv b, iv c] (Qt.av ⟨2, a, b, c⟩) := by
  refine pure_intro (tok := 0) Tryz.func25 rfl Tryz.ntmps25 Tryz.results25 Tryz.call25 (by rfl) (by simp) ?_
  (focus (refine wkld w_t w_t w_t w_t ?_; (repeat' first | exact w_t | apply w_l); all_goals intros))
set_option maxHeartbeats 4000000 in
theorem lqAwake : Pure Tryz.prog 6 [] (.v (.bool true)) := by
  have n1 : Pure Tryz.prog 23 [Qt.av ⟨1, 2, 0, 1⟩] (.tup [Qt.av ⟨1, 0, 1, 2⟩, iv 1]) := by
    have := quNorm 1 2 0 1
    rwa [show Qt.norm ⟨1, 2, 0, 1⟩ = (⟨1, 0, 1, 2⟩, 1) from by decide] at this
  have n2 : Pure Tryz.prog 23 [Qt.av ⟨2, 3, 1, 3⟩] (.tup [Qt.av ⟨2, 1, 3, 1⟩, iv 1]) := by
    have := quNorm 2 3 1 3
    rwa [show Qt.norm ⟨2, 3, 1, 3⟩ = (⟨2, 1, 3, 1⟩, 1) from by decide] at this
  have o0 : Pure Tryz.prog 26 [iv 0] (ratQ 0) := qOf 0 (by omega)
  have o2 : Pure Tryz.prog 26 [iv 2] (ratQ 2) := qOf 2 (by omega)
  have o3 : Pure Tryz.prog 26 [iv 3] (ratQ 3) := qOf 3 (by omega)
  have o6 : Pure Tryz.prog 26 [iv 6] (ratQ 6) := qOf 6 (by omega)
  have o8 : Pure Tryz.prog 26 [iv 8] (ratQ 8) := qOf 8 (by omega)
  have hsz : ∀ p ∈ [((0, 0) : PQ), (2, 0), (0, 3)], PQ.sz p 1 := by
    intro p hp
    simp only [List.mem_cons, List.not_mem_nil, or_false] at hp
    rcases hp with rfl | rfl | rfl
    · exact ⟨nat_sz1 0 (by omega), nat_sz1 0 (by omega)⟩
    · exact ⟨nat_sz1 2 (by omega), nat_sz1 0 (by omega)⟩
    · exact ⟨nat_sz1 0 (by omega), nat_sz1 3 (by omega)⟩
  have v1 : Pure Tryz.prog 27 [Qt.av ⟨1, 0, 1, 2⟩, .sl 6 [ptQ 0 0, ptQ 2 0, ptQ 0 3], .v (.slice none 0 0)] (.tup [ratQ 6, iv 0]) := by
    have := quValue 1 0 1 2 [(0, 0), (2, 0), (0, 3)] [] (by simp) (by simp) hsz (by simp) (by omega)
    rw [if_pos (by decide), show Qt.val ⟨1, 0, 1, 2⟩ [(0, 0), (2, 0), (0, 3)] [] = 6 from by decide +kernel] at this
    exact pure_vkA this (.cons (.refl _) (.cons (.refl _) (.cons (.nil 3) .nil)))
  have v2 : Pure Tryz.prog 27 [Qt.av ⟨2, 0, 1, 2⟩, .sl 6 [ptQ 0 0, ptQ 2 0, ptQ 0 3], .v (.slice none 0 0)] (.tup [ratQ 8, iv 0]) := by
    have := quValue 2 0 1 2 [(0, 0), (2, 0), (0, 3)] [] (by simp) (by simp) hsz (by simp) (by omega)
    rw [if_pos (by decide), show Qt.val ⟨2, 0, 1, 2⟩ [(0, 0), (2, 0), (0, 3)] [] = 8 from by decide +kernel] at this
    exact pure_vkA this (.cons (.refl _) (.cons (.refl _) (.cons (.nil 3) .nil)))
  have t1 : Pure Tryz.prog 28 [Qt.av ⟨2, 0, 1, 0⟩, .sl 1 [strA ⟨#[65]⟩, strA ⟨#[66]⟩]] (.tup [strA ⟨#[80, 40, 65, 44, 32, 66, 44, 32, 65, 41]⟩, iv 0]) := by
    have := quText 2 0 1 0 [⟨#[65]⟩, ⟨#[66]⟩] (by simp) (by intro s hs; simp only [List.mem_cons, List.not_mem_nil, or_false] at hs; rcases hs with rfl | rfl <;> decide)
    rw [if_pos (by decide), show Qt.txt ⟨2, 0, 1, 0⟩ [⟨#[65]⟩, ⟨#[66]⟩] = ⟨#[80, 40, 65, 44, 32, 66, 44, 32, 65, 41]⟩ from by decide +kernel] at this
    exact this
  have e1 : Pure Tryz.prog 29 [ratQ 6, ratQ 6] (.v (.bool true)) := by
    have := qEqual 6 6 (nat_sz1 6 (by omega)) (nat_sz1 6 (by omega)) (by omega) (by omega)
    rwa [decide_eq_true rfl] at this
  have e2 : Pure Tryz.prog 29 [ratQ 8, ratQ 8] (.v (.bool true)) := by
    have := qEqual 8 8 (nat_sz1 8 (by omega)) (nat_sz1 8 (by omega)) (by omega) (by omega)
    rwa [decide_eq_true rfl] at this
  have a1 := lqArea 2 0 1
  have a2 := lqPyth 3 1 3
  have a3 := lqArea 0 1 2
  have a4 := lqPyth 0 1 2
  have a5 := lqPyth 0 1 0
  have a6 := lqPyth 1 3 1
  clear hsz
  generalize (0 : Rat) = r0 at *
  generalize (2 : Rat) = r2 at *
  generalize (3 : Rat) = r3 at *
  generalize (6 : Rat) = r6 at *
  generalize (8 : Rat) = r8 at *
  refine pure_intro (tok := 0) Tryz.func6 rfl Tryz.ntmps6 Tryz.results6 Tryz.call6 (by rfl) (by simp) ?_
  (repeat' (first | (with_reducible first | refine stp ?_ | apply gx1 | apply gx2 | apply gx3 | apply gx4 | apply gx5 | apply gx6 | apply gx7 | apply gy8 | apply gz2 | apply gz3 | refine gw0 (a1) ?_ ?_ | refine gw3 (a1) ?_ ?_ ?_ | refine gw0 (n1) ?_ ?_ | refine gw3 (n1) ?_ ?_ ?_ | refine gw0 (a2) ?_ ?_ | refine gw3 (a2) ?_ ?_ ?_ | refine gw0 (n2) ?_ ?_ | refine gw3 (n2) ?_ ?_ ?_ | refine gw0 (o0) ?_ ?_ | refine gw3 (o0) ?_ ?_ ?_ | refine gw0 (o2) ?_ ?_ | refine gw3 (o2) ?_ ?_ ?_ | refine gw0 (o3) ?_ ?_ | refine gw3 (o3) ?_ ?_ ?_ | refine gw0 (a3) ?_ ?_ | refine gw3 (a3) ?_ ?_ ?_ | refine gw0 (a4) ?_ ?_ | refine gw3 (a4) ?_ ?_ ?_ | refine gw0 (a5) ?_ ?_ | refine gw3 (a5) ?_ ?_ ?_ | apply gw1 (t1) | refine gw0 (a6) ?_ ?_ | refine gw3 (a6) ?_ ?_ ?_ | refine gw0 (o6) ?_ ?_ | refine gw3 (o6) ?_ ?_ ?_ | refine gw0 (e1) ?_ ?_ | refine gw3 (e1) ?_ ?_ ?_ | refine gw0 (o8) ?_ ?_ | refine gw3 (o8) ?_ ?_ ?_ | refine gw0 (e2) ?_ ?_ | refine gw3 (e2) ?_ ?_ ?_) | ((with_reducible apply gw1 (v2)); iterate 4 focus ((with_reducible refine gE ?_); (try simp (disch := omega) only [go_sem, decide_eq_true, decide_eq_false, if_pos, if_neg, Int.reduceAdd, Int.reduceSub, Int.reduceToNat, Int.zero_add]) <;> first | rfl | done)) | ((with_reducible apply gw1 (v1)); iterate 4 focus ((with_reducible refine gE ?_); (try simp (disch := omega) only [go_sem, decide_eq_true, decide_eq_false, if_pos, if_neg, Int.reduceAdd, Int.reduceSub, Int.reduceToNat, Int.zero_add]) <;> first | rfl | done)) | (with_reducible refine all_v ?_; intro _) | ((with_reducible refine gE ?_); (try simp (disch := omega) only [go_sem, decide_eq_true, decide_eq_false, if_pos, if_neg, Int.reduceAdd, Int.reduceSub, Int.reduceToNat, Int.zero_add]) <;> first | rfl | omega) | with_reducible refine t_in_other (by decide) ?_ | ((with_reducible apply gy1); iterate 3 focus rfl) | ((with_reducible apply gy2); iterate 3 focus rfl) | ((with_reducible apply gy3); iterate 2 focus rfl) | ((with_reducible apply gy4); iterate 1 focus rfl) | ((with_reducible apply gy5); iterate 4 focus rfl) | ((with_reducible apply gy5c); iterate 4 focus rfl) | ((with_reducible apply gy6); iterate 4 focus rfl) | ((with_reducible apply d_bar); iterate 3 focus rfl) | ((with_reducible apply q_pub); iterate 1 focus rfl) | ((with_reducible apply gy7); iterate 1 focus rfl) | ((with_reducible apply gy9); (focus ((with_reducible refine gE ?_); (try simp (disch := omega) only [go_sem, decide_eq_true, decide_eq_false, if_pos, if_neg, Int.reduceAdd, Int.reduceSub, Int.reduceToNat, Int.zero_add]) <;> rfl))) | ((with_reducible apply gz1); (focus first | rfl | (simp (disch := omega) only [go_sem, decide_eq_true, decide_eq_false, if_pos, if_neg, Int.reduceAdd, Int.reduceSub, Int.reduceToNat, Int.zero_add]; done))) | ((with_reducible apply r_drawD (id := 7) (pickR [(1, Qt.av ⟨1, 0, 1, 2⟩), (9, Qt.av ⟨2, 1, 3, 1⟩), (22, ratQ r6), (23, .v (.bool true)), (31, ratQ r8), (32, .v (.bool true))]) [] []); (focus kernel_rfl); (focus rfl); (focus kernel_rfl); (focus (simp only [List.length_cons, List.length_nil, Nat.reduceAdd]; rfl))) | ((with_reducible first | apply og_split | apply dg_split | apply cg_split); all_goals (intro hc; (try simp only [bool_to_prop] at hc); try (exfalso; omega)))))
  (all_goals (try simp (disch := omega) only [go_sem, decide_eq_true, decide_eq_false, if_pos, if_neg, Int.reduceAdd, Int.reduceSub, Int.reduceToNat, Int.zero_add])); (all_goals first | done | rfl | (congr 2; first | done | omega | (rw [Bool.eq_iff_iff]; simp only [bool_to_prop, Bool.false_eq_true, iff_true, true_iff, iff_false, false_iff]; omega)) | skip)
end Go.Proofs.YteiopjkamgmfpaaGreatDoor
end

section
namespace Go.Proofs.YteiopjkamgmfpaaGreatDoor
open Go Go.RowKit Go.Pg
set_option linter.unusedSimpArgs false
set_option linter.unusedVariables false
set_option maxRecDepth 20000
attribute [local go_sem] Tryz.underlying3 Tryz.underlying2 Tryz.underlying4 Tryz.underlying34 Tryz.underlying27 Tryz.underlying75 Tryz.underlying72 Tryz.underlying9 sz3 by3 z3 szQuant zQuant szErr zErr szStr byStr zStr eqQuant Bool.and_self beq_self_eq_true
attribute [-bool_to_prop] Bool.and_eq_decide Bool.or_eq_decide Bool.decide_beq_decide decide_eq_decide
section
variable {N n : Nat} {cs : List AV}
theorem shQuant (h : Shape Tryz.prog N n 27 cs) : ∃ k a b c : Int, cs = [iv k, iv a, iv b, iv c] := by
  obtain ⟨m, rfl, hs⟩ := shape_struct Tryz.underlying27 (by kernel_rfl) h
  obtain ⟨x, y, rfl, h1, hs⟩ := hs.inv
  obtain ⟨x2, y, rfl, h2, hs⟩ := hs.inv
  obtain ⟨x3, y, rfl, h3, hs⟩ := hs.inv
  obtain ⟨x4, y, rfl, h4, hs⟩ := hs.inv
  obtain rfl := hs.inv0
  obtain ⟨k, rfl, _⟩ := shape_int Tryz.underlying3 h1
  obtain ⟨a, rfl, _⟩ := shape_int Tryz.underlying3 h2
  obtain ⟨b, rfl, _⟩ := shape_int Tryz.underlying3 h3
  obtain ⟨c, rfl, _⟩ := shape_int Tryz.underlying3 h4
  exact ⟨k, a, b, c, rfl⟩
theorem aggQuant (cs : List AV) : wrapA Tryz.prog 27 cs = .agg cs := wrapA_agg Tryz.underlying27 cs
end
end Go.Proofs.YteiopjkamgmfpaaGreatDoor
end

section
namespace Go.Pol
/-- Polynomials as lists of coefficients and keys, descending. -/
structure KO {α : Type} (D : α → Prop) (lt : α → α → Prop) : Prop where
  irr : ∀ x, ¬ lt x x
  tr : ∀ x y z, lt x y → lt y z → lt x z
  tri : ∀ x y, D x → D y → lt x y ∨ x = y ∨ lt y x
section
variable {α : Type} {D : α → Prop} {lt : α → α → Prop} [DecidableEq α]
def cof : List (Rat × α) → α → Rat
  | [], _ => 0
  | t :: p, x => (if t.2 = x then t.1 else 0) + cof p x
end
section
variable {α : Type} {D : α → Prop} {lt : α → α → Prop}
def addP (lt : α → α → Prop) [DecidableRel lt] : List (Rat × α) → List (Rat × α) → List (Rat × α)
  | [], q => q
  | s :: p, [] => s :: p
  | s :: p, t :: q =>
    if lt t.2 s.2 then s :: addP lt p (t :: q)
    else if lt s.2 t.2 then t :: addP lt (s :: p) q
    else if s.1 + t.1 = 0 then addP lt p q
    else (s.1 + t.1, s.2) :: addP lt p q
termination_by p q => p.length + q.length
def Srt (D : α → Prop) (lt : α → α → Prop) (p : List (Rat × α)) : Prop := (∀ t ∈ p, t.1 ≠ 0 ∧ D t.2) ∧ p.Pairwise (fun s t => lt t.2 s.2)
end
section
variable {α : Type} {D : α → Prop} {lt : α → α → Prop} [DecidableEq α]
end
section
variable {α : Type} {D : α → Prop} {lt : α → α → Prop} [DecidableRel lt]
theorem addP_nil (p : List (Rat × α)) : addP lt p [] = p := by cases p <;> simp [addP]
theorem mem_addP {p q : List (Rat × α)} {t : Rat × α} (h : t ∈ addP lt p q) : ∃ s ∈ p ++ q, t.2 = s.2 := by
  fun_induction addP lt p q with
  | case1 q => exact ⟨t, by simpa using h, rfl⟩
  | case2 s p => exact ⟨t, by simpa using h, rfl⟩
  | case3 s p u q h1 ih =>
    rcases List.mem_cons.1 h with rfl | h
    · exact ⟨t, by simp, rfl⟩
    · obtain ⟨v, hv, e⟩ := ih h
      exact ⟨v, by simp only [List.cons_append, List.mem_cons, List.mem_append] at hv ⊢; rcases hv with hv | hv | hv <;> simp [hv], e⟩
  | case4 s p u q h1 h2 ih =>
    rcases List.mem_cons.1 h with rfl | h
    · exact ⟨t, by simp, rfl⟩
    · obtain ⟨v, hv, e⟩ := ih h
      exact ⟨v, by simp only [List.cons_append, List.mem_cons, List.mem_append] at hv ⊢; rcases hv with hv | hv | hv <;> simp [hv], e⟩
  | case5 s p u q h1 h2 h3 ih =>
    obtain ⟨v, hv, e⟩ := ih h
    exact ⟨v, by simp only [List.cons_append, List.mem_cons, List.mem_append] at hv ⊢; rcases hv with hv | hv <;> simp [hv], e⟩
  | case6 s p u q h1 h2 h3 ih =>
    rcases List.mem_cons.1 h with rfl | h
    · exact ⟨s, by simp, rfl⟩
    · obtain ⟨v, hv, e⟩ := ih h
      exact ⟨v, by simp only [List.cons_append, List.mem_cons, List.mem_append] at hv ⊢; rcases hv with hv | hv <;> simp [hv], e⟩
end
section
variable {α : Type} {D : α → Prop} {lt : α → α → Prop} [DecidableEq α] [DecidableRel lt]
theorem cof_addP (o : KO D lt) {p q : List (Rat × α)} (x : α) (hp : ∀ t ∈ p, D t.2) (hq : ∀ t ∈ q, D t.2) : cof (addP lt p q) x = cof p x + cof q x := by
  fun_induction addP lt p q with
  | case1 q => show cof q x = 0 + cof q x; rw [Rat.zero_add]
  | case2 s p => show cof (s :: p) x = cof (s :: p) x + 0; rw [Rat.add_zero]
  | case3 s p u q h1 ih =>
    have := ih (fun t h => hp t (.tail _ h)) hq
    simp only [cof] at this ⊢
    rw [this]; grind
  | case4 s p u q h1 h2 ih =>
    have := ih hp (fun t h => hq t (.tail _ h))
    simp only [cof] at this ⊢
    rw [this]; grind
  | case5 s p u q h1 h2 h3 ih =>
    have e : s.2 = u.2 := by rcases o.tri s.2 u.2 (hp s (.head _)) (hq u (.head _)) with h | h | h; exact absurd h h2; exact h; exact absurd h h1
    have := ih (fun t h => hp t (.tail _ h)) (fun t h => hq t (.tail _ h))
    simp only [cof] at this ⊢
    rw [this, e]; split <;> grind
  | case6 s p u q h1 h2 h3 ih =>
    have e : s.2 = u.2 := by rcases o.tri s.2 u.2 (hp s (.head _)) (hq u (.head _)) with h | h | h; exact absurd h h2; exact h; exact absurd h h1
    have := ih (fun t h => hp t (.tail _ h)) (fun t h => hq t (.tail _ h))
    simp only [cof] at this ⊢
    rw [this, e]; split <;> grind
end
section
variable {α : Type} {D : α → Prop} {lt : α → α → Prop}
theorem Srt.nil : Srt D lt ([] : List (Rat × α)) := ⟨by simp, .nil⟩
theorem Srt.tail {t : Rat × α} {p : List (Rat × α)} (h : Srt D lt (t :: p)) : Srt D lt p := ⟨fun u hu => h.1 u (.tail _ hu), (List.pairwise_cons.1 h.2).2⟩
theorem Srt.cons {t : Rat × α} {p : List (Rat × α)} (h : Srt D lt p) (h1 : t.1 ≠ 0) (h2 : D t.2) (h3 : ∀ u ∈ p, lt u.2 t.2) : Srt D lt (t :: p) :=
  ⟨fun u hu => by rcases List.mem_cons.1 hu with rfl | hu; exact ⟨h1, h2⟩; exact h.1 u hu, List.pairwise_cons.2 ⟨h3, h.2⟩⟩
theorem Srt.dom {p : List (Rat × α)} (h : Srt D lt p) : ∀ t ∈ p, D t.2 := fun t ht => (h.1 t ht).2
theorem Srt.head_lt {t : Rat × α} {p : List (Rat × α)} (h : Srt D lt (t :: p)) : ∀ u ∈ p, lt u.2 t.2 := (List.pairwise_cons.1 h.2).1
end
section
variable {α : Type} {D : α → Prop} {lt : α → α → Prop} [DecidableRel lt]
theorem addP_srt (o : KO D lt) {p q : List (Rat × α)} (hp : Srt D lt p) (hq : Srt D lt q) : Srt D lt (addP lt p q) := by
  fun_induction addP lt p q with
  | case1 q => exact hq
  | case2 s p => exact hp
  | case3 s p u q h1 ih =>
    refine (ih hp.tail hq).cons (hp.1 s (.head _)).1 (hp.1 s (.head _)).2 fun v hv => ?_
    obtain ⟨w, hw, e⟩ := mem_addP hv
    rw [e]
    rcases List.mem_append.1 hw with hw | hw
    · exact hp.head_lt w hw
    · rcases List.mem_cons.1 hw with rfl | hw
      · exact h1
      · exact o.tr _ _ _ (hq.head_lt w hw) h1
  | case4 s p u q h1 h2 ih =>
    refine (ih hp hq.tail).cons (hq.1 u (.head _)).1 (hq.1 u (.head _)).2 fun v hv => ?_
    obtain ⟨w, hw, e⟩ := mem_addP hv
    rw [e]
    rcases List.mem_append.1 hw with hw | hw
    · rcases List.mem_cons.1 hw with rfl | hw
      · exact h2
      · exact o.tr _ _ _ (hp.head_lt w hw) h2
    · exact hq.head_lt w hw
  | case5 s p u q h1 h2 h3 ih => exact ih hp.tail hq.tail
  | case6 s p u q h1 h2 h3 ih =>
    have es : s.2 = u.2 := by rcases o.tri s.2 u.2 (hp.dom s (.head _)) (hq.dom u (.head _)) with h | h | h; exact absurd h h2; exact h; exact absurd h h1
    refine (ih hp.tail hq.tail).cons h3 (hp.1 s (.head _)).2 fun v hv => ?_
    obtain ⟨w, hw, e⟩ := mem_addP hv
    rw [e]
    rcases List.mem_append.1 hw with hw | hw
    · exact hp.head_lt w hw
    · show lt w.2 s.2
      rw [es]
      exact hq.head_lt w hw
end
section
variable {α : Type} {D : α → Prop} {lt : α → α → Prop} [DecidableEq α]
theorem cof_below (o : KO D lt) {p : List (Rat × α)} {x : α} (h : ∀ t ∈ p, lt t.2 x) : cof p x = 0 := by
  induction p with
  | nil => rfl
  | cons t p ih =>
    show (if t.2 = x then t.1 else 0) + cof p x = 0
    rw [if_neg (by rintro rfl; exact o.irr _ (h t (.head _))), ih fun u hu => h u (.tail _ hu), Rat.add_zero]
theorem cof_head (o : KO D lt) {t : Rat × α} {p : List (Rat × α)} (h : Srt D lt (t :: p)) : cof (t :: p) t.2 = t.1 := by
  show (if t.2 = t.2 then t.1 else 0) + cof p t.2 = t.1
  rw [if_pos rfl, cof_below o h.head_lt, Rat.add_zero]
theorem srt_ext (o : KO D lt) : ∀ {p q : List (Rat × α)}, Srt D lt p → Srt D lt q → (∀ x, cof p x = cof q x) → p = q
  | [], [], _, _, _ => rfl
  | [], t :: q, _, hq, h => absurd ((cof_head o hq).symm.trans (h t.2).symm) (hq.1 t (.head _)).1
  | s :: p, [], hp, _, h => absurd ((cof_head o hp).symm.trans (h s.2)) (hp.1 s (.head _)).1
  | s :: p, t :: q, hp, hq, h => by
    have ks : s.2 = t.2 := by
      rcases o.tri s.2 t.2 (hp.dom s (.head _)) (hq.dom t (.head _)) with hl | hl | hl
      · have h1 : cof (s :: p) t.2 = 0 := cof_below o fun u hu => by
          rcases List.mem_cons.1 hu with rfl | hu
          · exact hl
          · exact o.tr _ _ _ (hp.head_lt u hu) hl
        exact absurd (((h t.2).symm.trans h1).symm.trans (cof_head o hq)).symm (hq.1 t (.head _)).1
      · exact hl
      · have h1 : cof (t :: q) s.2 = 0 := cof_below o fun u hu => by
          rcases List.mem_cons.1 hu with rfl | hu
          · exact hl
          · exact o.tr _ _ _ (hq.head_lt u hu) hl
        exact absurd (((h s.2).trans h1).symm.trans (cof_head o hp)).symm (hp.1 s (.head _)).1
    have kc : s.1 = t.1 := by
      have h1 := h s.2
      rw [cof_head o hp, ks, cof_head o hq] at h1
      exact h1
    have e : s = t := Prod.ext kc ks
    subst e
    congr 1
    refine srt_ext o hp.tail hq.tail fun x => ?_
    have h1 := h x
    simp only [cof] at h1
    grind
end
section
variable {α : Type} {D : α → Prop} {lt : α → α → Prop}
/-! ### products -/
def timesP (m : α → α → α) (p : List (Rat × α)) (t : Rat × α) : List (Rat × α) := p.map fun s => (s.1 * t.1, m s.2 t.2)
structure KM (D : α → Prop) (lt : α → α → Prop) (m : α → α → α) : Prop where
  comm : ∀ x y, m x y = m y x
  dom : ∀ x y, D x → D y → D (m x y)
  mono : ∀ x y z, D x → D y → D z → lt x y → lt (m x z) (m y z)
theorem times_srt {m : α → α → α} (k : KM D lt m) {p : List (Rat × α)} {t : Rat × α} (hp : Srt D lt p) (h1 : t.1 ≠ 0) (h2 : D t.2) : Srt D lt (timesP m p t) := by
  refine ⟨fun u hu => ?_, ?_⟩
  · obtain ⟨s, hs, rfl⟩ := List.mem_map.1 hu
    have := hp.1 s hs
    exact ⟨by show s.1 * t.1 ≠ 0; intro h0; rcases Rat.mul_eq_zero.1 h0 with h | h; exact this.1 h; exact h1 h, k.dom _ _ this.2 h2⟩
  · refine List.pairwise_map.2 (hp.2.imp_of_mem fun {a b} ha hb hl => k.mono _ _ _ (hp.dom b hb) (hp.dom a ha) h2 hl)
end
section
variable {α : Type} {D : α → Prop} {lt : α → α → Prop} [DecidableEq α]
/-- The coefficient of a product, term by term of the second. -/
def cofM (m : α → α → α) (p : List (Rat × α)) : List (Rat × α) → α → Rat
  | [], _ => 0
  | t :: q, x => cof (timesP m p t) x + cofM m p q x
theorem cofM_nil {m : α → α → α} (q : List (Rat × α)) (x : α) : cofM m [] q x = 0 := by
  induction q with
  | nil => rfl
  | cons t q ih => show 0 + cofM m [] q x = 0; rw [ih, Rat.add_zero]
theorem cofM_cons {m : α → α → α} (hm : ∀ x y, m x y = m y x) (s : Rat × α) (p q : List (Rat × α)) (x : α) : cofM m (s :: p) q x = cof (timesP m q s) x + cofM m p q x := by
  induction q with
  | nil => show (0 : Rat) = 0 + 0; rw [Rat.add_zero]
  | cons t q ih =>
    show cof (timesP m (s :: p) t) x + cofM m (s :: p) q x = cof (timesP m (t :: q) s) x + (cof (timesP m p t) x + cofM m p q x)
    rw [ih]
    show ((if m s.2 t.2 = x then s.1 * t.1 else 0) + cof (timesP m p t) x) + _ = ((if m t.2 s.2 = x then t.1 * s.1 else 0) + cof (timesP m q s) x) + _
    rw [hm t.2 s.2, Rat.mul_comm t.1 s.1]
    grind
theorem cofM_comm {m : α → α → α} (hm : ∀ x y, m x y = m y x) (p q : List (Rat × α)) (x : α) : cofM m p q x = cofM m q p x := by
  induction p with
  | nil => exact cofM_nil q x
  | cons s p ih => rw [cofM_cons hm, ih]; rfl
end
section
variable {α : Type} {D : α → Prop} {lt : α → α → Prop}
/-- The sum of products, one by one: the specification's. -/
def mulR (lt : α → α → Prop) [DecidableRel lt] (m : α → α → α) (p q : List (Rat × α)) : List (Rat × α) := q.foldl (fun out t => addP lt out (timesP m p t)) []
end
section
variable {α : Type} {D : α → Prop} {lt : α → α → Prop} [DecidableRel lt]
theorem foldR_srt (o : KO D lt) {m : α → α → α} (k : KM D lt m) {p : List (Rat × α)} (hp : Srt D lt p) : ∀ (q out : List (Rat × α)), Srt D lt q → Srt D lt out → Srt D lt (q.foldl (fun out t => addP lt out (timesP m p t)) out)
  | [], _, _, ho => ho
  | t :: q, _, hq, ho => foldR_srt o k hp q _ hq.tail (addP_srt o ho (times_srt k hp (hq.1 t (.head _)).1 (hq.1 t (.head _)).2))
end
section
variable {α : Type} {D : α → Prop} {lt : α → α → Prop} [DecidableEq α] [DecidableRel lt]
theorem foldR_cof (o : KO D lt) {m : α → α → α} (k : KM D lt m) {p : List (Rat × α)} (hp : Srt D lt p) (x : α) : ∀ (q out : List (Rat × α)), Srt D lt q → Srt D lt out → cof (q.foldl (fun out t => addP lt out (timesP m p t)) out) x = cof out x + cofM m p q x
  | [], out, _, _ => by show cof out x = cof out x + 0; rw [Rat.add_zero]
  | t :: q, out, hq, ho => by
    have ht := times_srt k hp (hq.1 t (.head _)).1 (hq.1 t (.head _)).2
    show cof (q.foldl _ (addP lt out (timesP m p t))) x = cof out x + (cof (timesP m p t) x + cofM m p q x)
    rw [foldR_cof o k hp x q _ hq.tail (addP_srt o ho ht), cof_addP o x ho.dom ht.dom, Rat.add_assoc]
end
section
variable {α : Type} {D : α → Prop} {lt : α → α → Prop} [DecidableRel lt]
theorem mulR_srt (o : KO D lt) {m : α → α → α} (k : KM D lt m) {p q : List (Rat × α)} (hp : Srt D lt p) (hq : Srt D lt q) : Srt D lt (mulR lt m p q) := foldR_srt o k hp q [] hq .nil
end
section
variable {α : Type} {D : α → Prop} {lt : α → α → Prop} [DecidableEq α] [DecidableRel lt]
theorem mulR_cof (o : KO D lt) {m : α → α → α} (k : KM D lt m) {p q : List (Rat × α)} (hp : Srt D lt p) (hq : Srt D lt q) (x : α) : cof (mulR lt m p q) x = cofM m p q x := by
  unfold mulR
  rw [foldR_cof o k hp x q [] hq .nil]
  show 0 + _ = _
  rw [Rat.zero_add]
end
section
variable {α : Type} {D : α → Prop} {lt : α → α → Prop}
/-- The sum of a list of polynomials, by halves. -/
def sumH (lt : α → α → Prop) [DecidableRel lt] : List (List (Rat × α)) → List (Rat × α)
  | [] => []
  | [p] => p
  | p :: q :: l => addP lt (sumH lt ((p :: q :: l).take ((p :: q :: l).length / 2))) (sumH lt ((p :: q :: l).drop ((p :: q :: l).length / 2)))
termination_by l => l.length
decreasing_by all_goals (simp only [List.length_take, List.length_drop, List.length_cons]; omega)
end
section
variable {α : Type} {D : α → Prop} {lt : α → α → Prop} [DecidableEq α]
def cofL : List (List (Rat × α)) → α → Rat
  | [], _ => 0
  | p :: l, x => cof p x + cofL l x
theorem cofL_app (l k : List (List (Rat × α))) (x : α) : cofL (l ++ k) x = cofL l x + cofL k x := by
  induction l with
  | nil => show cofL k x = 0 + cofL k x; rw [Rat.zero_add]
  | cons p l ih => show _ + cofL (l ++ k) x = (_ + cofL l x) + cofL k x; rw [ih, Rat.add_assoc]
end
section
variable {α : Type} {D : α → Prop} {lt : α → α → Prop} [DecidableRel lt]
theorem sumH_srt (o : KO D lt) (l : List (List (Rat × α))) (h : ∀ p ∈ l, Srt D lt p) : Srt D lt (sumH lt l) := by
  fun_induction sumH lt l with
  | case1 => exact .nil
  | case2 p => exact h p (.head _)
  | case3 p q l ih1 ih2 => exact addP_srt o (ih1 fun u hu => h u (List.mem_of_mem_take hu)) (ih2 fun u hu => h u (List.mem_of_mem_drop hu))
end
section
variable {α : Type} {D : α → Prop} {lt : α → α → Prop} [DecidableEq α] [DecidableRel lt]
theorem sumH_cof (o : KO D lt) (x : α) (l : List (List (Rat × α))) (h : ∀ p ∈ l, Srt D lt p) : cof (sumH lt l) x = cofL l x := by
  fun_induction sumH lt l with
  | case1 => rfl
  | case2 p => show cof p x = cof p x + 0; rw [Rat.add_zero]
  | case3 p q l ih1 ih2 =>
    have h1 : ∀ u ∈ (p :: q :: l).take ((p :: q :: l).length / 2), Srt D lt u := fun u hu => h u (List.mem_of_mem_take hu)
    have h2 : ∀ u ∈ (p :: q :: l).drop ((p :: q :: l).length / 2), Srt D lt u := fun u hu => h u (List.mem_of_mem_drop hu)
    rw [cof_addP o x (sumH_srt o _ h1).dom (sumH_srt o _ h2).dom, ih1 h1, ih2 h2, ← cofL_app, List.take_append_drop]
end
section
variable {α : Type} {D : α → Prop} {lt : α → α → Prop}
/-- The product by halves: the program's (the shorter one's terms times the longer one). -/
def mulH (lt : α → α → Prop) [DecidableRel lt] (m : α → α → α) (p q : List (Rat × α)) : List (Rat × α) := sumH lt (p.map fun t => timesP m q t)
end
section
variable {α : Type} {D : α → Prop} {lt : α → α → Prop} [DecidableEq α] [DecidableRel lt]
theorem mulH_eq (o : KO D lt) {m : α → α → α} (k : KM D lt m) {p q : List (Rat × α)} (hp : Srt D lt p) (hq : Srt D lt q) : mulH lt m p q = mulR lt m q p := by
  have hs : ∀ u ∈ p.map (fun t => timesP m q t), Srt D lt u := fun u hu => by
    obtain ⟨t, ht, rfl⟩ := List.mem_map.1 hu
    exact times_srt k hq (hp.1 t ht).1 (hp.1 t ht).2
  refine srt_ext o (sumH_srt o _ hs) (mulR_srt o k hq hp) fun x => ?_
  rw [mulR_cof o k hq hp]
  unfold mulH
  rw [sumH_cof o x _ hs]
  clear hs hp
  induction p with
  | nil => rfl
  | cons t p ih => show cof _ x + cofL (p.map _) x = cof _ x + cofM m q p x; rw [ih]
theorem mulR_comm (o : KO D lt) {m : α → α → α} (k : KM D lt m) {p q : List (Rat × α)} (hp : Srt D lt p) (hq : Srt D lt q) : mulR lt m p q = mulR lt m q p :=
  srt_ext o (mulR_srt o k hp hq) (mulR_srt o k hq hp) fun x => by rw [mulR_cof o k hp hq, mulR_cof o k hq hp, cofM_comm k.comm]
end
section
variable {α : Type} {D : α → Prop} {lt : α → α → Prop} [DecidableRel lt]
theorem addP_len (p q : List (Rat × α)) : (addP lt p q).length ≤ p.length + q.length := by
  fun_induction addP lt p q <;> simp_all only [List.length_cons, List.length_nil] <;> omega
end
end Go.Pol
end

section
namespace Go.Proofs.YteiopjkamgmfpaaGreatDoor
open Go Go.RowKit Go.Pg
set_option linter.unusedSimpArgs false
set_option linter.unusedVariables false
set_option maxRecDepth 20000
attribute [-bool_to_prop] Bool.and_eq_decide Bool.or_eq_decide Bool.decide_beq_decide decide_eq_decide


def expOk (x : Int) : Bool := !decide (x < 0) && !decide (1048576 < x)
def rightB (l : List Int) : Bool := decide (l.length ≤ 64) && !(l.getLast?.getD 1 == 0) && l.all expOk

end Go.Proofs.YteiopjkamgmfpaaGreatDoor
end

section
namespace Go.Proofs.YteiopjkamgmfpaaGreatDoor
open Go Go.RowKit Go.Pg
set_option linter.unusedSimpArgs false
set_option linter.unusedVariables false
set_option maxRecDepth 20000
attribute [local go_sem] Tryz.underlying130 Tryz.underlying3 sz3 by3 z3
attribute [-bool_to_prop] Bool.and_eq_decide Bool.or_eq_decide Bool.decide_beq_decide decide_eq_decide

def Sm (l : List Int) : Prop := l.length ≤ 1000 ∧ ∀ j, 0 ≤ gI l j ∧ gI l j ≤ 16777216
def sumT (l : List Int) : Nat → Int
  | 0 => 0
  | k + 1 => sumT l k + gI l k
theorem sumT_bd {l : List Int} (h : Sm l) : ∀ k, 0 ≤ sumT l k ∧ sumT l k ≤ k * 16777216
  | 0 => by simp [sumT]
  | k + 1 => by
    have h1 := sumT_bd h k
    have h2 := h.2 k
    simp only [sumT]
    omega

set_option maxHeartbeats 1000000 in
theorem monDegree (l : List Int) (hs : Sm l) : Pure Tryz.prog 258 [ints l] (.v (.int .i64 (sumT l l.length))) := by
  unfold ints
  refine pure_intro (tok := 0) (rs := [.tmp 2]) Tryz.func258 rfl Tryz.ntmps258 Tryz.results258 Tryz.call258 (by rfl) (by simp) ?_
  have hl := hs.1
  repeat' (first | with_reducible refine r_seq ?_ | with_reducible refine r_block ?_ | with_reducible refine r_skip ?_ | with_reducible refine r_ret ?_ | with_reducible refine r_exit ?_ | with_reducible refine t_then ?_ | with_reducible refine t_then_ret ?_ | with_reducible refine t_then_exit ?_ | with_reducible refine t_in ?_ | with_reducible refine t_in_ret ?_ | with_reducible refine t_in_exit ?_ | with_reducible refine t_done ?_ | with_reducible refine t_done' ?_ | (with_reducible refine r_reg ?_; intro K hK; simp (disch := omega) only [go_sem]; (repeat (first | (refine ⟨by omega, ?_⟩) | intro _)); refine hK _ ?_; clear K hK) | (with_reducible refine r_true ?_ ?_; (focus (simp (disch := omega) only [go_sem]; done))) | (with_reducible refine r_false ?_ ?_; (focus (simp (disch := omega) only [go_sem]; done))))
  refine r_loop (ι := Nat) (fun k st => k ≤ l.length ∧ st.env 6 = .sl 1 (l.map fun n => AV.v (.int .i64 n)) ∧ st.env 7 = .v (.int .i64 l.length) ∧ st.env 8 = .v (.int .i64 k) ∧ st.env 3 = .v (.int .i64 (sumT l k))) (fun k => l.length - k) 0 (by rfl) ?_ ?_
  · rintro k st ⟨hk, e6, e7, e8, e3⟩
    by_cases hlt : k < l.length
    · have b1 := sumT_bd hs k
      have b2 := hs.2 k
      repeat' (first | with_reducible refine r_seq ?_ | with_reducible refine r_block ?_ | with_reducible refine r_skip ?_ | with_reducible refine r_ret ?_ | with_reducible refine r_exit ?_ | with_reducible refine t_then ?_ | with_reducible refine t_then_ret ?_ | with_reducible refine t_then_exit ?_ | with_reducible refine t_in ?_ | with_reducible refine t_in_ret ?_ | with_reducible refine t_in_exit ?_ | with_reducible refine t_done ?_ | with_reducible refine t_done' ?_ | (with_reducible refine r_reg ?_; intro K hK; simp (disch := omega) only [go_sem, e6, e7, e8, e3]; (repeat (first | (refine ⟨by omega, ?_⟩) | intro _)); refine hK _ ?_; clear K hK) | (with_reducible refine r_true ?_ ?_; (focus (simp (disch := omega) only [go_sem, e6, e7, e8, e3]; done))) | (with_reducible refine r_false ?_ ?_; (focus (simp (disch := omega) only [go_sem, e6, e7, e8, e3]; done))))
      exact ⟨k + 1, ⟨by omega, by simp (disch := omega) only [go_sem, e6], by simp (disch := omega) only [go_sem, e7], by simp (disch := omega) only [go_sem, e8]; rfl, by simp (disch := omega) only [go_sem, e3]; rfl⟩, by omega⟩
    · have hk' : k = l.length := by omega
      subst hk'
      repeat' (first | with_reducible refine r_seq ?_ | with_reducible refine r_block ?_ | with_reducible refine r_skip ?_ | with_reducible refine r_ret ?_ | with_reducible refine r_exit ?_ | with_reducible refine t_then ?_ | with_reducible refine t_then_ret ?_ | with_reducible refine t_then_exit ?_ | with_reducible refine t_in ?_ | with_reducible refine t_in_ret ?_ | with_reducible refine t_in_exit ?_ | with_reducible refine t_done ?_ | with_reducible refine t_done' ?_ | (with_reducible refine r_reg ?_; intro K hK; simp (disch := omega) only [go_sem, e6, e7, e8, e3]; (repeat (first | (refine ⟨by omega, ?_⟩) | intro _)); refine hK _ ?_; clear K hK) | (with_reducible refine r_true ?_ ?_; (focus (simp (disch := omega) only [go_sem, e6, e7, e8, e3]; done))) | (with_reducible refine r_false ?_ ?_; (focus (simp (disch := omega) only [go_sem, e6, e7, e8, e3]; done))))
      simp (disch := omega) only [go_sem, e3]
  · exact ⟨Nat.zero_le _, by simp (disch := omega) only [go_sem], by simp (disch := omega) only [go_sem], by simp (disch := omega) only [go_sem]; rfl, by simp (disch := omega) only [go_sem]; rfl⟩

set_option maxHeartbeats 1000000 in
theorem refDegree (l : List Int) (hs : Sm l) : Pure Tryz.prog 165 [ints l] (.v (.int .i64 (sumT l l.length))) := by
  unfold ints
  refine pure_intro (tok := 0) (rs := [.tmp 2]) Tryz.func165 rfl Tryz.ntmps165 Tryz.results165 Tryz.call165 (by rfl) (by simp) ?_
  have hl := hs.1
  repeat' (first | with_reducible refine r_seq ?_ | with_reducible refine r_block ?_ | with_reducible refine r_skip ?_ | with_reducible refine r_ret ?_ | with_reducible refine r_exit ?_ | with_reducible refine t_then ?_ | with_reducible refine t_then_ret ?_ | with_reducible refine t_then_exit ?_ | with_reducible refine t_in ?_ | with_reducible refine t_in_ret ?_ | with_reducible refine t_in_exit ?_ | with_reducible refine t_done ?_ | with_reducible refine t_done' ?_ | (with_reducible refine r_reg ?_; intro K hK; simp (disch := omega) only [go_sem]; (repeat (first | (refine ⟨by omega, ?_⟩) | intro _)); refine hK _ ?_; clear K hK) | (with_reducible refine r_true ?_ ?_; (focus (simp (disch := omega) only [go_sem]; done))) | (with_reducible refine r_false ?_ ?_; (focus (simp (disch := omega) only [go_sem]; done))))
  refine r_loop (ι := Nat) (fun k st => k ≤ l.length ∧ st.env 0 = .sl 1 (l.map fun n => AV.v (.int .i64 n)) ∧ st.env 4 = .v (.int .i64 k) ∧ st.env 3 = .v (.int .i64 (sumT l k))) (fun k => l.length - k) 0 (by rfl) ?_ ?_
  · rintro k st ⟨hk, e0, e4, e3⟩
    by_cases hlt : k < l.length
    · have b1 := sumT_bd hs k
      have b2 := hs.2 k
      repeat' (first | with_reducible refine r_seq ?_ | with_reducible refine r_block ?_ | with_reducible refine r_skip ?_ | with_reducible refine r_ret ?_ | with_reducible refine r_exit ?_ | with_reducible refine t_then ?_ | with_reducible refine t_then_ret ?_ | with_reducible refine t_then_exit ?_ | with_reducible refine t_in ?_ | with_reducible refine t_in_ret ?_ | with_reducible refine t_in_exit ?_ | with_reducible refine t_done ?_ | with_reducible refine t_done' ?_ | (with_reducible refine r_reg ?_; intro K hK; simp (disch := omega) only [go_sem, e0, e4, e3]; (repeat (first | (refine ⟨by omega, ?_⟩) | intro _)); refine hK _ ?_; clear K hK) | (with_reducible refine r_true ?_ ?_; (focus (simp (disch := omega) only [go_sem, e0, e4, e3]; done))) | (with_reducible refine r_false ?_ ?_; (focus (simp (disch := omega) only [go_sem, e0, e4, e3]; done))))
      exact ⟨k + 1, ⟨by omega, by simp (disch := omega) only [go_sem, e0], by simp (disch := omega) only [go_sem, e4]; rfl, by simp (disch := omega) only [go_sem, e3]; rfl⟩, by omega⟩
    · have hk' : k = l.length := by omega
      subst hk'
      repeat' (first | with_reducible refine r_seq ?_ | with_reducible refine r_block ?_ | with_reducible refine r_skip ?_ | with_reducible refine r_ret ?_ | with_reducible refine r_exit ?_ | with_reducible refine t_then ?_ | with_reducible refine t_then_ret ?_ | with_reducible refine t_then_exit ?_ | with_reducible refine t_in ?_ | with_reducible refine t_in_ret ?_ | with_reducible refine t_in_exit ?_ | with_reducible refine t_done ?_ | with_reducible refine t_done' ?_ | (with_reducible refine r_reg ?_; intro K hK; simp (disch := omega) only [go_sem, e0, e4, e3]; (repeat (first | (refine ⟨by omega, ?_⟩) | intro _)); refine hK _ ?_; clear K hK) | (with_reducible refine r_true ?_ ?_; (focus (simp (disch := omega) only [go_sem, e0, e4, e3]; done))) | (with_reducible refine r_false ?_ ?_; (focus (simp (disch := omega) only [go_sem, e0, e4, e3]; done))))
      simp (disch := omega) only [go_sem, e3]
  · exact ⟨Nat.zero_le _, by simp (disch := omega) only [go_sem], by simp (disch := omega) only [go_sem]; rfl, by simp (disch := omega) only [go_sem]; rfl⟩

def expI (l : List Int) (v : Int) : Int := if v < 0 then 0 else gI l v.toNat
theorem exp_of (l : List Int) (k : Nat) : expI l (k : Int) = gI l k := by unfold expI; rw [if_neg (by omega)]; rfl
theorem toNat_lt {l : List Int} {v : Int} (h0 : 0 ≤ v) (h : v < l.length) : v.toNat < l.length := by omega

set_option maxHeartbeats 1000000 in
theorem monExp (l : List Int) (v : Int) : Pure Tryz.prog 259 [ints l, .v (.int .i64 v)] (.v (.int .i64 (expI l v))) := by
  unfold ints
  refine pure_intro (tok := 0) (rs := [.tmp 4]) Tryz.func259 rfl Tryz.ntmps259 Tryz.results259 Tryz.call259 (by rfl) (by simp) ?_
  by_cases h0 : v < 0
  · unfold expI
    rw [if_pos h0]
    repeat' (first | with_reducible refine r_seq ?_ | with_reducible refine r_block ?_ | with_reducible refine r_skip ?_ | with_reducible refine r_ret ?_ | with_reducible refine r_exit ?_ | with_reducible refine t_then ?_ | with_reducible refine t_then_ret ?_ | with_reducible refine t_then_exit ?_ | with_reducible refine t_in ?_ | with_reducible refine t_in_ret ?_ | with_reducible refine t_in_exit ?_ | with_reducible refine t_done ?_ | with_reducible refine t_done' ?_ | (with_reducible refine r_reg ?_; intro K hK; simp (disch := omega) only [go_sem]; (repeat (first | (refine ⟨by omega, ?_⟩) | intro _)); refine hK _ ?_; clear K hK) | (with_reducible refine r_true ?_ ?_; (focus (simp (disch := omega) only [go_sem]; done))) | (with_reducible refine r_false ?_ ?_; (focus (simp (disch := omega) only [go_sem]; done))))
    simp (disch := omega) only [go_sem]
  · unfold expI
    rw [if_neg h0]
    by_cases h1 : v < l.length
    · have h2 := toNat_lt (by omega) h1
      repeat' (first | with_reducible refine r_seq ?_ | with_reducible refine r_block ?_ | with_reducible refine r_skip ?_ | with_reducible refine r_ret ?_ | with_reducible refine r_exit ?_ | with_reducible refine t_then ?_ | with_reducible refine t_then_ret ?_ | with_reducible refine t_then_exit ?_ | with_reducible refine t_in ?_ | with_reducible refine t_in_ret ?_ | with_reducible refine t_in_exit ?_ | with_reducible refine t_done ?_ | with_reducible refine t_done' ?_ | (with_reducible refine r_reg ?_; intro K hK; simp (disch := omega) only [go_sem]; (repeat (first | (refine ⟨by omega, ?_⟩) | intro _)); refine hK _ ?_; clear K hK) | (with_reducible refine r_true ?_ ?_; (focus (simp (disch := omega) only [go_sem]; done))) | (with_reducible refine r_false ?_ ?_; (focus (simp (disch := omega) only [go_sem]; done))))
      simp (disch := omega) only [go_sem]
    · rw [gI_out (by omega)]
      repeat' (first | with_reducible refine r_seq ?_ | with_reducible refine r_block ?_ | with_reducible refine r_skip ?_ | with_reducible refine r_ret ?_ | with_reducible refine r_exit ?_ | with_reducible refine t_then ?_ | with_reducible refine t_then_ret ?_ | with_reducible refine t_then_exit ?_ | with_reducible refine t_in ?_ | with_reducible refine t_in_ret ?_ | with_reducible refine t_in_exit ?_ | with_reducible refine t_done ?_ | with_reducible refine t_done' ?_ | (with_reducible refine r_reg ?_; intro K hK; simp (disch := omega) only [go_sem]; (repeat (first | (refine ⟨by omega, ?_⟩) | intro _)); refine hK _ ?_; clear K hK) | (with_reducible refine r_true ?_ ?_; (focus (simp (disch := omega) only [go_sem]; done))) | (with_reducible refine r_false ?_ ?_; (focus (simp (disch := omega) only [go_sem]; done))))
      simp (disch := omega) only [go_sem]

set_option maxHeartbeats 1000000 in
theorem refExp (l : List Int) (v : Int) : Pure Tryz.prog 167 [ints l, .v (.int .i64 v)] (.v (.int .i64 (expI l v))) := by
  unfold ints
  refine pure_intro (tok := 0) (rs := [.tmp 4]) Tryz.func167 rfl Tryz.ntmps167 Tryz.results167 Tryz.call167 (by rfl) (by simp) ?_
  by_cases h0 : v < 0
  · unfold expI
    rw [if_pos h0]
    repeat' (first | with_reducible refine r_seq ?_ | with_reducible refine r_block ?_ | with_reducible refine r_skip ?_ | with_reducible refine r_ret ?_ | with_reducible refine r_exit ?_ | with_reducible refine t_then ?_ | with_reducible refine t_then_ret ?_ | with_reducible refine t_then_exit ?_ | with_reducible refine t_in ?_ | with_reducible refine t_in_ret ?_ | with_reducible refine t_in_exit ?_ | with_reducible refine t_done ?_ | with_reducible refine t_done' ?_ | (with_reducible refine r_reg ?_; intro K hK; simp (disch := omega) only [go_sem]; (repeat (first | (refine ⟨by omega, ?_⟩) | intro _)); refine hK _ ?_; clear K hK) | (with_reducible refine r_true ?_ ?_; (focus (simp (disch := omega) only [go_sem]; done))) | (with_reducible refine r_false ?_ ?_; (focus (simp (disch := omega) only [go_sem]; done))))
    simp (disch := omega) only [go_sem]
  · unfold expI
    rw [if_neg h0]
    by_cases h1 : v < l.length
    · have h2 := toNat_lt (by omega) h1
      repeat' (first | with_reducible refine r_seq ?_ | with_reducible refine r_block ?_ | with_reducible refine r_skip ?_ | with_reducible refine r_ret ?_ | with_reducible refine r_exit ?_ | with_reducible refine t_then ?_ | with_reducible refine t_then_ret ?_ | with_reducible refine t_then_exit ?_ | with_reducible refine t_in ?_ | with_reducible refine t_in_ret ?_ | with_reducible refine t_in_exit ?_ | with_reducible refine t_done ?_ | with_reducible refine t_done' ?_ | (with_reducible refine r_reg ?_; intro K hK; simp (disch := omega) only [go_sem]; (repeat (first | (refine ⟨by omega, ?_⟩) | intro _)); refine hK _ ?_; clear K hK) | (with_reducible refine r_true ?_ ?_; (focus (simp (disch := omega) only [go_sem]; done))) | (with_reducible refine r_false ?_ ?_; (focus (simp (disch := omega) only [go_sem]; done))))
      simp (disch := omega) only [go_sem]
    · rw [gI_out (by omega)]
      repeat' (first | with_reducible refine r_seq ?_ | with_reducible refine r_block ?_ | with_reducible refine r_skip ?_ | with_reducible refine r_ret ?_ | with_reducible refine r_exit ?_ | with_reducible refine t_then ?_ | with_reducible refine t_then_ret ?_ | with_reducible refine t_then_exit ?_ | with_reducible refine t_in ?_ | with_reducible refine t_in_ret ?_ | with_reducible refine t_in_exit ?_ | with_reducible refine t_done ?_ | with_reducible refine t_done' ?_ | (with_reducible refine r_reg ?_; intro K hK; simp (disch := omega) only [go_sem]; (repeat (first | (refine ⟨by omega, ?_⟩) | intro _)); refine hK _ ?_; clear K hK) | (with_reducible refine r_true ?_ ?_; (focus (simp (disch := omega) only [go_sem]; done))) | (with_reducible refine r_false ?_ ?_; (focus (simp (disch := omega) only [go_sem]; done))))
      simp (disch := omega) only [go_sem]


def sgn (n : Int) : Int := if n < 0 then -1 else if 0 < n then 1 else 0
set_option maxHeartbeats 1000000 in
theorem refSign (n : Int) : Pure Tryz.prog 166 [.v (.int .i64 n)] (.v (.int .i64 (sgn n))) := by
  refine pure_intro (tok := 0) (rs := [.tmp 2]) Tryz.func166 rfl Tryz.ntmps166 Tryz.results166 Tryz.call166 (by rfl) (by simp) ?_
  unfold sgn
  by_cases h0 : n < 0
  · rw [if_pos h0]
    repeat' (first | with_reducible refine r_seq ?_ | with_reducible refine r_block ?_ | with_reducible refine r_skip ?_ | with_reducible refine r_ret ?_ | with_reducible refine r_exit ?_ | with_reducible refine t_then ?_ | with_reducible refine t_then_ret ?_ | with_reducible refine t_then_exit ?_ | with_reducible refine t_in ?_ | with_reducible refine t_in_ret ?_ | with_reducible refine t_in_exit ?_ | with_reducible refine t_done ?_ | with_reducible refine t_done' ?_ | (with_reducible refine r_reg ?_; intro K hK; simp (disch := omega) only [go_sem]; (repeat (first | (refine ⟨by omega, ?_⟩) | intro _)); refine hK _ ?_; clear K hK) | (with_reducible refine r_true ?_ ?_; (focus (simp (disch := omega) only [go_sem]; done))) | (with_reducible refine r_false ?_ ?_; (focus (simp (disch := omega) only [go_sem]; done))))
    simp (disch := omega) only [go_sem]
  · rw [if_neg h0]
    by_cases h1 : 0 < n
    · rw [if_pos h1]
      repeat' (first | with_reducible refine r_seq ?_ | with_reducible refine r_block ?_ | with_reducible refine r_skip ?_ | with_reducible refine r_ret ?_ | with_reducible refine r_exit ?_ | with_reducible refine t_then ?_ | with_reducible refine t_then_ret ?_ | with_reducible refine t_then_exit ?_ | with_reducible refine t_in ?_ | with_reducible refine t_in_ret ?_ | with_reducible refine t_in_exit ?_ | with_reducible refine t_done ?_ | with_reducible refine t_done' ?_ | (with_reducible refine r_reg ?_; intro K hK; simp (disch := omega) only [go_sem]; (repeat (first | (refine ⟨by omega, ?_⟩) | intro _)); refine hK _ ?_; clear K hK) | (with_reducible refine r_true ?_ ?_; (focus (simp (disch := omega) only [go_sem]; done))) | (with_reducible refine r_false ?_ ?_; (focus (simp (disch := omega) only [go_sem]; done))))
      simp (disch := omega) only [go_sem]
    · rw [if_neg h1]
      repeat' (first | with_reducible refine r_seq ?_ | with_reducible refine r_block ?_ | with_reducible refine r_skip ?_ | with_reducible refine r_ret ?_ | with_reducible refine r_exit ?_ | with_reducible refine t_then ?_ | with_reducible refine t_then_ret ?_ | with_reducible refine t_then_exit ?_ | with_reducible refine t_in ?_ | with_reducible refine t_in_ret ?_ | with_reducible refine t_in_exit ?_ | with_reducible refine t_done ?_ | with_reducible refine t_done' ?_ | (with_reducible refine r_reg ?_; intro K hK; simp (disch := omega) only [go_sem]; (repeat (first | (refine ⟨by omega, ?_⟩) | intro _)); refine hK _ ?_; clear K hK) | (with_reducible refine r_true ?_ ?_; (focus (simp (disch := omega) only [go_sem]; done))) | (with_reducible refine r_false ?_ ?_; (focus (simp (disch := omega) only [go_sem]; done))))
      simp (disch := omega) only [go_sem]

end Go.Proofs.YteiopjkamgmfpaaGreatDoor
end

section
namespace Go.Proofs.YteiopjkamgmfpaaGreatDoor
open Go Go.RowKit Go.Pg
set_option linter.unusedSimpArgs false
set_option linter.unusedVariables false
set_option maxRecDepth 20000
attribute [local go_sem] Tryz.underlying130 Tryz.underlying75 Tryz.underlying3 sz3 by3 z3
attribute [-bool_to_prop] Bool.and_eq_decide Bool.or_eq_decide Bool.decide_beq_decide decide_eq_decide

/-! ### without the zeros at the end -/
def trimN (l : List Int) : Nat → Nat
  | 0 => 0
  | n + 1 => if gI l n = 0 then trimN l n else n + 1
theorem trimN_le (l : List Int) : ∀ n, trimN l n ≤ n
  | 0 => Nat.le_refl _
  | n + 1 => by
    simp only [trimN]
    split
    · exact Nat.le_trans (trimN_le l n) (by omega)
    · omega
def trimI (l : List Int) : List Int := l.take (trimN l l.length)
theorem trimN_stop {l : List Int} {k : Nat} (h : 0 < k) (hx : gI l (k - 1) ≠ 0) : trimN l k = k := by
  cases k with
  | zero => omega
  | succ k => simp only [trimN]; rw [if_neg (by simpa using hx)]
theorem trimN_step {l : List Int} {k : Nat} (h : 0 < k) (hx : gI l (k - 1) = 0) : trimN l (k - 1) = trimN l k := by
  cases k with
  | zero => omega
  | succ k => simp only [trimN]; rw [if_pos (by simpa using hx)]; rfl
theorem cast_pred {k : Nat} (h : 0 < k) : (k : Int) - 1 = ((k - 1 : Nat) : Int) := by omega

set_option maxHeartbeats 1000000 in
theorem monTrim' (l : List Int) (hs : l.length ≤ 1000) : Pure Tryz.prog 205 [ints l] (if trimN l l.length = 0 then .v (.slice none 0 0) else ints (trimI l)) := by
  have hle := trimN_le l l.length
  have hcode : ∀ r : AV, (trimN l l.length = 0 → r = .v (.slice none 0 0)) → (trimN l l.length ≠ 0 → r = .sl 1 ((l.map fun n => AV.v (.int .i64 n)).take (trimN l l.length))) → Pure Tryz.prog 205 [ints l] r := by
    intro r h1 h2
    unfold ints
    refine pure_intro (tok := 0) (rs := [.tmp 2]) Tryz.func205 rfl Tryz.ntmps205 Tryz.results205 Tryz.call205 (by rfl) (by simp) ?_
    repeat' (first | with_reducible refine r_seq ?_ | with_reducible refine r_block ?_ | with_reducible refine r_skip ?_ | with_reducible refine r_ret ?_ | with_reducible refine r_exit ?_ | with_reducible refine t_then ?_ | with_reducible refine t_then_ret ?_ | with_reducible refine t_then_exit ?_ | with_reducible refine t_in ?_ | with_reducible refine t_in_ret ?_ | with_reducible refine t_in_exit ?_ | with_reducible refine t_done ?_ | with_reducible refine t_done' ?_ | (with_reducible refine r_reg ?_; intro K hK; simp (disch := omega) only [go_sem]; (repeat (first | (refine ⟨by omega, ?_⟩) | intro _)); refine hK _ ?_; clear K hK) | (with_reducible refine r_true ?_ ?_; (focus (simp (disch := omega) only [go_sem]; done))) | (with_reducible refine r_false ?_ ?_; (focus (simp (disch := omega) only [go_sem]; done))))
    refine r_loop (ι := Nat) (fun k st => k ≤ l.length ∧ st.env 0 = .sl 1 (l.map fun n => AV.v (.int .i64 n)) ∧ st.env 3 = .v (.int .i64 k) ∧ trimN l k = trimN l l.length) (fun k => k) l.length (by rfl) ?_ ?_
    · rintro k st ⟨hk, e0, e3, ha⟩
      by_cases h0 : 0 < k
      · by_cases hx : gI l (k - 1) = 0
        · repeat' (first | with_reducible refine r_seq ?_ | with_reducible refine r_block ?_ | with_reducible refine r_skip ?_ | with_reducible refine r_ret ?_ | with_reducible refine r_exit ?_ | with_reducible refine t_then ?_ | with_reducible refine t_then_ret ?_ | with_reducible refine t_then_exit ?_ | with_reducible refine t_in ?_ | with_reducible refine t_in_ret ?_ | with_reducible refine t_in_exit ?_ | with_reducible refine t_done ?_ | with_reducible refine t_done' ?_ | (with_reducible refine r_reg ?_; intro K hK; simp (disch := omega) only [go_sem, e0, e3]; (repeat (first | (refine ⟨by omega, ?_⟩) | intro _)); refine hK _ ?_; clear K hK) | (with_reducible refine r_true ?_ ?_; (focus (simp (disch := omega) only [go_sem, e0, e3]; done))) | (with_reducible refine r_false ?_ ?_; (focus (simp (disch := omega) only [go_sem, e0, e3]; done))))
          refine ⟨k - 1, ⟨by omega, by simp (disch := omega) only [go_sem, e0], by simp (disch := omega) only [go_sem, e3]; rw [cast_pred h0], ?_⟩, by omega⟩
          rw [trimN_step h0 hx, ha]
        · rw [trimN_stop h0 hx] at ha
          rw [← ha] at h1 h2 hle
          rw [h2 (by omega)]
          repeat' (first | with_reducible refine r_seq ?_ | with_reducible refine r_block ?_ | with_reducible refine r_skip ?_ | with_reducible refine r_ret ?_ | with_reducible refine r_exit ?_ | with_reducible refine t_then ?_ | with_reducible refine t_then_ret ?_ | with_reducible refine t_then_exit ?_ | with_reducible refine t_in ?_ | with_reducible refine t_in_ret ?_ | with_reducible refine t_in_exit ?_ | with_reducible refine t_done ?_ | with_reducible refine t_done' ?_ | (with_reducible refine r_reg ?_; intro K hK; simp (disch := omega) only [go_sem, e0, e3]; (repeat (first | (refine ⟨by omega, ?_⟩) | intro _)); refine hK _ ?_; clear K hK) | (with_reducible refine r_true ?_ ?_; (focus (simp (disch := omega) only [go_sem, e0, e3]; done))) | (with_reducible refine r_false ?_ ?_; (focus (simp (disch := omega) only [go_sem, e0, e3]; done))))
          simp (disch := omega) only [go_sem]
      · have hk0 : k = 0 := by omega
        subst hk0
        have h3 : trimN l l.length = 0 := ha.symm
        rw [h1 h3]
        repeat' (first | with_reducible refine r_seq ?_ | with_reducible refine r_block ?_ | with_reducible refine r_skip ?_ | with_reducible refine r_ret ?_ | with_reducible refine r_exit ?_ | with_reducible refine t_then ?_ | with_reducible refine t_then_ret ?_ | with_reducible refine t_then_exit ?_ | with_reducible refine t_in ?_ | with_reducible refine t_in_ret ?_ | with_reducible refine t_in_exit ?_ | with_reducible refine t_done ?_ | with_reducible refine t_done' ?_ | (with_reducible refine r_reg ?_; intro K hK; simp (disch := omega) only [go_sem, e0, e3]; (repeat (first | (refine ⟨by omega, ?_⟩) | intro _)); refine hK _ ?_; clear K hK) | (with_reducible refine r_true ?_ ?_; (focus (simp (disch := omega) only [go_sem, e0, e3]; done))) | (with_reducible refine r_false ?_ ?_; (focus (simp (disch := omega) only [go_sem, e0, e3]; done))))
        simp (disch := omega) only [go_sem]
    · exact ⟨Nat.le_refl _, by simp (disch := omega) only [go_sem], by simp (disch := omega) only [go_sem], rfl⟩
  refine hcode _ (fun h => by rw [if_pos h]) (fun h => by rw [if_neg h]; unfold ints trimI; rw [List.map_take])

theorem monTrim (l : List Int) (hs : l.length ≤ 1000) : Pure Tryz.prog 205 [ints l] (ints (trimI l)) := by
  refine (monTrim' l hs).wk ?_
  split
  · rename_i h
    unfold trimI ints
    rw [h]
    exact .nil 1
  · exact .refl _


end Go.Proofs.YteiopjkamgmfpaaGreatDoor
end

section
namespace Go.Proofs.YteiopjkamgmfpaaGreatDoor
open Go Go.RowKit Go.Pg
set_option linter.unusedSimpArgs false
set_option linter.unusedVariables false
set_option maxRecDepth 20000
attribute [local go_sem] Tryz.underlying130 Tryz.underlying75 Tryz.underlying3 sz3 by3 z3
attribute [-bool_to_prop] Bool.and_eq_decide Bool.or_eq_decide Bool.decide_beq_decide decide_eq_decide

set_option maxHeartbeats 1000000 in
theorem addF (x y : Int) (h : -9223372036854775808 ≤ x + y ∧ x + y ≤ 9223372036854775807) : Pure Tryz.prog 207 [.v (.int .i64 x), .v (.int .i64 y)] (.v (.int .i64 (x + y))) := by
  refine pure_intro (tok := 0) (rs := [.tmp 4]) Tryz.func207 rfl Tryz.ntmps207 Tryz.results207 Tryz.call207 (by rfl) (by simp) ?_
  repeat' (first | with_reducible refine r_seq ?_ | with_reducible refine r_block ?_ | with_reducible refine r_skip ?_ | with_reducible refine r_ret ?_ | with_reducible refine r_exit ?_ | with_reducible refine t_then ?_ | with_reducible refine t_then_ret ?_ | with_reducible refine t_then_exit ?_ | with_reducible refine t_in ?_ | with_reducible refine t_in_ret ?_ | with_reducible refine t_in_exit ?_ | with_reducible refine t_done ?_ | with_reducible refine t_done' ?_ | (with_reducible refine r_reg ?_; intro K hK; simp (disch := omega) only [go_sem]; (repeat (first | (refine ⟨by omega, ?_⟩) | intro _)); refine hK _ ?_; clear K hK) | (with_reducible refine r_true ?_ ?_; (focus (simp (disch := omega) only [go_sem]; done))) | (with_reducible refine r_false ?_ ?_; (focus (simp (disch := omega) only [go_sem]; done))))
  simp (disch := omega) only [go_sem]



def zipI (F : Int → Int → Int) (a b : List Int) : List Int := (List.range (max a.length b.length)).map fun i => F (gI a i) (gI b i)
def upto (n k : Nat) (F : Nat → Int) : List AV := (List.range n).map fun i => AV.v (.int .i64 (if i < k then F i else 0))
theorem upto_len (n k : Nat) (F : Nat → Int) : (upto n k F).length = n := by simp [upto]
theorem upto_zero (n : Nat) (F : Nat → Int) : List.replicate n (AV.v (.int .i64 0)) = upto n 0 F := by
  refine List.ext_getElem (by simp [upto]) fun j h1 h2 => ?_
  simp [upto]
theorem upto_set {n k : Nat} {F : Nat → Int} (h : k < n) : (upto n k F).set k (.v (.int .i64 (F k))) = upto n (k + 1) F := by
  refine List.ext_getElem (by simp [upto]) fun j h1 h2 => ?_
  simp only [upto, List.getElem_set, List.getElem_map, List.getElem_range]
  by_cases hj : k = j
  · subst hj; simp
  · rw [if_neg hj]
    by_cases h3 : j < k
    · rw [if_pos h3, if_pos (by omega)]
    · rw [if_neg h3, if_neg (by omega)]
theorem upto_done (n : Nat) (F : Nat → Int) : upto n n F = ((List.range n).map F).map fun x => AV.v (.int .i64 x) := by
  refine List.ext_getElem (by simp [upto]) fun j h1 h2 => ?_
  have hj : j < n := by simpa [upto] using h1
  simp [upto, hj]

set_option maxHeartbeats 4000000 in
theorem monCombine (a b : List Int) (g : Nat) (F : Int → Int → Int) (ha : a.length ≤ 1000) (hb : b.length ≤ 1000)
    (hF : ∀ k, k < max a.length b.length → Pure Tryz.prog g [.v (.int .i64 (gI a k)), .v (.int .i64 (gI b k))] (.v (.int .i64 (F (gI a k) (gI b k))))) : Pure Tryz.prog 206 [ints a, ints b, .fn g []] (ints (zipI F a b)) := by
  unfold ints
  refine pure_intro (tok := 0) (rs := [.tmp 6]) Tryz.func206 rfl Tryz.ntmps206 Tryz.results206 Tryz.call206 (by rfl) (by simp) ?_
  obtain ⟨n, hn⟩ : ∃ n, n = max a.length b.length := ⟨_, rfl⟩
  have hmx : max (a.length : Int) (b.length : Int) = (n : Int) := by omega
  repeat' (first | with_reducible refine r_seq ?_ | with_reducible refine r_block ?_ | with_reducible refine r_skip ?_ | with_reducible refine r_ret ?_ | with_reducible refine r_exit ?_ | with_reducible refine t_then ?_ | with_reducible refine t_then_ret ?_ | with_reducible refine t_then_exit ?_ | with_reducible refine t_in ?_ | with_reducible refine t_in_ret ?_ | with_reducible refine t_in_exit ?_ | with_reducible refine t_done ?_ | with_reducible refine t_done' ?_ | (with_reducible refine r_reg ?_; intro K hK; simp (disch := omega) only [go_sem, hmx, upto_zero]; (repeat (first | (refine ⟨by omega, ?_⟩) | intro _)); refine hK _ ?_; clear K hK) | (with_reducible refine r_true ?_ ?_; (focus (simp (disch := omega) only [go_sem, hmx, upto_zero]; done))) | (with_reducible refine r_false ?_ ?_; (focus (simp (disch := omega) only [go_sem, hmx, upto_zero]; done))))
  rename_i sv
  refine r_loop (ι := Nat) (fun k st => k ≤ n ∧ st.env 0 = .sl 1 (a.map fun n => AV.v (.int .i64 n)) ∧ st.env 1 = .sl 1 (b.map fun n => AV.v (.int .i64 n)) ∧ st.env 2 = .fn g [] ∧ st.env 7 = .own 16 sv ∧ st.env 18 = .v (.int .i64 n) ∧ st.env 19 = .v (.int .i64 k) ∧ st.mem 16 = some (.row sv 3 1 (upto n k fun i => F (gI a i) (gI b i)) 0)) (fun k => n - k) 0 (by rfl) ?_ ?_
  · rintro k st ⟨hk, e0, e1, e2, e7, e18, e19, em⟩
    have hu := upto_len n k fun i => F (gI a i) (gI b i)
    by_cases hlt : k < n
    · have hFk := hF k (by omega)
      have hst := @upto_set n k (fun i => F (gI a i) (gI b i)) hlt
      have key : ∀ (x y : Int) (Q : AE → St → Prop), gI a k = x → gI b k = y → True := fun _ _ _ _ _ => trivial
      by_cases h1 : k < a.length <;> by_cases h2 : k < b.length
      · repeat' (first | with_reducible refine r_seq ?_ | with_reducible refine r_block ?_ | with_reducible refine r_skip ?_ | with_reducible refine r_ret ?_ | with_reducible refine r_exit ?_ | with_reducible refine t_then ?_ | with_reducible refine t_then_ret ?_ | with_reducible refine t_then_exit ?_ | with_reducible refine t_in ?_ | with_reducible refine t_in_ret ?_ | with_reducible refine t_in_exit ?_ | with_reducible refine t_done ?_ | with_reducible refine t_done' ?_ | (with_reducible refine r_reg ?_; intro K hK; simp (disch := omega) only [go_sem, e0, e1, e2, e7, e18, e19, em, hmx]; (repeat (first | (refine ⟨by omega, ?_⟩) | intro _)); refine hK _ ?_; clear K hK) | (with_reducible refine r_true ?_ ?_; (focus (simp (disch := omega) only [go_sem, e0, e1, e2, e7, e18, e19, em, hmx]; done))) | (with_reducible refine r_false ?_ ?_; (focus (simp (disch := omega) only [go_sem, e0, e1, e2, e7, e18, e19, em, hmx]; done))))
        refine r_reg ?_; intro K hK; simp (disch := omega) only [go_sem, e0, e1, e2, e7, e18, e19, em, hu, hst]; (repeat (first | (refine ⟨by omega, ?_⟩) | intro _)); refine acall_pure (hFk) ?_ ?_ ?_; (focus (try simp (disch := omega) only [go_sem, e0, e1, e2, e7, e18, e19, em, hu, hst])); (focus (first | rfl | (simp (disch := omega) only [go_sem, e0, e1, e2, e7, e18, e19, em, hu, hst]; done))); simp (disch := omega) only [go_sem, e0, e1, e2, e7, e18, e19, em, hu, hst]; (repeat (first | (refine ⟨by omega, ?_⟩) | intro _)); refine hK _ ?_; clear K hK
        repeat' (first | with_reducible refine r_seq ?_ | with_reducible refine r_block ?_ | with_reducible refine r_skip ?_ | with_reducible refine r_ret ?_ | with_reducible refine r_exit ?_ | with_reducible refine t_then ?_ | with_reducible refine t_then_ret ?_ | with_reducible refine t_then_exit ?_ | with_reducible refine t_in ?_ | with_reducible refine t_in_ret ?_ | with_reducible refine t_in_exit ?_ | with_reducible refine t_done ?_ | with_reducible refine t_done' ?_ | (with_reducible refine r_reg ?_; intro K hK; simp (disch := omega) only [go_sem, e0, e1, e2, e7, e18, e19, em, hmx]; (repeat (first | (refine ⟨by omega, ?_⟩) | intro _)); refine hK _ ?_; clear K hK) | (with_reducible refine r_true ?_ ?_; (focus (simp (disch := omega) only [go_sem, e0, e1, e2, e7, e18, e19, em, hmx]; done))) | (with_reducible refine r_false ?_ ?_; (focus (simp (disch := omega) only [go_sem, e0, e1, e2, e7, e18, e19, em, hmx]; done))))
        refine ⟨k + 1, ⟨by omega, by simp (disch := omega) only [go_sem, e0], by simp (disch := omega) only [go_sem, e1], by simp (disch := omega) only [go_sem, e2], by simp (disch := omega) only [go_sem, e7], by simp (disch := omega) only [go_sem, e18], by simp (disch := omega) only [go_sem, e19]; rfl, by simp (disch := omega) only [go_sem]⟩, by omega⟩
      · have g2 := gI_out (l := b) (k := k) (by omega)
        rw [g2] at hFk
        rw [g2] at hst
        repeat' (first | with_reducible refine r_seq ?_ | with_reducible refine r_block ?_ | with_reducible refine r_skip ?_ | with_reducible refine r_ret ?_ | with_reducible refine r_exit ?_ | with_reducible refine t_then ?_ | with_reducible refine t_then_ret ?_ | with_reducible refine t_then_exit ?_ | with_reducible refine t_in ?_ | with_reducible refine t_in_ret ?_ | with_reducible refine t_in_exit ?_ | with_reducible refine t_done ?_ | with_reducible refine t_done' ?_ | (with_reducible refine r_reg ?_; intro K hK; simp (disch := omega) only [go_sem, e0, e1, e2, e7, e18, e19, em, hmx]; (repeat (first | (refine ⟨by omega, ?_⟩) | intro _)); refine hK _ ?_; clear K hK) | (with_reducible refine r_true ?_ ?_; (focus (simp (disch := omega) only [go_sem, e0, e1, e2, e7, e18, e19, em, hmx]; done))) | (with_reducible refine r_false ?_ ?_; (focus (simp (disch := omega) only [go_sem, e0, e1, e2, e7, e18, e19, em, hmx]; done))))
        refine r_reg ?_; intro K hK; simp (disch := omega) only [go_sem, e0, e1, e2, e7, e18, e19, em, hu, hst]; (repeat (first | (refine ⟨by omega, ?_⟩) | intro _)); refine acall_pure (hFk) ?_ ?_ ?_; (focus (try simp (disch := omega) only [go_sem, e0, e1, e2, e7, e18, e19, em, hu, hst])); (focus (first | rfl | (simp (disch := omega) only [go_sem, e0, e1, e2, e7, e18, e19, em, hu, hst]; done))); simp (disch := omega) only [go_sem, e0, e1, e2, e7, e18, e19, em, hu, hst]; (repeat (first | (refine ⟨by omega, ?_⟩) | intro _)); refine hK _ ?_; clear K hK
        repeat' (first | with_reducible refine r_seq ?_ | with_reducible refine r_block ?_ | with_reducible refine r_skip ?_ | with_reducible refine r_ret ?_ | with_reducible refine r_exit ?_ | with_reducible refine t_then ?_ | with_reducible refine t_then_ret ?_ | with_reducible refine t_then_exit ?_ | with_reducible refine t_in ?_ | with_reducible refine t_in_ret ?_ | with_reducible refine t_in_exit ?_ | with_reducible refine t_done ?_ | with_reducible refine t_done' ?_ | (with_reducible refine r_reg ?_; intro K hK; simp (disch := omega) only [go_sem, e0, e1, e2, e7, e18, e19, em, hmx]; (repeat (first | (refine ⟨by omega, ?_⟩) | intro _)); refine hK _ ?_; clear K hK) | (with_reducible refine r_true ?_ ?_; (focus (simp (disch := omega) only [go_sem, e0, e1, e2, e7, e18, e19, em, hmx]; done))) | (with_reducible refine r_false ?_ ?_; (focus (simp (disch := omega) only [go_sem, e0, e1, e2, e7, e18, e19, em, hmx]; done))))
        refine ⟨k + 1, ⟨by omega, by simp (disch := omega) only [go_sem, e0], by simp (disch := omega) only [go_sem, e1], by simp (disch := omega) only [go_sem, e2], by simp (disch := omega) only [go_sem, e7], by simp (disch := omega) only [go_sem, e18], by simp (disch := omega) only [go_sem, e19]; rfl, by simp (disch := omega) only [go_sem]⟩, by omega⟩
      · have g2 := gI_out (l := a) (k := k) (by omega)
        rw [g2] at hFk
        rw [g2] at hst
        repeat' (first | with_reducible refine r_seq ?_ | with_reducible refine r_block ?_ | with_reducible refine r_skip ?_ | with_reducible refine r_ret ?_ | with_reducible refine r_exit ?_ | with_reducible refine t_then ?_ | with_reducible refine t_then_ret ?_ | with_reducible refine t_then_exit ?_ | with_reducible refine t_in ?_ | with_reducible refine t_in_ret ?_ | with_reducible refine t_in_exit ?_ | with_reducible refine t_done ?_ | with_reducible refine t_done' ?_ | (with_reducible refine r_reg ?_; intro K hK; simp (disch := omega) only [go_sem, e0, e1, e2, e7, e18, e19, em, hmx]; (repeat (first | (refine ⟨by omega, ?_⟩) | intro _)); refine hK _ ?_; clear K hK) | (with_reducible refine r_true ?_ ?_; (focus (simp (disch := omega) only [go_sem, e0, e1, e2, e7, e18, e19, em, hmx]; done))) | (with_reducible refine r_false ?_ ?_; (focus (simp (disch := omega) only [go_sem, e0, e1, e2, e7, e18, e19, em, hmx]; done))))
        refine r_reg ?_; intro K hK; simp (disch := omega) only [go_sem, e0, e1, e2, e7, e18, e19, em, hu, hst]; (repeat (first | (refine ⟨by omega, ?_⟩) | intro _)); refine acall_pure (hFk) ?_ ?_ ?_; (focus (try simp (disch := omega) only [go_sem, e0, e1, e2, e7, e18, e19, em, hu, hst])); (focus (first | rfl | (simp (disch := omega) only [go_sem, e0, e1, e2, e7, e18, e19, em, hu, hst]; done))); simp (disch := omega) only [go_sem, e0, e1, e2, e7, e18, e19, em, hu, hst]; (repeat (first | (refine ⟨by omega, ?_⟩) | intro _)); refine hK _ ?_; clear K hK
        repeat' (first | with_reducible refine r_seq ?_ | with_reducible refine r_block ?_ | with_reducible refine r_skip ?_ | with_reducible refine r_ret ?_ | with_reducible refine r_exit ?_ | with_reducible refine t_then ?_ | with_reducible refine t_then_ret ?_ | with_reducible refine t_then_exit ?_ | with_reducible refine t_in ?_ | with_reducible refine t_in_ret ?_ | with_reducible refine t_in_exit ?_ | with_reducible refine t_done ?_ | with_reducible refine t_done' ?_ | (with_reducible refine r_reg ?_; intro K hK; simp (disch := omega) only [go_sem, e0, e1, e2, e7, e18, e19, em, hmx]; (repeat (first | (refine ⟨by omega, ?_⟩) | intro _)); refine hK _ ?_; clear K hK) | (with_reducible refine r_true ?_ ?_; (focus (simp (disch := omega) only [go_sem, e0, e1, e2, e7, e18, e19, em, hmx]; done))) | (with_reducible refine r_false ?_ ?_; (focus (simp (disch := omega) only [go_sem, e0, e1, e2, e7, e18, e19, em, hmx]; done))))
        refine ⟨k + 1, ⟨by omega, by simp (disch := omega) only [go_sem, e0], by simp (disch := omega) only [go_sem, e1], by simp (disch := omega) only [go_sem, e2], by simp (disch := omega) only [go_sem, e7], by simp (disch := omega) only [go_sem, e18], by simp (disch := omega) only [go_sem, e19]; rfl, by simp (disch := omega) only [go_sem]⟩, by omega⟩
      · exfalso; omega
    · have hk' : k = n := by omega
      subst hk'
      repeat' (first | with_reducible refine r_seq ?_ | with_reducible refine r_block ?_ | with_reducible refine r_skip ?_ | with_reducible refine r_ret ?_ | with_reducible refine r_exit ?_ | with_reducible refine t_then ?_ | with_reducible refine t_then_ret ?_ | with_reducible refine t_then_exit ?_ | with_reducible refine t_in ?_ | with_reducible refine t_in_ret ?_ | with_reducible refine t_in_exit ?_ | with_reducible refine t_done ?_ | with_reducible refine t_done' ?_ | (with_reducible refine r_reg ?_; intro K hK; simp (disch := omega) only [go_sem, e0, e1, e2, e7, e18, e19, em, hmx]; (repeat (first | (refine ⟨by omega, ?_⟩) | intro _)); refine hK _ ?_; clear K hK) | (with_reducible refine r_true ?_ ?_; (focus (simp (disch := omega) only [go_sem, e0, e1, e2, e7, e18, e19, em, hmx]; done))) | (with_reducible refine r_false ?_ ?_; (focus (simp (disch := omega) only [go_sem, e0, e1, e2, e7, e18, e19, em, hmx]; done))))
      unfold zipI
      rw [← hn, ← upto_done]
      simp (disch := omega) only [go_sem, em]
  · exact ⟨Nat.zero_le _, by simp (disch := omega) only [go_sem], by simp (disch := omega) only [go_sem], by simp (disch := omega) only [go_sem], by simp (disch := omega) only [go_sem], by simp (disch := omega) only [go_sem], by simp (disch := omega) only [go_sem]; rfl, by simp (disch := omega) only [go_sem, ← upto_zero]⟩

end Go.Proofs.YteiopjkamgmfpaaGreatDoor
end

section
namespace Go.Proofs.YteiopjkamgmfpaaGreatDoor
open Go Go.RowKit Go.Pg
set_option linter.unusedSimpArgs false
set_option linter.unusedVariables false
set_option maxRecDepth 20000
attribute [local go_sem] Tryz.underlying130 Tryz.underlying75 Tryz.underlying3 sz3 by3 z3
attribute [-bool_to_prop] Bool.and_eq_decide Bool.or_eq_decide Bool.decide_beq_decide decide_eq_decide

theorem zipI_len (F : Int → Int → Int) (a b : List Int) : (zipI F a b).length = max a.length b.length := by simp [zipI]
/-- Wide: the exponents a product of two small ones may have, and their differences. -/
def Wd (l : List Int) : Prop := l.length ≤ 1000 ∧ ∀ j, -4503599627370496 ≤ gI l j ∧ gI l j ≤ 4503599627370496
theorem Sm.wd {l : List Int} (h : Sm l) : Wd l := ⟨h.1, fun j => by have := h.2 j; omega⟩

set_option maxHeartbeats 1000000 in
theorem monMul (a b : List Int) (ha : Wd a) (hb : Wd b) : Pure Tryz.prog 159 [ints a, ints b] (ints (trimI (zipI (· + ·) a b))) := by
  have h1 := monCombine a b 207 (· + ·) ha.1 hb.1 fun k _ => addF _ _ (by have := ha.2 k; have := hb.2 k; omega)
  have h2 := monTrim (zipI (· + ·) a b) (by rw [zipI_len]; have := ha.1; have := hb.1; omega)
  unfold ints at *
  refine pure_intro (tok := 0) (rs := [.tmp 4]) Tryz.func159 rfl Tryz.ntmps159 Tryz.results159 Tryz.call159 (by rfl) (by simp) ?_
  repeat' (first | with_reducible refine r_seq ?_ | with_reducible refine r_block ?_ | with_reducible refine r_skip ?_ | with_reducible refine r_ret ?_ | with_reducible refine r_exit ?_ | with_reducible refine t_then ?_ | with_reducible refine t_then_ret ?_ | with_reducible refine t_then_exit ?_ | with_reducible refine t_in ?_ | with_reducible refine t_in_ret ?_ | with_reducible refine t_in_exit ?_ | with_reducible refine t_done ?_ | with_reducible refine t_done' ?_ | (with_reducible refine r_reg ?_; intro K hK; simp (disch := omega) only [go_sem]; (repeat (first | (refine ⟨by omega, ?_⟩) | intro _)); refine hK _ ?_; clear K hK) | (with_reducible refine r_true ?_ ?_; (focus (simp (disch := omega) only [go_sem]; done))) | (with_reducible refine r_false ?_ ?_; (focus (simp (disch := omega) only [go_sem]; done))))
  refine r_reg ?_; intro K hK; simp (disch := omega) only [go_sem]; (repeat (first | (refine ⟨by omega, ?_⟩) | intro _)); refine acall_pure (h1) ?_ ?_ ?_; (focus (try simp (disch := omega) only [go_sem])); (focus (first | rfl | (simp (disch := omega) only [go_sem]; done))); simp (disch := omega) only [go_sem]; (repeat (first | (refine ⟨by omega, ?_⟩) | intro _)); refine acall_pure (h2) ?_ ?_ ?_; (focus (try simp (disch := omega) only [go_sem])); (focus (first | rfl | (simp (disch := omega) only [go_sem]; done))); simp (disch := omega) only [go_sem]; (repeat (first | (refine ⟨by omega, ?_⟩) | intro _)); refine hK _ ?_; clear K hK
  repeat' (first | with_reducible refine r_seq ?_ | with_reducible refine r_block ?_ | with_reducible refine r_skip ?_ | with_reducible refine r_ret ?_ | with_reducible refine r_exit ?_ | with_reducible refine t_then ?_ | with_reducible refine t_then_ret ?_ | with_reducible refine t_then_exit ?_ | with_reducible refine t_in ?_ | with_reducible refine t_in_ret ?_ | with_reducible refine t_in_exit ?_ | with_reducible refine t_done ?_ | with_reducible refine t_done' ?_ | (with_reducible refine r_reg ?_; intro K hK; simp (disch := omega) only [go_sem]; (repeat (first | (refine ⟨by omega, ?_⟩) | intro _)); refine hK _ ?_; clear K hK) | (with_reducible refine r_true ?_ ?_; (focus (simp (disch := omega) only [go_sem]; done))) | (with_reducible refine r_false ?_ ?_; (focus (simp (disch := omega) only [go_sem]; done))))
  simp (disch := omega) only [go_sem]


def divI (a b : List Int) : Bool := (List.range a.length).all fun i => decide (gI a i ≤ gI b i)
theorem monExpN (b : List Int) (k : Nat) : Pure Tryz.prog 259 [.sl 1 (b.map fun n => AV.v (.int .i64 n)), .v (.int .i64 k)] (.v (.int .i64 (gI b k))) := by
  have := monExp b k
  rwa [exp_of] at this

theorem refExpN (b : List Int) (k : Nat) : Pure Tryz.prog 167 [.sl 1 (b.map fun n => AV.v (.int .i64 n)), .v (.int .i64 k)] (.v (.int .i64 (gI b k))) := by
  have := refExp b k
  rwa [exp_of] at this



def copI (a b : List Int) : Bool := (List.range a.length).all fun i => decide (gI a i = 0 ∨ gI b i = 0)
end Go.Proofs.YteiopjkamgmfpaaGreatDoor
end

section
namespace Go.Proofs.YteiopjkamgmfpaaGreatDoor
open Go Go.RowKit Go.Pg
set_option linter.unusedSimpArgs false
set_option linter.unusedVariables false
set_option maxRecDepth 20000
attribute [local go_sem] Tryz.underlying130 Tryz.underlying75 Tryz.underlying3 sz3 by3 z3
attribute [-bool_to_prop] Bool.and_eq_decide Bool.or_eq_decide Bool.decide_beq_decide decide_eq_decide

def outL (F : Nat → Int) (k : Nat) : List AV := (List.range k).map fun i => AV.v (.int .i64 (F i))
theorem outL_len (F : Nat → Int) (k : Nat) : (outL F k).length = k := by simp [outL]
theorem outL_succ (F : Nat → Int) (k : Nat) : outL F k ++ [AV.v (.int .i64 (F k))] = outL F (k + 1) := by simp [outL, List.range_succ]
theorem outL_one (F : Nat → Int) : [AV.v (.int .i64 (F 0))] = outL F (0 + 1) := by simp [outL, List.range_succ]
theorem outL_ints (F : Nat → Int) (n : Nat) : AV.sl 1 (outL F n) = ints ((List.range n).map F) := by simp [outL, ints, Function.comp_def]
theorem nil_wk {n : Nat} {F : Nat → Int} (h : n = 0) : Wk (.v (.slice none 0 0)) (ints ((List.range n).map F)) := by subst h; exact .nil 1

set_option maxHeartbeats 2000000 in
theorem mrMul' (a b : List Int) (ha : Wd a) (hb : Wd b) : Pure Tryz.prog 209 [ints a, ints b] (if max a.length b.length = 0 then .v (.slice none 0 0) else .sl 1 (outL (fun i => gI a i + gI b i) (max a.length b.length))) := by
  obtain ⟨n, hn⟩ : ∃ n, n = max a.length b.length := ⟨_, rfl⟩
  have hal := ha.1
  have hbl := hb.1
  rw [← hn]
  have hcode : ∀ r : AV, (n = 0 → r = .v (.slice none 0 0)) → (n ≠ 0 → r = .sl 1 (outL (fun i => gI a i + gI b i) n)) → Pure Tryz.prog 209 [ints a, ints b] r := by
    intro r hr0 hr1
    unfold ints
    refine pure_intro (tok := 0) (rs := [.tmp 4]) Tryz.func209 rfl Tryz.ntmps209 Tryz.results209 Tryz.call209 (by rfl) (by simp) ?_
    (focus (refine wkap w_t w_t (w_r 0) ?_; (repeat' first | exact w_t | apply w_l); all_goals intros))
    refine r_loopE (ι := Nat) (fun k e m => k ≤ n ∧ e 0 = .sl 1 (a.map fun n => AV.v (.int .i64 n)) ∧ e 1 = .sl 1 (b.map fun n => AV.v (.int .i64 n)) ∧ e 6 = .v (.int .i64 k) ∧ (k = 0 → e 5 = .v (.slice none 0 0)) ∧ (k ≠ 0 → ∃ sv, e 5 = .own 28 sv ∧ m 28 = some (.row sv 3 1 (outL (fun i => gI a i + gI b i) k) 0))) (fun k => n - k) 0 (by rfl) ?_ ?_
    · rintro k e m ⟨hk, e0, e1, e6, hz, hp⟩
      by_cases hlt : k < n
      · have hxa := refExpN a k
        have hxb := refExpN b k
        have p1 := ha.2 k
        have p2 := hb.2 k
        by_cases hk0 : k = 0
        · subst hk0
          have e5 := hz rfl
          have o1 := outL_one (fun i => gI a i + gI b i)
          by_cases hka : 0 < a.length
          all_goals
            (focus (refine wkap (w_a e0 (w_a e1 (w_a e6 (w_a e5 w_t)))) (w_a hxa (w_a hxb w_t)) (w_r 0) ?_; (repeat' first | exact w_t | apply w_l); all_goals intros))
            refine ⟨0 + 1, ⟨by omega, by exact gW e0, by exact gW e1, by exact gV e6, fun h => by omega, fun _ => ⟨_, by exact gS, by (simp (disch := omega) only [go_sem, ← o1] <;> repeat' first | rfl | refine ⟨?_, ?_⟩)⟩⟩, by omega⟩
        · obtain ⟨sv, e5, em⟩ := hp hk0
          have hol := outL_len (fun i => gI a i + gI b i) k
          have hos := outL_succ (fun i => gI a i + gI b i) k
          by_cases hka : k < a.length
          all_goals
            (focus (refine wkap (w_a e0 (w_a e1 (w_a e6 (w_a e5 (w_a em (w_a hol w_t)))))) (w_a hxa (w_a hxb w_t)) (w_r 0) ?_; (repeat' first | exact w_t | apply w_l); all_goals intros))
            refine ⟨k + 1, ⟨by omega, by exact gW e0, by exact gW e1, by exact gV e6, fun h => by omega, fun _ => ⟨_, by exact gS, by exact gW hos⟩⟩, by omega⟩
      · have hk' : k = n := by omega
        subst hk'
        by_cases hk0 : k = 0
        · have e5 := hz hk0
          rw [hr0 hk0]
          (focus (refine wklp (w_a e0 (w_a e1 (w_a e6 (w_a e5 w_t)))) w_t w_t (w_r 0) ?_; (repeat' first | exact w_t | apply w_l); all_goals intros))
        · obtain ⟨sv, e5, em⟩ := hp hk0
          rw [hr1 hk0]
          (focus (refine wklp (w_a e0 (w_a e1 (w_a e6 (w_a e5 (w_a em w_t))))) w_t (w_a em w_t) (w_r 0) ?_; (repeat' first | exact w_t | apply w_l); all_goals intros))
    · exact ⟨Nat.zero_le _, by exact gC, by exact gC, by exact gS, fun _ => by exact gC, fun h => absurd rfl h⟩
  exact hcode _ (fun h => by rw [if_pos h]) (fun h => by rw [if_neg h])

theorem mrMul (a b : List Int) (ha : Wd a) (hb : Wd b) : Pure Tryz.prog 209 [ints a, ints b] (ints (zipI (· + ·) a b)) := by
  refine (mrMul' a b ha hb).wk ?_
  split
  · rename_i h
    exact nil_wk h
  · rw [outL_ints]
    exact .refl _



end Go.Proofs.YteiopjkamgmfpaaGreatDoor
end

section
namespace Go.Proofs.YteiopjkamgmfpaaGreatDoor
open Go Go.RowKit Go.Pg
set_option linter.unusedSimpArgs false
set_option linter.unusedVariables false
set_option maxRecDepth 20000
attribute [local go_sem] Tryz.underlying130 Tryz.underlying75 Tryz.underlying3 sz3 by3 z3
attribute [-bool_to_prop] Bool.and_eq_decide Bool.or_eq_decide Bool.decide_beq_decide decide_eq_decide

def quoI (a b : List Int) : List Int := if divI b a = true then trimI (zipI (· - ·) a b) else []
def quoR (a b : List Int) : List Int := if divI b a = true then trimI ((List.range a.length).map fun i => gI a i - gI b i) else []



end Go.Proofs.YteiopjkamgmfpaaGreatDoor
end

section
namespace Go.Proofs.YteiopjkamgmfpaaGreatDoor
open Go Go.RowKit Go.Pg
set_option linter.unusedSimpArgs false
set_option linter.unusedVariables false
set_option maxRecDepth 20000
attribute [local go_sem] Tryz.underlying130 Tryz.underlying75 Tryz.underlying3 Tryz.underlying4 sz3 by3 z3
attribute [-bool_to_prop] Bool.and_eq_decide Bool.or_eq_decide Bool.decide_beq_decide decide_eq_decide
theorem sz23 : szOf Tryz.prog 130 = some 1 := by kernel_rfl
attribute [local go_sem] sz23

def normI (l : List Int) : List Int := if rightB (trimI l) = true then trimI l else []



def lt1 (x y : Int) : Int := if x < y then -1 else 1
def lexC (a b : List Int) : Nat → Int
  | 0 => 0
  | n + 1 => if gI a n = gI b n then lexC a b n else lt1 (gI a n) (gI b n)
def cmpI (a b : List Int) (o : Int) : Int :=
  if o = 1 ∧ sumT a a.length ≠ sumT b b.length then lt1 (sumT a a.length) (sumT b b.length) else lexC a b (max a.length b.length)
theorem lexC_same {a b : List Int} {k : Nat} (h0 : 0 < k) (h : gI a (k - 1) = gI b (k - 1)) : lexC a b (k - 1) = lexC a b k := by
  cases k with
  | zero => omega
  | succ k => simp only [lexC]; rw [if_pos (by simpa using h)]; rfl
theorem lexC_diff {a b : List Int} {k : Nat} (h0 : 0 < k) (h : gI a (k - 1) ≠ gI b (k - 1)) : lexC a b k = lt1 (gI a (k - 1)) (gI b (k - 1)) := by
  cases k with
  | zero => omega
  | succ k => simp only [lexC]; rw [if_neg (by simpa using h)]; rfl
theorem sgn_lt1 {x y : Int} (h : x ≠ y) : sgn (x - y) = lt1 x y := by
  unfold sgn lt1
  by_cases h1 : x < y
  · rw [if_pos (by omega), if_pos h1]
  · rw [if_neg (by omega), if_pos (by omega), if_neg h1]

set_option maxHeartbeats 4000000 in
theorem monCmp (a b : List Int) (o : Int) (ha : Sm a) (hb : Sm b) : Pure Tryz.prog 239 [ints a, ints b, .v (.int .i64 o)] (.v (.int .i64 (cmpI a b o))) := by
  have hal := ha.1
  have hbl := hb.1
  have d1 := monDegree a ha
  have d2 := monDegree b hb
  unfold ints at *
  refine pure_intro (tok := 0) (rs := [.tmp 6]) Tryz.func239 rfl Tryz.ntmps239 Tryz.results239 Tryz.call239 (by rfl) (by simp) ?_
  obtain ⟨n, hn⟩ : ∃ n, n = max a.length b.length := ⟨_, rfl⟩
  have hmx : max (a.length : Int) (b.length : Int) = (n : Int) := by omega
  by_cases hbig : o = 1 ∧ sumT a a.length ≠ sumT b b.length
  · obtain ⟨ho, hd⟩ := hbig
    have hc : cmpI a b o = lt1 (sumT a a.length) (sumT b b.length) := by unfold cmpI; rw [if_pos ⟨ho, hd⟩]
    rw [hc]
    unfold lt1
    by_cases hlt : sumT a a.length < sumT b b.length
    · rw [if_pos hlt]
      (focus (refine wklp w_t (w_a d1 (w_a d2 w_t)) w_t (w_r 0) ?_; (repeat' first | exact w_t | apply w_l); all_goals intros))
    · rw [if_neg hlt]
      (focus (refine wklp w_t (w_a d1 (w_a d2 w_t)) w_t (w_r 0) ?_; (repeat' first | exact w_t | apply w_l); all_goals intros))
  · have hc : cmpI a b o = lexC a b n := by unfold cmpI; rw [if_neg hbig, hn]
    rw [hc]
    have loop : ∀ (e : Nat → AV) (m : Mem), e 0 = .sl 1 (a.map fun n => AV.v (.int .i64 n)) → e 1 = .sl 1 (b.map fun n => AV.v (.int .i64 n)) → True := fun _ _ _ _ => trivial
    have hd0 : o = 1 → sumT a a.length = sumT b b.length := fun ho => Decidable.byContradiction fun h => hbig ⟨ho, h⟩
    by_cases ho : o = 1
    all_goals
      first
      | (have hd := hd0 ho
         (focus (refine wkap (w_a hmx w_t) (w_a d1 (w_a d2 w_t)) (w_r 0) ?_; (repeat' first | exact w_t | apply w_l); all_goals intros)))
      | ((focus (refine wkap (w_a hmx w_t) w_t (w_r 0) ?_; (repeat' first | exact w_t | apply w_l); all_goals intros)))
      refine r_loopE (ι := Nat) (fun k e m => k ≤ n ∧ e 0 = .sl 1 (a.map fun n => AV.v (.int .i64 n)) ∧ e 1 = .sl 1 (b.map fun n => AV.v (.int .i64 n)) ∧ e 9 = .v (.int .i64 ((k : Int) - 1)) ∧ lexC a b k = lexC a b n) (fun k => k) n (by rfl) ?_ ?_
      · rintro k e m ⟨hk, e0, e1, e9, hl⟩
        by_cases hk0 : 0 < k
        · have hp := cast_pred hk0
          rw [hp] at e9
          have x1 := monExpN a (k - 1)
          have x2 := monExpN b (k - 1)
          by_cases hx : gI a (k - 1) = gI b (k - 1)
          · (focus (refine wkap (w_a e0 (w_a e1 (w_a e9 w_t))) (w_a x1 (w_a x2 w_t)) (w_r 0) ?_; (repeat' first | exact w_t | apply w_l); all_goals intros))
            exact ⟨k - 1, ⟨by omega, by exact gW e0, by exact gW e1, by exact gW e9, by rw [lexC_same hk0 hx, hl]⟩, by omega⟩
          · rw [← hl, lexC_diff hk0 hx]
            unfold lt1
            by_cases hlt : gI a (k - 1) < gI b (k - 1)
            · rw [if_pos hlt]
              (focus (refine wklp (w_a e0 (w_a e1 (w_a e9 w_t))) (w_a x1 (w_a x2 w_t)) w_t (w_r 0) ?_; (repeat' first | exact w_t | apply w_l); all_goals intros))
            · rw [if_neg hlt]
              (focus (refine wklp (w_a e0 (w_a e1 (w_a e9 w_t))) (w_a x1 (w_a x2 w_t)) w_t (w_r 0) ?_; (repeat' first | exact w_t | apply w_l); all_goals intros))
        · have hk' : k = 0 := by omega
          subst hk'
          rw [← hl, show lexC a b 0 = 0 from rfl]
          (focus (refine wklp (w_a e0 (w_a e1 (w_a e9 w_t))) w_t w_t (w_r 0) ?_; (repeat' first | exact w_t | apply w_l); all_goals intros))
      · exact ⟨Nat.le_refl _, by exact gC, by exact gC, by exact gW hmx, rfl⟩

end Go.Proofs.YteiopjkamgmfpaaGreatDoor
end

section
namespace Go.Proofs.YteiopjkamgmfpaaGreatDoor
open Go Go.RowKit Go.Pg
set_option linter.unusedSimpArgs false
set_option linter.unusedVariables false
set_option maxRecDepth 20000
attribute [local go_sem] Tryz.underlying130 Tryz.underlying75 Tryz.underlying3 Tryz.underlying4 sz3 by3 z3 sz23
attribute [-bool_to_prop] Bool.and_eq_decide Bool.or_eq_decide Bool.decide_beq_decide decide_eq_decide

set_option maxHeartbeats 4000000 in
theorem mrCmp (a b : List Int) (o : Int) (ha : Sm a) (hb : Sm b) : Pure Tryz.prog 103 [ints a, ints b, .v (.int .i64 o)] (.v (.int .i64 (cmpI a b o))) := by
  have hal := ha.1
  have hbl := hb.1
  have d1 := refDegree a ha
  have d2 := refDegree b hb
  have q1 := sumT_bd ha a.length
  have q2 := sumT_bd hb b.length
  unfold ints at *
  refine pure_intro (tok := 0) (rs := [.tmp 6]) Tryz.func103 rfl Tryz.ntmps103 Tryz.results103 Tryz.call103 (by rfl) (by simp) ?_
  obtain ⟨n, hn⟩ : ∃ n, n = max a.length b.length := ⟨_, rfl⟩
  have hmx : max (a.length : Int) (b.length : Int) = (n : Int) := by omega
  by_cases hbig : o = 1 ∧ sumT a a.length ≠ sumT b b.length
  · obtain ⟨ho, hd⟩ := hbig
    have hc : cmpI a b o = lt1 (sumT a a.length) (sumT b b.length) := by unfold cmpI; rw [if_pos ⟨ho, hd⟩]
    rw [hc]
    have hs := refSign (sumT a a.length - sumT b b.length)
    rw [sgn_lt1 hd] at hs
    (focus (refine wklp w_t (w_a d1 (w_a d2 (w_a d1 (w_a d2 (w_a hs w_t))))) w_t (w_r 0) ?_; (repeat' first | exact w_t | apply w_l); all_goals intros))
  · have hc : cmpI a b o = lexC a b n := by unfold cmpI; rw [if_neg hbig, hn]
    rw [hc]
    have hd0 : o = 1 → sumT a a.length = sumT b b.length := fun ho => Decidable.byContradiction fun h => hbig ⟨ho, h⟩
    by_cases ho : o = 1
    all_goals
      first
      | (have hd := hd0 ho
         (focus (refine wkap (w_a hmx w_t) (w_a d1 (w_a d2 w_t)) (w_r 0) ?_; (repeat' first | exact w_t | apply w_l); all_goals intros)))
      | ((focus (refine wkap (w_a hmx w_t) w_t (w_r 0) ?_; (repeat' first | exact w_t | apply w_l); all_goals intros)))
      refine r_loopE (ι := Nat) (fun k e m => k ≤ n ∧ e 0 = .sl 1 (a.map fun n => AV.v (.int .i64 n)) ∧ e 1 = .sl 1 (b.map fun n => AV.v (.int .i64 n)) ∧ e 7 = .v (.int .i64 ((k : Int) - 1)) ∧ lexC a b k = lexC a b n) (fun k => k) n (by rfl) ?_ ?_
      · rintro k e m ⟨hk, e0, e1, e9, hl⟩
        by_cases hk0 : 0 < k
        · have hp := cast_pred hk0
          rw [hp] at e9
          have x1 := refExpN a (k - 1)
          have x2 := refExpN b (k - 1)
          have p1 := ha.2 (k - 1)
          have p2 := hb.2 (k - 1)
          by_cases hx : gI a (k - 1) = gI b (k - 1)
          · (focus (refine wkap (w_a e0 (w_a e1 (w_a e9 w_t))) (w_a x1 (w_a x2 w_t)) (w_r 0) ?_; (repeat' first | exact w_t | apply w_l); all_goals intros))
            exact ⟨k - 1, ⟨by omega, by exact gW e0, by exact gW e1, by exact gW e9, by rw [lexC_same hk0 hx, hl]⟩, by omega⟩
          · have hs := refSign (gI a (k - 1) - gI b (k - 1))
            rw [sgn_lt1 hx] at hs
            rw [← hl, lexC_diff hk0 hx]
            (focus (refine wklp (w_a e0 (w_a e1 (w_a e9 w_t))) (w_a x1 (w_a x2 (w_a x1 (w_a x2 (w_a hs w_t))))) w_t (w_r 0) ?_; (repeat' first | exact w_t | apply w_l); all_goals intros))
        · have hk' : k = 0 := by omega
          subst hk'
          rw [← hl, show lexC a b 0 = 0 from rfl]
          (focus (refine wklp (w_a e0 (w_a e1 (w_a e9 w_t))) w_t w_t (w_r 0) ?_; (repeat' first | exact w_t | apply w_l); all_goals intros))
      · exact ⟨Nat.le_refl _, by exact gC, by exact gC, by exact gW hmx, rfl⟩

/-! ### the laws' own functions -/

def low (x : Int) : Bool := !decide (262144 < x)
def rightL (ls : List (List Int)) : Bool := ls.all fun l => rightB l && l.all low
def gL (ls : List (List Int)) (k : Nat) : List Int := ls.getD k []
end Go.Proofs.YteiopjkamgmfpaaGreatDoor
end

section
namespace Go.Proofs.YteiopjkamgmfpaaGreatDoor
open Go Go.RowKit Go.Pg
/-! ### monomials in the lexical order (plain law; built outside of the tree with copies of gI, lt1, lexC, zipI) -/
/-- A monomial as it is kept: no zeros behind, no negative exponents. -/
def Can (l : List Int) : Prop := (∀ j, 0 ≤ gI l j) ∧ (l.length = 0 ∨ gI l (l.length - 1) ≠ 0)
/-- Less, by the greatest variable in which two monomials differ. -/
def LTm (a b : List Int) : Prop := ∃ k, gI a k < gI b k ∧ ∀ j, k < j → gI a j = gI b j
def ltM (a b : List Int) : Prop := lexC a b (max a.length b.length) = -1
instance : DecidableRel ltM := fun a b => inferInstanceAs (Decidable (lexC a b (max a.length b.length) = -1))
theorem lexC_lt {a b : List Int} : ∀ n, lexC a b n = -1 ↔ ∃ k, k < n ∧ gI a k < gI b k ∧ ∀ j, k < j → j < n → gI a j = gI b j
  | 0 => by
    constructor
    · intro h; exact absurd h (by show ¬ (0 : Int) = -1; omega)
    · rintro ⟨k, h, _⟩; omega
  | n + 1 => by
    unfold lexC
    by_cases h : gI a n = gI b n
    · rw [if_pos h, lexC_lt n]
      constructor
      · rintro ⟨k, h1, h2, h3⟩
        exact ⟨k, by omega, h2, fun j h4 h5 => by by_cases hj : j = n; subst hj; exact h; exact h3 j h4 (by omega)⟩
      · rintro ⟨k, h1, h2, h3⟩
        have : k ≠ n := by rintro rfl; omega
        exact ⟨k, by omega, h2, fun j h4 h5 => h3 j h4 (by omega)⟩
    · rw [if_neg h]
      unfold lt1
      constructor
      · intro h1
        by_cases h2 : gI a n < gI b n
        · exact ⟨n, by omega, h2, fun j h3 h4 => by omega⟩
        · rw [if_neg h2] at h1; omega
      · rintro ⟨k, h1, h2, h3⟩
        by_cases hk : k = n
        · subst hk; rw [if_pos h2]
        · exact absurd (h3 n (by omega) (by omega)) h
theorem ltM_iff {a b : List Int} : ltM a b ↔ LTm a b := by
  unfold ltM LTm
  rw [lexC_lt]
  constructor
  · rintro ⟨k, h1, h2, h3⟩
    refine ⟨k, h2, fun j h4 => ?_⟩
    by_cases hj : j < max a.length b.length
    · exact h3 j h4 hj
    · rw [gI_out (by omega), gI_out (by omega)]
  · rintro ⟨k, h2, h3⟩
    refine ⟨k, ?_, h2, fun j h4 _ => h3 j h4⟩
    by_cases hk : k < max a.length b.length
    · exact hk
    · rw [gI_out (by omega), gI_out (by omega)] at h2; omega
theorem lexC_zero {a b : List Int} : ∀ n, (∀ j, j < n → gI a j = gI b j) → lexC a b n = 0
  | 0, _ => rfl
  | n + 1, h => by unfold lexC; rw [if_pos (h n (by omega)), lexC_zero n fun j hj => h j (by omega)]
theorem lexC_three {a b : List Int} : ∀ n, lexC a b n = 0 ∧ (∀ j, j < n → gI a j = gI b j) ∨ lexC a b n = -1 ∨ lexC a b n = 1
  | 0 => .inl ⟨rfl, fun j h => by omega⟩
  | n + 1 => by
    unfold lexC
    by_cases h : gI a n = gI b n
    · rw [if_pos h]
      rcases @lexC_three a b n with ⟨h1, h2⟩ | h1
      · exact .inl ⟨h1, fun j hj => by by_cases e : j = n; subst e; exact h; exact h2 j (by omega)⟩
      · exact .inr h1
    · rw [if_neg h]
      unfold lt1
      split
      · exact .inr (.inl rfl)
      · exact .inr (.inr rfl)
theorem lexC_neg {a b : List Int} : ∀ n, lexC b a n = - lexC a b n
  | 0 => rfl
  | n + 1 => by
    unfold lexC
    by_cases h : gI a n = gI b n
    · rw [if_pos h, if_pos h.symm, lexC_neg n]
    · rw [if_neg h, if_neg (fun e => h e.symm)]
      unfold lt1
      by_cases h1 : gI a n < gI b n
      · rw [if_pos h1, if_neg (by omega)]; rfl
      · rw [if_neg h1, if_pos (by omega)]
theorem can_ext {a b : List Int} (ha : Can a) (hb : Can b) (h : ∀ j, gI a j = gI b j) : a = b := by
  have hl : a.length = b.length := by
    have h1 := h (a.length - 1)
    have h2 := h (b.length - 1)
    rcases Nat.lt_trichotomy a.length b.length with hl | hl | hl
    · rcases hb.2 with hb0 | hb0
      · omega
      · rw [← h2, gI_out (by omega)] at hb0; exact absurd rfl hb0
    · exact hl
    · rcases ha.2 with ha0 | ha0
      · omega
      · rw [h1, gI_out (by omega)] at ha0; exact absurd rfl ha0
  refine List.ext_getElem hl fun j h1 h2 => ?_
  have := h j
  rwa [gI_at h1, gI_at h2] at this
theorem ordM : Go.Pol.KO Can ltM where
  irr x h := by obtain ⟨k, h1, _⟩ := ltM_iff.1 h; omega
  tr x y z h g := by
    obtain ⟨k, h1, h2⟩ := ltM_iff.1 h
    obtain ⟨i, g1, g2⟩ := ltM_iff.1 g
    rw [ltM_iff]
    rcases Nat.lt_trichotomy k i with h3 | h3 | h3
    · exact ⟨i, by rw [h2 i h3]; exact g1, fun j hj => by rw [h2 j (by omega), g2 j hj]⟩
    · subst h3; exact ⟨k, by omega, fun j hj => by rw [h2 j hj, g2 j hj]⟩
    · exact ⟨k, by rw [← g2 k h3]; exact h1, fun j hj => by rw [h2 j hj, g2 j (by omega)]⟩
  tri x y hx hy := by
    rcases @lexC_three x y (max x.length y.length) with ⟨_, h⟩ | h | h
    · refine .inr (.inl (can_ext hx hy fun j => ?_))
      by_cases hj : j < max x.length y.length
      · exact h j hj
      · rw [gI_out (by omega), gI_out (by omega)]
    · exact .inl h
    · refine .inr (.inr ?_)
      unfold ltM
      rw [Nat.max_comm, lexC_neg, h]
theorem gI_zip (F : Int → Int → Int) (h0 : F 0 0 = 0) (a b : List Int) (j : Nat) : gI (zipI F a b) j = F (gI a j) (gI b j) := by
  by_cases h : j < max a.length b.length
  · rw [gI_at (by unfold zipI; simpa using h)]
    unfold zipI
    simp only [List.getElem_map, List.getElem_range]
  · rw [gI_out (by unfold zipI; simp only [List.length_map, List.length_range]; omega), gI_out (by omega), gI_out (by omega), h0]
abbrev mulM (a b : List Int) : List Int := zipI (· + ·) a b
theorem mulM_len (a b : List Int) : (mulM a b).length = max a.length b.length := by simp [mulM, zipI]
theorem mulK : Go.Pol.KM Can ltM mulM where
  comm x y := by
    unfold mulM zipI
    rw [Nat.max_comm]
    exact List.map_congr_left fun i _ => Int.add_comm _ _
  dom x y hx hy := by
    refine ⟨fun j => by rw [gI_zip _ rfl]; have := hx.1 j; have := hy.1 j; omega, ?_⟩
    rw [mulM_len, gI_zip _ rfl]
    have a1 := hx.1 (max x.length y.length - 1)
    have b1 := hy.1 (max x.length y.length - 1)
    rcases Nat.le_total x.length y.length with h | h
    · rw [Nat.max_eq_right h] at *
      rcases hy.2 with h1 | h1
      · exact .inl h1
      · exact .inr (by omega)
    · rw [Nat.max_eq_left h] at *
      rcases hx.2 with h1 | h1
      · exact .inl h1
      · exact .inr (by omega)
  mono x y z _ _ _ h := by
    obtain ⟨k, h1, h2⟩ := ltM_iff.1 h
    rw [ltM_iff]
    exact ⟨k, by rw [gI_zip _ rfl, gI_zip _ rfl]; omega, fun j hj => by rw [gI_zip _ rfl, gI_zip _ rfl, h2 j hj]⟩
/-- The value of a monomial. -/
def mvN (v : Nat → Rat) (m : List Int) : Nat → Rat
  | 0 => 1
  | n + 1 => mvN v m n * v n ^ (gI m n).toNat
def mv (v : Nat → Rat) (m : List Int) : Rat := mvN v m m.length
end Go.Proofs.YteiopjkamgmfpaaGreatDoor
end

section
namespace Go.Pol
/-! ### values -/
def evl {α : Type} (φ : α → Rat) : List (Rat × α) → Rat
  | [] => 0
  | t :: p => t.1 * φ t.2 + evl φ p
section
variable {α : Type} {D : α → Prop} {lt : α → α → Prop} [DecidableRel lt]
end
/-! ### multiples by a number -/
section
variable {α : Type} {D : α → Prop} {lt : α → α → Prop}
def scaleP (a : Rat) (p : List (Rat × α)) : List (Rat × α) := p.map fun s => (s.1 * a, s.2)
theorem scale_srt {a : Rat} {p : List (Rat × α)} (hp : Srt D lt p) (h : a ≠ 0) : Srt D lt (scaleP a p) := by
  refine ⟨fun u hu => ?_, List.pairwise_map.2 hp.2⟩
  obtain ⟨s, hs, rfl⟩ := List.mem_map.1 hu
  have := hp.1 s hs
  exact ⟨by show s.1 * a ≠ 0; intro h0; rcases Rat.mul_eq_zero.1 h0 with h1 | h1; exact this.1 h1; exact h h1, this.2⟩
end
section
variable {α : Type} [DecidableEq α]
end
end Go.Pol
end

section
namespace Go.Pol
/-! ### products with one term, differences -/
section
variable {α : Type} {D : α → Prop} {lt : α → α → Prop} [DecidableEq α] [DecidableRel lt]
theorem mulR_unit (o : KO D lt) {m : α → α → α} (k : KM D lt m) {u : α} (hu : ∀ x, m u x = x) (hD : D u) {r : Rat} (hr : r ≠ 0) {q : List (Rat × α)} (hq : Srt D lt q) : mulR lt m [(r, u)] q = scaleP r q := by
  have hs : Srt D lt [(r, u)] := Srt.nil.cons hr hD (by simp)
  refine srt_ext o (mulR_srt o k hs hq) (scale_srt hq hr) fun x => ?_
  rw [mulR_cof o k hs hq]
  clear hs hq
  induction q with
  | nil => rfl
  | cons t q ih =>
    show ((if m u t.2 = x then r * t.1 else 0) + 0) + cofM m [(r, u)] q x = (if t.2 = x then t.1 * r else 0) + cof (scaleP r q) x
    rw [ih, hu, Rat.mul_comm, Rat.add_zero]
end
section
variable {α : Type} {lt : α → α → Prop} [DecidableRel lt]
theorem mulR_nil {m : α → α → α} : ∀ (q : List (Rat × α)), mulR lt m [] q = []
  | [] => rfl
  | t :: q => by
    have h := mulR_nil (m := m) q
    unfold mulR at h ⊢
    rw [List.foldl_cons]
    show q.foldl _ (addP lt [] []) = []
    rw [addP_nil]; exact h
end
section
variable {α : Type} {D : α → Prop} {lt : α → α → Prop} [DecidableRel lt]
def subP (lt : α → α → Prop) [DecidableRel lt] (p q : List (Rat × α)) : List (Rat × α) := addP lt p (scaleP (-1) q)
theorem neg1 : (-1 : Rat) ≠ 0 := by decide
theorem sub_srt (o : KO D lt) {p q : List (Rat × α)} (hp : Srt D lt p) (hq : Srt D lt q) : Srt D lt (subP lt p q) := addP_srt o hp (scale_srt hq neg1)
end
section
variable {α : Type} {D : α → Prop} {lt : α → α → Prop} [DecidableEq α] [DecidableRel lt]
end
section
variable {α : Type} {lt : α → α → Prop} [DecidableRel lt]
theorem mem_addP' {p q : List (Rat × α)} {t : Rat × α} (h : t ∈ addP lt p q) : t ∈ p ∨ t ∈ q ∨ ∃ s ∈ p, ∃ u ∈ q, t = (s.1 + u.1, s.2) := by
  fun_induction addP lt p q with
  | case1 q => exact .inr (.inl h)
  | case2 s p => exact .inl h
  | case3 s p u q h1 ih =>
    rcases List.mem_cons.1 h with rfl | h
    · exact .inl (.head _)
    · rcases ih h with h | h | ⟨a, ha, b, hb, e⟩
      · exact .inl (.tail _ h)
      · exact .inr (.inl h)
      · exact .inr (.inr ⟨a, .tail _ ha, b, hb, e⟩)
  | case4 s p u q h1 h2 ih =>
    rcases List.mem_cons.1 h with rfl | h
    · exact .inr (.inl (.head _))
    · rcases ih h with h | h | ⟨a, ha, b, hb, e⟩
      · exact .inl h
      · exact .inr (.inl (.tail _ h))
      · exact .inr (.inr ⟨a, ha, b, .tail _ hb, e⟩)
  | case5 s p u q h1 h2 h3 ih =>
    rcases ih h with h | h | ⟨a, ha, b, hb, e⟩
    · exact .inl (.tail _ h)
    · exact .inr (.inl (.tail _ h))
    · exact .inr (.inr ⟨a, .tail _ ha, b, .tail _ hb, e⟩)
  | case6 s p u q h1 h2 h3 ih =>
    rcases List.mem_cons.1 h with rfl | h
    · exact .inr (.inr ⟨s, .head _, u, .head _, rfl⟩)
    · rcases ih h with h | h | ⟨a, ha, b, hb, e⟩
      · exact .inl (.tail _ h)
      · exact .inr (.inl (.tail _ h))
      · exact .inr (.inr ⟨a, .tail _ ha, b, .tail _ hb, e⟩)
end
/-! ### numbers with a common denominator and of a bounded size -/
def BQ (D B : Nat) (q : Rat) : Prop := q.den ∣ D ∧ q.num.natAbs ≤ B * q.den
theorem mk_facts {z : Int} {m : Nat} (hm : m ≠ 0) {D B : Nat} (hd : m ∣ D * Nat.gcd z.natAbs m) (hb : z.natAbs ≤ B * m) : BQ D B (mkRat z m) := by
  have h0 : 0 < Nat.gcd z.natAbs m := Nat.gcd_pos_of_pos_right _ (Nat.pos_of_ne_zero hm)
  obtain ⟨c, hc⟩ := Nat.gcd_dvd_right z.natAbs m
  obtain ⟨a, ha⟩ := Nat.gcd_dvd_left z.natAbs m
  unfold BQ
  rw [Rat.num_mkRat, Rat.den_mkRat, if_neg hm, Nat.gcd_comm m z.natAbs]
  generalize Nat.gcd z.natAbs m = g at *
  have e1 : m / g = c := by rw [hc]; exact Nat.mul_div_cancel_left _ h0
  have e2 : (z / (g : Int)).natAbs = a := by
    rcases Int.natAbs_eq z with h | h
    · rw [h, ha, show ((g * a : Nat) : Int) = (g : Int) * (a : Int) from by simp, Int.mul_ediv_cancel_left _ (by omega)]; simp
    · rw [h, ha, show -((g * a : Nat) : Int) = (g : Int) * (-(a : Int)) from by simp [Int.mul_neg], Int.mul_ediv_cancel_left _ (by omega)]; simp
  rw [e1, if_neg hm, e2]
  constructor
  · rw [hc, Nat.mul_comm D] at hd
    exact Nat.dvd_of_mul_dvd_mul_left h0 hd
  · rw [ha, hc, show B * (g * c) = g * (B * c) from by simp only [Nat.mul_left_comm]] at hb
    exact Nat.le_of_mul_le_mul_left hb h0
theorem BQ.mono {D B E C : Nat} {q : Rat} (h : BQ D B q) (hd : D ∣ E) (hb : B ≤ C) : BQ E C q := ⟨Nat.dvd_trans h.1 hd, Nat.le_trans h.2 (Nat.mul_le_mul_right _ hb)⟩
theorem BQ.mul {D B E C : Nat} {a b : Rat} (h : BQ D B a) (k : BQ E C b) : BQ (D * E) (B * C) (a * b) := by
  rw [Rat.mul_def']
  refine mk_facts (Nat.mul_ne_zero a.den_nz b.den_nz) (Nat.dvd_trans (Nat.mul_dvd_mul h.1 k.1) (Nat.dvd_mul_right _ _)) ?_
  rw [Int.natAbs_mul]
  calc _ ≤ (B * a.den) * (C * b.den) := Nat.mul_le_mul h.2 k.2
    _ = B * C * (a.den * b.den) := by simp only [Nat.mul_assoc, Nat.mul_left_comm]
theorem BQ.add {D B C : Nat} {a b : Rat} (h : BQ D B a) (k : BQ D C b) : BQ D (B + C) (a + b) := by
  obtain ⟨x, hx⟩ := h.1
  obtain ⟨y, hy⟩ := k.1
  have e : a + b = mkRat (a.num * b.den + b.num * a.den) (a.den * b.den) := Rat.add_def' a b
  rw [e]
  refine mk_facts (Nat.mul_ne_zero a.den_nz b.den_nz) ?_ ?_
  · -- D times the numerator is a multiple of the denominators' product
    rw [← Nat.gcd_mul_left]
    refine Nat.dvd_gcd ?_ (Nat.dvd_mul_left _ _)
    have e2 : ((D * (a.num * b.den + b.num * a.den).natAbs : Nat) : Int) = ((D : Int) * (a.num * b.den + b.num * a.den)).natAbs := by
      rw [Int.natAbs_mul]; simp
    have e3 : D * (a.num * b.den + b.num * a.den).natAbs = ((D : Int) * (a.num * b.den + b.num * a.den)).natAbs := by omega
    rw [e3]
    have e4 : (D : Int) * (a.num * b.den + b.num * a.den) = ((a.den * b.den : Nat) : Int) * (x * a.num + y * b.num) := by
      have h1 : (D : Int) = a.den * x := by rw [hx]; simp
      have h2 : (D : Int) = b.den * y := by rw [hy]; simp
      rw [Int.mul_add, Int.mul_add, show ((a.den * b.den : Nat) : Int) = (a.den : Int) * b.den from by simp]
      congr 1
      · rw [h1]; simp only [Int.mul_assoc, Int.mul_left_comm, Int.mul_comm]
      · rw [h2]; simp only [Int.mul_assoc, Int.mul_left_comm, Int.mul_comm]
    rw [e4, Int.natAbs_mul, Int.natAbs_natCast]
    exact Nat.dvd_mul_right _ _
  · have h1 := h.2
    have h2 := k.2
    calc _ ≤ (a.num * b.den).natAbs + (b.num * a.den).natAbs := by omega
      _ = a.num.natAbs * b.den + b.num.natAbs * a.den := by rw [Int.natAbs_mul, Int.natAbs_mul, Int.natAbs_natCast, Int.natAbs_natCast]
      _ ≤ (B * a.den) * b.den + (C * b.den) * a.den := Nat.add_le_add (Nat.mul_le_mul_right _ h1) (Nat.mul_le_mul_right _ h2)
      _ = (B + C) * (a.den * b.den) := by rw [Nat.add_mul]; simp only [Nat.mul_assoc, Nat.mul_comm b.den]
theorem BQ.neg {D B : Nat} {a : Rat} (h : BQ D B a) : BQ D B (-a) := by
  refine ⟨h.1, ?_⟩
  show (-a.num).natAbs ≤ B * a.den
  rw [Int.natAbs_neg]; exact h.2
theorem BQ.int (z : Int) {D B : Nat} (h : z.natAbs ≤ B) : BQ D B (z : Rat) := ⟨⟨D, (Nat.one_mul D).symm⟩, by show z.natAbs ≤ B * 1; omega⟩
end Go.Pol
end

section
namespace Go.Proofs.YteiopjkamgmfpaaGreatDoor
open Go Go.RowKit Go.Pg
set_option linter.unusedSimpArgs false
set_option linter.unusedVariables false
set_option maxRecDepth 20000
attribute [local go_sem] Tryz.underlying45 Tryz.underlying3 Tryz.underlying156 Tryz.underlying115 Tryz.underlying4 Tryz.underlying47 Tryz.underlying49 Tryz.underlying34 sz3 by3 z3 szL byL zL szB zB szNat zNat szInt zInt szRat zRat
attribute [-bool_to_prop] Bool.and_eq_decide Bool.or_eq_decide Bool.decide_beq_decide decide_eq_decide

/-- A number as it comes in. -/
structure RQ where
  s : Bool
  l : List Nat
  d : List Nat
def RQ.lm (r : RQ) (k : Nat) : Prop := Lm r.l ∧ Lm r.d ∧ r.l.length ≤ k ∧ r.d.length ≤ k
abbrev RQ.av (r : RQ) : AV := .agg [.v (.bool r.s), lim r.l, lim r.d]
def RQ.zok (s : Bool) (l : List Nat) : Bool := valL l && !(s && decide (l.length = 0))
def RQ.ok (r : RQ) : Bool := RQ.zok r.s r.l && valL r.d && (Nat.gcd (nv r.l) (nv r.d) == 1) && decide (0 < r.d.length)
def RQ.q (r : RQ) : Rat := mkRat (zI r.s (nv r.l)) (nv r.d)
theorem RQ.ok_av {r : RQ} {k : Nat} (hl : r.lm k) (h : r.ok = true) : r.av = ratQ r.q ∧ Sz r.q k := by
  obtain ⟨s, l, d⟩ := r
  obtain ⟨h1, h2, h3, h4⟩ := hl
  simp only [RQ.ok, RQ.zok, Bool.and_eq_true, decide_eq_true_eq, Bool.not_eq_true', beq_iff_eq] at h
  obtain ⟨⟨⟨⟨v1, v2⟩, v3⟩, v4⟩, v5⟩ := h
  have e1 := (valL_iff h1).1 v1
  have e2 := (valL_iff h2).1 v3
  simp only [RQ.av, RQ.q] at *
  generalize nv l = n at *
  generalize nv d = m at *
  subst e1
  subst e2
  have hm : m ≠ 0 := by have := toL_len_pos.1 v5; omega
  have hs : decide (zI s n < 0) = s := by
    rw [zI_lt]
    cases s
    · rfl
    · have : (toL n).length ≠ 0 := by simpa using v2
      rw [decide_eq_true (toL_len_pos.1 (by omega))]
      rfl
  refine ⟨?_, Sz.mk (by rw [zI_natAbs]; exact h3) h4 (by omega)⟩
  rw [ratQ_mk _ _ hm, zI_natAbs, v4, Nat.div_one, Nat.div_one, hs]
theorem toL_inj {a b : Nat} : toL a = toL b ↔ a = b := ⟨fun h => by rw [← nv_toL a, h, nv_toL], fun h => by rw [h]⟩

theorem zRight (s : Bool) (l : List Nat) (hs : l.length ≤ 100000000) (hl : Lm l) : Pure Tryz.prog 104 [.agg [.v (.bool s), lim l]] (.v (.bool (RQ.zok s l))) := by
  have cv := refValid l (by omega) hl
  unfold RQ.zok
  generalize valL l = v at *
  cases v
  · refine pure_intro (tok := 0) Tryz.func104 rfl Tryz.ntmps104 Tryz.results104 Tryz.call104 (by rfl) (by simp) ?_
    (focus (refine wkvp (w_a @Bool.false_and w_t) (w_a cv w_t) ?_; (repeat' first | exact w_t | apply w_l); all_goals intros))
    simp (disch := omega) only [go_sem, Bool.false_and]
  · cases s
    · refine pure_intro (tok := 0) Tryz.func104 rfl Tryz.ntmps104 Tryz.results104 Tryz.call104 (by rfl) (by simp) ?_
      (focus (refine wkvp (w_a @Bool.false_and w_t) (w_a cv w_t) ?_; (repeat' first | exact w_t | apply w_l); all_goals intros))
      simp (disch := omega) only [go_sem, Bool.false_and]
    · by_cases h0 : l.length = 0
      · refine pure_intro (tok := 0) Tryz.func104 rfl Tryz.ntmps104 Tryz.results104 Tryz.call104 (by rfl) (by simp) ?_
        (focus (refine wkvp (w_a h0 (w_a @Int.natCast_zero w_t)) (w_a cv w_t) ?_; (repeat' first | exact w_t | apply w_l); all_goals intros))
        simp (disch := omega) only [go_sem, h0]
      · refine pure_intro (tok := 0) Tryz.func104 rfl Tryz.ntmps104 Tryz.results104 Tryz.call104 (by rfl) (by simp) ?_
        (focus (refine wkvp w_t (w_a cv w_t) ?_; (repeat' first | exact w_t | apply w_l); all_goals intros))
        simp (disch := omega) only [go_sem, h0, decide_eq_false h0]

set_option maxHeartbeats 1000000 in
theorem qRight (s : Bool) (l d : List Nat) (h1 : Lm l) (h2 : Lm d) (h3 : l.length ≤ 100000000) (h4 : d.length ≤ 100000000) : Pure Tryz.prog 46 [.agg [.v (.bool s), lim l, lim d]] (.v (.bool (RQ.ok ⟨s, l, d⟩))) := by
  have cz := zRight s l h3 h1
  have cv := refValid d (by omega) h2
  have cg := refGcd l d (by omega) (by omega) h1 h2
  have hgl : (toL (Nat.gcd (nv l) (nv d))).length ≤ 100000000 := by
    have l1 := toL_len_le h1
    have l2 := toL_len_le h2
    by_cases hd : nv d = 0
    · rw [hd, Nat.gcd_zero_right]; omega
    · exact Nat.le_trans (lg_mono (Nat.gcd_le_right _ (by omega))) (by omega)
  have cs := refSameN (toL (Nat.gcd (nv l) (nv d))) (toL 1) (by omega) (by rw [lg_one]; omega) (lm_toL _) (lm_toL _)
  rw [show decide (toL (Nat.gcd (nv l) (nv d)) = toL 1) = (Nat.gcd (nv l) (nv d) == 1) from by rw [Bool.eq_iff_iff, decide_eq_true_eq, beq_iff_eq]; exact toL_inj] at cs
  unfold RQ.ok
  generalize RQ.zok s l = v at *
  simp only
  generalize Nat.gcd (nv l) (nv d) = g at *
  cases v
  · refine pure_intro (tok := 0) Tryz.func46 rfl Tryz.ntmps46 Tryz.results46 Tryz.call46 (by rfl) (by simp) ?_
    (focus (refine wkvp (w_a @Bool.false_and w_t) (w_a cz w_t) ?_; (repeat' first | exact w_t | apply w_l); all_goals intros))
    simp (disch := omega) only [go_sem, Bool.false_and]
  · generalize valL d = v at *
    cases v
    · refine pure_intro (tok := 0) Tryz.func46 rfl Tryz.ntmps46 Tryz.results46 Tryz.call46 (by rfl) (by simp) ?_
      (focus (refine wkvp (w_a @Bool.false_and w_t) (w_a cz (w_a cv w_t)) ?_; (repeat' first | exact w_t | apply w_l); all_goals intros))
      simp (disch := omega) only [go_sem, Bool.false_and]
    · by_cases hg : g = 1
      · have hgb : (g == 1) = true := by rw [beq_iff_eq]; exact hg
        rw [hgb] at cs ⊢
        by_cases hd : 0 < d.length
        · rw [decide_eq_true hd]
          refine pure_intro (tok := 0) Tryz.func46 rfl Tryz.ntmps46 Tryz.results46 Tryz.call46 (by rfl) (by simp) ?_
          (focus (refine wkvp w_t (w_a cz (w_a cv (w_a cg (w_a (refOf 1 (by omega)) (w_a cs w_t))))) ?_; (repeat' first | exact w_t | apply w_l); all_goals intros))
          simp (disch := omega) only [go_sem]
        · rw [decide_eq_false hd]
          refine pure_intro (tok := 0) Tryz.func46 rfl Tryz.ntmps46 Tryz.results46 Tryz.call46 (by rfl) (by simp) ?_
          (focus (refine wkvp w_t (w_a cz (w_a cv (w_a cg (w_a (refOf 1 (by omega)) (w_a cs w_t))))) ?_; (repeat' first | exact w_t | apply w_l); all_goals intros))
          simp (disch := omega) only [go_sem, Bool.and_false]
      · have hgb : (g == 1) = false := by rw [beq_eq_false_iff_ne]; exact hg
        rw [hgb] at cs ⊢
        refine pure_intro (tok := 0) Tryz.func46 rfl Tryz.ntmps46 Tryz.results46 Tryz.call46 (by rfl) (by simp) ?_
        (focus (refine wkvp (w_a @Bool.and_false (w_a @Bool.false_and w_t)) (w_a cz (w_a cv (w_a cg (w_a (refOf 1 (by omega)) (w_a cs w_t))))) ?_; (repeat' first | exact w_t | apply w_l); all_goals intros))
        simp (disch := omega) only [go_sem, Bool.and_false, Bool.false_and]
end Go.Proofs.YteiopjkamgmfpaaGreatDoor
end

section
namespace Go.Proofs.YteiopjkamgmfpaaGreatDoor
open Go Go.RowKit Go.Pg
set_option linter.unusedSimpArgs false
set_option linter.unusedVariables false
set_option maxRecDepth 20000
attribute [-bool_to_prop] Bool.and_eq_decide Bool.or_eq_decide Bool.decide_beq_decide decide_eq_decide
section
variable {N n : Nat} {cs : List AV}
theorem agN16 : aggTy Tryz.prog 156 = false := by kernel_rfl
theorem cs16 : Tryz.prog.cellsOf 156 = 1 := by kernel_rfl
theorem shNat (h : Shape Tryz.prog N n 45 cs) : ∃ l : List Nat, cs = [lim l] ∧ Lm l ∧ l.length ≤ N := by
  obtain ⟨bs, rfl, hl, hq⟩ := shape_sliceOf (g := fun k : Nat => [AV.v (.int .u16 (k : Int))]) (Q := fun k => k < 65536) Tryz.underlying45 h fun m x hx => by
    obtain ⟨i, rfl, hw⟩ := shape_int Tryz.underlying156 hx
    have := wf_u16 hw
    exact ⟨i.toNat, by rw [Int.toNat_of_nonneg this.1], by omega⟩
  refine ⟨bs, ?_, hq, hl⟩
  rw [cs16]
  have : (bs.map fun b : Nat => wrapA Tryz.prog 156 [AV.v (.int .u16 (b : Int))]) = u16s bs := List.map_congr_left fun b _ => wrapA_one agN16 _
  rw [this]
theorem shInt (h : Shape Tryz.prog N n 47 cs) : ∃ (s : Bool) (l : List Nat), cs = [.v (.bool s), lim l] ∧ Lm l ∧ l.length ≤ N := by
  obtain ⟨m, rfl, hs⟩ := shape_struct Tryz.underlying47 (by kernel_rfl) h
  obtain ⟨x, y, rfl, h1, hs⟩ := hs.inv
  obtain ⟨z, y, rfl, h2, hs⟩ := hs.inv
  obtain rfl := hs.inv0
  obtain ⟨s, rfl⟩ := shape_bool Tryz.underlying4 h1
  obtain ⟨l, rfl, h3, h4⟩ := shNat h2
  exact ⟨s, l, rfl, h3, h4⟩
theorem shRat (h : Shape Tryz.prog N n 49 cs) : ∃ r : RQ, cs = [.v (.bool r.s), lim r.l, lim r.d] ∧ r.lm N := by
  obtain ⟨m, rfl, hs⟩ := shape_struct Tryz.underlying49 (by kernel_rfl) h
  obtain ⟨x, y, rfl, h1, hs⟩ := hs.inv
  obtain ⟨z, y, rfl, h2, hs⟩ := hs.inv
  obtain rfl := hs.inv0
  obtain ⟨s, l, rfl, h3, h4⟩ := shInt h1
  obtain ⟨d, rfl, h5, h6⟩ := shNat h2
  exact ⟨⟨s, l, d⟩, rfl, h3, h5, h4, h6⟩
/-- A point as it comes in. -/
structure RP where
  x : RQ
  y : RQ
abbrev RP.av (p : RP) : AV := .agg [.v (.bool p.x.s), lim p.x.l, lim p.x.d, .v (.bool p.y.s), lim p.y.l, lim p.y.d]
def RP.lm (p : RP) (k : Nat) : Prop := p.x.lm k ∧ p.y.lm k
end
end Go.Proofs.YteiopjkamgmfpaaGreatDoor
end

section
namespace Go.Proofs.YteiopjkamgmfpaaGreatDoor
open Go Go.RowKit Go.Pg Go.Pol
set_option linter.unusedSimpArgs false
set_option linter.unusedVariables false
set_option maxRecDepth 20000
attribute [-bool_to_prop] Bool.and_eq_decide Bool.or_eq_decide Bool.decide_beq_decide decide_eq_decide
/-! ### polynomials as they are kept -/
abbrev Tm := Rat × List Int
abbrev Po := List Tm
abbrev tmA (t : Tm) : AV := .agg [.v (.bool (decide (t.1.num < 0))), lim (toL t.1.num.natAbs), lim (toL t.1.den), ivs t.2]
abbrev poA (p : Po) : AV := .sl 4 (p.map tmA)
abbrev SrtM (p : Po) : Prop := Srt Can ltM p
abbrev addM (p q : Po) : Po := addP ltM p q
abbrev subM (p q : Po) : Po := subP ltM p q
abbrev mlM (p q : Po) : Po := mulR ltM mulM p q
def sclM (a : Rat) (p : Po) : Po := if a = 0 then [] else scaleP a p
/-- Coefficients of at most k limbs, monomials with exponents of at most e. -/
def PK (p : Po) (k e : Nat) : Prop := ∀ t ∈ p, Sz t.1 k ∧ t.2.length ≤ 1000 ∧ ∀ j, 0 ≤ gI t.2 j ∧ gI t.2 j ≤ (e : Int)
theorem PK.mono {p : Po} {k j e f : Nat} (h : PK p k e) (hk : k ≤ j) (he : e ≤ f) : PK p j f := fun t ht => ⟨(h t ht).1.mono hk, (h t ht).2.1, fun i => by have := (h t ht).2.2 i; omega⟩
theorem PK.sm {p : Po} {k e : Nat} (h : PK p k e) (he : e ≤ 16777216) {t : Tm} (ht : t ∈ p) : Sm t.2 := ⟨(h t ht).2.1, fun i => by have := (h t ht).2.2 i; omega⟩
theorem PK.nil {k e : Nat} : PK [] k e := fun t ht => by simp at ht
theorem PK.tail {t : Tm} {p : Po} {k e : Nat} (h : PK (t :: p) k e) : PK p k e := fun u hu => h u (.tail _ hu)
theorem PK.drop {p : Po} {k e : Nat} (h : PK p k e) (i : Nat) : PK (p.drop i) k e := fun u hu => h u (List.mem_of_mem_drop hu)
theorem PK.add {p q : Po} {j k e : Nat} (hp : PK p j e) (hq : PK q k e) : PK (addM p q) (j + k + 1) e := fun t ht => by
  rcases mem_addP' ht with h | h | ⟨s, hs, u, hu, rfl⟩
  · exact ⟨(hp t h).1.mono (by omega), (hp t h).2⟩
  · exact ⟨(hq t h).1.mono (by omega), (hq t h).2⟩
  · exact ⟨(hp s hs).1.add (hq u hu).1, (hp s hs).2⟩
theorem PK.scale {p : Po} {j k e : Nat} {a : Rat} (hp : PK p j e) (ha : Sz a k) : PK (scaleP a p) (j + k) e := fun t ht => by
  obtain ⟨s, hs, rfl⟩ := List.mem_map.1 ht
  exact ⟨(hp s hs).1.mul ha, (hp s hs).2⟩
theorem PK.times {p : Po} {t : Tm} {j k e f : Nat} (hp : PK p j e) (ht : PK [t] k f) : PK (timesP mulM p t) (j + k) (e + f) := fun u hu => by
  obtain ⟨s, hs, rfl⟩ := List.mem_map.1 hu
  have h1 := hp s hs
  have h2 := ht t (.head _)
  refine ⟨h1.1.mul h2.1, by rw [mulM_len]; have := h1.2.1; have := h2.2.1; omega, fun i => ?_⟩
  show 0 ≤ gI (mulM s.2 t.2) i ∧ gI (mulM s.2 t.2) i ≤ _
  rw [gI_zip _ rfl]
  have := h1.2.2 i
  have := h2.2.2 i
  omega
theorem lexM_cases {a b : List Int} (ha : Can a) (hb : Can b) : (ltM a b ∧ lexC a b (max a.length b.length) = -1) ∨ (¬ ltM a b ∧ ¬ ltM b a ∧ a = b ∧ lexC a b (max a.length b.length) = 0) ∨ (ltM b a ∧ ¬ ltM a b ∧ lexC a b (max a.length b.length) = 1) := by
  rcases @lexC_three a b (max a.length b.length) with ⟨h, h2⟩ | h | h
  · have e : a = b := can_ext ha hb fun j => by
      by_cases hj : j < max a.length b.length
      · exact h2 j hj
      · rw [gI_out (by omega), gI_out (by omega)]
    refine .inr (.inl ⟨?_, ?_, e, h⟩)
    · unfold ltM; rw [h]; decide
    · subst e; unfold ltM; rw [h]; decide
  · exact .inl ⟨h, h⟩
  · have h3 : ltM b a := by unfold ltM; rw [Nat.max_comm, lexC_neg, h]
    refine .inr (.inr ⟨h3, ?_, h⟩)
    unfold ltM; rw [h]; decide
theorem trim_can {l : List Int} (h : Can l) : trimI l = l := by
  unfold trimI
  rcases h.2 with h0 | h0
  · have : l = [] := List.length_eq_zero_iff.1 h0
    subst this; rfl
  · rcases Nat.eq_zero_or_pos l.length with h1 | h1
    · have : l = [] := List.length_eq_zero_iff.1 h1
      subst this; rfl
    · rw [trimN_stop h1 h0, List.take_length]
theorem can_nil : Can [] := ⟨fun j => by rw [gI_out (Nat.zero_le _)]; omega, .inl rfl⟩
theorem mulM_nil (a : List Int) : mulM a [] = a := by
  refine List.ext_getElem (by rw [mulM_len]; simp) fun j h1 h2 => ?_
  have := gI_zip (· + ·) rfl a [] j
  rw [gI_at h1, gI_at h2, gI_out (Nat.zero_le _), Int.add_zero] at this
  exact this
theorem nil_mulM (a : List Int) : mulM [] a = a := by rw [mulK.comm]; exact mulM_nil a
theorem times_unit (p : Po) (a : Rat) : timesP mulM p (a, []) = scaleP a p := by
  unfold timesP scaleP
  exact List.map_congr_left fun s _ => by rw [mulM_nil]
/-! ### variables -/
def unitM (v : Nat) : List Int := List.replicate v 0 ++ [1]
theorem unitM_len (v : Nat) : (unitM v).length = v + 1 := by simp [unitM]
theorem gI_unit (v j : Nat) : gI (unitM v) j = if j = v then 1 else 0 := by
  by_cases h : j < v + 1
  · rw [gI_at (by rw [unitM_len]; exact h)]
    unfold unitM
    rw [List.getElem_append]
    by_cases hj : j < v
    · rw [dif_pos (by simpa using hj), List.getElem_replicate, if_neg (by omega)]
    · rw [dif_neg (by simpa using hj), if_pos (by omega)]; simp
  · rw [gI_out (by rw [unitM_len]; omega), if_neg (by omega)]
theorem can_unit (v : Nat) : Can (unitM v) := by
  refine ⟨fun j => by rw [gI_unit]; split <;> omega, .inr ?_⟩
  rw [unitM_len, gI_unit, if_pos (by omega)]; omega
def varM (v : Nat) : Po := if v < 64 then [(1, unitM v)] else []
theorem varM_srt (v : Nat) : SrtM (varM v) := by
  unfold varM
  split
  · exact Srt.nil.cons (by show (1 : Rat) ≠ 0; decide) (can_unit v) (by simp)
  · exact .nil
theorem varM_pk (v : Nat) : PK (varM v) 1 1 := by
  unfold varM
  split
  · intro t ht
    rw [List.mem_singleton] at ht
    subst ht
    refine ⟨nat_sz1 1 (by omega), by show (unitM v).length ≤ 1000; rw [unitM_len]; omega, fun j => ?_⟩
    show 0 ≤ gI (unitM v) j ∧ gI (unitM v) j ≤ _
    rw [gI_unit]; split <;> omega
  · exact .nil
/-- The program's and the reference's products of a number. -/
theorem mul_const {r : Rat} (hr : r ≠ 0) {q : Po} (hq : SrtM q) : mlM [(r, [])] q = scaleP r q := mulR_unit ordM mulK nil_mulM can_nil hr hq
end Go.Proofs.YteiopjkamgmfpaaGreatDoor
end

section
namespace Go.Proofs.YteiopjkamgmfpaaGreatDoor
open Go Go.RowKit Go.Pg Go.Pol
set_option linter.unusedSimpArgs false
set_option linter.unusedVariables false
set_option maxRecDepth 20000
attribute [-bool_to_prop] Bool.and_eq_decide Bool.or_eq_decide Bool.decide_beq_decide decide_eq_decide
/-! ### figures as they come in -/
structure RS where
  k : Int
  nm : ByteArray
  ar : List Int
  r : RQ
structure RG where
  k : Int
  ar : List Int
  r : RQ
abbrev RS.av (s : RS) : AV := .agg [iv s.k, strA s.nm, ivs s.ar, .v (.bool s.r.s), lim s.r.l, lim s.r.d]
abbrev RG.av (g : RG) : AV := .agg [iv g.k, ivs g.ar, .v (.bool g.r.s), lim g.r.l, lim g.r.d]
abbrev figA (ss : List RS) (gs : List RG) : AV := .agg [.sl 6 (ss.map RS.av), .sl 5 (gs.map RG.av)]
def RQ.none (r : RQ) : Bool := !r.s && (decide (r.l.length = 0) && decide (r.d.length = 0))
/-! ### frames that grow -/
structure FS where
  cs : List (Po × Po)
  vs : List Vt
  fr : Nat
abbrev coA (c : Po × Po) : AV := .agg [poA c.1, poA c.2]
def FS.at (f : FS) (s : RS) (k : Nat) : Po × Po := f.cs.getD (gI s.ar k).toNat ([], [])
/-- The new variables of a step, and the coordinates of its point. -/
def FS.nxt (f : FS) (i : Nat) (s : RS) : List Vt × (Po × Po) :=
  let v := f.vs.length
  let a := f.at s 0
  let b := f.at s 1
  let c := f.at s 2
  if s.k = 1 then
    (if f.fr = 0 then ([], ([], []))
     else if f.fr = 1 then ([(1, (i : Int), 0)], (varM v, []))
     else ([(1, (i : Int), 0), (1, (i : Int), 1)], (varM v, varM (v + 1))))
  else if s.k = 2 then ([], (addM a.1 (sclM s.r.q (subM b.1 a.1)), addM a.2 (sclM s.r.q (subM b.2 a.2))))
  else if s.k = 3 then ([], (addM a.1 (subM c.1 b.1), addM a.2 (subM c.2 b.2)))
  else if s.k = 4 then ([], (addM a.1 (subM b.2 c.2), addM a.2 (subM c.1 b.1)))
  else if s.k = 5 then ([(1, (i : Int), 0)], (addM a.1 (mlM (subM b.1 a.1) (varM v)), addM a.2 (mlM (subM b.2 a.2) (varM v))))
  else if s.k = 6 then ([(1, (i : Int), 0), (2, (i : Int), 1), (2, (i : Int), 2)], (varM (v + 1), varM (v + 2)))
  else ([(2, (i : Int), 0), (2, (i : Int), 1)], (varM v, varM (v + 1)))
def FS.push (f : FS) (i : Nat) (s : RS) : FS := ⟨f.cs ++ [(f.nxt i s).2], f.vs ++ (f.nxt i s).1, if s.k = 1 then f.fr + 1 else f.fr⟩
def frN (ss : List RS) : Nat → FS
  | 0 => ⟨[], [], 0⟩
  | i + 1 => (frN ss i).push i (ss.getD i ⟨0, .empty, [], ⟨false, [], []⟩⟩)
/-- The i-th step makes too much. -/
def bigN (ss : List RS) (i : Nat) : Bool :=
  decide (64 < (frN ss (i + 1)).vs.length) || decide (4000 < ((frN ss i).nxt i (ss.getD i ⟨0, .empty, [], ⟨false, [], []⟩⟩)).2.1.length) || decide (4000 < ((frN ss i).nxt i (ss.getD i ⟨0, .empty, [], ⟨false, [], []⟩⟩)).2.2.length)
theorem frN_len (ss : List RS) : ∀ i, (frN ss i).cs.length = i
  | 0 => rfl
  | i + 1 => by show ((frN ss i).cs ++ [_]).length = i + 1; rw [List.length_append, frN_len ss i]; rfl
/-! ### what frames are made of -/
def BB (n : Nat) : Nat := 65536 ^ (3 * n)
theorem BB_pos (n : Nat) : 1 ≤ BB n := Nat.one_le_pow _ _ (by omega)
theorem BB_succ (n : Nat) : BB (n + 1) = BB n * 65536 ^ 3 := by unfold BB; rw [← Nat.pow_add]; rfl
/-- Good polynomials: denominators that divide D, numbers of a bounded size, at most v variables, to the first power. -/
def GP (n D v : Nat) (p : Po) : Prop := SrtM p ∧ ∀ t ∈ p, BQ D (BB n) t.1 ∧ t.2.length ≤ v ∧ ∀ j, gI t.2 j ≤ 1
theorem GP.nil {n D v : Nat} : GP n D v [] := ⟨.nil, fun t h => by simp at h⟩
theorem GP.mono {n D v m E w : Nat} {p : Po} (h : GP n D v p) (hn : n ≤ m) (hd : D ∣ E) (hv : v ≤ w) : GP m E w p :=
  ⟨h.1, fun t ht => ⟨(h.2 t ht).1.mono hd (Nat.pow_le_pow_right (by omega) (by omega)), by have := (h.2 t ht).2.1; omega, (h.2 t ht).2.2⟩⟩
theorem bq_sz {D B d b : Nat} {q : Rat} (h : BQ D B q) (h0 : D ≠ 0) (hd : D < 65536 ^ d) (hb : B < 65536 ^ b) : Sz q (d + b) := by
  have h1 : q.den ≤ D := Nat.le_of_dvd (Nat.pos_of_ne_zero h0) h.1
  refine ⟨toL_len_lt.2 ?_, Nat.le_trans (toL_len_lt.2 (Nat.lt_of_le_of_lt h1 hd)) (by omega)⟩
  have hp : 0 < q.den := q.den_pos
  calc q.num.natAbs ≤ B * q.den := h.2
    _ ≤ B * D := Nat.mul_le_mul_left _ h1
    _ < 65536 ^ b * 65536 ^ d := Nat.mul_lt_mul_of_lt_of_lt hb hd
    _ = 65536 ^ (d + b) := by rw [Nat.mul_comm, ← Nat.pow_add]
theorem GP.pk {n D v : Nat} {p : Po} (h : GP n D v p) (hv : v ≤ 1000) (h0 : D ≠ 0) (hd : D < 65536 ^ (2 * n + 1)) (hn : n ≤ 20) : PK p 110 1 := fun t ht => by
  obtain ⟨h1, h2, h3⟩ := h.2 t ht
  refine ⟨(bq_sz (b := 3 * n + 1) h1 h0 hd (by unfold BB; exact Nat.pow_lt_pow_right (by omega) (by omega))).mono (by omega), by omega, fun j => ⟨(h.1.1 t ht).2.1 j, h3 j⟩⟩
/-- The same with another bound of the numbers. -/
def GB (B D v : Nat) (p : Po) : Prop := SrtM p ∧ ∀ t ∈ p, BQ D B t.1 ∧ t.2.length ≤ v ∧ ∀ j, gI t.2 j ≤ 1
theorem GB.mono {B D v C E w : Nat} {p : Po} (h : GB B D v p) (hn : B ≤ C) (hd : D ∣ E) (hv : v ≤ w) : GB C E w p :=
  ⟨h.1, fun t ht => ⟨(h.2 t ht).1.mono hd hn, by have := (h.2 t ht).2.1; omega, (h.2 t ht).2.2⟩⟩
theorem GB.add {B C D v : Nat} {p q : Po} (h : GB B D v p) (k : GB C D v q) : GB (B + C) D v (addM p q) := by
  refine ⟨addP_srt ordM h.1 k.1, fun t ht => ?_⟩
  rcases mem_addP' ht with h1 | h1 | ⟨s, hs, u, hu, rfl⟩
  · exact ⟨(h.2 t h1).1.mono (Nat.dvd_refl _) (by omega), (h.2 t h1).2⟩
  · exact ⟨(k.2 t h1).1.mono (Nat.dvd_refl _) (by omega), (k.2 t h1).2⟩
  · exact ⟨(h.2 s hs).1.add (k.2 u hu).1, (h.2 s hs).2⟩
theorem GB.neg {B D v : Nat} {p : Po} (h : GB B D v p) : GB B D v (scaleP (-1) p) := by
  refine ⟨scale_srt h.1 neg1, fun t ht => ?_⟩
  obtain ⟨s, hs, rfl⟩ := List.mem_map.1 ht
  refine ⟨?_, (h.2 s hs).2⟩
  have e : s.1 * -1 = -s.1 := by grind
  show BQ D B (s.1 * -1)
  rw [e]; exact (h.2 s hs).1.neg
theorem GB.sub {B C D v : Nat} {p q : Po} (h : GB B D v p) (k : GB C D v q) : GB (B + C) D v (subM p q) := h.add k.neg
theorem GB.scl {B C D E v : Nat} {p : Po} {a : Rat} (h : GB B D v p) (ha : BQ E C a) : GB (B * C) (D * E) v (sclM a p) := by
  unfold sclM
  split
  · exact ⟨.nil, fun t h => by simp at h⟩
  · rename_i h0
    refine ⟨scale_srt h.1 h0, fun t ht => ?_⟩
    obtain ⟨s, hs, rfl⟩ := List.mem_map.1 ht
    exact ⟨(h.2 s hs).1.mul ha, (h.2 s hs).2⟩
theorem mul_var (p : Po) (v : Nat) : mlM p (varM v) = if v < 64 then timesP mulM p (1, unitM v) else [] := by
  unfold varM
  split
  · show addP ltM [] (timesP mulM p (1, unitM v)) = _
    simp [addP]
  · rfl
theorem GB.var {B D v : Nat} {p : Po} (h : GB B D v p) : GB B D (v + 1) (mlM p (varM v)) := by
  refine ⟨mulR_srt ordM mulK h.1 (varM_srt v), fun t ht => ?_⟩
  rw [mul_var] at ht
  split at ht
  · obtain ⟨s, hs, rfl⟩ := List.mem_map.1 ht
    obtain ⟨h1, h2, h3⟩ := h.2 s hs
    refine ⟨by show BQ D B (s.1 * 1); rw [Rat.mul_one]; exact h1, by show (mulM s.2 (unitM v)).length ≤ v + 1; rw [mulM_len, unitM_len]; omega, fun j => ?_⟩
    show gI (mulM s.2 (unitM v)) j ≤ 1
    rw [gI_zip _ rfl, gI_unit]
    split
    · rename_i hj
      rw [gI_out (by omega)]; omega
    · have := h3 j; omega
  · simp at ht
theorem GB.one {B D v w : Nat} (hB : 1 ≤ B) (h : v < w) : GB B D w (varM v) := by
  refine ⟨varM_srt v, fun t ht => ?_⟩
  unfold varM at ht
  split at ht
  · rw [List.mem_singleton] at ht
    subst ht
    refine ⟨BQ.int 1 (by simpa using hB), by show (unitM v).length ≤ w; rw [unitM_len]; omega, fun j => ?_⟩
    show gI (unitM v) j ≤ 1
    rw [gI_unit]; split <;> omega
  · simp at ht
theorem GB.nil {B D v : Nat} : GB B D v [] := ⟨.nil, fun t h => by simp at h⟩
/-- A frame in good order: n steps that are not free so far. -/
structure FI (f : FS) (n D : Nat) : Prop where
  D0 : D ≠ 0
  Dl : D < 65536 ^ (2 * n + 1)
  nv : f.vs.length ≤ 64
  cs : ∀ c ∈ f.cs, GP n D f.vs.length c.1 ∧ GP n D f.vs.length c.2
  ln : ∀ c ∈ f.cs, c.1.length ≤ 4000 ∧ c.2.length ≤ 4000
theorem FI.at {f : FS} {n D : Nat} (h : FI f n D) (s : RS) (k : Nat) : (GP n D f.vs.length (f.at s k).1 ∧ GP n D f.vs.length (f.at s k).2) ∧ (f.at s k).1.length ≤ 4000 ∧ (f.at s k).2.length ≤ 4000 := by
  unfold FS.at
  by_cases hk : (gI s.ar k).toNat < f.cs.length
  · have := getD_mem (d := (([], []) : Po × Po)) hk
    exact ⟨h.cs _ this, h.ln _ this⟩
  · rw [List.getD_eq_getElem?_getD, List.getElem?_eq_none (by omega)]
    exact ⟨⟨.nil, .nil⟩, by simp, by simp⟩
/-- The ratio of a step is small. -/
def RQ.bd (r : RQ) : Prop := r.ok = true → r.q.den < 65536 ^ 2 ∧ r.q.num.natAbs < 65536 ^ 2
theorem lm_bd {r : RQ} (h : r.lm 2) : r.bd := fun ho => by
  obtain ⟨-, h1, h2⟩ := RQ.ok_av h ho
  exact ⟨toL_len_lt.1 h2, toL_len_lt.1 h1⟩
theorem FI.nxt {f : FS} {n D : Nat} (h : FI f n D) (i : Nat) (s : RS) (hr : s.k = 2 → s.r.ok = true) (hb : s.r.bd) :
    ∃ E, E ≠ 0 ∧ D ∣ E ∧ E < 65536 ^ (2 * (n + if s.k = 1 then 0 else 1) + 1) ∧
      GP (n + if s.k = 1 then 0 else 1) E (f.vs ++ (f.nxt i s).1).length (f.nxt i s).2.1 ∧ GP (n + if s.k = 1 then 0 else 1) E (f.vs ++ (f.nxt i s).1).length (f.nxt i s).2.2 := by
  obtain ⟨⟨a1, a2⟩, -⟩ := h.at s 0
  obtain ⟨⟨b1, b2⟩, -⟩ := h.at s 1
  obtain ⟨⟨c1, c2⟩, -⟩ := h.at s 2
  have hB := BB_pos n
  have hS := BB_succ n
  unfold FS.nxt
  simp only
  have one : ∀ v w, v < w → GP n D w (varM v) := fun v w hv => GB.one hB hv
  have up : ∀ {E v : Nat} {p : Po} {C : Nat}, GB C E v p → C ≤ BB n * 65536 ^ 3 → GP (n + 1) E v p := fun h hc => GB.mono h (by rw [hS]; exact hc) (Nat.dvd_refl _) (Nat.le_refl _)
  have dl : D < 65536 ^ (2 * (n + 1) + 1) := Nat.lt_of_lt_of_le h.Dl (Nat.pow_le_pow_right (by omega) (by omega))
  have b3 : BB n + (BB n + BB n) ≤ BB n * 65536 ^ 3 := by
    have : BB n * 3 ≤ BB n * 65536 ^ 3 := Nat.mul_le_mul_left _ (by decide)
    omega
  by_cases k1 : s.k = 1
  · rw [if_pos k1, if_pos k1]
    refine ⟨D, h.D0, Nat.dvd_refl _, h.Dl, ?_⟩
    split
    · exact ⟨.nil, .nil⟩
    · split
      · exact ⟨one _ _ (by simp), .nil⟩
      · exact ⟨one _ _ (by simp), one _ _ (by simp)⟩
  · rw [if_neg k1, if_neg k1]
    by_cases k2 : s.k = 2
    · rw [if_pos k2]
      obtain ⟨h1, h2⟩ := hb (hr k2)
      refine ⟨D * s.r.q.den, Nat.mul_ne_zero h.D0 s.r.q.den_nz, Nat.dvd_mul_right _ _, ?_, ?_⟩
      · calc D * s.r.q.den < 65536 ^ (2 * n + 1) * 65536 ^ 2 := Nat.mul_lt_mul_of_lt_of_lt h.Dl h1
          _ = 65536 ^ (2 * (n + 1) + 1) := by rw [← Nat.pow_add]; congr 1
      · have hq : BQ s.r.q.den (65536 ^ 2) s.r.q := ⟨Nat.dvd_refl _, by have := s.r.q.den_pos; have := Nat.le_mul_of_pos_right (65536 ^ 2) this; omega⟩
        have bd : BB n + (BB n + BB n) * 65536 ^ 2 ≤ BB n * 65536 ^ 3 := by
          have e1 : (BB n + BB n) * 65536 ^ 2 = BB n * (2 * 65536 ^ 2) := by rw [← Nat.mul_two, Nat.mul_assoc]
          rw [e1]
          have : BB n * (1 + 2 * 65536 ^ 2) ≤ BB n * 65536 ^ 3 := Nat.mul_le_mul_left _ (by decide)
          omega
        rw [List.append_nil]
        exact ⟨up ((GB.mono a1 (Nat.le_refl _) (Nat.dvd_mul_right _ _) (Nat.le_refl _)).add ((GB.sub b1 a1).scl hq)) bd, up ((GB.mono a2 (Nat.le_refl _) (Nat.dvd_mul_right _ _) (Nat.le_refl _)).add ((GB.sub b2 a2).scl hq)) bd⟩
    · rw [if_neg k2]
      refine ⟨D, h.D0, Nat.dvd_refl _, dl, ?_⟩
      have one' : ∀ v w, v < w → GP (n + 1) D w (varM v) := fun v w hv => GB.one (BB_pos _) hv
      by_cases k3 : s.k = 3
      · rw [if_pos k3, List.append_nil]
        exact ⟨up (GB.add a1 (GB.sub c1 b1)) b3, up (GB.add a2 (GB.sub c2 b2)) b3⟩
      · rw [if_neg k3]
        by_cases k4 : s.k = 4
        · rw [if_pos k4, List.append_nil]
          exact ⟨up (GB.add a1 (GB.sub b2 c2)) b3, up (GB.add a2 (GB.sub c1 b1)) b3⟩
        · rw [if_neg k4]
          by_cases k5 : s.k = 5
          · rw [if_pos k5]
            have e : (f.vs ++ [(1, (i : Int), 0)]).length = f.vs.length + 1 := by simp
            rw [e]
            exact ⟨up (GB.add (GB.mono a1 (Nat.le_refl _) (Nat.dvd_refl _) (by omega)) (GB.sub b1 a1).var) b3, up (GB.add (GB.mono a2 (Nat.le_refl _) (Nat.dvd_refl _) (by omega)) (GB.sub b2 a2).var) b3⟩
          · rw [if_neg k5]
            by_cases k6 : s.k = 6
            · rw [if_pos k6]
              exact ⟨one' _ _ (by simp), one' _ _ (by simp)⟩
            · rw [if_neg k6]
              exact ⟨one' _ _ (by simp), one' _ _ (by simp)⟩
/-- How many of the first steps are not free. -/
def nfN (ss : List RS) : Nat → Nat
  | 0 => 0
  | i + 1 => nfN ss i + if (ss.getD i ⟨0, .empty, [], ⟨false, [], []⟩⟩).k = 1 then 0 else 1
theorem frN_ok (ss : List RS) (hr : ∀ s ∈ ss, s.k = 2 → s.r.ok = true) (hb : ∀ s ∈ ss, s.r.bd) : ∀ i, i ≤ ss.length → (∀ j, j < i → bigN ss j = false) → ∃ D, FI (frN ss i) (nfN ss i) D
  | 0, _, _ => ⟨1, by omega, by show 1 < 65536 ^ (2 * 0 + 1); decide, Nat.zero_le _, fun c h => by simp [frN] at h, fun c h => by simp [frN] at h⟩
  | i + 1, hi, hj => by
    obtain ⟨D, hD⟩ := frN_ok ss hr hb i (by omega) fun j h => hj j (by omega)
    have hbig := hj i (by omega)
    unfold bigN at hbig
    simp only [Bool.or_eq_false_iff, decide_eq_false_iff_not, Nat.not_lt] at hbig
    have hm : ss.getD i ⟨0, .empty, [], ⟨false, [], []⟩⟩ ∈ ss := getD_mem (by omega)
    have hs1 := hr _ hm
    have hs2 := hb _ hm
    unfold nfN
    show ∃ D, FI ((frN ss i).push i (ss.getD i ⟨0, .empty, [], ⟨false, [], []⟩⟩)) _ D
    have hv := hbig.1.1
    unfold frN at hv
    generalize ss.getD i ⟨0, .empty, [], ⟨false, [], []⟩⟩ = s at *
    obtain ⟨E, e0, e1, e2, g1, g2⟩ := hD.nxt i s hs1 hs2
    refine ⟨E, e0, e2, hv, fun c hc => ?_, fun c hc => ?_⟩
    · rcases List.mem_append.1 hc with h1 | h1
      · obtain ⟨k1, k2⟩ := hD.cs c h1
        have hl : (frN ss i).vs.length ≤ ((frN ss i).push i s).vs.length := by show _ ≤ ((frN ss i).vs ++ ((frN ss i).nxt i s).1).length; rw [List.length_append]; omega
        exact ⟨k1.mono (by omega) e1 hl, k2.mono (by omega) e1 hl⟩
      · rw [List.mem_singleton] at h1
        subst h1
        exact ⟨g1, g2⟩
    · rcases List.mem_append.1 hc with h1 | h1
      · exact hD.ln c h1
      · rw [List.mem_singleton] at h1
        subst h1
        exact ⟨hbig.1.2, hbig.2⟩
end Go.Proofs.YteiopjkamgmfpaaGreatDoor
end

section
/- The engine, part Z: a caller's memory as its callee sees it, its names moved everywhere; boxes that hold a nil slice. -/
namespace Go.Pg
open Go Go.RowKit
set_option linter.unusedSimpArgs false
set_option linter.unusedVariables false
mutual
def AV.sh : AV → AV
  | .agg cs => .agg (AV.shL cs)
  | .tup cs => .tup (AV.shL cs)
  | .fn f cs => .fn f (AV.shL cs)
  | .ifc t x => .ifc t (AV.sh x)
  | .own k sv => .own (k + 1000) sv
  | .prow k sv m i off => .prow (k + 1000) sv m i off
  | .pbox k g off => .pbox (k + 1000) g off
  | .view k sv m i len => .view (k + 1000) sv m i len
  | .mp k g => .mp (k + 1000) g
  | .v x => .v x
  | .sl m es => .sl m es
  | .pimm cs => .pimm cs
  | .u => .u
def AV.shL : List AV → List AV
  | [] => []
  | a :: r => AV.sh a :: AV.shL r
end
theorem AV.shL_len : ∀ (l : List AV), (AV.shL l).length = l.length
  | [] => rfl
  | a :: r => by simp only [AV.shL, List.length_cons, AV.shL_len r]
theorem AV.shL_at : ∀ (l : List AV) (j : Nat), (AV.shL l)[j]? = (l[j]?).map AV.sh
  | [], j => by simp [AV.shL]
  | a :: r, 0 => by simp [AV.shL]
  | a :: r, j + 1 => by simp only [AV.shL, List.getElem?_cons_succ]; exact AV.shL_at r j
theorem AV.sh_one (a : AV) : a.sh.one = a.one := by cases a <;> simp only [AV.sh] <;> rfl
theorem Sub.agg (aS bs : List AV) (hl : aS.length = bs.length) (h : ∀ (j : Nat) (a b : AV), aS[j]? = some a → bs[j]? = some b → Sub a b) : Sub (.agg aS) (.agg bs) := fun w imm x hx => by
  obtain ⟨vs, rfl, h1, h2⟩ := hx.agg_inv
  refine .agg _ _ (by omega) fun j b y hb hy => ?_
  have hj : j < aS.length := by rw [hl]; exact (List.getElem?_eq_some_iff.1 hb).1
  exact h j aS[j] b (List.getElem?_eq_getElem hj) hb w imm y (h2 j aS[j] y (List.getElem?_eq_getElem hj) hy)
theorem Sub.fn (f : FuncId) (aS bs : List AV) (hl : aS.length = bs.length) (h : ∀ (j : Nat) (a b : AV), aS[j]? = some a → bs[j]? = some b → Sub a b) : Sub (.fn f aS) (.fn f bs) := fun w imm x hx => by
  obtain ⟨vs, rfl, h1, h2⟩ := hx.fn_inv
  refine .fn _ _ _ (by omega) fun j b y hb hy => ?_
  have hj : j < aS.length := by rw [hl]; exact (List.getElem?_eq_some_iff.1 hb).1
  exact h j aS[j] b (List.getElem?_eq_getElem hj) hb w imm y (h2 j aS[j] y (List.getElem?_eq_getElem hj) hy)
theorem Sub.ifc (t : TypeId) {a b : AV} (h : Sub a b) : Sub (.ifc t a) (.ifc t b) := fun w imm x hx => by
  obtain ⟨y, rfl, h1⟩ := hx.ifc_inv
  exact .ifc _ _ _ (h w imm y h1)
mutual
theorem AV.sub_sh : ∀ (a : AV), Sub a a.sh ∧ Sub a.sh a
  | .agg cs => by
    have h := AV.subL_sh cs
    refine ⟨Sub.agg _ _ (AV.shL_len cs).symm fun j a b h1 h2 => ?_, Sub.agg _ _ (AV.shL_len cs) fun j a b h1 h2 => ?_⟩
    · rw [AV.shL_at, h1] at h2; cases h2; exact (h a (List.mem_of_getElem? h1)).1
    · rw [AV.shL_at, h2] at h1; cases h1; exact (h b (List.mem_of_getElem? h2)).2
  | .tup cs => by
    have h := AV.subL_sh cs
    refine ⟨Sub.tup _ _ (AV.shL_len cs).symm fun j a b h1 h2 => ?_, Sub.tup _ _ (AV.shL_len cs) fun j a b h1 h2 => ?_⟩
    · rw [AV.shL_at, h1] at h2; cases h2; exact (h a (List.mem_of_getElem? h1)).1
    · rw [AV.shL_at, h2] at h1; cases h1; exact (h b (List.mem_of_getElem? h2)).2
  | .fn f cs => by
    have h := AV.subL_sh cs
    refine ⟨Sub.fn _ _ _ (AV.shL_len cs).symm fun j a b h1 h2 => ?_, Sub.fn _ _ _ (AV.shL_len cs) fun j a b h1 h2 => ?_⟩
    · rw [AV.shL_at, h1] at h2; cases h2; exact (h a (List.mem_of_getElem? h1)).1
    · rw [AV.shL_at, h2] at h1; cases h1; exact (h b (List.mem_of_getElem? h2)).2
  | .ifc t x => ⟨Sub.ifc t (AV.sub_sh x).1, Sub.ifc t (AV.sub_sh x).2⟩
  | .own k sv => ⟨Sub.own _ _ _, Sub.own _ _ _⟩
  | .prow k sv m i off => ⟨Sub.prow _ _ _ _ _ _, Sub.prow _ _ _ _ _ _⟩
  | .pbox k g off => ⟨Sub.pbox _ _ _ _, Sub.pbox _ _ _ _⟩
  | .view k sv m i len => ⟨Sub.view _ _ _ _ _ _, Sub.view _ _ _ _ _ _⟩
  | .mp k g => ⟨Sub.mp _ _ _, Sub.mp _ _ _⟩
  | .v x => ⟨Sub.refl _, Sub.refl _⟩
  | .sl m es => ⟨Sub.refl _, Sub.refl _⟩
  | .pimm cs => ⟨Sub.refl _, Sub.refl _⟩
  | .u => ⟨Sub.refl _, Sub.refl _⟩
theorem AV.subL_sh : ∀ (l : List AV) (a : AV), a ∈ l → Sub a a.sh ∧ Sub a.sh a
  | [], a, h => by simp at h
  | b :: r, a, h => by
    by_cases e : a = b
    · rw [e]; exact AV.sub_sh b
    · exact AV.subL_sh r a ((List.mem_cons.1 h).resolve_left e)
end
def Ent.sh : Ent → Ent
  | .row sv e m es pub => .row sv e m es pub
  | .box g e cs pub => .box g e (AV.shL cs) pub
  | .map g es => .map g es
theorem Ent.sh_blk (e : Ent) : e.sh.blk = e.blk := by cases e <;> rfl
theorem Ent.sh_ok {B : Nat} {w : World} {imm : Imm} {e : Ent} (h : EntOk B w imm e) : EntOk B w imm e.sh := by
  cases e with
  | row => exact h
  | box g e cs pub =>
    obtain ⟨cur, h1, h2, h3, h4, h5, h6, h7⟩ := h
    refine ⟨cur, h1, h2, by rw [AV.shL_len]; exact h3, fun x hx => ?_, fun j a x ha hx => ?_, h6, fun hp off ho => h7 hp off (by rw [AV.shL_len] at ho; exact ho)⟩
    · obtain ⟨j, hj⟩ := List.mem_iff_getElem?.1 hx
      rw [AV.shL_at] at hj
      obtain ⟨y, hy, rfl⟩ := Option.map_eq_some_iff.1 hj
      rw [AV.sh_one]; exact h4 y (List.mem_of_getElem? hy)
    · rw [AV.shL_at] at ha
      obtain ⟨y, hy, rfl⟩ := Option.map_eq_some_iff.1 ha
      exact (AV.sub_sh y).1 w imm x (h5 j y x hy hx)
  | map => exact h
theorem Ent.of_sh {B : Nat} {w : World} {imm : Imm} {e : Ent} (h : EntOk B w imm e.sh) : EntOk B w imm e := by
  cases e with
  | row => exact h
  | box g e cs pub =>
    obtain ⟨cur, h1, h2, h3, h4, h5, h6, h7⟩ := h
    refine ⟨cur, h1, h2, by rw [AV.shL_len] at h3; exact h3, fun x hx => ?_, fun j a x ha hx => ?_, h6, fun hp off ho => h7 hp off (by rw [AV.shL_len]; exact ho)⟩
    · obtain ⟨j, hj⟩ := List.mem_iff_getElem?.1 hx
      have h8 := h4 x.sh (List.mem_of_getElem? (i := j) (by rw [AV.shL_at, hj]; rfl))
      rw [AV.sh_one] at h8; exact h8
    · exact (AV.sub_sh a).2 w imm x (h5 j a.sh x (by rw [AV.shL_at, ha]; rfl) hx)
  | map => exact h
/-- A caller's memory, its names moved out of the way of the callee's own, in what it holds too. -/
def lents (σ : Mem) : Mem := fun k => if k < 1000 then none else (σ (k - 1000)).map Ent.sh
theorem lents_at {σ : Mem} {k : Nat} {e : Ent} (h : σ k = some e) : lents σ (k + 1000) = some e.sh := by
  unfold lents
  rw [if_neg (by omega), Nat.add_sub_cancel, h]; rfl
theorem lents_lt {σ : Mem} {k : Nat} (h : k < 1000) : lents σ k = none := by unfold lents; rw [if_pos h]
/-- A callee's memory holds its caller's, moved. -/
def Agr (m σ : Mem) : Prop := ∀ k, m (k + 1000) = (σ k).map Ent.sh
theorem Agr.start (σ : Mem) : Agr (lents σ) σ := fun k => by unfold lents; rw [if_neg (by omega), Nat.add_sub_cancel]
theorem Agr.own {m σ : Mem} (h : Agr m σ) {t : Nat} {x : Option Ent} (ht : t < 1000) : Agr (upd m t x) σ := fun k => by
  rw [upd_at, if_neg (by omega)]; exact h k
theorem Agr.mark {m σ : Mem} (h : Agr m σ) {t : Nat} (ht : t < 1000) : Agr (mark m t) σ := h.own ht
theorem Agr.put {m σ : Mem} (h : Agr m σ) {t k : Nat} {e e' : Ent} (ht : t = k + 1000) (he : e' = e.sh) : Agr (upd m t (some e')) (upd σ k (some e)) := fun j => by
  subst ht; subst he
  rw [upd_at, upd_at]
  by_cases hj : j = k
  · subst hj; rw [if_pos rfl, if_pos rfl]; rfl
  · rw [if_neg (by omega), if_neg hj]; exact h j
theorem upd_over {α : Type} (f : Nat → α) (k : Nat) (a b : α) : upd (upd f k a) k b = upd f k b := by
  funext j
  simp only [upd_at]
  split <;> rfl
theorem Agr.same {m σ : Mem} (h : Agr m σ) {t k : Nat} {e e' : Ent} (ht : t = k + 1000) (hk : σ k = some e) (he : e' = e.sh) : Agr (upd m t (some e')) σ := by
  have := h.put (k := k) (e := e) ht he
  rwa [show upd σ k (some e) = σ from by funext j; rw [upd_at]; split; (subst_vars; exact hk.symm); rfl] at this
/-- What a callee leaves, told in its caller's names. -/
def BackS (R : AV → Mem → Prop) (b : AV) (m : Mem) : Prop := ∃ (r : AV) (σ' : Mem), Sub b r ∧ R r σ' ∧ Agr m σ'
theorem backS {R : AV → Mem → Prop} {b r : AV} {m σ' : Mem} (h : Sub b r) (hR : R r σ') (ha : Agr m σ') : BackS R b m := ⟨r, σ', h, hR, ha⟩
theorem acall_lents {P : Program} {f n : Nat} {fn : Func} {code : Code} {rs : List ResultVar} {args : List AV} {σ : Mem} {R : AV → Mem → Prop} (hf : P.funcs[f]? = some fn) (hb : fn.body = some code) (hn : fn.ntmps = n) (hrs : fn.results = rs.toArray)
    (hc : ∀ (vs : Array Value) (w : World), (callFunc f vs).run P w = .ok (.enter f vs) w) (hfit : codeFits n code = true) (hal : args.length ≤ n)
    (h : aCode P 0 n code (Done P rs fun st b => BackS R b st.mem) ⟨fun t => (AV.shL args).getD t .u, lents σ⟩) : ACall P f args σ R := by
  have key := acall_inline (σ := lents σ) (R := BackS R) hf hb hn hrs hc hfit (by rw [AV.shL_len]; exact hal) h
  refine ⟨hc, fun c w imm vs hm hl hr => ?_⟩
  have hm' : Mx c (lents σ) w imm := by
    refine ⟨⟨fun k e hk => ?_, fun k k' e e' b h1 h2 h3 h4 => ?_, hm.ok.lt, hm.ok.spot⟩, hm.below, hm.lt, hm.old, hm.new, hm.cells⟩
    · unfold lents at hk
      split at hk
      · cases hk
      · obtain ⟨e0, h0, rfl⟩ := Option.map_eq_some_iff.1 hk
        exact Ent.sh_ok (hm.ok.ent _ _ h0)
    · unfold lents at h1 h2
      split at h1
      · cases h1
      · split at h2
        · cases h2
        · obtain ⟨e0, k0, rfl⟩ := Option.map_eq_some_iff.1 h1
          obtain ⟨e1, k1, rfl⟩ := Option.map_eq_some_iff.1 h2
          rw [Ent.sh_blk] at h3 h4
          have := hm.ok.apart _ _ _ _ b k0 k1 h3 h4
          omega
  refine (key.2 c w imm vs hm' (by rw [AV.shL_len]; exact hl) fun j a x h1 h2 => ?_).mono fun e w' he => ?_
  · rw [AV.shL_at] at h1
    obtain ⟨y, hy, rfl⟩ := Option.map_eq_some_iff.1 h1
    exact (AV.sub_sh y).1 w imm x (hr j y x hy h2)
  · obtain ⟨b, m, imm', x, rfl, ⟨r, σ', h1, h2, h3⟩, h5, h6, h7⟩ := he
    refine ⟨r, σ', imm', x, rfl, h2, h1 _ _ _ h5, ⟨⟨fun k e hk => ?_, fun k k' e e' b h1 h2 k3 k4 => ?_, h6.ok.lt, h6.ok.spot⟩, h6.below, h6.lt, h6.old, h6.new, h6.cells⟩, h7⟩
    · have := h3 k
      rw [hk] at this
      exact Ent.of_sh (h6.ok.ent _ _ this)
    · have e1 := h3 k
      have e2 := h3 k'
      rw [h1] at e1
      rw [h2] at e2
      have := h6.ok.apart _ _ _ _ b e1 e2 (by rw [Ent.sh_blk]; exact k3) (by rw [Ent.sh_blk]; exact k4)
      omega
/-- A nil slice in a box is an own row of no elements, under a name of one's choice. -/
theorem Frz.nilBox {n : Nat} {e : Nat → AV} {m : Mem} {k g : Nat} {bt : TypeId} {cs : List AV} (j t mm : Nat) (ty : TypeId) (hm : m k = some (.box g bt cs false)) (hj : cs[j]? = some (.v (.slice none 0 0))) (ht : t ≠ k) :
    Frz n ⟨e, m⟩ ⟨e, upd (upd m k (some (.box g bt (cs.set j (.own t (.slice none 0 0))) false))) t (some (.row (.slice none 0 0) ty mm [] 0))⟩ := by
  intro c a w imm h
  have h1 : Mx c (upd m k (some (.box g bt (cs.set j (.own t (.slice none 0 0))) false))) w imm := by
    have hk := h.mem.ok.ent k _ hm
    obtain ⟨cur, k1, k2, k3, k4, k5, k6, k7⟩ := hk
    refine (mem_put h.mem (World.grownBy.refl w none) (by simp) (fun _ _ => rfl) k (.box g bt (cs.set j (.own t (.slice none 0 0))) false) ⟨cur, k1, k2, by simpa using k3, fun x hx => ?_, fun i a x ha hx => ?_, k6, fun hp => by cases hp⟩ fun j2 e2 b h1 h2 h3 => ⟨by simp, ?_⟩).1
    · rcases List.mem_or_eq_of_mem_set hx with h1 | h1
      · exact k4 x h1
      · subst h1; rfl
    · rw [List.getElem?_set] at ha
      split at ha
      · rename_i hij
        subst hij
        split at ha
        · simp only [Option.some.injEq] at ha
          subst ha
          have := (k5 j _ x hj hx).v_inv
          subst this
          exact .own _ _ rfl
        · cases ha
      · exact k5 i a x ha hx
    · show some g ≠ some b
      intro hb
      exact h1 (h.mem.ok.apart j2 k e2 _ b h2 hm h3 hb)
  refine ⟨imm, h.env, h.size, h.defers, ?_⟩
  exact (mem_put h1 (World.grownBy.refl w none) (by simp) (fun _ _ => rfl) t (.row (.slice none 0 0) ty mm [] 0) ⟨[], World.ownsRow_nil w c.B ty mm, by simp, by simp, by simp [flat], by simp, fun ad _ h2 => by simp [Value.ownBlock] at h2, fun g off h1 _ => by simp [Value.ownBlock] at h1⟩ fun j e2 b _ _ _ => ⟨by simp, by simp [Ent.blk, Value.ownBlock]⟩).1
attribute [go_sem] AV.sh AV.shL Ent.sh
end Go.Pg
end

section
/- The engine, part Z1: a loop over a string's letters, in a function that has no memory of its own there. -/
namespace Go.Pg
open Go Go.RowKit Go.Lib
set_option linter.unusedSimpArgs false
set_option linter.unusedVariables false
section
variable {P : Program} {n : Nat}
theorem awp_seq {x y : Code} {Q : AE → St → Prop} {st : St} (h : AWP P n x (AE.then (AWP P n y Q) Q) st) : AWP P n (.seq x y) Q st := fun c a w imm hr => by
  refine wp_seq (Code.wp_mono (fun e a' w' hp => ?_) (h c a w imm hr))
  obtain ⟨ae, st', imm', rfl, h2, h3⟩ := hp
  cases ae with
  | normal => exact h2 c a' w' imm' h3
  | exit id => exact ⟨.exit id, st', imm', rfl, h2, h3⟩
  | ret => exact ⟨.ret, st', imm', rfl, h2, h3⟩
theorem wp_op {o : Oper} {a : Act} {w w' : World} {ops : Array Oper} {Qp : Exit → Act → World → Prop} {l : List Oper} {y : Value} (hg : o.guard = none) (hr : (execOp a.eval o).run P w = .ok (.value y) w') (h : wpList P ops Qp l (a.put o.dst y) w') : wpList P ops Qp (o :: l) a w := by
  unfold wpList
  rw [if_pos (by simp [Region.wanted, hg])]
  refine .inl ?_
  unfold Oper.wp
  rw [hr]
  exact h
theorem rebase {c : Cx} {e : Nat → AV} {a : Act} {w : World} {imm : Imm} (h : Rel c n ⟨e, noMem⟩ a w imm) : Rel ⟨w.heap.size, w, imm⟩ n ⟨e, noMem⟩ a w imm :=
  ⟨h.env, h.size, h.defers, ⟨⟨fun k e hk => by simp [noMem] at hk, fun k k' e e' b hk => by simp [noMem] at hk, h.mem.ok.lt, h.mem.ok.spot⟩, Below.refl _ _, Nat.le_refl _, fun _ h1 => h1, fun _ h1 => .inl h1, fun _ _ => rfl⟩⟩
theorem unbase {c : Cx} {st' : St} {a' : Act} {w w' : World} {imm imm' : Imm} (hm : Mx c noMem w imm) (h : Rel ⟨w.heap.size, w, imm⟩ n st' a' w' imm') (h0 : st'.mem = noMem) : Rel c n st' a' w' imm' := by
  refine ⟨h.env, h.size, h.defers, ?_⟩
  have hm' := h.mem
  rw [h0] at hm' ⊢
  exact ⟨⟨fun k e hk => by simp [noMem] at hk, fun k k' e e' b hk => by simp [noMem] at hk, hm'.ok.lt, hm'.ok.spot⟩, hm.below.trans (hm'.below.mono hm.lt), Nat.le_trans hm.lt hm'.lt, fun ad h1 => hm'.old ad (hm.old ad h1), fun ad h1 => (hm'.new ad h1).elim (hm.new ad) (fun h2 => .inr (Nat.le_trans hm.lt h2)), fun ad h1 => (hm'.cells ad (hm.old ad h1)).trans (hm.cells ad h1)⟩
/-- What stands behind a round. -/
structure ItS (c : Cx) (n : Nat) (s : ByteArray) (tI : Nat) (J : Nat → (Nat → AV) → Prop) (pos : Nat) (a : Act) (w : World) : Prop where
  h : ∃ e imm g, Rel c n ⟨e, noMem⟩ a w imm ∧ w.heap[g]? = some (.stringIter s pos) ∧ c.B ≤ g ∧ (∀ ad, imm ad → ad.block ≠ g) ∧ e tI = .v (.pointer (some ⟨g, 0, none⟩)) ∧ J pos e
theorem awp_range {s : ByteArray} {id1 id2 bid d1 tI d2 d3 : Nat} {x : Operand} {ty1 ty2 ty3 ty4 tys : TypeId} {p1 p2 p3 p4 : String} {f1 f2 f3 f4 : Array Edge} {r2 : Code} {Q : AE → St → Prop} {e : Nat → AV}
    (hx : St.ev ⟨e, noMem⟩ x = .v (.string s)) (hty : P.underlying tys = some .string) (h1 : d1 < n) (hI : tI < n) (h2 : d2 < n) (h3 : d3 < n) (hne : tI ≠ d2) (hne3 : tI ≠ d3) (hne1 : d2 ≠ d3) (hf : codeFits n r2 = true)
    (J : Nat → (Nat → AV) → Prop) (h0 : ∀ pv, J 0 (upd (upd e d1 (.v (.string s))) tI (.v pv)))
    (hstep : ∀ pos e pv, J pos e → e tI = .v pv → pos < s.size → aCode P 0 n r2 (AE.then (fun st' => st'.mem = noMem ∧ J (pos + (Utf8.decode s pos).2) st'.env ∧ st'.env tI = .v pv) fun ae st' => st'.mem = noMem ∧ AE.inBlock bid Q ae st')
      ⟨upd (upd e d2 (.tup [.v (.bool true), .v (.int .i64 pos), .v (.int .i32 (Utf8.decode s pos).1)])) d3 (.v (.bool true)), noMem⟩)
    (hw : ∀ pos, pos < s.size → 0 < (Utf8.decode s pos).2)
    (hend : ∀ pos e pv, J pos e → e tI = .v pv → ¬ pos < s.size → aCode P 0 n r2 (AE.then (fun _ => False) fun ae st' => st'.mem = noMem ∧ AE.inBlock bid Q ae st')
      ⟨upd (upd e d2 (.tup [.v (.bool false)])) d3 (.v (.bool false)), noMem⟩) :
    AWP P n (.seq (.region id1 #[⟨some d1, .move x, ty1, p1, f1, none⟩, ⟨some tI, .range tys (.tmp d1), ty2, p2, f2, none⟩] false)
      (.block bid (.loop (.seq (.region id2 #[⟨some d2, .next (.tmp tI) true, ty3, p3, f3, none⟩, ⟨some d3, .extract (.tmp d2) 0, ty4, p4, f4, none⟩] false) r2)))) Q ⟨e, noMem⟩ := by
  intro c a w imm hr
  refine wp_seq (wp_region_list ?_)
  have ex := hr.ev x
  rw [hx] at ex
  have ex := ex.v_inv
  refine wp_op rfl (y := .string s) (w' := w) (by simp [execOp, ex]) ?_
  have r1 := hr.step (dst := some d1) (av := .v (.string s)) (x := .string s) (Keeps.refl w imm) hr.mem (fun d hd => by cases hd; exact h1) (.pure (.v _))
  have e1 := (r1.ev (.tmp d1))
  have e1 : (a.put (some d1) (.string s)).eval (.tmp d1) = .string s := by
    have h9 : St.ev (St.put ⟨e, noMem⟩ (some d1) (.v (.string s))) (.tmp d1) = .v (.string s) := by simp [St.ev, St.put, upd_at]
    rw [h9] at e1
    exact e1.v_inv
  refine wp_op rfl (y := .pointer (some ⟨w.heap.size, 0, none⟩)) (w' := w.iter s 0) (by
    simp only [execOp, e1]
    exact run_v (run_range_string w tys s hty)) ?_
  have hcell : ∀ ad, imm ad → (w.iter s 0).cell? ad = w.cell? ad := fun ad h9 => World.cell?_alloc_lt w _ ad (hr.mem.ok.lt ad h9)
  have hm2 : Mx c noMem (w.iter s 0) imm := ⟨⟨fun k e hk => by simp [noMem] at hk, fun k k' e e' b hk => by simp [noMem] at hk, fun ad h9 => Nat.lt_of_lt_of_le (hr.mem.ok.lt ad h9) (World.grownBy_alloc w (.stringIter s 0) none).size, hr.mem.ok.spot⟩,
    hr.mem.below.grown (World.grownBy_alloc w (.stringIter s 0) none) hr.mem.lt (fun g hg => by cases hg), Nat.le_trans hr.mem.lt (World.grownBy_alloc w (.stringIter s 0) none).size, hr.mem.old, hr.mem.new, fun ad h9 => (hcell ad (hr.mem.old ad h9)).trans (hr.mem.cells ad h9)⟩
  have r2' := r1.step (dst := some tI) (av := .v (.pointer (some ⟨w.heap.size, 0, none⟩))) (x := .pointer (some ⟨w.heap.size, 0, none⟩)) (w' := w.iter s 0) (imm' := imm) (fun ad h9 => ⟨h9, hcell ad h9⟩) hm2 (fun d hd => by cases hd; exact hI) (.pure (.v _))
  show (Code.block bid _).wp P (post c n Q) _ _
  refine wp_block ?_
  -- the loop
  have start : ItS c n s tI J 0 ((a.put (some d1) (.string s)).put (some tI) (.pointer (some ⟨w.heap.size, 0, none⟩))) (w.iter s 0) :=
    ⟨_, imm, w.heap.size, r2', World.iter_heap w s 0, hr.mem.lt, fun ad h9 => Nat.ne_of_lt (hr.mem.ok.lt ad h9), by simp [St.put, upd_at], h0 _⟩
  generalize (a.put (some d1) (.string s)).put (some tI) (.pointer (some ⟨w.heap.size, 0, none⟩)) = a1 at start
  generalize w.iter s 0 = w1 at start
  clear r2' r1 hm2 hcell e1 ex hr
  let Qp : Exit → Act → World → Prop := Exit.inBlock bid (post c n Q)
  have lift : ∀ (ae : AE) (st' : St) (a' : Act) (w w' : World) (imm imm' : Imm), Mx c noMem w imm → Rel ⟨w.heap.size, w, imm⟩ n st' a' w' imm' → st'.mem = noMem → AE.inBlock bid Q ae st' → ae ≠ .normal → Qp ae.to a' w' := by
    intro ae st' a' w w' imm imm' hm hr h9 hq hn
    have hr' := unbase hm hr h9
    cases ae with
    | normal => exact absurd rfl hn
    | exit i =>
      show Exit.inBlock bid (post c n Q) (.exit i) a' w'
      simp only [AE.inBlock] at hq
      by_cases hi : i = bid
      · subst hi
        rw [if_pos rfl] at hq
        simp only [Exit.inBlock, if_true]
        exact ⟨.normal, st', imm', rfl, hq, hr'⟩
      · rw [if_neg hi] at hq
        simp only [Exit.inBlock, if_neg hi]
        exact ⟨.exit i, st', imm', rfl, hq, hr'⟩
    | ret => exact ⟨.ret, st', imm', rfl, hq, hr'⟩
  have round : ∀ pos a w, ItS c n s tI J pos a w → (Code.seq (.region id2 #[⟨some d2, .next (.tmp tI) true, ty3, p3, f3, none⟩, ⟨some d3, .extract (.tmp d2) 0, ty4, p4, f4, none⟩] false) r2).wp P
      (Exit.then (fun a w => ∃ pos', ItS c n s tI J pos' a w ∧ s.size - pos' < s.size - pos) Qp) a w := by
    rintro pos a w ⟨e, imm, g, hr, hg, hB, hng, heI, hJ⟩
    have eI := hr.ev (.tmp tI)
    have eI : a.eval (.tmp tI) = .pointer (some ⟨g, 0, none⟩) := by
      rw [show St.ev ⟨e, noMem⟩ (.tmp tI) = _ from heI] at eI
      exact eI.v_inv
    refine wp_seq (wp_region_list ?_)
    have glt : g < w.heap.size := (Array.getElem?_eq_some_iff.1 hg).1
    by_cases hp : pos < s.size
    · refine wp_op rfl (y := .tuple #[.bool true, .int .i64 pos, .int .i32 (Utf8.decode s pos).1]) (w' := w.iterAt g s (pos + (Utf8.decode s pos).2)) (by
        simp only [execOp, eI]
        exact run_v (run_next_any_at w g s pos _ hg hp)) ?_
      have hgrow : w.grownBy (w.iterAt g s (pos + (Utf8.decode s pos).2)) (some g) := by
        refine ⟨rfl, rfl, rfl, ?_, fun k hk hne => ?_⟩
        · simp [World.iterAt]
        · simp only [World.iterAt]
          rw [Array.getElem?_setIfInBounds_ne (fun h9 => hne (by rw [h9]))]
      have hcell : ∀ ad, imm ad → (w.iterAt g s (pos + (Utf8.decode s pos).2)).cell? ad = w.cell? ad := fun ad h9 => grown_cell hgrow (hr.mem.ok.lt ad h9) (fun h8 => hng ad h9 (by cases h8; rfl))
      have hm2 : Mx c noMem (w.iterAt g s (pos + (Utf8.decode s pos).2)) imm := ⟨⟨fun k e hk => by simp [noMem] at hk, fun k k' e e' b hk => by simp [noMem] at hk, fun ad h9 => Nat.lt_of_lt_of_le (hr.mem.ok.lt ad h9) hgrow.size, hr.mem.ok.spot⟩,
        hr.mem.below.grown hgrow hr.mem.lt (fun g' hg' => by cases hg'; exact hB), Nat.le_trans hr.mem.lt hgrow.size, hr.mem.old, hr.mem.new, fun ad h9 => (hcell ad (hr.mem.old ad h9)).trans (hr.mem.cells ad h9)⟩
      have q1 := hr.step (dst := some d2) (av := .tup [.v (.bool true), .v (.int .i64 pos), .v (.int .i32 (Utf8.decode s pos).1)]) (x := .tuple #[.bool true, .int .i64 pos, .int .i32 (Utf8.decode s pos).1]) (imm' := imm) (fun ad h9 => ⟨h9, hcell ad h9⟩) hm2 (fun d hd => by cases hd; exact h2)
        (.pure (.tup _ _ rfl fun j a x k1 k2 => by
          match j with
          | 0 => simp at k1 k2; subst k1; subst k2; exact .v _
          | 1 => simp at k1 k2; subst k1; subst k2; exact .v _
          | 2 => simp at k1 k2; subst k1; subst k2; exact .v _
          | j + 3 => simp at k1))
      have v2 := q1.env d2
      have v2 : (a.put (some d2) (.tuple #[.bool true, .int .i64 pos, .int .i32 (Utf8.decode s pos).1])).eval (.tmp d2) = .tuple #[.bool true, .int .i64 pos, .int .i32 (Utf8.decode s pos).1] := by
        show (a.put (some d2) _).tmps.getD d2 undef = _
        rw [Act.put_getD a d2 _ (by rw [hr.size]; exact h2), if_pos rfl]
      refine wp_op rfl (y := .bool true) (w' := w.iterAt g s (pos + (Utf8.decode s pos).2)) (by
        simp only [execOp, v2]
        simp [Instr.extract]) ?_
      have q2 := q1.step (dst := some d3) (av := .v (.bool true)) (x := .bool true) (Keeps.refl _ imm) hm2 (fun d hd => by cases hd; exact h3) (.pure (.v _))
      have hst := hstep pos e _ hJ heI hp
      have q3 := rebase q2
      refine Code.wp_mono (fun ee a' w' hpost => ?_) (aCode_sound r2 _ _ hf hst _ _ _ _ q3)
      obtain ⟨ae, st', imm', rfl, hq, hrel⟩ := hpost
      cases ae with
      | normal =>
        obtain ⟨hm, hJ', hpv⟩ := hq
        have hr' := unbase hm2 hrel hm
        refine ⟨pos + (Utf8.decode s pos).2, ⟨st'.env, imm', g, ?_, ?_, hB, fun ad h9 => ?_, hpv, hJ'⟩, by have := hw pos hp; omega⟩
        · obtain ⟨en, me⟩ := st'
          simp only at hm
          subst hm
          exact hr'
        · rw [hrel.mem.below.block g (Nat.lt_of_lt_of_le glt hgrow.size)]
          exact iterAt_heap w g s pos _ hg
        · rcases hrel.mem.new ad h9 with h8 | h8
          · exact hng ad h8
          · have : (w.iterAt g s (pos + (Utf8.decode s pos).2)).heap.size ≤ ad.block := h8
            have := hgrow.size
            omega
      | exit i => exact lift (.exit i) st' a' _ w' imm imm' hm2 hrel hq.1 hq.2 (by simp)
      | ret => exact lift .ret st' a' _ w' imm imm' hm2 hrel hq.1 hq.2 (by simp)
    · refine wp_op rfl (y := .tuple #[.bool false]) (w' := w) (by
        simp only [execOp, eI]
        exact run_v (run_next_end_at w g s pos _ hg hp)) ?_
      have q1 := hr.step (dst := some d2) (av := .tup [.v (.bool false)]) (x := .tuple #[.bool false]) (Keeps.refl w imm) hr.mem (fun d hd => by cases hd; exact h2)
        (.pure (.tup _ _ rfl fun j a x k1 k2 => by
          match j with
          | 0 => simp at k1 k2; subst k1; subst k2; exact .v _
          | j + 1 => simp at k1))
      have v2 : (a.put (some d2) (.tuple #[.bool false])).eval (.tmp d2) = .tuple #[.bool false] := by
        show (a.put (some d2) _).tmps.getD d2 undef = _
        rw [Act.put_getD a d2 _ (by rw [hr.size]; exact h2), if_pos rfl]
      refine wp_op rfl (y := .bool false) (w' := w) (by
        simp only [execOp, v2]
        simp [Instr.extract]) ?_
      have q2 := q1.step (dst := some d3) (av := .v (.bool false)) (x := .bool false) (Keeps.refl _ imm) hr.mem (fun d hd => by cases hd; exact h3) (.pure (.v _))
      have hst := hend pos e _ hJ heI hp
      have q3 := rebase q2
      refine Code.wp_mono (fun ee a' w' hpost => ?_) (aCode_sound r2 _ _ hf hst _ _ _ _ q3)
      obtain ⟨ae, st', imm', rfl, hq, hrel⟩ := hpost
      cases ae with
      | normal => exact hq.elim
      | exit i => exact lift (.exit i) st' a' _ w' imm imm' hr.mem hrel hq.1 hq.2 (by simp)
      | ret => exact lift .ret st' a' _ w' imm imm' hr.mem hrel hq.1 hq.2 (by simp)
  intro b k cs
  have key : ∀ m pos a w, s.size - pos = m → ItS c n s tI J pos a w →
      ∃ ee a' w', Qp ee a' w' ∧ Arrives P (lone (b.at a (.code (Code.seq (.region id2 #[⟨some d2, .next (.tmp tI) true, ty3, p3, f3, none⟩, ⟨some d3, .extract (.tmp d2) 0, ty4, p4, f4, none⟩] false) r2) :: .inLoop (Code.seq (.region id2 #[⟨some d2, .next (.tmp tI) true, ty3, p3, f3, none⟩, ⟨some d3, .extract (.tmp d2) 0, ty4, p4, f4, none⟩] false) r2) :: k)) cs w) b k cs ee a' w' := by
    intro m
    induction m using Nat.strongRecOn with
    | _ m ih =>
      intro pos a w hm hI'
      obtain ⟨ee, a₁, w₁, hq, harr⟩ := round pos a w hI' b (.inLoop _ :: k) cs
      cases ee with
      | normal =>
        obtain ⟨pos', h8, h9⟩ := hq
        obtain ⟨e₂, a₂, w₂, hq₂, harr₂⟩ := ih (s.size - pos') (hm ▸ h9) pos' a₁ w₁ rfl h8
        exact ⟨e₂, a₂, w₂, hq₂, .of_steps (Steps.trans harr (.one step_inLoop)) harr₂⟩
      | exit id => exact ⟨.exit id, a₁, w₁, hq, .pass (x := .inLoop _) rfl (fun _ _ => .inl (by simp)) harr⟩
      | goto l => exact ⟨.goto l, a₁, w₁, hq, .pass (x := .inLoop _) rfl (fun _ _ => .inl (by simp)) harr⟩
      | ret => exact ⟨.ret, a₁, w₁, hq, .pass (x := .inLoop _) rfl (fun _ _ => .inl (by simp)) harr⟩
      | panic ch => exact ⟨.panic ch, a₁, w₁, hq, .pass (x := .inLoop _) rfl (fun _ _ => .inl (by simp)) harr⟩
      | outgrown => exact ⟨.outgrown, a₁, w₁, hq, .pass (x := .inLoop _) rfl (fun _ _ => .inl (by simp)) harr⟩
  obtain ⟨ee, a', w', hq, harr⟩ := key _ 0 a1 w1 rfl start
  exact ⟨ee, a', w', hq, .of_steps (.one step_loop) harr⟩
theorem pure_introW {f : FuncId} {fn : Func} {code : Code} {rs : List ResultVar} {args : List AV} {r : AV} (hf : P.funcs[f]? = some fn) (hb : fn.body = some code) (hn : fn.ntmps = n) (hrs : fn.results = rs.toArray)
    (hc : ∀ (vs : Array Value) (w : World), (callFunc f vs).run P w = .ok (.enter f vs) w) (hal : args.length ≤ n)
    (h : AWP P n code (Done P rs fun st => pubRet st r) ⟨fun t => args.getD t .u, noMem⟩) : Pure P f args r := by
  refine ⟨hc, fun w imm vs himm hl hr => ?_⟩
  refine calls_of_wp hf hb ?_
  let c : Cx := ⟨w.heap.size, w, imm⟩
  have hrel : Rel c n ⟨fun t => args.getD t .u, noMem⟩ { tmps := vs ++ Array.replicate (fn.ntmps - vs.size) undef, defers := [] } w imm := by
    refine ⟨fun t => ?_, by simp [hn]; omega, rfl, ⟨⟨fun k e hk => by simp [noMem] at hk, fun k k' e e' b hk => by simp [noMem] at hk, fun ad h1 => (himm ad h1).1, fun ad h1 => (himm ad h1).2⟩, Below.refl _ _, Nat.le_refl _, fun _ h1 => h1, fun _ h1 => .inl h1, fun _ _ => rfl⟩⟩
    simp only [List.getD_eq_getElem?_getD]
    rcases Nat.lt_or_ge t args.length with ht | ht
    · have ht2 : t < vs.size := by omega
      rw [List.getElem?_eq_getElem ht, Array.getD_eq_getD_getElem?, Array.getElem?_append_left ht2, Array.getElem?_eq_getElem ht2]
      exact .pure (hr t _ _ (List.getElem?_eq_getElem ht) (Array.getElem?_eq_getElem ht2))
    · rw [List.getElem?_eq_none ht]
      exact .pure (.u _)
  refine Code.wp_mono (fun e a' w' hp => ?_) (h c _ w imm hrel)
  obtain ⟨ae, st', imm', rfl, hdone, hrel'⟩ := hp
  have hret := done_ret hdone
  have hae : ∀ id, ae ≠ .exit id := by rintro id rfl; exact hdone
  obtain ⟨y, b, hrun, ⟨hpo, hpv⟩, hrs'⟩ := ret_run hrs hrel' hret
  obtain ⟨i2, hm2, hk2⟩ := marks_ok b.toks hrel'.mem
  have hrd := pub_rd hm2 (hk2.rs hrs') hpo
  rw [hpv] at hrd
  have fin : a'.defers = [] ∧ ∃ v, (results fn a'.tmps).run P w' = .ok v w' ∧ (fun e w' => ∃ x imm', e = Ending.returned x ∧ Rd w' imm' r x ∧ (∀ ad, imm ad → imm' ad) ∧ (∀ ad, imm' ad → (imm ad ∨ w.heap.size ≤ ad.block) ∧ ad.block < w'.heap.size ∧ ad.spot = none) ∧ Below w.heap.size w w') (Ending.returned v) w' :=
    ⟨hrel'.defers, y, hrun, y, i2, rfl, hrd, hm2.old, fun ad h1 => ⟨hm2.new ad h1, hm2.ok.lt ad h1, hm2.ok.spot ad h1⟩, hm2.below⟩
  cases ae with
  | normal => exact fin
  | ret => exact fin
  | exit id => exact absurd rfl (hae id)
theorem decode_pos (s : ByteArray) (i : Nat) : 0 < (Utf8.decode s i).2 := by
  unfold Utf8.decode
  simp only
  repeat' split
  all_goals simp
end
end Go.Pg
end

section
namespace Go.Proofs.YteiopjkamgmfpaaGreatDoor
open Go Go.RowKit Go.Pg
set_option linter.unusedSimpArgs false
set_option linter.unusedVariables false
set_option maxRecDepth 20000
attribute [local go_sem] Tryz.underlying3 Tryz.underlying4 Tryz.underlying5 Tryz.underlying9 Tryz.underlying72 sz3 by3 z3 szStr byStr zStr
attribute [-bool_to_prop] Bool.and_eq_decide Bool.or_eq_decide Bool.decide_beq_decide decide_eq_decide
/-! ### names -/
def kwL : List ByteArray := [
  ⟨#[97, 110, 103, 108, 101]⟩,
  ⟨#[97, 112, 101, 120]⟩,
  ⟨#[98, 105, 115, 101, 99, 116, 111, 114]⟩,
  ⟨#[99, 101, 110, 116, 101, 114]⟩,
  ⟨#[99, 105, 114, 99, 108, 101]⟩,
  ⟨#[99, 105, 114, 99, 117, 109]⟩,
  ⟨#[99, 111, 108, 108, 105, 110, 101, 97, 114]⟩,
  ⟨#[99, 111, 109, 109, 111, 110]⟩,
  ⟨#[99, 111, 110, 99, 121, 99, 108, 105, 99]⟩,
  ⟨#[99, 111, 110, 103, 114, 117, 101, 110, 116]⟩,
  ⟨#[99, 114, 111, 115, 115]⟩,
  ⟨#[99, 117, 116]⟩,
  ⟨#[100, 105, 118, 105, 100, 101]⟩,
  ⟨#[102, 111, 111, 116]⟩,
  ⟨#[108, 105, 110, 101]⟩,
  ⟨#[109, 101, 101, 116]⟩,
  ⟨#[109, 105, 100, 112, 111, 105, 110, 116]⟩,
  ⟨#[109, 105, 114, 114, 111, 114]⟩,
  ⟨#[111, 110]⟩,
  ⟨#[111, 116, 104, 101, 114]⟩,
  ⟨#[112, 97, 114, 97, 108, 108, 101, 108]⟩,
  ⟨#[112, 101, 114, 112, 101, 110, 100, 105, 99, 117, 108, 97, 114]⟩,
  ⟨#[112, 111, 105, 110, 116, 115]⟩,
  ⟨#[112, 114, 111, 118, 101]⟩,
  ⟨#[114, 97, 116, 105, 111]⟩,
  ⟨#[114, 101, 102, 108, 101, 99, 116]⟩,
  ⟨#[115, 97, 109, 101]⟩,
  ⟨#[115, 104, 105, 102, 116]⟩,
  ⟨#[116, 117, 114, 110]⟩]
def letB (c : Nat) : Bool := decide (97 ≤ c ∧ c ≤ 122) || decide (65 ≤ c ∧ c ≤ 90)
def digB (c : Nat) : Bool := decide (48 ≤ c ∧ c ≤ 57)
/-- The k-th byte. -/
def gB (s : ByteArray) (k : Nat) : Nat := (s.data.toList.getD k 0).toNat
theorem gB_lt (s : ByteArray) (k : Nat) : gB s k < 256 := UInt8.toNat_lt _
def namB (s : ByteArray) : Bool := decide (0 < s.size ∧ s.size ≤ 20) && (letB (gB s 0) && ((List.range s.size).all (fun k => letB (gB s k) || digB (gB s k)) && !(kwL.any fun w => w.toList == s.toList)))
theorem str_nil (s : ByteArray) : (s.toList == (⟨#[]⟩ : ByteArray).toList) = decide (s.size = 0) := by
  rw [ByteArray.toList_eq, ByteArray.toList_eq, Bool.eq_iff_iff, beq_iff_eq, decide_eq_true_eq]
  constructor
  · intro h
    have := congrArg List.length h
    exact this
  · intro h
    exact List.length_eq_zero_iff.1 h
/-- A byte as it is read. -/
theorem gB_at (s : ByteArray) (k : Nat) : ((s.data.toList.getD k 0).toNat : Int) = (gB s k : Int) := rfl
theorem exists_end (s : ByteArray) : ∀ n, n ≤ s.size → ∃ k, k ≤ n ∧ (∀ j, j < k → (letB (gB s j) || digB (gB s j)) = true) ∧ (k < n → (letB (gB s k) || digB (gB s k)) = false)
  | 0, _ => ⟨0, by omega, fun j h => by omega, fun h => by omega⟩
  | n + 1, h => by
    obtain ⟨k, h1, h2, h3⟩ := exists_end s n (by omega)
    by_cases hk : k < n
    · exact ⟨k, by omega, h2, fun _ => h3 hk⟩
    · have : k = n := by omega
      subst this
      cases hb : (letB (gB s k) || digB (gB s k)) with
      | true => exact ⟨k + 1, by omega, fun j hj => by by_cases e : j = k; rw [e]; exact hb; exact h2 j (by omega), fun h => by omega⟩
      | false => exact ⟨k, by omega, h2, fun _ => hb⟩
set_option maxHeartbeats 4000000 in
theorem rnKeys : Pure Tryz.prog 201 [] (.sl 1 (kwL.map strA)) := by
  unfold kwL
  refine pure_intro (tok := 0) Tryz.func201 rfl Tryz.ntmps201 Tryz.results201 Tryz.call201 (by rfl) (by simp) ?_
  (focus (refine wklp w_t w_t w_t (w_r 0) ?_; (repeat' first | exact w_t | apply w_l); all_goals intros))
theorem rnLetter (c : Nat) (hc : c < 256) : Pure Tryz.prog 199 [.v (.int .u8 (c : Int))] (.v (.bool (letB c))) := by
  unfold letB
  refine pure_intro (tok := 0) Tryz.func199 rfl Tryz.ntmps199 Tryz.results199 Tryz.call199 (by rfl) (by simp) ?_
  (focus (refine wklp w_t w_t w_t (w_r 0) ?_; (repeat' first | exact w_t | apply w_l); all_goals intros))
theorem rnDigit (c : Nat) (hc : c < 256) : Pure Tryz.prog 200 [.v (.int .u8 (c : Int))] (.v (.bool (digB c))) := by
  unfold digB
  refine pure_intro (tok := 0) Tryz.func200 rfl Tryz.ntmps200 Tryz.results200 Tryz.call200 (by rfl) (by simp) ?_
  (focus (refine wklp w_t w_t w_t (w_r 0) ?_; (repeat' first | exact w_t | apply w_l); all_goals intros))
end Go.Proofs.YteiopjkamgmfpaaGreatDoor
end

section
namespace Go.Proofs.YteiopjkamgmfpaaGreatDoor
open Go Go.RowKit Go.Pg Go.Pol
set_option linter.unusedSimpArgs false
set_option linter.unusedVariables false
set_option maxRecDepth 20000
attribute [-bool_to_prop] Bool.and_eq_decide Bool.or_eq_decide Bool.decide_beq_decide decide_eq_decide
/-! ### errors -/
def arS (k : Int) : Int :=
  if k = 1 then 0 else if k = 2 ∨ k = 5 ∨ k = 6 ∨ k = 14 then 2 else if k = 3 ∨ k = 4 ∨ k = 7 ∨ k = 8 ∨ k = 10 ∨ k = 11 then 3 else if k = 9 ∨ k = 12 ∨ k = 13 then 4 else -1
def arG (k : Int) : Int :=
  if k = 8 then 2 else if k = 1 ∨ k = 5 then 3 else if k = 2 ∨ k = 3 ∨ k = 4 ∨ k = 6 ∨ k = 9 then 4 else if k = 7 then 8 else 0
def outB (n : Int) (l : List Int) : Bool := l.any fun a => decide (a < 0) || decide (n ≤ a)
abbrev RS.zero : RS := ⟨0, .empty, [], ⟨false, [], []⟩⟩
def errS (ss : List RS) (i : Nat) : Int :=
  let s := ss.getD i RS.zero
  if arS s.k < 0 then 8
  else if (s.ar.length : Int) ≠ arS s.k then 1
  else if outB (i : Int) s.ar = true then 2
  else if (s.k = 2 ∧ s.r.ok = false) ∨ (s.k ≠ 2 ∧ s.r.none = false) then 1
  else if s.nm.size = 0 then 0
  else if namB s.nm = false then 6
  else if (ss.take i).any (fun t => t.nm.toList == s.nm.toList) = true then 7
  else 0
def errG (g : RG) (n : Nat) : Int :=
  if arG g.k = 0 then 8
  else if (g.ar.length : Int) ≠ arG g.k then 1
  else if outB (n : Int) g.ar = true then 2
  else if (g.k = 9 ∧ g.r.ok = false) ∨ (g.k ≠ 9 ∧ g.r.none = false) then 1
  else 0
/-- The first that is not 0. -/
def fstE (f : Nat → Int) : Nat → Int
  | 0 => 0
  | n + 1 => if fstE f n ≠ 0 then fstE f n else f n
theorem fstE_zero {f : Nat → Int} : ∀ {n : Nat}, (∀ j, j < n → f j = 0) → fstE f n = 0
  | 0, _ => rfl
  | n + 1, h => by
    unfold fstE
    rw [if_neg (by rw [fstE_zero fun j hj => h j (by omega)]; simp)]
    exact h n (by omega)
theorem fstE_at {f : Nat → Int} {i : Nat} (h : ∀ j, j < i → f j = 0) (hi : f i ≠ 0) : ∀ {n : Nat}, i < n → fstE f n = f i
  | 0, hn => by omega
  | n + 1, hn => by
    unfold fstE
    by_cases e : i = n
    · subst e
      rw [if_neg (by rw [fstE_zero h]; simp)]
    · have := fstE_at h hi (n := n) (by omega)
      rw [this, if_pos hi]
theorem fstE_all {f : Nat → Int} : ∀ {n : Nat}, fstE f n = 0 → ∀ j, j < n → f j = 0
  | 0, _, j, hj => by omega
  | n + 1, h, j, hj => by
    unfold fstE at h
    split at h
    · rename_i h1; exact absurd h h1
    · rename_i h1
      by_cases e : j = n
      · subst e; exact h
      · exact fstE_all (n := n) (by rcases Decidable.em (fstE f n = 0) with h2 | h2; exact h2; exact absurd h2 h1) j (by omega)
def figE (ss : List RS) (gs : List RG) : Int :=
  if 40 < ss.length ∨ 8 < gs.length then 4
  else if fstE (errS ss) ss.length ≠ 0 then fstE (errS ss) ss.length
  else fstE (fun i => errG (gs.getD i ⟨0, [], ⟨false, [], []⟩⟩) ss.length) gs.length
/-- The frame of a figure, or its error. -/
def frame (ss : List RS) (gs : List RG) : List (Po × Po) × List Vt × Int :=
  if figE ss gs ≠ 0 then ([], [], figE ss gs)
  else if (List.range ss.length).any (bigN ss) = true then ([], [], 4)
  else ((frN ss ss.length).cs, (frN ss ss.length).vs, 0)
theorem outB_in {n : Int} {l : List Int} (h : outB n l = false) {k : Nat} (hk : k < l.length) : 0 ≤ gI l k ∧ gI l k < n := by
  unfold outB at h
  rw [List.any_eq_false] at h
  have := h (gI l k) (by rw [gI_at hk]; exact List.getElem_mem hk)
  simp only [Bool.or_eq_true, decide_eq_true_eq] at this
  omega
/-- What a step in order is like. -/
theorem errS_ok {ss : List RS} {i : Nat} (hi : i < ss.length) (h : errS ss i = 0) : 0 ≤ arS ss[i].k ∧ (ss[i].ar.length : Int) = arS ss[i].k ∧ (∀ k, k < ss[i].ar.length → 0 ≤ gI ss[i].ar k ∧ gI ss[i].ar k < (i : Int)) ∧ (ss[i].k = 2 → ss[i].r.ok = true) := by
  unfold errS at h
  rw [show ss.getD i RS.zero = ss[i] from by rw [List.getD_eq_getElem?_getD, List.getElem?_eq_getElem hi]; rfl] at h
  generalize ss[i] = s at *
  simp only at h
  split at h
  · omega
  · split at h
    · omega
    · split at h
      · omega
      · split at h
        · omega
        · rename_i h1 h2 h3 h4
          refine ⟨by omega, by omega, fun k hk => outB_in (by simpa using h3) hk, fun h5 => ?_⟩
          cases h6 : s.r.ok with
          | true => rfl
          | false => exact absurd (.inl ⟨h5, h6⟩) h4
end Go.Proofs.YteiopjkamgmfpaaGreatDoor
end

section
namespace Go.Proofs.YteiopjkamgmfpaaGreatDoor
open Go Go.RowKit Go.Pg Go.Pol
set_option linter.unusedSimpArgs false
set_option linter.unusedVariables false
set_option maxRecDepth 20000
attribute [local go_sem] Tryz.underlying3 Tryz.underlying4 Tryz.underlying49 Tryz.underlying47 Tryz.underlying45 Tryz.underlying138 Tryz.underlying37 Tryz.underlying130 Tryz.underlying38 Tryz.underlying189 sz3 by3 z3 szRat zRat szInt zInt szNat zNat szTerm byTerm zTerm szMono byMono zMono szPoly byPoly zPoly
attribute [-bool_to_prop] Bool.and_eq_decide Bool.or_eq_decide Bool.decide_beq_decide decide_eq_decide
theorem sgn_ne {q : Rat} : (q.num.sign = 0) = (q = 0) := by rw [Int.sign_eq_zero_iff_zero, Rat.num_eq_zero]
theorem poLex (s t : Tm) (hs : Sm s.2) (ht : Sm t.2) : Pure Tryz.prog 203 [tmA s, tmA t] (iv (lexC s.2 t.2 (max s.2.length t.2.length))) := by
  have c : Pure Tryz.prog 239 [ivs s.2, ivs t.2, iv 0] (iv (cmpI s.2 t.2 0)) := monCmp s.2 t.2 0 hs ht
  have e : cmpI s.2 t.2 0 = lexC s.2 t.2 (max s.2.length t.2.length) := by unfold cmpI; rw [if_neg (by omega)]
  rw [e] at c
  obtain ⟨q, a⟩ := s
  obtain ⟨r, b⟩ := t
  simp only at *
  generalize lexC a b (max a.length b.length) = x at *
  refine pure_intro (tok := 0) Tryz.func203 rfl Tryz.ntmps203 Tryz.results203 Tryz.call203 (by rfl) (by simp) ?_
  (focus (refine wklp w_t (w_a c w_t) w_t (w_r 0) ?_; (repeat' first | exact w_t | apply w_l); all_goals intros))
set_option maxHeartbeats 1000000 in
theorem poAdded (s t : Tm) {j k : Nat} (hs : Sz s.1 j) (ht : Sz t.1 k) (hj : j ≤ 1000000) (hk : k ≤ 1000000) : Pure Tryz.prog 204 [tmA s, tmA t] (.tup [tmA (s.1 + t.1, s.2), .v (.bool (!decide ((s.1 + t.1).num.sign = 0)))]) := by
  have c := ratAdd s.1 t.1 hs ht (by omega) (by omega)
  have cs := ratSign (s.1 + t.1) (hs.add ht) (by omega)
  obtain ⟨q, a⟩ := s
  obtain ⟨r, b⟩ := t
  simp only at *
  generalize q + r = x at *
  refine pure_intro (tok := 0) Tryz.func204 rfl Tryz.ntmps204 Tryz.results204 Tryz.call204 (by rfl) (by simp) ?_
  (repeat' (first | (with_reducible first | refine stp ?_ | apply gx1 | apply gx2 | apply gx3 | apply gx4 | apply gx5 | apply gx6 | apply gx7 | apply gy8 | apply gz2 | apply gz3 | refine gw0 (c) ?_ ?_ | refine gw3 (c) ?_ ?_ ?_ | refine gw0 (cs) ?_ ?_ | refine gw3 (cs) ?_ ?_ ?_) | (with_reducible refine all_v ?_; intro _) | ((with_reducible refine gE ?_); (try simp (disch := omega) only [go_sem]) <;> first | rfl | omega) | with_reducible refine t_in_other (by decide) ?_ | ((with_reducible apply gy1); iterate 3 focus rfl) | ((with_reducible apply gy2); iterate 3 focus rfl) | ((with_reducible apply gy3); iterate 2 focus rfl) | ((with_reducible apply gy4); iterate 1 focus rfl) | ((with_reducible apply gy5); iterate 4 focus rfl) | ((with_reducible apply gy5c); iterate 4 focus rfl) | ((with_reducible apply gy6); iterate 4 focus rfl) | ((with_reducible apply d_bar); iterate 3 focus rfl) | ((with_reducible apply q_pub); iterate 1 focus rfl) | ((with_reducible apply gy7); iterate 1 focus rfl) | ((with_reducible apply gy9); (focus ((with_reducible refine gE ?_); (try simp (disch := omega) only [go_sem]) <;> rfl))) | ((with_reducible apply gz1); (focus first | rfl | (simp (disch := omega) only [go_sem]; done))) | ((with_reducible apply r_drawD (pickR [(5, .v (.int .i64 x.num.sign))]) [] [4]); (focus kernel_rfl); (focus rfl); (focus kernel_rfl); (focus (simp only [List.length_cons, List.length_nil, Nat.reduceAdd]; rfl)))))
  (all_goals (try simp (disch := omega) only [go_sem, decide_eq_true, decide_eq_false, if_pos, if_neg, Int.reduceAdd, Int.reduceSub, Int.reduceToNat, Int.zero_add])); (all_goals first | done | rfl | (congr 2; first | done | omega | (rw [Bool.eq_iff_iff]; simp only [bool_to_prop, Bool.false_eq_true, iff_true, true_iff, iff_false, false_iff]; omega)) | skip)
theorem addM_step {p q : Po} {i k : Nat} (hi : i < p.length) (hk : k < q.length) : addM (p.drop i) (q.drop k) =
    if ltM q[k].2 p[i].2 then p[i] :: addM (p.drop (i + 1)) (q.drop k) else if ltM p[i].2 q[k].2 then q[k] :: addM (p.drop i) (q.drop (k + 1))
    else if p[i].1 + q[k].1 = 0 then addM (p.drop (i + 1)) (q.drop (k + 1)) else (p[i].1 + q[k].1, p[i].2) :: addM (p.drop (i + 1)) (q.drop (k + 1)) := by
  rw [List.drop_eq_getElem_cons hi, List.drop_eq_getElem_cons hk]
  rw [show addM (p[i] :: p.drop (i + 1)) (q[k] :: q.drop (k + 1)) = _ from by unfold addM; rw [addP]]
theorem addM_end {p q : Po} {i k : Nat} (h : p.length ≤ i ∨ q.length ≤ k) : addM (p.drop i) (q.drop k) = p.drop i ++ q.drop k := by
  rcases h with h | h
  · rw [List.drop_eq_nil_of_le h]; simp [addM, addP]
  · rw [List.drop_eq_nil_of_le h, List.append_nil]; exact addP_nil _
set_option maxHeartbeats 4000000 in
theorem poMerge (p q : Po) {j k e : Nat} (hp : PK p j e) (hq : PK q k e) (sp : SrtM p) (sq : SrtM q) (lp : p.length ≤ 1000000) (lq : q.length ≤ 1000000) (hj : j ≤ 1000000) (hk : k ≤ 1000000) (he : e ≤ 16777216) :
    Pure Tryz.prog 202 [poA p, poA q, .fn 203 [], .fn 204 []] (poA (addM p q)) := by
  refine pure_intro (tok := 0) Tryz.func202 rfl Tryz.ntmps202 Tryz.results202 Tryz.call202 (by rfl) (by simp) ?_
  (focus (refine wkad (w_a @l_map w_t) w_t w_t ?_; (repeat' first | exact w_t | apply w_l); all_goals intros))
  rename_i sv0
  refine r_loopE (ι := Nat × Nat) (fun x e m => x.1 ≤ p.length ∧ x.2 ≤ q.length ∧ e 0 = poA p ∧ e 1 = poA q ∧ e 2 = .fn 203 [] ∧ e 3 = .fn 204 [] ∧ e 10 = iv x.1 ∧ e 11 = iv x.2 ∧ ∃ sv out, e 9 = .own 20 sv ∧ m 20 = some (.row sv 138 4 (out.map tmA) 0) ∧ out.length ≤ x.1 + x.2 ∧ addM p q = out ++ addM (p.drop x.1) (q.drop x.2)) (fun x => p.length + q.length - (x.1 + x.2)) (0, 0) (by rfl) ?_ ?_
  · rintro ⟨i, l⟩ e m ⟨hi, hl, e0, e1, e2, e3, e10, e11, sv, out, e9, em, ho, hs⟩
    simp only at hi hl e10 e11 ho hs
    by_cases hil : i < p.length ∧ l < q.length
    · obtain ⟨hi2, hl2⟩ := hil
      have hg := map_atB tmA hi2
      have hh := map_atB tmA hl2
      have st := addM_step hi2 hl2
      have ms := hp _ (List.getElem_mem hi2)
      have mt := hq _ (List.getElem_mem hl2)
      have m1 := hp.sm he (List.getElem_mem hi2)
      have m2 := hq.sm he (List.getElem_mem hl2)
      have d1 := sp.dom _ (List.getElem_mem hi2)
      have d2 := sq.dom _ (List.getElem_mem hl2)
      generalize p[i] = s at *
      generalize q[l] = t at *
      have cl := poLex s t m1 m2
      have ca := poAdded s t ms.1 mt.1 hj hk
      have hlen : (out.map tmA).length = out.length := List.length_map ..
      rw [st] at hs
      rcases lexM_cases d1 d2 with ⟨h1, h2⟩ | ⟨h1, h1', h2, h3⟩ | ⟨h1, h1', h2⟩
      · have h3 : ¬ ltM t.2 s.2 := fun h => ordM.irr _ (ordM.tr _ _ _ h h1)
        rw [if_neg h3, if_pos h1] at hs
        rw [h2] at cl
        clear st ms mt m1 m2 d1 d2 ca
        (focus (refine wkad (w_a e0 (w_a e1 (w_a e2 (w_a e3 (w_a e9 (w_a e10 (w_a e11 (w_a em (w_a hg (w_a hh (w_a @l_map w_t))))))))))) (w_a cl w_t) (w_a (w_d 4 [(9, iv (-1))] [] []) w_t) ?_; (repeat' first | exact w_t | apply w_l); all_goals intros))
        refine ⟨(i, l + 1), ⟨by simp only; omega, by simp only; omega, by exact gW e0, by exact gW e1, by exact gW e2, by exact gW e3, by exact gW e10, by exact gS, _, out ++ [t], by exact gC, by (simp (disch := omega) only [go_sem, List.map_append] <;> repeat' first | rfl | refine ⟨?_, ?_⟩), by simp only [List.length_append, List.length_cons, List.length_nil]; omega, by rw [hs, List.append_assoc]; rfl⟩, by simp only; omega⟩
      · rw [if_neg h1', if_neg h1] at hs
        rw [h3] at cl
        by_cases hz : s.1 + t.1 = 0
        · rw [if_pos hz] at hs
          rw [decide_eq_true (show (s.1 + t.1).num.sign = 0 by rw [sgn_ne]; exact hz)] at ca
          clear st ms mt m1 m2 d1 d2
          generalize (s.1 + t.1) = z at *
          (focus (refine wkad (w_a e0 (w_a e1 (w_a e2 (w_a e3 (w_a e9 (w_a e10 (w_a e11 (w_a em (w_a hg (w_a hh (w_a @l_map (w_a @Bool.not_true w_t)))))))))))) (w_a cl (w_a ca w_t)) (w_a (w_d 4 [(9, iv 0)] [] []) (w_a (w_d 5 [(9, .tup [tmA (z, s.2), .v (.bool false)])] [] [13]) w_t)) ?_; (repeat' first | exact w_t | apply w_l); all_goals intros))
          refine ⟨(i + 1, l + 1), ⟨by simp only; omega, by simp only; omega, by exact gW e0, by exact gW e1, by exact gW e2, by exact gW e3, by exact gS, by exact gS, _, out, by exact gW e9, by exact gW em, by simp only; omega, hs⟩, by simp only; omega⟩
        · rw [if_neg hz] at hs
          rw [decide_eq_false (show ¬ (s.1 + t.1).num.sign = 0 by rw [sgn_ne]; exact hz)] at ca
          clear st ms mt m1 m2 d1 d2
          generalize (s.1 + t.1) = z at *
          (focus (refine wkad (w_a e0 (w_a e1 (w_a e2 (w_a e3 (w_a e9 (w_a e10 (w_a e11 (w_a em (w_a hg (w_a hh (w_a @l_map (w_a @Bool.not_false w_t)))))))))))) (w_a cl (w_a ca w_t)) (w_a (w_d 4 [(9, iv 0)] [] []) (w_a (w_d 5 [(9, .tup [tmA (z, s.2), .v (.bool true)])] [] [13]) w_t)) ?_; (repeat' first | exact w_t | apply w_l); all_goals intros))
          refine ⟨(i + 1, l + 1), ⟨by simp only; omega, by simp only; omega, by exact gW e0, by exact gW e1, by exact gW e2, by exact gW e3, by exact gS, by exact gS, _, out ++ [(z, s.2)], by exact gC, by (simp (disch := omega) only [go_sem, List.map_append] <;> repeat' first | rfl | refine ⟨?_, ?_⟩), by simp only [List.length_append, List.length_cons, List.length_nil]; omega, by rw [hs, List.append_assoc]; rfl⟩, by simp only; omega⟩
      · rw [if_pos h1] at hs
        rw [h2] at cl
        clear st ms mt m1 m2 d1 d2 ca
        (focus (refine wkad (w_a e0 (w_a e1 (w_a e2 (w_a e3 (w_a e9 (w_a e10 (w_a e11 (w_a em (w_a hg (w_a hh (w_a @l_map w_t))))))))))) (w_a cl w_t) (w_a (w_d 4 [(9, iv 1)] [] []) w_t) ?_; (repeat' first | exact w_t | apply w_l); all_goals intros))
        refine ⟨(i + 1, l), ⟨by simp only; omega, by simp only; omega, by exact gW e0, by exact gW e1, by exact gW e2, by exact gW e3, by exact gS, by exact gW e11, _, out ++ [s], by exact gC, by (simp (disch := omega) only [go_sem, List.map_append] <;> repeat' first | rfl | refine ⟨?_, ?_⟩), by simp only [List.length_append, List.length_cons, List.length_nil]; omega, by rw [hs, List.append_assoc]; rfl⟩, by simp only; omega⟩
    · rw [addM_end (by omega)] at hs
      rw [hs]
      clear hs
      have tp : (p.map tmA).take p.length = p.map tmA := by rw [← List.length_map (f := tmA), List.take_length]
      have tq : (q.map tmA).take q.length = q.map tmA := by rw [← List.length_map (f := tmA), List.take_length]
      by_cases hi2 : i < p.length
      · have hl2 : l = q.length := by omega
        subst hl2
        (focus (refine wkad (w_a e0 (w_a e1 (w_a e2 (w_a e3 (w_a e9 (w_a e10 (w_a e11 (w_a em (w_a @l_map (w_a @l_drop (w_a @l_app (w_a @l_take (w_a @Nat.min_self (w_a tp (w_a tq w_t))))))))))))))) w_t w_t ?_; (repeat' first | exact w_t | apply w_l); all_goals intros))
        (all_goals (try simp (disch := omega) only [go_sem, List.append_assoc, tp, tq, decide_eq_true, decide_eq_false, if_pos, if_neg, Int.reduceAdd, Int.reduceSub, Int.reduceToNat, Int.zero_add])); (all_goals first | done | rfl | (congr 2; first | done | omega | (rw [Bool.eq_iff_iff]; simp only [bool_to_prop, Bool.false_eq_true, iff_true, true_iff, iff_false, false_iff]; omega)) | skip)
        all_goals exact congrArg (AV.sl 4) (by simp only [List.map_append, List.map_drop])
      · (focus (refine wkad (w_a e0 (w_a e1 (w_a e2 (w_a e3 (w_a e9 (w_a e10 (w_a e11 (w_a em (w_a @l_map (w_a @l_drop (w_a @l_app (w_a @l_take (w_a @Nat.min_self (w_a tp (w_a tq w_t))))))))))))))) w_t w_t ?_; (repeat' first | exact w_t | apply w_l); all_goals intros))
        (all_goals (try simp (disch := omega) only [go_sem, List.append_assoc, tp, tq, decide_eq_true, decide_eq_false, if_pos, if_neg, Int.reduceAdd, Int.reduceSub, Int.reduceToNat, Int.zero_add])); (all_goals first | done | rfl | (congr 2; first | done | omega | (rw [Bool.eq_iff_iff]; simp only [bool_to_prop, Bool.false_eq_true, iff_true, true_iff, iff_false, false_iff]; omega)) | skip)
        all_goals exact congrArg (AV.sl 4) (by simp only [List.map_append, List.map_drop])
  · exact ⟨Nat.zero_le _, Nat.zero_le _, by exact gC, by exact gC, by exact gC, by exact gC, by exact gC, by exact gC, _, [], by exact gC, by (simp (disch := omega) only [go_sem, List.map_nil, List.replicate_zero] <;> repeat' first | rfl | refine ⟨?_, ?_⟩), by simp, by simp⟩
end Go.Proofs.YteiopjkamgmfpaaGreatDoor
end

section
namespace Go.Proofs.YteiopjkamgmfpaaGreatDoor
open Go Go.RowKit Go.Pg Go.Pol
set_option linter.unusedSimpArgs false
set_option linter.unusedVariables false
set_option maxRecDepth 20000
attribute [local go_sem] Tryz.underlying3 Tryz.underlying4 Tryz.underlying49 Tryz.underlying47 Tryz.underlying45 Tryz.underlying138 Tryz.underlying37 Tryz.underlying130 Tryz.underlying38 Tryz.underlying189 sz3 by3 z3 szRat zRat szInt zInt szNat zNat szTerm byTerm zTerm szMono byMono zMono szPoly byPoly zPoly
attribute [-bool_to_prop] Bool.and_eq_decide Bool.or_eq_decide Bool.decide_beq_decide decide_eq_decide
theorem poAdd (p q : Po) {j k e : Nat} (hp : PK p j e) (hq : PK q k e) (sp : SrtM p) (sq : SrtM q) (lp : p.length ≤ 1000000) (lq : q.length ≤ 1000000) (hj : j ≤ 1000000) (hk : k ≤ 1000000) (he : e ≤ 16777216) :
    Pure Tryz.prog 156 [poA p, poA q] (poA (addM p q)) := by
  have c := poMerge p q hp hq sp sq lp lq hj hk he
  generalize addM p q = r at *
  refine pure_intro (tok := 0) Tryz.func156 rfl Tryz.ntmps156 Tryz.results156 Tryz.call156 (by rfl) (by simp) ?_
  (focus (refine wklp w_t (w_a c w_t) w_t (w_r 0) ?_; (repeat' first | exact w_t | apply w_l); all_goals intros))
theorem poTimes1 {p : Po} {t : Tm} {i : Nat} (hi : i < p.length) : timesP mulM (p.take (i + 1)) t = timesP mulM (p.take i) t ++ [(p[i].1 * t.1, mulM p[i].2 t.2)] := by
  unfold timesP
  rw [List.take_succ_eq_append_getElem hi, List.map_append]; rfl
theorem timesP_len (p : Po) (t : Tm) : (timesP mulM p t).length = p.length := by unfold timesP; simp
set_option maxHeartbeats 4000000 in
theorem poTimes (p : Po) (t : Tm) {j k e f : Nat} (hp : PK p j e) (ht : PK [t] k f) (sp : SrtM p) (h0 : t.1 ≠ 0) (hd : Can t.2) (lp : p.length ≤ 1000000) (hj : j ≤ 1000000) (hk : k ≤ 1000000) (he : e ≤ 16777216) (hf : f ≤ 16777216) :
    Pure Tryz.prog 95 [poA p, .agg [.v (.bool (decide (t.1.num < 0))), lim (toL t.1.num.natAbs), lim (toL t.1.den), ivs t.2]] (poA (timesP mulM p t)) := by
  refine pure_intro (tok := 0) Tryz.func95 rfl Tryz.ntmps95 Tryz.results95 Tryz.call95 (by rfl) (by simp) ?_
  (focus (refine wkad (w_a @l_map w_t) w_t w_t ?_; (repeat' first | exact w_t | apply w_l); all_goals intros))
  rename_i g3 sv0
  refine r_loopE (ι := Nat) (fun i e m => i ≤ p.length ∧ e 3 = .pbox 3 g3 0 ∧ m 3 = some (.box g3 138 [.v (.bool (decide (t.1.num < 0))), lim (toL t.1.num.natAbs), lim (toL t.1.den), ivs t.2] false) ∧ e 12 = poA p ∧ e 13 = iv p.length ∧ e 14 = iv i ∧ ∃ sv, e 5 = .own 11 sv ∧ m 11 = some (.row sv 138 4 ((timesP mulM (p.take i) t).map tmA) 0)) (fun i => p.length - i) 0 (by rfl) ?_ ?_
  · rintro i e m ⟨hi, e3, m3, e12, e13, e14, sv, e5, m11⟩
    by_cases hlt : i < p.length
    · have hg := map_atB tmA hlt
      have hs := poTimes1 (t := t) hlt
      have ms := hp _ (List.getElem_mem hlt)
      have m1 := hp.sm he (List.getElem_mem hlt)
      have m2 := ht.sm hf (.head _)
      have d1 := sp.dom _ (List.getElem_mem hlt)
      have n1 := (sp.1 _ (List.getElem_mem hlt)).1
      have mt := (ht t (.head _)).1
      have hl : (timesP mulM (p.take i) t).length ≤ 1000000 := by rw [timesP_len, List.length_take]; omega
      generalize p[i] = s at *
      have c1 := ratMul s.1 t.1 ms.1 mt (by omega) (by omega)
      have c2 := ratSign (s.1 * t.1) (ms.1.mul mt) (by omega)
      have c3 : Pure Tryz.prog 159 [ivs s.2, ivs t.2] (ivs (trimI (mulM s.2 t.2))) := monMul s.2 t.2 m1.wd m2.wd
      rw [trim_can (mulK.dom _ _ d1 hd)] at c3
      have nz : ¬ (s.1 * t.1).num.sign = 0 := by
        rw [sgn_ne]; intro h
        rcases Rat.mul_eq_zero.1 h with h | h
        · exact n1 h
        · exact h0 h
      have nz2 : (!decide ((s.1 * t.1).num.sign = 0)) = true := by rw [decide_eq_false nz]; rfl
      obtain ⟨s1, s2⟩ := s
      simp only at *
      clear ms m1 m2 d1 n1 mt
      generalize s1 * t.1 = z at *
      generalize mulM s2 t.2 = w at *
      generalize timesP mulM (p.take i) t = out at *
      (focus (refine wkad (w_a e3 (w_a m3 (w_a e12 (w_a e13 (w_a e14 (w_a e5 (w_a m11 (w_a hg (w_a @l_map (w_a nz2 w_t)))))))))) (w_a c1 (w_a c2 (w_a c3 w_t))) (w_a (w_d 7 [(6, ivs w)] [9, 1009] [11, 34]) w_t) ?_; (repeat' first | exact w_t | apply w_l); all_goals intros))
      exact ⟨i + 1, ⟨by omega, by exact gW e3, by exact gW m3, by exact gW e12, by exact gW e13, by exact gS, _, by exact gC, by rw [hs, List.map_append]; exact gC⟩, by omega⟩
    · have hi2 : i = p.length := by omega
      subst hi2
      rw [List.take_length] at m11
      (focus (refine wkld (w_a e3 (w_a m3 (w_a e12 (w_a e13 (w_a e14 (w_a e5 (w_a m11 (w_a @l_map w_t)))))))) w_t (w_a m11 w_t) w_t ?_; (repeat' first | exact w_t | apply w_l); all_goals intros))
  · exact ⟨Nat.zero_le _, by exact gC, by exact gC, by exact gC, by (simp (disch := omega) only [go_sem, List.length_map] <;> repeat' first | rfl | refine ⟨?_, ?_⟩), by exact gC, _, by exact gC, by (simp (disch := omega) only [go_sem, List.take_zero, timesP, List.map_nil, List.replicate_zero] <;> repeat' first | rfl | refine ⟨?_, ?_⟩)⟩
set_option maxHeartbeats 4000000 in
theorem poTimesN (p : Po) (t : Tm) (hn : t.2 = []) {j k e f : Nat} (hp : PK p j e) (ht : PK [t] k f) (sp : SrtM p) (h0 : t.1 ≠ 0) (hd : Can t.2) (lp : p.length ≤ 1000000) (hj : j ≤ 1000000) (hk : k ≤ 1000000) (he : e ≤ 16777216) (hf : f ≤ 16777216) :
    Pure Tryz.prog 95 [poA p, .agg [.v (.bool (decide (t.1.num < 0))), lim (toL t.1.num.natAbs), lim (toL t.1.den), .v (.slice none 0 0)]] (poA (timesP mulM p t)) := by
  refine pure_intro (tok := 0) Tryz.func95 rfl Tryz.ntmps95 Tryz.results95 Tryz.call95 (by rfl) (by simp) ?_
  (focus (refine wkad (w_a @l_map w_t) w_t w_t ?_; (repeat' first | exact w_t | apply w_l); all_goals intros))
  rename_i g3 sv0
  refine r_loopE (ι := Nat) (fun i e m => i ≤ p.length ∧ e 3 = .pbox 3 g3 0 ∧ m 3 = some (.box g3 138 [.v (.bool (decide (t.1.num < 0))), lim (toL t.1.num.natAbs), lim (toL t.1.den), .v (.slice none 0 0)] false) ∧ e 12 = poA p ∧ e 13 = iv p.length ∧ e 14 = iv i ∧ ∃ sv, e 5 = .own 11 sv ∧ m 11 = some (.row sv 138 4 ((timesP mulM (p.take i) t).map tmA) 0)) (fun i => p.length - i) 0 (by rfl) ?_ ?_
  · rintro i e m ⟨hi, e3, m3, e12, e13, e14, sv, e5, m11⟩
    by_cases hlt : i < p.length
    · have hg := map_atB tmA hlt
      have hs := poTimes1 (t := t) hlt
      have ms := hp _ (List.getElem_mem hlt)
      have m1 := hp.sm he (List.getElem_mem hlt)
      have m2 := ht.sm hf (.head _)
      have d1 := sp.dom _ (List.getElem_mem hlt)
      have n1 := (sp.1 _ (List.getElem_mem hlt)).1
      have mt := (ht t (.head _)).1
      have hl : (timesP mulM (p.take i) t).length ≤ 1000000 := by rw [timesP_len, List.length_take]; omega
      generalize p[i] = s at *
      have c1 := ratMul s.1 t.1 ms.1 mt (by omega) (by omega)
      have c2 := ratSign (s.1 * t.1) (ms.1.mul mt) (by omega)
      have c3 : Pure Tryz.prog 159 [ivs s.2, ivs t.2] (ivs (trimI (mulM s.2 t.2))) := monMul s.2 t.2 m1.wd m2.wd
      rw [trim_can (mulK.dom _ _ d1 hd)] at c3
      have nz : ¬ (s.1 * t.1).num.sign = 0 := by
        rw [sgn_ne]; intro h
        rcases Rat.mul_eq_zero.1 h with h | h
        · exact n1 h
        · exact h0 h
      have nz2 : (!decide ((s.1 * t.1).num.sign = 0)) = true := by rw [decide_eq_false nz]; rfl
      have c3 : Pure Tryz.prog 159 [ivs s.2, .v (.slice none 0 0)] (ivs (mulM s.2 t.2)) := by
        rw [hn] at c3 ⊢
        exact pure_vkA c3 (.cons (.refl _) (.cons (.nil 1) .nil))
      obtain ⟨s1, s2⟩ := s
      simp only at *
      clear ms m1 m2 d1 n1 mt
      generalize s1 * t.1 = z at *
      generalize mulM s2 t.2 = w at *
      generalize timesP mulM (p.take i) t = out at *
      (focus (refine wkad (w_a e3 (w_a m3 (w_a e12 (w_a e13 (w_a e14 (w_a e5 (w_a m11 (w_a hg (w_a @l_map (w_a nz2 w_t)))))))))) (w_a c1 (w_a c2 (w_a c3 w_t))) (w_a (w_d 7 [(6, ivs w)] [9, 1009] [11, 34]) w_t) ?_; (repeat' first | exact w_t | apply w_l); all_goals intros))
      exact ⟨i + 1, ⟨by omega, by exact gW e3, by exact gW m3, by exact gW e12, by exact gW e13, by exact gS, _, by exact gC, by rw [hs, List.map_append]; exact gC⟩, by omega⟩
    · have hi2 : i = p.length := by omega
      subst hi2
      rw [List.take_length] at m11
      (focus (refine wkld (w_a e3 (w_a m3 (w_a e12 (w_a e13 (w_a e14 (w_a e5 (w_a m11 (w_a @l_map w_t)))))))) w_t (w_a m11 w_t) w_t ?_; (repeat' first | exact w_t | apply w_l); all_goals intros))
  · exact ⟨Nat.zero_le _, by exact gC, by exact gC, by exact gC, by (simp (disch := omega) only [go_sem, List.length_map] <;> repeat' first | rfl | refine ⟨?_, ?_⟩), by exact gC, _, by exact gC, by (simp (disch := omega) only [go_sem, List.take_zero, timesP, List.map_nil, List.replicate_zero] <;> repeat' first | rfl | refine ⟨?_, ?_⟩)⟩
end Go.Proofs.YteiopjkamgmfpaaGreatDoor
end

section
namespace Go.Proofs.YteiopjkamgmfpaaGreatDoor
open Go Go.RowKit Go.Pg
set_option linter.unusedSimpArgs false
set_option linter.unusedVariables false
set_option maxRecDepth 20000
attribute [local go_sem] Tryz.underlying3 Tryz.underlying2 Tryz.underlying115 Tryz.underlying156 Tryz.underlying4 Tryz.underlying49 Tryz.underlying45 Tryz.underlying47 sz3 by3 z3 szL byL zL szRat zRat szNat zNat szInt zInt
attribute [-bool_to_prop] Bool.and_eq_decide Bool.or_eq_decide Bool.decide_beq_decide decide_eq_decide
theorem intOfM : Pure Tryz.prog 97 [iv (-1)] (intZ (-1)) := by
  have hm := intMade true 1 (by rw [lg_one]; omega)
  have hn := natOf 1 (by omega)
  rw [show zI true 1 = -1 from rfl] at hm
  rw [show intZ (-1) = .agg [.v (.bool true), lim (toL 1)] from rfl] at hm ⊢
  generalize toL 1 = l at *
  refine pure_intro (tok := 0) Tryz.func97 rfl Tryz.ntmps97 Tryz.results97 Tryz.call97 (by rfl) (by simp) ?_
  (focus (refine wklp w_t (w_a hn (w_a hm w_t)) w_t (w_r 0) ?_; (repeat' first | exact w_t | apply w_l); all_goals intros))
theorem ratOfM : Pure Tryz.prog 38 [iv (-1)] (ratQ (-1)) := by
  have c := intOfM
  rw [show intZ (-1) = .agg [.v (.bool true), lim (toL 1)] from rfl] at c
  rw [show ratQ (-1) = .agg [.v (.bool true), lim (toL 1), lim (toL 1)] from rfl]
  have u := ratUnit
  generalize toL 1 = l at *
  refine pure_intro (tok := 0) Tryz.func38 rfl Tryz.ntmps38 Tryz.results38 Tryz.call38 (by rfl) (by simp) ?_
  (focus (refine wklp w_t (w_a c (w_a u w_t)) w_t (w_r 0) ?_; (repeat' first | exact w_t | apply w_l); all_goals intros))
theorem zOfM : Pure Tryz.prog 77 [iv (-1)] (intZ (-1)) := by
  have hm := zOf' true 1 (by rw [lg_one]; omega)
  have h0 := refOf 0 (by omega)
  have h1 := refOf 1 (by omega)
  have ha := rAdd 0 1 (by rw [toL_zero]; simp) (by rw [lg_one]; omega)
  rw [show zI true 1 = -1 from rfl] at hm
  rw [show 0 + 1 = 1 from rfl] at ha
  rw [show intZ (-1) = .agg [.v (.bool true), lim (toL 1)] from rfl] at hm ⊢
  generalize toL 1 = l at *
  generalize toL 0 = k at *
  refine pure_intro (tok := 0) Tryz.func77 rfl Tryz.ntmps77 Tryz.results77 Tryz.call77 (by rfl) (by simp) ?_
  (focus (refine wklp w_t (w_a h0 (w_a h1 (w_a ha (w_a hm w_t)))) w_t (w_r 0) ?_; (repeat' first | exact w_t | apply w_l); all_goals intros))
theorem qOfM : Pure Tryz.prog 26 [iv (-1)] (ratQ (-1)) := by
  have c := zOfM
  have h1 := refOf 1 (by omega)
  have co : Pure Tryz.prog 76 [.agg [.v (.bool true), lim (toL 1)], lim (toL 1)] (ratQ (mkRat (zI true 1) 1)) := qOver true 1 1 (by rw [lg_one]; omega) (by rw [lg_one]; omega) (by omega)
  rw [show mkRat (zI true 1) 1 = (-1 : Rat) from rfl] at co
  rw [show intZ (-1) = .agg [.v (.bool true), lim (toL 1)] from rfl] at c
  rw [show ratQ (-1) = .agg [.v (.bool true), lim (toL 1), lim (toL 1)] from rfl] at *
  generalize toL 1 = l at *
  refine pure_intro (tok := 0) Tryz.func26 rfl Tryz.ntmps26 Tryz.results26 Tryz.call26 (by rfl) (by simp) ?_
  (focus (refine wklp w_t (w_a c (w_a h1 (w_a co w_t))) w_t (w_r 0) ?_; (repeat' first | exact w_t | apply w_l); all_goals intros))
end Go.Proofs.YteiopjkamgmfpaaGreatDoor
end

section
namespace Go.Proofs.YteiopjkamgmfpaaGreatDoor
open Go Go.RowKit Go.Pg Go.Pol
set_option linter.unusedSimpArgs false
set_option linter.unusedVariables false
set_option maxRecDepth 20000
attribute [local go_sem] Tryz.underlying3 Tryz.underlying4 Tryz.underlying49 Tryz.underlying47 Tryz.underlying45 Tryz.underlying138 Tryz.underlying37 Tryz.underlying130 Tryz.underlying38 Tryz.underlying189 sz3 by3 z3 szRat zRat szInt zInt szNat zNat szTerm byTerm zTerm szMono byMono zMono szPoly byPoly zPoly
attribute [-bool_to_prop] Bool.and_eq_decide Bool.or_eq_decide Bool.decide_beq_decide decide_eq_decide
/-- All sums of neighbours are of a moderate size. -/
def SumOk (l : List Po) (K e : Nat) : Prop := ∀ a b, PK (sumH ltM ((l.drop a).take b)) K e ∧ (sumH ltM ((l.drop a).take b)).length ≤ 1000000
theorem SumOk.take {l : List Po} {K e : Nat} (h : SumOk l K e) (k : Nat) : SumOk (l.take k) K e := fun a b => by
  rw [List.drop_take, List.take_take]; exact h a _
theorem SumOk.drop {l : List Po} {K e : Nat} (h : SumOk l K e) (k : Nat) : SumOk (l.drop k) K e := fun a b => by
  rw [List.drop_drop]; exact h _ b
theorem SumOk.all {l : List Po} {K e : Nat} (h : SumOk l K e) : PK (sumH ltM l) K e ∧ (sumH ltM l).length ≤ 1000000 := by
  have := h 0 l.length
  rwa [List.drop_zero, List.take_length] at this
set_option maxHeartbeats 4000000 in
theorem poSumN : ∀ (n : Nat) (l : List Po) {K e : Nat}, l.length = n → (∀ p ∈ l, SrtM p) → SumOk l K e → l.length ≤ 1000000 → K ≤ 1000000 → e ≤ 16777216 → Pure Tryz.prog 158 [.sl 1 (l.map poA)] (poA (sumH ltM l)) := by
  intro n
  induction n using Nat.strongRecOn with
  | _ n ih =>
    intro l K e hn hs ho hl hK he
    match l, hn, hs, ho, hl with
    | [], hn, hs, ho, hl =>
      rw [show sumH ltM [] = [] from by simp [sumH]]
      refine pure_vkR (r := .v (.slice none 0 0)) ?_ (.nil 4)
      refine pure_intro (tok := 0) Tryz.func158 rfl Tryz.ntmps158 Tryz.results158 Tryz.call158 (by rfl) (by simp) ?_
      (focus (refine wkld w_t w_t w_t w_t ?_; (repeat' first | exact w_t | apply w_l); all_goals intros))
    | [p], hn, hs, ho, hl =>
      rw [show sumH ltM [p] = p from by simp [sumH]]
      refine pure_intro (tok := 0) Tryz.func158 rfl Tryz.ntmps158 Tryz.results158 Tryz.call158 (by rfl) (by simp) ?_
      (focus (refine wkld w_t w_t w_t w_t ?_; (repeat' first | exact w_t | apply w_l); all_goals intros))
    | p :: q :: r, hn, hs, ho, hl =>
      obtain ⟨L, hL⟩ : ∃ L, L = p :: q :: r := ⟨_, rfl⟩
      have h2 : 2 ≤ L.length := by rw [hL]; simp
      have e1 : sumH ltM (p :: q :: r) = addM (sumH ltM (L.take (L.length / 2))) (sumH ltM (L.drop (L.length / 2))) := by rw [sumH, ← hL]
      rw [e1]
      rw [← hL] at hn hs ho hl ⊢
      clear e1 hL
      have s1 : ∀ u ∈ L.take (L.length / 2), SrtM u := fun u hu => hs u (List.mem_of_mem_take hu)
      have s2 : ∀ u ∈ L.drop (L.length / 2), SrtM u := fun u hu => hs u (List.mem_of_mem_drop hu)
      have o1 := (ho.take (L.length / 2)).all
      have o2 := (ho.drop (L.length / 2)).all
      have c1 := ih (L.take (L.length / 2)).length (by rw [List.length_take]; omega) (L.take (L.length / 2)) rfl s1 (ho.take _) (by rw [List.length_take]; omega) hK he
      have c2 := ih (L.drop (L.length / 2)).length (by rw [List.length_drop]; omega) (L.drop (L.length / 2)) rfl s2 (ho.drop _) (by rw [List.length_drop]; omega) hK he
      have c3 := poAdd (sumH ltM (L.take (L.length / 2))) (sumH ltM (L.drop (L.length / 2))) o1.1 o2.1 (sumH_srt ordM _ s1) (sumH_srt ordM _ s2) o1.2 o2.2 hK hK he
      clear ih s1 s2 o1 o2 ho hs
      have hd : (L.length : Int).tdiv 2 = ((L.length / 2 : Nat) : Int) := quo_nat _ 2
      have hh : L.length / 2 ≤ L.length := by omega
      rw [List.map_take] at c1
      rw [List.map_drop] at c2
      have hlm : (L.map poA).length = L.length := List.length_map ..
      have htk : (L.map poA).take L.length = L.map poA := by rw [← hlm, List.take_length]
      generalize sumH ltM (L.take (L.length / 2)) = x at *
      generalize sumH ltM (L.drop (L.length / 2)) = y at *
      generalize addM x y = z at *
      generalize L.length / 2 = h at *
      generalize L.map poA = M at *
      generalize L.length = len at *
      refine pure_intro (tok := 0) Tryz.func158 rfl Tryz.ntmps158 Tryz.results158 Tryz.call158 (by rfl) (by simp) ?_
      (focus (refine wkld (w_a hlm (w_a hd (w_a htk (w_a @l_drop0 w_t)))) (w_a c1 (w_a c2 (w_a c3 w_t))) w_t (w_a (w_d 7 [(3, poA x), (7, poA y), (8, poA z)] [] []) w_t) ?_; (repeat' first | exact w_t | apply w_l); all_goals intros))
theorem poSum (l : List Po) {K e : Nat} (hs : ∀ p ∈ l, SrtM p) (ho : SumOk l K e) (hl : l.length ≤ 1000000) (hK : K ≤ 1000000) (he : e ≤ 16777216) : Pure Tryz.prog 158 [.sl 1 (l.map poA)] (poA (sumH ltM l)) := poSumN _ l rfl hs ho hl hK he
set_option maxHeartbeats 4000000 in
theorem poMul0 (p q : Po) (a b : Po) (hab : (q.length < p.length ∧ a = q ∧ b = p) ∨ (¬ q.length < p.length ∧ a = p ∧ b = q)) {j k e f K E : Nat} (hp : PK a j e) (hq : PK b k f) (sp : SrtM a) (sq : SrtM b) (lp : a.length ≤ 1000000) (lq : b.length ≤ 1000000) (hj : j ≤ 1000000) (hk : k ≤ 1000000) (he : e ≤ 16777216) (hf : f ≤ 16777216)
    (ho : SumOk (a.map fun t => timesP mulM b t) K E) (hK : K ≤ 1000000) (hE : E ≤ 16777216) :
    Pure Tryz.prog 94 [poA p, poA q] (poA (mlM b a)) := by
  have hs : ∀ u ∈ a.map (fun t => timesP mulM b t), SrtM u := fun u hu => by
    obtain ⟨t, ht, rfl⟩ := List.mem_map.1 hu
    exact times_srt mulK sq (sp.1 t ht).1 (sp.1 t ht).2
  have cs := poSum _ hs ho (by rw [List.length_map]; exact lp) hK hE
  rw [show sumH ltM (a.map fun t => timesP mulM b t) = mlM b a from mulH_eq ordM mulK sp sq] at cs
  clear ho hs
  have loop : ∀ (e1 : Nat → AV) (m1 : Mem) (Q : AE → St → Prop), True → True := fun _ _ _ _ => trivial
  rcases hab with ⟨hlt, rfl, rfl⟩ | ⟨hlt, rfl, rfl⟩
  all_goals
    refine pure_intro (tok := 0) Tryz.func94 rfl Tryz.ntmps94 Tryz.results94 Tryz.call94 (by rfl) (by simp) ?_
    (focus (refine wkap (w_a @l_map w_t) w_t (w_r 0) ?_; (repeat' first | exact w_t | apply w_l); all_goals intros))
    rename_i sv0
    refine r_loopE (ι := Nat) (fun i e' m => i ≤ a.length ∧ e' 1 = poA b ∧ e' 18 = poA a ∧ e' 19 = iv a.length ∧ e' 20 = iv i ∧ ∃ sv, e' 5 = .own 17 sv ∧ m 17 = some (.row sv 38 1 (((a.take i).map fun t => timesP mulM b t).map poA) 0)) (fun i => a.length - i) 0 (by rfl) ?_ ?_
    · rintro i e' m ⟨hi, e1, e18, e19, e20, sv, e5, m17⟩
      by_cases hlt : i < a.length
      · have hg := map_atB tmA hlt
        have ht : PK [a[i]] j e := fun u hu => by rw [List.mem_singleton] at hu; subst hu; exact hp _ (List.getElem_mem hlt)
        have c1 := poTimes b a[i] hq ht sq (sp.1 _ (List.getElem_mem hlt)).1 (sp.1 _ (List.getElem_mem hlt)).2 lq hk hj hf he
        have hsn : ((a.take (i + 1)).map fun t => timesP mulM b t).map poA = ((a.take i).map fun t => timesP mulM b t).map poA ++ [poA (timesP mulM b a[i])] := by
          rw [List.take_succ_eq_append_getElem hlt, List.map_append, List.map_append]; rfl
        have hl : (((a.take i).map fun t => timesP mulM b t).map poA).length = i := by rw [List.length_map, List.length_map, List.length_take]; omega
        generalize a[i] = t at *
        generalize ((a.take i).map fun t => timesP mulM b t).map poA = out at *
        generalize timesP mulM b t = tm at *
        (focus (refine wkap (w_a e1 (w_a e18 (w_a e19 (w_a e20 (w_a e5 (w_a m17 (w_a hg (w_a hl (w_a @l_map w_t))))))))) (w_a c1 w_t) (w_r 0) ?_; (repeat' first | exact w_t | apply w_l); all_goals intros))
        exact ⟨i + 1, ⟨by omega, by exact gW e1, by exact gW e18, by exact gW e19, by exact gS, _, by exact gC, by rw [hsn]; exact gC⟩, by omega⟩
      · have hi2 : i = a.length := by omega
        subst hi2
        rw [List.take_length] at m17
        generalize (a.map fun t => timesP mulM b t).map poA = out at *
        (focus (refine wkax (w_a e1 (w_a e18 (w_a e19 (w_a e20 (w_a e5 (w_a m17 (w_a @l_map w_t))))))) w_t w_t (w_a cs w_t) w_t w_t (w_r 0) ?_; (repeat' first | exact w_t | apply w_l); all_goals intros))
        (all_goals (try simp (disch := omega) only [go_sem, decide_eq_true, decide_eq_false, if_pos, if_neg, Int.reduceAdd, Int.reduceSub, Int.reduceToNat, Int.zero_add])); (all_goals first | done | rfl | (congr 2; first | done | omega | (rw [Bool.eq_iff_iff]; simp only [bool_to_prop, Bool.false_eq_true, iff_true, true_iff, iff_false, false_iff]; omega)) | skip)
    · exact ⟨Nat.zero_le _, by exact gC, by exact gC, by (simp (disch := omega) only [go_sem, List.length_map] <;> repeat' first | rfl | refine ⟨?_, ?_⟩), by exact gC, _, by exact gC, by (simp (disch := omega) only [go_sem, List.take_zero, List.map_nil, List.replicate_zero] <;> repeat' first | rfl | refine ⟨?_, ?_⟩)⟩
/-- The product's parts, as the program lays them. -/
def partsM (p q : Po) : List Po := if q.length < p.length then q.map fun t => timesP mulM p t else p.map fun t => timesP mulM q t
theorem poMul (p q : Po) {j k e f K E : Nat} (hp : PK p j e) (hq : PK q k f) (sp : SrtM p) (sq : SrtM q) (lp : p.length ≤ 1000000) (lq : q.length ≤ 1000000) (hj : j ≤ 1000000) (hk : k ≤ 1000000) (he : e ≤ 16777216) (hf : f ≤ 16777216)
    (ho : SumOk (partsM p q) K E) (hK : K ≤ 1000000) (hE : E ≤ 16777216) :
    Pure Tryz.prog 94 [poA p, poA q] (poA (mlM p q)) := by
  unfold partsM at ho
  by_cases h : q.length < p.length
  · rw [if_pos h] at ho
    exact poMul0 p q q p (.inl ⟨h, rfl, rfl⟩) hq hp sq sp lq lp hk hj hf he ho hK hE
  · rw [if_neg h] at ho
    have := poMul0 p q p q (.inr ⟨h, rfl, rfl⟩) hp hq sp sq lp lq hj hk he hf ho hK hE
    rwa [show mlM q p = mlM p q from mulR_comm ordM mulK sq sp] at this
/-- A list of at most one has no sums but itself. -/
theorem SumOk.one {l : List Po} {K e : Nat} (hl : l.length ≤ 1) (h : ∀ p ∈ l, PK p K e ∧ p.length ≤ 1000000) : SumOk l K e := fun a b => by
  have h0 : PK (sumH ltM []) K e ∧ (sumH ltM []).length ≤ 1000000 := by rw [show sumH ltM [] = [] from by simp [sumH]]; exact ⟨.nil, by simp⟩
  match l, hl, h with
  | [], _, _ => simpa using h0
  | [p], _, h =>
    match a, b with
    | 0, 0 => simpa using h0
    | 0, b + 1 => simp only [List.drop_zero, List.take_succ_cons, List.take_nil]; rw [show sumH ltM [p] = p from by simp [sumH]]; exact h p (.head _)
    | a + 1, b => simpa using h0
theorem poScale (p : Po) (a : Rat) {j k e : Nat} (hp : PK p j e) (ha : Sz a k) (sp : SrtM p) (lp : p.length ≤ 1000000) (hj : j ≤ 1000000) (hk : k ≤ 1000000) (he : e ≤ 16777216) : Pure Tryz.prog 36 [poA p, ratQ a] (poA (sclM a p)) := by
  have cs := ratSign a ha (by omega)
  unfold sclM
  by_cases h : a = 0
  · rw [if_pos h]
    have hz : a.num.sign = 0 := by rw [sgn_ne]; exact h
    refine pure_vkR (r := .v (.slice none 0 0)) ?_ (.nil 4)
    refine pure_intro (tok := 0) Tryz.func36 rfl Tryz.ntmps36 Tryz.results36 Tryz.call36 (by rfl) (by simp) ?_
    (focus (refine wklp (w_a hz w_t) (w_a cs w_t) w_t (w_r 0) ?_; (repeat' first | exact w_t | apply w_l); all_goals intros))
  · rw [if_neg h]
    have hz : ¬ a.num.sign = 0 := by rw [sgn_ne]; exact h
    have ct := poTimesN p (a, []) rfl (j := j) (k := k) (e := e) (f := 0) hp (fun u hu => by rw [List.mem_singleton] at hu; subst hu; exact ⟨ha, by simp, fun i => by show 0 ≤ gI [] i ∧ gI [] i ≤ _; rw [gI_out (Nat.zero_le _)]; omega⟩) sp h can_nil lp hj hk he (by omega)
    rw [times_unit] at ct
    simp only at ct
    generalize scaleP a p = r at *
    generalize a.num.sign = z at *
    refine pure_intro (tok := 0) Tryz.func36 rfl Tryz.ntmps36 Tryz.results36 Tryz.call36 (by rfl) (by simp) ?_
    (focus (refine wklp w_t (w_a cs (w_a ct w_t)) w_t (w_r 0) ?_; (repeat' first | exact w_t | apply w_l); all_goals intros))
theorem poNeg (p : Po) {j e : Nat} (hp : PK p j e) (sp : SrtM p) (lp : p.length ≤ 1000000) (hj : j ≤ 1000000) (he : e ≤ 16777216) : Pure Tryz.prog 157 [poA p] (poA (scaleP (-1) p)) := by
  have c := poScale p (-1) hp ((nat_sz1 1 (by omega)).neg) sp lp hj (by omega) he
  have co := ratOfM
  rw [show sclM (-1) p = scaleP (-1) p from if_neg neg1] at c
  generalize scaleP (-1) p = r at *
  generalize (-1 : Rat) = q at *
  refine pure_intro (tok := 0) Tryz.func157 rfl Tryz.ntmps157 Tryz.results157 Tryz.call157 (by rfl) (by simp) ?_
  (focus (refine wklp w_t (w_a co (w_a c w_t)) w_t (w_r 0) ?_; (repeat' first | exact w_t | apply w_l); all_goals intros))
theorem PK.neg {q : Po} {k e : Nat} (hq : PK q k e) : PK (scaleP (-1) q) k e := fun t ht => by
  obtain ⟨s, hs, rfl⟩ := List.mem_map.1 ht
  refine ⟨?_, (hq s hs).2⟩
  show Sz (s.1 * -1) k
  rw [show s.1 * -1 = -s.1 by grind]
  exact (hq s hs).1.neg
theorem scale_len (a : Rat) (p : Po) : (scaleP a p).length = p.length := by unfold scaleP; simp
theorem poSub (p q : Po) {j k e : Nat} (hp : PK p j e) (hq : PK q k e) (sp : SrtM p) (sq : SrtM q) (lp : p.length ≤ 1000000) (lq : q.length ≤ 1000000) (hj : j ≤ 1000000) (hk : k ≤ 1000000) (he : e ≤ 16777216) :
    Pure Tryz.prog 93 [poA p, poA q] (poA (subM p q)) := by
  have c1 := poNeg q hq sq lq hk he
  have c2 := poAdd p (scaleP (-1) q) hp hq.neg sp (scale_srt sq neg1) lp (by rw [scale_len]; exact lq) hj hk he
  show Pure _ _ _ (poA (addM p (scaleP (-1) q)))
  generalize scaleP (-1) q = n at *
  generalize addM p n = r at *
  refine pure_intro (tok := 0) Tryz.func93 rfl Tryz.ntmps93 Tryz.results93 Tryz.call93 (by rfl) (by simp) ?_
  (focus (refine wklp w_t (w_a c1 (w_a c2 w_t)) w_t (w_r 0) ?_; (repeat' first | exact w_t | apply w_l); all_goals intros))
theorem unit_set (v : Nat) : ((List.replicate (v + 1) (iv 0)).set v (iv 1)) = (unitM v).map iv := by
  unfold unitM
  rw [List.map_append, List.map_replicate, List.replicate_succ', List.set_append_right _ _ (by simp)]
  simp
theorem poSingle (c : Rat) (m : List Int) (h : c ≠ 0) {k : Nat} (hc : Sz c k) (hk : k ≤ 1000000) : Pure Tryz.prog 91 [ratQ c, ivs m] (poA [(c, m)]) := by
  have cs := ratSign c hc (by omega)
  have hz : ¬ c.num.sign = 0 := by rw [sgn_ne]; exact h
  generalize c.num.sign = z at *
  refine pure_intro (tok := 0) Tryz.func91 rfl Tryz.ntmps91 Tryz.results91 Tryz.call91 (by rfl) (by simp) ?_
  (focus (refine wklp w_t (w_a cs w_t) w_t (w_r 0) ?_; (repeat' first | exact w_t | apply w_l); all_goals intros))
theorem poVar (v : Nat) (hv : v < 1000) : Pure Tryz.prog 34 [iv v] (poA (varM v)) := by
  unfold varM
  by_cases h : v < 64
  · rw [if_pos h]
    have c1 := ratOf 1 (by omega)
    rw [show ((1 : Nat) : Rat) = 1 from rfl] at c1
    have c2 := poSingle 1 (unitM v) (by decide) (nat_sz1 1 (by omega)) (by omega)
    have hu : (iv 0 :: List.replicate v (iv 0)).set v (iv 1) = (unitM v).map iv := by rw [← List.replicate_succ]; exact unit_set v
    generalize (1 : Rat) = q at *
    have hl : (List.replicate (v + 1) (iv 0)).length = v + 1 := by simp
    refine pure_intro (tok := 0) Tryz.func34 rfl Tryz.ntmps34 Tryz.results34 Tryz.call34 (by rfl) (by simp) ?_
    (focus (refine wkax (w_a hl (w_a hu w_t)) (w_a c1 w_t) w_t (w_a c2 w_t) w_t w_t (w_r 0) ?_; (repeat' first | exact w_t | apply w_l); all_goals intros))
    (all_goals (try simp (disch := omega) only [go_sem, decide_eq_true, decide_eq_false, if_pos, if_neg, Int.reduceAdd, Int.reduceSub, Int.reduceToNat, Int.zero_add])); (all_goals first | done | rfl | (congr 2; first | done | omega | (rw [Bool.eq_iff_iff]; simp only [bool_to_prop, Bool.false_eq_true, iff_true, true_iff, iff_false, false_iff]; omega)) | skip)
  · rw [if_neg h]
    refine pure_vkR (r := .v (.slice none 0 0)) ?_ (.nil 4)
    refine pure_intro (tok := 0) Tryz.func34 rfl Tryz.ntmps34 Tryz.results34 Tryz.call34 (by rfl) (by simp) ?_
    (focus (refine wklp w_t w_t w_t (w_r 0) ?_; (repeat' first | exact w_t | apply w_l); all_goals intros))
end Go.Proofs.YteiopjkamgmfpaaGreatDoor
end

section
namespace Go.Proofs.YteiopjkamgmfpaaGreatDoor
open Go Go.RowKit Go.Pg Go.Pol
set_option linter.unusedSimpArgs false
set_option linter.unusedVariables false
set_option maxRecDepth 20000
attribute [local go_sem] Tryz.underlying3 Tryz.underlying4 Tryz.underlying49 Tryz.underlying47 Tryz.underlying45 Tryz.underlying138 Tryz.underlying37 Tryz.underlying130 Tryz.underlying38 Tryz.underlying189 sz3 by3 z3 szRat zRat szInt zInt szNat zNat szTerm byTerm zTerm szMono byMono zMono szPoly byPoly zPoly
attribute [-bool_to_prop] Bool.and_eq_decide Bool.or_eq_decide Bool.decide_beq_decide decide_eq_decide
theorem rpLex (a b : List Int) (hs : Sm a) (ht : Sm b) : Pure Tryz.prog 103 [ivs a, ivs b, iv 0] (iv (lexC a b (max a.length b.length))) := by
  have c : Pure Tryz.prog 103 [ivs a, ivs b, iv 0] (iv (cmpI a b 0)) := mrCmp a b 0 hs ht
  have e : cmpI a b 0 = lexC a b (max a.length b.length) := by unfold cmpI; rw [if_neg (by omega)]
  rwa [e] at c
theorem qSign (q : Rat) {k : Nat} (h : Sz q k) (hk : k ≤ 10000000) : Pure Tryz.prog 70 [ratQ q] (.v (.int .i64 q.num.sign)) := by
  have c := zSign q.num (by have := h.1; omega)
  have cn := qNorm q h hk
  generalize q.num.sign = z at *
  refine pure_intro (tok := 0) Tryz.func70 rfl Tryz.ntmps70 Tryz.results70 Tryz.call70 (by rfl) (by simp) ?_
  (focus (refine wklp w_t (w_a cn (w_a c w_t)) w_t (w_r 0) ?_; (repeat' first | exact w_t | apply w_l); all_goals intros))
set_option maxHeartbeats 4000000 in
theorem rpAdd (p q : Po) {j k e : Nat} (hp : PK p j e) (hq : PK q k e) (sp : SrtM p) (sq : SrtM q) (lp : p.length ≤ 1000000) (lq : q.length ≤ 1000000) (hj : j ≤ 1000000) (hk : k ≤ 1000000) (he : e ≤ 16777216) :
    Pure Tryz.prog 102 [poA p, poA q] (poA (addM p q)) := by
  refine pure_intro (tok := 0) Tryz.func102 rfl Tryz.ntmps102 Tryz.results102 Tryz.call102 (by rfl) (by simp) ?_
  (focus (refine wkad (w_a @l_map w_t) w_t w_t ?_; (repeat' first | exact w_t | apply w_l); all_goals intros))
  refine r_frz (Frz.nilOwn (d := 5) 100 4 138 (by exact gC)) ?_
  refine r_loopE (ι := Nat × Nat) (fun x e m => x.1 ≤ p.length ∧ x.2 ≤ q.length ∧ e 0 = poA p ∧ e 1 = poA q ∧ e 6 = iv x.1 ∧ e 7 = iv x.2 ∧ ∃ sv out, e 5 = .own 100 sv ∧ m 100 = some (.row sv 138 4 (out.map tmA) 0) ∧ out.length ≤ x.1 + x.2 ∧ addM p q = out ++ addM (p.drop x.1) (q.drop x.2)) (fun x => p.length + q.length - (x.1 + x.2)) (0, 0) (by rfl) ?_ ?_
  · rintro ⟨i, l⟩ e m ⟨hi, hl, e0, e1, e6, e7, sv, out, e5, em, ho, hs⟩
    simp only at hi hl e6 e7 ho hs
    by_cases hil : i < p.length ∧ l < q.length
    · obtain ⟨hi2, hl2⟩ := hil
      have hg := map_atB tmA hi2
      have hh := map_atB tmA hl2
      have st := addM_step hi2 hl2
      have ms := hp _ (List.getElem_mem hi2)
      have mt := hq _ (List.getElem_mem hl2)
      have m1 := hp.sm he (List.getElem_mem hi2)
      have m2 := hq.sm he (List.getElem_mem hl2)
      have d1 := sp.dom _ (List.getElem_mem hi2)
      have d2 := sq.dom _ (List.getElem_mem hl2)
      generalize p[i] = s at *
      generalize q[l] = t at *
      have cl := rpLex s.2 t.2 m1 m2
      have ca := qAdd s.1 t.1 ms.1 mt.1 (by omega) (by omega)
      have cz := qSign (s.1 + t.1) (ms.1.add mt.1) (by omega)
      have hlen : (out.map tmA).length = out.length := List.length_map ..
      rw [st] at hs
      obtain ⟨s1, s2⟩ := s
      obtain ⟨t1, t2⟩ := t
      simp only at *
      rcases lexM_cases d1 d2 with ⟨h1, h2⟩ | ⟨h1, h1', h2, h3⟩ | ⟨h1, h1', h2⟩
      · have h3 : ¬ ltM t2 s2 := fun h => ordM.irr _ (ordM.tr _ _ _ h h1)
        rw [if_neg h3, if_pos h1] at hs
        rw [h2] at cl
        clear st ms mt m1 m2 d1 d2 ca cz
        (focus (refine wkad (w_a e0 (w_a e1 (w_a e6 (w_a e7 (w_a e5 (w_a em (w_a hg (w_a hh (w_a @l_map w_t))))))))) (w_a cl w_t) (w_a (w_d 8 [(10, iv (-1))] [] []) w_t) ?_; (repeat' first | exact w_t | apply w_l); all_goals intros))
        refine ⟨(i, l + 1), ⟨by simp only; omega, by simp only; omega, by exact gW e0, by exact gW e1, by exact gW e6, by exact gS, _, out ++ [(t1, t2)], by exact gC, by (simp (disch := omega) only [go_sem, List.map_append] <;> repeat' first | rfl | refine ⟨?_, ?_⟩), by simp only [List.length_append, List.length_cons, List.length_nil]; omega, by rw [hs, List.append_assoc]; rfl⟩, by simp only; omega⟩
      · rw [if_neg h1', if_neg h1] at hs
        rw [h3] at cl
        by_cases hz : s1 + t1 = 0
        · rw [if_pos hz] at hs
          have hz2 : (s1 + t1).num.sign = 0 := by rw [sgn_ne]; exact hz
          clear st ms mt m1 m2 d1 d2
          generalize (s1 + t1) = z at *
          (focus (refine wkad (w_a e0 (w_a e1 (w_a e6 (w_a e7 (w_a e5 (w_a em (w_a hg (w_a hh (w_a @l_map (w_a hz2 w_t)))))))))) (w_a cl (w_a ca (w_a cz w_t))) (w_a (w_d 8 [(10, iv 0)] [] []) (w_a (w_d 9 [(10, ratQ z)] [] [9]) w_t)) ?_; (repeat' first | exact w_t | apply w_l); all_goals intros))
          refine ⟨(i + 1, l + 1), ⟨by simp only; omega, by simp only; omega, by exact gW e0, by exact gW e1, by exact gS, by exact gS, _, out, by exact gW e5, by exact gW em, by simp only; omega, hs⟩, by simp only; omega⟩
        · rw [if_neg hz] at hs
          have hz2 : ¬ (s1 + t1).num.sign = 0 := by rw [sgn_ne]; exact hz
          clear st ms mt m1 m2 d1 d2
          generalize (s1 + t1) = z at *
          (focus (refine wkax (w_a e0 (w_a e1 (w_a e6 (w_a e7 (w_a e5 (w_a em (w_a hg (w_a hh (w_a @l_map w_t))))))))) (w_a cl (w_a ca (w_a cz w_t))) (w_a (w_d 8 [(10, iv 0)] [] []) (w_a (w_d 9 [(10, ratQ z)] [] [9]) (w_a (w_d 11 [] [9, 1009] [100, 61]) w_t))) w_t w_t w_t (w_r 0) ?_; (repeat' first | exact w_t | apply w_l); all_goals intros))
          refine ⟨(i + 1, l + 1), ⟨by simp only; omega, by simp only; omega, by exact gW e0, by exact gW e1, by exact gS, by exact gS, _, out ++ [(z, s2)], by exact gC, by (simp (disch := omega) only [go_sem, List.map_append] <;> repeat' first | rfl | refine ⟨?_, ?_⟩), by simp only [List.length_append, List.length_cons, List.length_nil]; omega, by rw [hs, List.append_assoc]; rfl⟩, by simp only; omega⟩
      · rw [if_pos h1] at hs
        rw [h2] at cl
        clear st ms mt m1 m2 d1 d2 ca cz
        (focus (refine wkad (w_a e0 (w_a e1 (w_a e6 (w_a e7 (w_a e5 (w_a em (w_a hg (w_a hh (w_a @l_map w_t))))))))) (w_a cl w_t) (w_a (w_d 8 [(10, iv 1)] [] []) w_t) ?_; (repeat' first | exact w_t | apply w_l); all_goals intros))
        refine ⟨(i + 1, l), ⟨by simp only; omega, by simp only; omega, by exact gW e0, by exact gW e1, by exact gS, by exact gW e7, _, out ++ [(s1, s2)], by exact gC, by (simp (disch := omega) only [go_sem, List.map_append] <;> repeat' first | rfl | refine ⟨?_, ?_⟩), by simp only [List.length_append, List.length_cons, List.length_nil]; omega, by rw [hs, List.append_assoc]; rfl⟩, by simp only; omega⟩
    · rw [addM_end (by omega)] at hs
      by_cases hi2 : i < p.length
      · have hl2 : l = q.length := by omega
        subst hl2
        have hg := map_atB tmA hi2
        have hd : p.drop i = p[i] :: p.drop (i + 1) := List.drop_eq_getElem_cons hi2
        rw [hd] at hs
        have hs : addM p q = (out ++ [p[i]]) ++ addM (p.drop (i + 1)) (q.drop q.length) := by
          rw [addM_end (.inr (Nat.le_refl _)), hs]; simp
        clear hd
        generalize p[i] = s at *
        obtain ⟨s1, s2⟩ := s
        (focus (refine wkad (w_a e0 (w_a e1 (w_a e6 (w_a e7 (w_a e5 (w_a em (w_a hg (w_a @l_map w_t)))))))) w_t w_t ?_; (repeat' first | exact w_t | apply w_l); all_goals intros))
        refine ⟨(i + 1, q.length), ⟨by simp only; omega, by simp only; omega, by exact gW e0, by exact gW e1, by exact gS, by exact gW e7, _, out ++ [(s1, s2)], by exact gC, by (simp (disch := omega) only [go_sem, List.map_append] <;> repeat' first | rfl | refine ⟨?_, ?_⟩), by simp only [List.length_append, List.length_cons, List.length_nil]; omega, hs⟩, by simp only; omega⟩
      · have hi3 : i = p.length := by omega
        subst hi3
        by_cases hl2 : l < q.length
        · have hg := map_atB tmA hl2
          have hd : q.drop l = q[l] :: q.drop (l + 1) := List.drop_eq_getElem_cons hl2
          rw [hd] at hs
          have hs : addM p q = (out ++ [q[l]]) ++ addM (p.drop p.length) (q.drop (l + 1)) := by
            rw [addM_end (.inl (Nat.le_refl _)), hs]; simp
          clear hd
          generalize q[l] = s at *
          obtain ⟨s1, s2⟩ := s
          (focus (refine wkad (w_a e0 (w_a e1 (w_a e6 (w_a e7 (w_a e5 (w_a em (w_a hg (w_a @l_map w_t)))))))) w_t w_t ?_; (repeat' first | exact w_t | apply w_l); all_goals intros))
          refine ⟨(p.length, l + 1), ⟨by simp only; omega, by simp only; omega, by exact gW e0, by exact gW e1, by exact gW e6, by exact gS, _, out ++ [(s1, s2)], by exact gC, by (simp (disch := omega) only [go_sem, List.map_append] <;> repeat' first | rfl | refine ⟨?_, ?_⟩), by simp only [List.length_append, List.length_cons, List.length_nil]; omega, hs⟩, by simp only; omega⟩
        · have hl3 : l = q.length := by omega
          subst hl3
          rw [List.drop_length, List.drop_length, List.append_nil, List.append_nil] at hs
          rw [hs]
          (focus (refine wkld (w_a e0 (w_a e1 (w_a e6 (w_a e7 (w_a e5 (w_a em (w_a @l_map w_t))))))) w_t (w_a em w_t) w_t ?_; (repeat' first | exact w_t | apply w_l); all_goals intros))
  · exact ⟨Nat.zero_le _, Nat.zero_le _, by exact gC, by exact gC, by exact gC, by exact gC, _, [], by exact gC, by (simp (disch := omega) only [go_sem, List.map_nil] <;> repeat' first | rfl | refine ⟨?_, ?_⟩), by simp, by simp⟩
set_option maxHeartbeats 4000000 in
theorem rpTimes (p : Po) (t : Tm) {j k e f : Nat} (hp : PK p j e) (ht : PK [t] k f) (lp : p.length ≤ 1000000) (hj : j ≤ 1000000) (hk : k ≤ 1000000) (he : e ≤ 16777216) (hf : f ≤ 16777216) :
    Pure Tryz.prog 164 [poA p, tmA t] (poA (timesP mulM p t)) := by
  obtain ⟨t1, t2⟩ := t
  refine pure_intro (tok := 0) Tryz.func164 rfl Tryz.ntmps164 Tryz.results164 Tryz.call164 (by rfl) (by simp) ?_
  (focus (refine wkad (w_a @l_map w_t) w_t w_t ?_; (repeat' first | exact w_t | apply w_l); all_goals intros))
  rename_i g3
  refine r_frz (Frz.nilOwn (d := 5) 100 4 138 (by exact gC)) ?_
  refine r_loopE (ι := Nat) (fun i e m => i ≤ p.length ∧ e 3 = .pbox 3 g3 0 ∧ m 3 = some (.box g3 138 [.v (.bool (decide (t1.num < 0))), lim (toL t1.num.natAbs), lim (toL t1.den), ivs t2] false) ∧ e 0 = poA p ∧ e 6 = iv i ∧ ∃ sv, e 5 = .own 100 sv ∧ m 100 = some (.row sv 138 4 ((timesP mulM (p.take i) (t1, t2)).map tmA) 0)) (fun i => p.length - i) 0 (by rfl) ?_ ?_
  · rintro i e m ⟨hi, e3, m3, e0, e6, sv, e5, m11⟩
    by_cases hlt : i < p.length
    · have hg := map_atB tmA hlt
      have hs := poTimes1 (t := (t1, t2)) hlt
      have ms := hp _ (List.getElem_mem hlt)
      have m1 := hp.sm he (List.getElem_mem hlt)
      have m2 := ht.sm hf (.head _)
      have mt := (ht _ (.head _)).1
      have hl : (timesP mulM (p.take i) (t1, t2)).length ≤ 1000000 := by rw [timesP_len, List.length_take]; omega
      generalize p[i] = s at *
      have c1 := qMul s.1 t1 ms.1 mt (by omega) (by omega)
      have c3 : Pure Tryz.prog 209 [ivs s.2, ivs t2] (ivs (mulM s.2 t2)) := mrMul s.2 t2 m1.wd m2.wd
      obtain ⟨s1, s2⟩ := s
      simp only at *
      clear ms m1 m2 mt
      generalize s1 * t1 = z at *
      generalize mulM s2 t2 = w at *
      generalize timesP mulM (p.take i) (t1, t2) = out at *
      (focus (refine wkad (w_a e3 (w_a m3 (w_a e0 (w_a e6 (w_a e5 (w_a m11 (w_a hg (w_a @l_map w_t)))))))) (w_a c1 (w_a c3 w_t)) (w_a (w_d 5 [(8, ratQ z), (16, ivs w)] [19, 1019] [100, 31]) w_t) ?_; (repeat' first | exact w_t | apply w_l); all_goals intros))
      exact ⟨i + 1, ⟨by omega, by exact gW e3, by exact gW m3, by exact gW e0, by exact gS, _, by exact gC, by rw [hs, List.map_append]; exact gC⟩, by omega⟩
    · have hi2 : i = p.length := by omega
      subst hi2
      rw [List.take_length] at m11
      (focus (refine wkld (w_a e3 (w_a m3 (w_a e0 (w_a e6 (w_a e5 (w_a m11 (w_a @l_map w_t))))))) w_t (w_a m11 w_t) w_t ?_; (repeat' first | exact w_t | apply w_l); all_goals intros))
  · exact ⟨Nat.zero_le _, by exact gC, by exact gC, by exact gC, by exact gC, _, by exact gC, by (simp (disch := omega) only [go_sem, List.take_zero, timesP, List.map_nil] <;> repeat' first | rfl | refine ⟨?_, ?_⟩)⟩
theorem scale_take {p : Po} {a : Rat} {i : Nat} (hi : i < p.length) : scaleP a (p.take (i + 1)) = scaleP a (p.take i) ++ [(p[i].1 * a, p[i].2)] := by
  unfold scaleP
  rw [List.take_succ_eq_append_getElem hi, List.map_append]; rfl
set_option maxHeartbeats 4000000 in
theorem rpScale0 (p : Po) (a : Rat) {j k e : Nat} (hp : PK p j e) (ha : Sz a k) (lp : p.length ≤ 1000000) (hj : j ≤ 1000000) (hk : k ≤ 1000000) (h : a ≠ 0) :
    Pure Tryz.prog 43 [poA p, ratQ a] (poA (scaleP a p)) := by
  have cs := qSign a ha (by omega)
  have hz : ¬ a.num.sign = 0 := by rw [sgn_ne]; exact h
  generalize a.num.sign = sg at *
  refine pure_intro (tok := 0) Tryz.func43 rfl Tryz.ntmps43 Tryz.results43 Tryz.call43 (by rfl) (by simp) ?_
  (focus (refine wkad (w_a @l_map w_t) w_t w_t ?_; (repeat' first | exact w_t | apply w_l); all_goals intros))
  rename_i g3
  refine r_frz (Frz.nilOwn (d := 5) 100 4 138 (by exact gC)) ?_
  refine r_loopE (ι := Nat) (fun i e m => i ≤ p.length ∧ e 3 = .pbox 3 g3 0 ∧ m 3 = some (.box g3 49 [.v (.bool (decide (a.num < 0))), lim (toL a.num.natAbs), lim (toL a.den)] false) ∧ e 0 = poA p ∧ e 6 = iv i ∧ ∃ sv, e 5 = .own 100 sv ∧ m 100 = some (.row sv 138 4 ((scaleP a (p.take i)).map tmA) 0)) (fun i => p.length - i) 0 (by rfl) ?_ ?_
  · rintro i e m ⟨hi, e3, m3, e0, e6, sv, e5, m11⟩
    by_cases hlt : i < p.length
    · have hg := map_atB tmA hlt
      have hs := scale_take (a := a) hlt
      have ms := (hp _ (List.getElem_mem hlt)).1
      have hl : (scaleP a (p.take i)).length ≤ 1000000 := by rw [scale_len, List.length_take]; omega
      generalize p[i] = s at *
      have c1 := qMul s.1 a ms ha (by omega) (by omega)
      obtain ⟨s1, s2⟩ := s
      simp only at *
      clear ms
      generalize s1 * a = z at *
      generalize scaleP a (p.take i) = out at *
      (focus (refine wkad (w_a e3 (w_a m3 (w_a e0 (w_a e6 (w_a e5 (w_a m11 (w_a hg (w_a @l_map w_t)))))))) (w_a c1 (w_a cs w_t)) (w_a (w_d 5 [(7, ratQ z)] [15, 1015] [100, 32]) w_t) ?_; (repeat' first | exact w_t | apply w_l); all_goals intros))
      exact ⟨i + 1, ⟨by omega, by exact gW e3, by exact gW m3, by exact gW e0, by exact gS, _, by exact gC, by rw [hs, List.map_append]; exact gC⟩, by omega⟩
    · have hi2 : i = p.length := by omega
      subst hi2
      rw [List.take_length] at m11
      (focus (refine wkld (w_a e3 (w_a m3 (w_a e0 (w_a e6 (w_a e5 (w_a m11 (w_a @l_map w_t))))))) w_t (w_a m11 w_t) w_t ?_; (repeat' first | exact w_t | apply w_l); all_goals intros))
  · exact ⟨Nat.zero_le _, by exact gC, by exact gC, by exact gC, by exact gC, _, by exact gC, by (simp (disch := omega) only [go_sem, List.take_zero, scaleP, List.map_nil] <;> repeat' first | rfl | refine ⟨?_, ?_⟩)⟩
theorem rpNeg (p : Po) {j e : Nat} (hp : PK p j e) (lp : p.length ≤ 1000000) (hj : j ≤ 1000000) : Pure Tryz.prog 163 [poA p] (poA (scaleP (-1) p)) := by
  have c := rpScale0 p (-1) hp ((nat_sz1 1 (by omega)).neg) lp hj (by omega) neg1
  have co := qOfM
  generalize scaleP (-1) p = r at *
  generalize (-1 : Rat) = q at *
  refine pure_intro (tok := 0) Tryz.func163 rfl Tryz.ntmps163 Tryz.results163 Tryz.call163 (by rfl) (by simp) ?_
  (focus (refine wklp w_t (w_a co (w_a c w_t)) w_t (w_r 0) ?_; (repeat' first | exact w_t | apply w_l); all_goals intros))
theorem rpSub (p q : Po) {j k e : Nat} (hp : PK p j e) (hq : PK q k e) (sp : SrtM p) (sq : SrtM q) (lp : p.length ≤ 1000000) (lq : q.length ≤ 1000000) (hj : j ≤ 1000000) (hk : k ≤ 1000000) (he : e ≤ 16777216) :
    Pure Tryz.prog 100 [poA p, poA q] (poA (subM p q)) := by
  have c1 := rpNeg q hq lq hk
  have c2 := rpAdd p (scaleP (-1) q) hp hq.neg sp (scale_srt sq neg1) lp (by rw [scale_len]; exact lq) hj hk he
  show Pure _ _ _ (poA (addM p (scaleP (-1) q)))
  generalize scaleP (-1) q = n at *
  generalize addM p n = r at *
  refine pure_intro (tok := 0) Tryz.func100 rfl Tryz.ntmps100 Tryz.results100 Tryz.call100 (by rfl) (by simp) ?_
  (focus (refine wklp w_t (w_a c1 (w_a c2 w_t)) w_t (w_r 0) ?_; (repeat' first | exact w_t | apply w_l); all_goals intros))
theorem mulR_take {p q : Po} {i : Nat} (hi : i < q.length) : mlM p (q.take (i + 1)) = addM (mlM p (q.take i)) (timesP mulM p q[i]) := by
  unfold mlM mulR
  rw [List.take_succ_eq_append_getElem hi, List.foldl_append]; rfl
theorem srt_take {q : Po} (h : SrtM q) (i : Nat) : SrtM (q.take i) := ⟨fun t ht => h.1 t (List.mem_of_mem_take ht), List.Pairwise.sublist (List.take_sublist i q) h.2⟩
set_option maxHeartbeats 4000000 in
theorem rpMul (p q : Po) {j k e f K E : Nat} (hp : PK p j e) (hq : PK q k f) (sp : SrtM p) (sq : SrtM q) (lp : p.length ≤ 1000000) (lq : q.length ≤ 1000000) (hj : j ≤ 500000) (hk : k ≤ 500000) (he : e ≤ 8000000) (hf : f ≤ 8000000)
    (ho : ∀ i, PK (mlM p (q.take i)) K E ∧ (mlM p (q.take i)).length ≤ 1000000) (hK : K ≤ 1000000) (hE : E ≤ 16777216) :
    Pure Tryz.prog 101 [poA p, poA q] (poA (mlM p q)) := by
  refine pure_intro (tok := 0) Tryz.func101 rfl Tryz.ntmps101 Tryz.results101 Tryz.call101 (by rfl) (by simp) ?_
  (focus (refine wkap (w_a @l_map w_t) w_t (w_r 0) ?_; (repeat' first | exact w_t | apply w_l); all_goals intros))
  refine r_frz (Frz.nil (d := 5) 4 (by exact gC)) ?_
  refine r_loopE (ι := Nat) (fun i e' m => i ≤ q.length ∧ e' 0 = poA p ∧ e' 1 = poA q ∧ e' 6 = iv i ∧ e' 5 = poA (mlM p (q.take i))) (fun i => q.length - i) 0 (by rfl) ?_ ?_
  · rintro i e' m ⟨hi, e0, e1, e6, e5⟩
    by_cases hlt : i < q.length
    · have hg := map_atB tmA hlt
      have ht : PK [q[i]] k f := fun u hu => by rw [List.mem_singleton] at hu; subst hu; exact hq _ (List.getElem_mem hlt)
      have c1 := rpTimes p q[i] hp ht lp (by omega) (by omega) (by omega) (by omega)
      have c2 := rpAdd (mlM p (q.take i)) (timesP mulM p q[i]) (k := j + k) (e := max E (e + f)) ((ho i).1.mono (Nat.le_refl _) (by omega)) ((hp.times ht).mono (Nat.le_refl _) (by omega)) (mulR_srt ordM mulK sp (srt_take sq i)) (times_srt mulK sp (sq.1 _ (List.getElem_mem hlt)).1 (sq.1 _ (List.getElem_mem hlt)).2) (ho i).2 (by rw [timesP_len]; exact lp) hK (by omega) (by omega)
      rw [← mulR_take hlt] at c2
      generalize q[i] = t at *
      obtain ⟨t1, t2⟩ := t
      generalize timesP mulM p (t1, t2) = w at *
      generalize mlM p (q.take i) = out at *
      generalize hout : mlM p (q.take (i + 1)) = out' at *
      (focus (refine wkap (w_a e0 (w_a e1 (w_a e6 (w_a e5 (w_a hg (w_a @l_map w_t)))))) (w_a c1 (w_a c2 w_t)) (w_r 0) ?_; (repeat' first | exact w_t | apply w_l); all_goals intros))
      exact ⟨i + 1, ⟨by omega, by exact gW e0, by exact gW e1, by exact gS, by rw [hout]; exact gC⟩, by omega⟩
    · have hi2 : i = q.length := by omega
      subst hi2
      rw [List.take_length] at e5
      (focus (refine wklp (w_a e0 (w_a e1 (w_a e6 (w_a e5 (w_a @l_map w_t))))) w_t w_t (w_r 0) ?_; (repeat' first | exact w_t | apply w_l); all_goals intros))
  · exact ⟨Nat.zero_le _, by exact gC, by exact gC, by exact gC, by (simp (disch := omega) only [go_sem, List.take_zero, mlM, mulR, List.foldl_nil, List.map_nil] <;> repeat' first | rfl | refine ⟨?_, ?_⟩)⟩
theorem rpAddNil (c : Rat) (m : List Int) {k : Nat} (hc : Sz c k) (hk : k ≤ 1000000) : Pure Tryz.prog 99 [.v (.slice none 0 0), ratQ c, ivs m] (poA (if c = 0 then [] else [(c, m)])) := by
  have cs := qSign c hc (by omega)
  have cn := qNorm c hc (by omega)
  by_cases h : c = 0
  · rw [if_pos h]
    have hz : c.num.sign = 0 := by rw [sgn_ne]; exact h
    refine pure_intro (tok := 0) Tryz.func99 rfl Tryz.ntmps99 Tryz.results99 Tryz.call99 (by rfl) (by simp) ?_
    (focus (refine wkax (w_a hz w_t) (w_a cs w_t) w_t w_t w_t w_t (w_r 2) ?_; (repeat' first | exact w_t | apply w_l); all_goals intros))
    (all_goals (try simp (disch := omega) only [go_sem, decide_eq_true, decide_eq_false, if_pos, if_neg, Int.reduceAdd, Int.reduceSub, Int.reduceToNat, Int.zero_add])); (all_goals first | done | rfl | (congr 2; first | done | omega | (rw [Bool.eq_iff_iff]; simp only [bool_to_prop, Bool.false_eq_true, iff_true, true_iff, iff_false, false_iff]; omega)) | skip)
  · rw [if_neg h]
    have hz : ¬ c.num.sign = 0 := by rw [sgn_ne]; exact h
    generalize c.num.sign = z at *
    refine pure_intro (tok := 0) Tryz.func99 rfl Tryz.ntmps99 Tryz.results99 Tryz.call99 (by rfl) (by simp) ?_
    (focus (refine wkax w_t (w_a cs (w_a cn w_t)) w_t w_t w_t w_t (w_r 2) ?_; (repeat' first | exact w_t | apply w_l); all_goals intros))
    (all_goals (try simp (disch := omega) only [go_sem, decide_eq_true, decide_eq_false, if_pos, if_neg, Int.reduceAdd, Int.reduceSub, Int.reduceToNat, Int.zero_add])); (all_goals first | done | rfl | (congr 2; first | done | omega | (rw [Bool.eq_iff_iff]; simp only [bool_to_prop, Bool.false_eq_true, iff_true, true_iff, iff_false, false_iff]; omega)) | skip)
theorem rpVar (v : Nat) (hv : v < 1000) : Pure Tryz.prog 41 [iv v] (poA (varM v)) := by
  unfold varM
  by_cases h : v < 64
  · rw [if_pos h]
    have c1 := qOf 1 (by omega)
    rw [show ((1 : Nat) : Rat) = 1 from rfl] at c1
    have c2 := rpAddNil 1 (unitM v) (nat_sz1 1 (by omega)) (by omega)
    rw [if_neg (show (1 : Rat) ≠ 0 by decide)] at c2
    have hu : (iv 0 :: List.replicate v (iv 0)).set v (iv 1) = (unitM v).map iv := by rw [← List.replicate_succ]; exact unit_set v
    generalize (1 : Rat) = q at *
    have hl : (List.replicate (v + 1) (iv 0)).length = v + 1 := by simp
    refine pure_intro (tok := 0) Tryz.func41 rfl Tryz.ntmps41 Tryz.results41 Tryz.call41 (by rfl) (by simp) ?_
    (focus (refine wkax (w_a hl (w_a hu w_t)) (w_a c1 w_t) w_t (w_a c2 w_t) w_t w_t (w_r 0) ?_; (repeat' first | exact w_t | apply w_l); all_goals intros))
    (all_goals (try simp (disch := omega) only [go_sem, decide_eq_true, decide_eq_false, if_pos, if_neg, Int.reduceAdd, Int.reduceSub, Int.reduceToNat, Int.zero_add])); (all_goals first | done | rfl | (congr 2; first | done | omega | (rw [Bool.eq_iff_iff]; simp only [bool_to_prop, Bool.false_eq_true, iff_true, true_iff, iff_false, false_iff]; omega)) | skip)
  · rw [if_neg h]
    refine pure_vkR (r := .v (.slice none 0 0)) ?_ (.nil 4)
    refine pure_intro (tok := 0) Tryz.func41 rfl Tryz.ntmps41 Tryz.results41 Tryz.call41 (by rfl) (by simp) ?_
    (focus (refine wklp w_t w_t w_t (w_r 0) ?_; (repeat' first | exact w_t | apply w_l); all_goals intros))
theorem rpConst (c : Rat) {k : Nat} (hc : Sz c k) (hk : k ≤ 1000000) : Pure Tryz.prog 87 [ratQ c] (poA (if c = 0 then [] else [(c, [])])) := by
  have c2 := rpAddNil c [] hc hk
  have c2 := pure_vkA c2 (.cons (.refl _) (.cons (.refl _) (.cons (.nil 1) .nil)))
  generalize (if c = 0 then [] else [(c, [])]) = r at *
  refine pure_intro (tok := 0) Tryz.func87 rfl Tryz.ntmps87 Tryz.results87 Tryz.call87 (by rfl) (by simp) ?_
  (focus (refine wklp w_t (w_a c2 w_t) w_t (w_r 0) ?_; (repeat' first | exact w_t | apply w_l); all_goals intros))
theorem cmpQ_self (a : Rat) : cmpQ a a = 0 := by
  unfold cmpQ
  rw [if_neg (Rat.lt_irrefl), if_neg (Rat.lt_irrefl)]
theorem cmpQ_eq {a b : Rat} (h : cmpQ a b = 0) : a = b := by
  unfold cmpQ at h
  split at h
  · omega
  · split at h
    · omega
    · exact Rat.le_antisymm (Rat.not_lt.1 ‹_›) (Rat.not_lt.1 ‹_›)
def cmpT (s t : Tm) : Int := if lexC s.2 t.2 (max s.2.length t.2.length) ≠ 0 then lexC s.2 t.2 (max s.2.length t.2.length) else cmpQ s.1 t.1
def cmpPo : Po → Po → Int
  | [], [] => 0
  | [], _ :: _ => -1
  | _ :: _, [] => 1
  | s :: p, t :: q => if cmpT s t ≠ 0 then cmpT s t else cmpPo p q
theorem cmpT_zero {s t : Tm} (ds : Can s.2) (dt : Can t.2) : cmpT s t = 0 ↔ s = t := by
  unfold cmpT
  constructor
  · intro h
    split at h
    · rename_i h1; exact absurd h h1
    · rename_i h1
      rcases lexM_cases ds dt with ⟨_, h2⟩ | ⟨_, _, h2, _⟩ | ⟨_, _, h2⟩
      · omega
      · exact Prod.ext (cmpQ_eq h) h2
      · omega
  · rintro rfl
    rw [if_neg (by rw [lexC_zero _ fun j _ => rfl]; simp), cmpQ_self]
theorem cmpPo_zero : ∀ {p q : Po}, (∀ t ∈ p, Can t.2) → (∀ t ∈ q, Can t.2) → (cmpPo p q = 0 ↔ p = q)
  | [], [], _, _ => by simp [cmpPo]
  | [], _ :: _, _, _ => by simp [cmpPo]
  | _ :: _, [], _, _ => by simp [cmpPo]
  | s :: p, t :: q, hp, hq => by
    have h1 := cmpT_zero (hp s (.head _)) (hq t (.head _))
    have h2 := cmpPo_zero (p := p) (q := q) (fun u hu => hp u (.tail _ hu)) (fun u hu => hq u (.tail _ hu))
    unfold cmpPo
    by_cases h : cmpT s t = 0
    · rw [if_neg (by simpa using h), h2, h1.1 h]; simp
    · rw [if_pos h]
      constructor
      · intro h3; exact absurd h3 h
      · intro h3; cases h3; exact absurd (h1.2 rfl) h
theorem cmpPo_len {p q : Po} {i : Nat} (h : p.length ≤ i ∨ q.length ≤ i) : cmpPo (p.drop i) (q.drop i) = if (p.drop i).length < (q.drop i).length then -1 else if (q.drop i).length < (p.drop i).length then 1 else 0 := by
  rcases h with h | h
  · rw [List.drop_eq_nil_of_le h]
    cases q.drop i <;> simp [cmpPo]
  · rw [List.drop_eq_nil_of_le h]
    cases p.drop i <;> simp [cmpPo]
set_option maxHeartbeats 4000000 in
theorem rpCmp (p q : Po) {j k e f : Nat} (hp : PK p j e) (hq : PK q k f) (lp : p.length ≤ 1000000) (lq : q.length ≤ 1000000) (hj : j ≤ 2000000) (hk : k ≤ 2000000) (he : e ≤ 16777216) (hf : f ≤ 16777216) :
    Pure Tryz.prog 45 [poA p, poA q] (iv (cmpPo p q)) := by
  refine pure_intro (tok := 0) Tryz.func45 rfl Tryz.ntmps45 Tryz.results45 Tryz.call45 (by rfl) (by simp) ?_
  (focus (refine wkad (w_a @l_map w_t) w_t w_t ?_; (repeat' first | exact w_t | apply w_l); all_goals intros))
  refine r_loopE (ι := Nat) (fun i e m => i ≤ p.length ∧ i ≤ q.length ∧ e 0 = poA p ∧ e 1 = poA q ∧ e 5 = iv i ∧ cmpPo p q = cmpPo (p.drop i) (q.drop i)) (fun i => p.length - i) 0 (by rfl) ?_ ?_
  · rintro i e m ⟨hi, hl, e0, e1, e5, hs⟩
    by_cases hil : i < p.length ∧ i < q.length
    · obtain ⟨hi2, hl2⟩ := hil
      have hg := map_atB tmA hi2
      have hh := map_atB tmA hl2
      have cl := rpLex p[i].2 q[i].2 (hp.sm he (List.getElem_mem hi2)) (hq.sm hf (List.getElem_mem hl2))
      have cq := qCmp p[i].1 q[i].1 (hp _ (List.getElem_mem hi2)).1 (hq _ (List.getElem_mem hl2)).1 (by omega) (by omega)
      rw [List.drop_eq_getElem_cons hi2, List.drop_eq_getElem_cons hl2, cmpPo, cmpT] at hs
      generalize p[i] = s at *
      generalize q[i] = t at *
      obtain ⟨s1, s2⟩ := s
      obtain ⟨t1, t2⟩ := t
      simp only at *
      generalize lexC s2 t2 (max s2.length t2.length) = x at *
      generalize cmpQ s1 t1 = y at *
      by_cases hx : x = 0
      · rw [if_neg (show ¬ x ≠ 0 by omega)] at hs
        by_cases hy : y = 0
        · rw [if_neg (by omega)] at hs
          (focus (refine wkad (w_a e0 (w_a e1 (w_a e5 (w_a hg (w_a hh (w_a @l_map w_t)))))) (w_a cl (w_a cq w_t)) (w_a (w_d 4 [(10, iv x)] [] []) (w_a (w_d 7 [(10, iv y)] [] []) w_t)) ?_; (repeat' first | exact w_t | apply w_l); all_goals intros))
          exact ⟨i + 1, ⟨by omega, by omega, by exact gW e0, by exact gW e1, by exact gS, hs⟩, by omega⟩
        · rw [if_pos hy] at hs
          rw [hs]
          (focus (refine wkld (w_a e0 (w_a e1 (w_a e5 (w_a hg (w_a hh (w_a @l_map w_t)))))) (w_a cl (w_a cq w_t)) w_t (w_a (w_d 4 [(10, iv x)] [] []) (w_a (w_d 7 [(10, iv y)] [] []) w_t)) ?_; (repeat' first | exact w_t | apply w_l); all_goals intros))
      · rw [if_pos hx, if_pos hx] at hs
        rw [hs]
        (focus (refine wkld (w_a e0 (w_a e1 (w_a e5 (w_a hg (w_a hh (w_a @l_map w_t)))))) (w_a cl w_t) w_t (w_a (w_d 4 [(10, iv x)] [] []) w_t) ?_; (repeat' first | exact w_t | apply w_l); all_goals intros))
    · rw [cmpPo_len (by omega), List.length_drop, List.length_drop] at hs
      rw [hs]
      (focus (refine wkld (w_a e0 (w_a e1 (w_a e5 (w_a @l_map w_t)))) w_t w_t w_t ?_; (repeat' first | exact w_t | apply w_l); all_goals intros))
  · exact ⟨Nat.zero_le _, Nat.zero_le _, by exact gC, by exact gC, by exact gC, by simp⟩
theorem rpEqual (p q : Po) {j k e f : Nat} (hp : PK p j e) (hq : PK q k f) (dp : ∀ t ∈ p, Can t.2) (dq : ∀ t ∈ q, Can t.2) (lp : p.length ≤ 1000000) (lq : q.length ≤ 1000000) (hj : j ≤ 2000000) (hk : k ≤ 2000000) (he : e ≤ 16777216) (hf : f ≤ 16777216) :
    Pure Tryz.prog 10 [poA p, poA q] (.v (.bool (decide (p = q)))) := by
  have c := rpCmp p q hp hq lp lq hj hk he hf
  have h := cmpPo_zero dp dq
  rw [show decide (p = q) = decide (cmpPo p q = 0) from by rw [Bool.eq_iff_iff, decide_eq_true_eq, decide_eq_true_eq, h]]
  generalize cmpPo p q = z at *
  clear h
  refine pure_intro (tok := 0) Tryz.func10 rfl Tryz.ntmps10 Tryz.results10 Tryz.call10 (by rfl) (by simp) ?_
  (focus (refine wklp w_t (w_a c w_t) w_t (w_r 0) ?_; (repeat' first | exact w_t | apply w_l); all_goals intros))
end Go.Proofs.YteiopjkamgmfpaaGreatDoor
end

section
namespace Go.Proofs.YteiopjkamgmfpaaGreatDoor
open Go Go.RowKit Go.Pg Go.Pol
set_option linter.unusedSimpArgs false
set_option linter.unusedVariables false
set_option maxRecDepth 20000
attribute [-bool_to_prop] Bool.and_eq_decide Bool.or_eq_decide Bool.decide_beq_decide decide_eq_decide
set_option linter.unusedSimpArgs false
set_option linter.unusedVariables false
/-! ### polynomials of bounded length, size and exponents -/
structure PB (p : Po) (n j e : Nat) : Prop where
  s : SrtM p
  k : PK p j e
  l : p.length ≤ n
theorem PB.mono {p : Po} {n j e m i f : Nat} (h : PB p n j e) (hn : n ≤ m) (hj : j ≤ i) (he : e ≤ f) : PB p m i f := ⟨h.s, h.k.mono hj he, Nat.le_trans h.l hn⟩
theorem PB.nil {n j e : Nat} : PB [] n j e := ⟨.nil, .nil, Nat.zero_le _⟩
theorem PB.add {p q : Po} {n j e m k f : Nat} (h : PB p n j e) (g : PB q m k f) : PB (addM p q) (n + m) (j + k + 1) (max e f) :=
  ⟨addP_srt ordM h.s g.s, (h.k.mono (Nat.le_refl _) (Nat.le_max_left ..)).add (g.k.mono (Nat.le_refl _) (Nat.le_max_right ..)), Nat.le_trans (addP_len p q) (Nat.add_le_add h.l g.l)⟩
theorem PB.neg {p : Po} {n j e : Nat} (h : PB p n j e) : PB (scaleP (-1) p) n j e := ⟨scale_srt h.s neg1, h.k.neg, by rw [scale_len]; exact h.l⟩
theorem PB.sub {p q : Po} {n j e m k f : Nat} (h : PB p n j e) (g : PB q m k f) : PB (subM p q) (n + m) (j + k + 1) (max e f) := h.add g.neg
theorem PB.times {p : Po} {t : Tm} {n j e k f : Nat} (h : PB p n j e) (ht : PK [t] k f) (h0 : t.1 ≠ 0) (hd : Can t.2) : PB (timesP mulM p t) n (j + k) (e + f) :=
  ⟨times_srt mulK h.s h0 hd, h.k.times ht, by rw [timesP_len]; exact h.l⟩
theorem PB.take {q : Po} {m k f : Nat} (g : PB q m k f) (i : Nat) : PB (q.take i) m k f :=
  ⟨srt_take g.s i, fun t ht => g.k t (List.mem_of_mem_take ht), by rw [List.length_take]; have := g.l; omega⟩
theorem PB.one {q : Po} {m k f : Nat} (g : PB q m k f) {t : Tm} (ht : t ∈ q) : PK [t] k f := fun u hu => by rw [List.mem_singleton] at hu; subst hu; exact g.k _ ht
theorem mul_pbN {p q : Po} {n j e m k f : Nat} (h : PB p n j e) (g : PB q m k f) : ∀ i, i ≤ q.length → PB (mlM p (q.take i)) (n * i) (i * (j + k + 1)) (e + f)
  | 0, _ => by rw [List.take_zero]; exact .nil
  | i + 1, hi => by
    rw [mulR_take hi]
    have h1 := mul_pbN h g i (by omega)
    have h2 := h.times (g.one (List.getElem_mem hi)) (g.s.1 _ (List.getElem_mem hi)).1 (g.s.1 _ (List.getElem_mem hi)).2
    refine (h1.add h2).mono ?_ ?_ ?_
    · rw [Nat.mul_succ]; omega
    · rw [Nat.succ_mul]; omega
    · omega
theorem mul_pbI {p q : Po} {n j e m k f : Nat} (h : PB p n j e) (g : PB q m k f) (i : Nat) : PB (mlM p (q.take i)) (n * m) (m * (j + k + 1)) (e + f) := by
  by_cases hi : i ≤ q.length
  · have hm := g.l
    exact (mul_pbN h g i hi).mono (Nat.mul_le_mul_left _ (by omega)) (Nat.mul_le_mul_right _ (by omega)) (Nat.le_refl _)
  · rw [List.take_of_length_le (by omega)]
    have := mul_pbN h g q.length (Nat.le_refl _)
    rw [List.take_length] at this
    exact this.mono (Nat.mul_le_mul_left _ g.l) (Nat.mul_le_mul_right _ g.l) (Nat.le_refl _)
theorem PB.mul {p q : Po} {n j e m k f : Nat} (h : PB p n j e) (g : PB q m k f) : PB (mlM p q) (n * m) (m * (j + k + 1)) (e + f) := by
  have := mul_pbI h g q.length
  rwa [List.take_length] at this
/-- Sums by halves. -/
theorem sumH_pb {s e n : Nat} (l : List Po) (h : ∀ p ∈ l, PB p n s e) : PB (sumH ltM l) (l.length * n) (l.length * (s + 1) - 1) e := by
  fun_induction sumH ltM l with
  | case1 => exact .nil
  | case2 p => exact (h p (.head _)).mono (by simp) (by simp) (Nat.le_refl _)
  | case3 p q l ih1 ih2 =>
    have h1 := ih1 fun u hu => h u (List.mem_of_mem_take hu)
    have h2 := ih2 fun u hu => h u (List.mem_of_mem_drop hu)
    rw [List.length_take] at h1
    rw [List.length_drop] at h2
    have hL : 2 ≤ (p :: q :: l).length := by simp
    generalize (p :: q :: l).length = L at *
    rw [Nat.min_eq_left (by omega)] at h1
    have e1 : L / 2 + (L - L / 2) = L := by omega
    have a1 : 1 ≤ L / 2 * (s + 1) := Nat.le_trans (by omega) (Nat.le_mul_of_pos_right (L / 2) (show 0 < s + 1 by omega))
    have a2 : 1 ≤ (L - L / 2) * (s + 1) := Nat.le_trans (show 1 ≤ L - L / 2 by omega) (Nat.le_mul_of_pos_right (L - L / 2) (show 0 < s + 1 by omega))
    refine (h1.add h2).mono ?_ ?_ (by omega)
    · rw [← Nat.add_mul, e1]; exact Nat.le_refl _
    · have e2 : L / 2 * (s + 1) + (L - L / 2) * (s + 1) = L * (s + 1) := by rw [← Nat.add_mul, e1]
      omega
theorem sum_ok {s e n N : Nat} (l : List Po) (h : ∀ p ∈ l, PB p n s e) (hN : l.length ≤ N) (hb : N * n ≤ 1000000) : SumOk l (N * (s + 1)) e := fun a b => by
  have h1 : ∀ p ∈ (l.drop a).take b, PB p n s e := fun p hp => h p (List.mem_of_mem_drop (List.mem_of_mem_take hp))
  have h2 := sumH_pb _ h1
  have h3 : ((l.drop a).take b).length ≤ N := by rw [List.length_take, List.length_drop]; omega
  refine ⟨h2.k.mono ?_ (Nat.le_refl _), Nat.le_trans h2.l (Nat.le_trans (Nat.mul_le_mul_right _ h3) hb)⟩
  have := Nat.mul_le_mul_right (s + 1) h3
  omega
theorem parts_ok {p q : Po} {n j e m k f : Nat} (h : PB p n j e) (g : PB q m k f) (hn : n * m ≤ 1000000) : SumOk (partsM p q) (min n m * (j + k + 1)) (e + f) := by
  unfold partsM
  have l1 := h.l
  have l2 := g.l
  split
  · rename_i hlt
    have := sum_ok (q.map fun t => timesP mulM p t) (n := p.length) (s := j + k) (e := e + f) (N := q.length) (fun u hu => by
      obtain ⟨t, ht, rfl⟩ := List.mem_map.1 hu
      have h' : PB p p.length j e := ⟨h.s, h.k, Nat.le_refl _⟩
      exact h'.times (g.one ht) (g.s.1 t ht).1 (g.s.1 t ht).2) (by rw [List.length_map]; exact Nat.le_refl _) (by rw [Nat.mul_comm]; exact Nat.le_trans (Nat.mul_le_mul l1 l2) hn)
    exact fun a b => ⟨(this a b).1.mono (Nat.mul_le_mul_right _ (by omega)) (Nat.le_refl _), (this a b).2⟩
  · rename_i hlt
    have := sum_ok (p.map fun t => timesP mulM q t) (n := q.length) (s := k + j) (e := f + e) (N := p.length) (fun u hu => by
      obtain ⟨t, ht, rfl⟩ := List.mem_map.1 hu
      have h' : PB q q.length k f := ⟨g.s, g.k, Nat.le_refl _⟩
      exact h'.times (h.one ht) (h.s.1 t ht).1 (h.s.1 t ht).2) (by rw [List.length_map]; exact Nat.le_refl _) (Nat.le_trans (Nat.mul_le_mul l1 l2) hn)
    refine fun a b => ⟨(this a b).1.mono ?_ (by omega), (this a b).2⟩
    rw [Nat.add_comm k j]
    exact Nat.mul_le_mul_right _ (by omega)
/-! ### the contracts in these terms -/
theorem hpAdd {p q : Po} {n j e m k f : Nat} (h : PB p n j e) (g : PB q m k f) (hn : n ≤ 1000000) (hm : m ≤ 1000000) (hj : j ≤ 1000000) (hk : k ≤ 1000000) (he : e ≤ 100) (hf : f ≤ 100) :
    Pure Tryz.prog 156 [poA p, poA q] (poA (addM p q)) ∧ Pure Tryz.prog 102 [poA p, poA q] (poA (addM p q)) :=
  have l1 := h.l
  have l2 := g.l
  ⟨poAdd p q (h.k.mono (Nat.le_refl _) he) (g.k.mono (Nat.le_refl _) hf) h.s g.s (by omega) (by omega) hj hk (by omega), rpAdd p q (h.k.mono (Nat.le_refl _) he) (g.k.mono (Nat.le_refl _) hf) h.s g.s (by omega) (by omega) hj hk (by omega)⟩
theorem hpSub {p q : Po} {n j e m k f : Nat} (h : PB p n j e) (g : PB q m k f) (hn : n ≤ 1000000) (hm : m ≤ 1000000) (hj : j ≤ 1000000) (hk : k ≤ 1000000) (he : e ≤ 100) (hf : f ≤ 100) :
    Pure Tryz.prog 93 [poA p, poA q] (poA (subM p q)) ∧ Pure Tryz.prog 100 [poA p, poA q] (poA (subM p q)) :=
  have l1 := h.l
  have l2 := g.l
  ⟨poSub p q (h.k.mono (Nat.le_refl _) he) (g.k.mono (Nat.le_refl _) hf) h.s g.s (by omega) (by omega) hj hk (by omega), rpSub p q (h.k.mono (Nat.le_refl _) he) (g.k.mono (Nat.le_refl _) hf) h.s g.s (by omega) (by omega) hj hk (by omega)⟩
theorem hpMul {p q : Po} {n j e m k f : Nat} (h : PB p n j e) (g : PB q m k f) (hn : n ≤ 1000000) (hm : m ≤ 1000000) (hj : j ≤ 500000) (hk : k ≤ 500000) (he : e ≤ 100) (hf : f ≤ 100) (hnm : n * m ≤ 1000000) (hK : min n m * (j + k + 1) ≤ 1000000) (hR : m * (j + k + 1) ≤ 1000000) :
    Pure Tryz.prog 94 [poA p, poA q] (poA (mlM p q)) ∧ Pure Tryz.prog 101 [poA p, poA q] (poA (mlM p q)) :=
  have l1 := h.l
  have l2 := g.l
  ⟨poMul p q h.k g.k h.s g.s (by omega) (by omega) (by omega) (by omega) (by omega) (by omega) (parts_ok h g hnm) hK (by omega),
   rpMul p q h.k g.k h.s g.s (by omega) (by omega) hj hk (by omega) (by omega) (fun i => ⟨(mul_pbI h g i).k, Nat.le_trans (mul_pbI h g i).l hnm⟩) hR (by omega)⟩
end Go.Proofs.YteiopjkamgmfpaaGreatDoor
end
