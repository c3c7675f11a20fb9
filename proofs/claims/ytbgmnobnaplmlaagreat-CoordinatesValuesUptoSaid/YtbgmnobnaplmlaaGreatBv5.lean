/- Contracts of the functions that the law reaches, and the rules by which they are walked. They say what a call hands back for every input within the bounds that each names; no other condition. -/
import Derived.Test.YtbgmnobnaplmlaaGreatBv4
section
namespace Go.Proofs.YtbgmnobnaplmlaaGreat
open Go Go.RowKit Go.Pg Go.Pol
set_option linter.unusedSimpArgs false
set_option linter.unusedVariables false
set_option maxRecDepth 20000
attribute [local go_sem] Tryz.underlying3 Tryz.underlying115 Tryz.underlying4 Tryz.underlying178 Tryz.underlying31 Tryz.underlying43 Tryz.underlying41 Tryz.underlying39 Tryz.underlying52 Tryz.underlying36 Tryz.underlying45 Tryz.underlying72 Tryz.underlying27 Tryz.underlying56 Tryz.underlying28 Tryz.underlying30 Tryz.underlying61 Tryz.underlying63 Tryz.underlying70 sz3 by3 z3 szErr zErr szRat zRat szNat zNat szInt zInt szB zB szPt byPt zPt szMono szTerm byTerm zTerm szPoly byPoly zPoly szCoord byCoord zCoord szSlC zSlC szFrame zFrame szVar byVar zVar szSlV zSlV
attribute [-bool_to_prop] Bool.and_eq_decide Bool.or_eq_decide Bool.decide_beq_decide decide_eq_decide
/-! ### the reference's points -/
def alongP (a b : PQ) (r : Rat) : PQ := (a.1 + r * (b.1 - a.1), a.2 + r * (b.2 - a.2))
def shiftP (p a b : PQ) : PQ := (p.1 + 1 * (b.1 - a.1), p.2 + 1 * (b.2 - a.2))
def turnP (p a b : PQ) : PQ := (p.1 + 1 * -(b.2 - a.2), p.2 + 1 * (b.1 - a.1))
theorem r13Along (a1 a2 s u1 u2 : Rat) {j : Nat} (h1 : Sz a1 j) (h2 : Sz a2 j) (hs : Sz s j) (h3 : Sz u1 j) (h4 : Sz u2 j) (hj : j ≤ 100000) : Pure Tryz.prog 59 [ptQ a1 a2, ratQ s, ptQ u1 u2] (ptQ (a1 + s * u1) (a2 + s * u2)) := by
  have c1 := qMul s u1 hs h3 (by omega) (by omega)
  have c2 := qAdd a1 (s * u1) h1 (hs.mul h3) (by omega) (by omega)
  have c3 := qMul s u2 hs h4 (by omega) (by omega)
  have c4 := qAdd a2 (s * u2) h2 (hs.mul h4) (by omega) (by omega)
  generalize a1 + s * u1 = x at *
  generalize s * u1 = y at *
  generalize a2 + s * u2 = z at *
  generalize s * u2 = w at *
  refine pure_intro (tok := 0) Tryz.func59 rfl Tryz.ntmps59 Tryz.results59 Tryz.call59 (by rfl) (by simp) ?_
  (repeat' (first | (with_reducible first | refine stp ?_ | apply gx1 | apply gx2 | apply gx3 | apply gx4 | apply gx5 | apply gx6 | apply gx7 | apply gy8 | apply gz2 | apply gz3 | refine gw0 (c1) ?_ ?_ | refine gw3 (c1) ?_ ?_ ?_ | refine gw0 (c2) ?_ ?_ | refine gw3 (c2) ?_ ?_ ?_ | refine gw0 (c3) ?_ ?_ | refine gw3 (c3) ?_ ?_ ?_ | refine gw0 (c4) ?_ ?_ | refine gw3 (c4) ?_ ?_ ?_) | (with_reducible refine all_v ?_; intro _) | ((with_reducible refine gE ?_); (try simp (disch := omega) only [go_sem]) <;> first | rfl | omega) | with_reducible refine t_in_other (by decide) ?_ | ((with_reducible apply gy1); iterate 3 focus rfl) | ((with_reducible apply gy2); iterate 3 focus rfl) | ((with_reducible apply gy3); iterate 2 focus rfl) | ((with_reducible apply gy4); iterate 1 focus rfl) | ((with_reducible apply gy5); iterate 4 focus rfl) | ((with_reducible apply gy6); iterate 4 focus rfl) | ((with_reducible apply d_bar); iterate 3 focus rfl) | ((with_reducible apply q_pub); iterate 1 focus rfl) | ((with_reducible apply gy7); iterate 1 focus rfl) | ((with_reducible apply gy9); (focus ((with_reducible refine gE ?_); (try simp (disch := omega) only [go_sem]) <;> rfl))) | ((with_reducible apply gz1); (focus first | rfl | (simp (disch := omega) only [go_sem]; done))) | ((with_reducible apply r_drawD (pickR [(5, ratQ y), (6, ratQ x), (12, ratQ w), (13, ratQ z)]) [] [6]); (focus kernel_rfl); (focus rfl); (focus kernel_rfl); (focus (simp only [List.length_cons, List.length_nil, Nat.reduceAdd]; rfl)))))
  simp (disch := omega) only [go_sem]
theorem r13Divide (a b : PQ) (r : Rat) {j : Nat} (ha : a.sz j) (hb : b.sz j) (hr : Sz r j) (hj : j ≤ 10000) : Pure Tryz.prog 20 [a.av, b.av, ratQ r] (alongP a b r).av := by
  have c1 := r13Vec a.1 a.2 b.1 b.2 ha.1 ha.2 hb.1 hb.2 (by omega)
  have c2 := r13Along a.1 a.2 r (b.1 - a.1) (b.2 - a.2) (j := 2 * j + 1) (ha.1.mono (by omega)) (ha.2.mono (by omega)) (hr.mono (by omega)) ((hb.1.sub ha.1).mono (by omega)) ((hb.2.sub ha.2).mono (by omega)) (by omega)
  unfold alongP
  obtain ⟨a1, a2⟩ := a
  obtain ⟨b1, b2⟩ := b
  simp only at *
  generalize a1 + r * (b1 - a1) = x at *
  generalize a2 + r * (b2 - a2) = y at *
  generalize b1 - a1 = u at *
  generalize b2 - a2 = v at *
  refine pure_intro (tok := 0) Tryz.func20 rfl Tryz.ntmps20 Tryz.results20 Tryz.call20 (by rfl) (by simp) ?_
  (repeat' (first | (with_reducible first | refine stp ?_ | apply gx1 | apply gx2 | apply gx3 | apply gx4 | apply gx5 | apply gx6 | apply gx7 | apply gy8 | apply gz2 | apply gz3 | refine gw0 (c1) ?_ ?_ | refine gw3 (c1) ?_ ?_ ?_ | refine gw0 (c2) ?_ ?_ | refine gw3 (c2) ?_ ?_ ?_) | (with_reducible refine all_v ?_; intro _) | ((with_reducible refine gE ?_); (try simp (disch := omega) only [go_sem]) <;> first | rfl | omega) | with_reducible refine t_in_other (by decide) ?_ | ((with_reducible apply gy1); iterate 3 focus rfl) | ((with_reducible apply gy2); iterate 3 focus rfl) | ((with_reducible apply gy3); iterate 2 focus rfl) | ((with_reducible apply gy4); iterate 1 focus rfl) | ((with_reducible apply gy5); iterate 4 focus rfl) | ((with_reducible apply gy6); iterate 4 focus rfl) | ((with_reducible apply d_bar); iterate 3 focus rfl) | ((with_reducible apply q_pub); iterate 1 focus rfl) | ((with_reducible apply gy7); iterate 1 focus rfl) | ((with_reducible apply gy9); (focus ((with_reducible refine gE ?_); (try simp (disch := omega) only [go_sem]) <;> rfl))) | ((with_reducible apply gz1); (focus first | rfl | (simp (disch := omega) only [go_sem]; done))) | ((with_reducible apply r_drawD (pickR [(4, ptQ u v), (5, ptQ x y)]) [] [6]); (focus kernel_rfl); (focus rfl); (focus kernel_rfl); (focus (simp only [List.length_cons, List.length_nil, Nat.reduceAdd]; rfl)))))
  simp (disch := omega) only [go_sem]
theorem r13Shift (p a b : PQ) {j : Nat} (hp : p.sz j) (ha : a.sz j) (hb : b.sz j) (hj : j ≤ 10000) : Pure Tryz.prog 21 [p.av, a.av, b.av] (shiftP p a b).av := by
  have c0 : Pure Tryz.prog 18 [iv 1] (ratQ 1) := qOf 1 (by omega)
  have c1 := r13Vec a.1 a.2 b.1 b.2 ha.1 ha.2 hb.1 hb.2 (by omega)
  have c2 := r13Along p.1 p.2 1 (b.1 - a.1) (b.2 - a.2) (j := 2 * j + 1) (hp.1.mono (by omega)) (hp.2.mono (by omega)) ((nat_sz1 1 (by omega)).mono (by omega)) ((hb.1.sub ha.1).mono (by omega)) ((hb.2.sub ha.2).mono (by omega)) (by omega)
  unfold shiftP
  obtain ⟨p1, p2⟩ := p
  obtain ⟨a1, a2⟩ := a
  obtain ⟨b1, b2⟩ := b
  simp only at *
  generalize p1 + 1 * (b1 - a1) = x at *
  generalize p2 + 1 * (b2 - a2) = y at *
  generalize b1 - a1 = u at *
  generalize b2 - a2 = v at *
  generalize (1 : Rat) = o at *
  refine pure_intro (tok := 0) Tryz.func21 rfl Tryz.ntmps21 Tryz.results21 Tryz.call21 (by rfl) (by simp) ?_
  (repeat' (first | (with_reducible first | refine stp ?_ | apply gx1 | apply gx2 | apply gx3 | apply gx4 | apply gx5 | apply gx6 | apply gx7 | apply gy8 | apply gz2 | apply gz3 | refine gw0 (c0) ?_ ?_ | refine gw3 (c0) ?_ ?_ ?_ | refine gw0 (c1) ?_ ?_ | refine gw3 (c1) ?_ ?_ ?_ | refine gw0 (c2) ?_ ?_ | refine gw3 (c2) ?_ ?_ ?_) | (with_reducible refine all_v ?_; intro _) | ((with_reducible refine gE ?_); (try simp (disch := omega) only [go_sem]) <;> first | rfl | omega) | with_reducible refine t_in_other (by decide) ?_ | ((with_reducible apply gy1); iterate 3 focus rfl) | ((with_reducible apply gy2); iterate 3 focus rfl) | ((with_reducible apply gy3); iterate 2 focus rfl) | ((with_reducible apply gy4); iterate 1 focus rfl) | ((with_reducible apply gy5); iterate 4 focus rfl) | ((with_reducible apply gy6); iterate 4 focus rfl) | ((with_reducible apply d_bar); iterate 3 focus rfl) | ((with_reducible apply q_pub); iterate 1 focus rfl) | ((with_reducible apply gy7); iterate 1 focus rfl) | ((with_reducible apply gy9); (focus ((with_reducible refine gE ?_); (try simp (disch := omega) only [go_sem]) <;> rfl))) | ((with_reducible apply gz1); (focus first | rfl | (simp (disch := omega) only [go_sem]; done))) | ((with_reducible apply r_drawD (pickR [(1, ratQ o), (4, ptQ u v), (5, ptQ x y)]) [] [6]); (focus kernel_rfl); (focus rfl); (focus kernel_rfl); (focus (simp only [List.length_cons, List.length_nil, Nat.reduceAdd]; rfl)))))
  simp (disch := omega) only [go_sem]
theorem r13Turned (u v : Rat) {j : Nat} (hv : Sz v j) (hj : j ≤ 100000) : Pure Tryz.prog 61 [ptQ u v] (ptQ (-v) u) := by
  have c := qNeg v hv (by omega)
  generalize -v = w at *
  refine pure_intro (tok := 0) Tryz.func61 rfl Tryz.ntmps61 Tryz.results61 Tryz.call61 (by rfl) (by simp) ?_
  (repeat' (first | (with_reducible first | refine stp ?_ | apply gx1 | apply gx2 | apply gx3 | apply gx4 | apply gx5 | apply gx6 | apply gx7 | apply gy8 | apply gz2 | apply gz3 | refine gw0 (c) ?_ ?_ | refine gw3 (c) ?_ ?_ ?_) | (with_reducible refine all_v ?_; intro _) | ((with_reducible refine gE ?_); (try simp (disch := omega) only [go_sem]) <;> first | rfl | omega) | with_reducible refine t_in_other (by decide) ?_ | ((with_reducible apply gy1); iterate 3 focus rfl) | ((with_reducible apply gy2); iterate 3 focus rfl) | ((with_reducible apply gy3); iterate 2 focus rfl) | ((with_reducible apply gy4); iterate 1 focus rfl) | ((with_reducible apply gy5); iterate 4 focus rfl) | ((with_reducible apply gy6); iterate 4 focus rfl) | ((with_reducible apply d_bar); iterate 3 focus rfl) | ((with_reducible apply q_pub); iterate 1 focus rfl) | ((with_reducible apply gy7); iterate 1 focus rfl) | ((with_reducible apply gy9); (focus ((with_reducible refine gE ?_); (try simp (disch := omega) only [go_sem]) <;> rfl))) | ((with_reducible apply gz1); (focus first | rfl | (simp (disch := omega) only [go_sem]; done))) | ((with_reducible apply r_drawD (pickR [(2, ratQ w)]) [] [2]); (focus kernel_rfl); (focus rfl); (focus kernel_rfl); (focus (simp only [List.length_cons, List.length_nil, Nat.reduceAdd]; rfl)))))
  simp (disch := omega) only [go_sem]
theorem r13Turn (p a b : PQ) {j : Nat} (hp : p.sz j) (ha : a.sz j) (hb : b.sz j) (hj : j ≤ 10000) : Pure Tryz.prog 22 [p.av, a.av, b.av] (turnP p a b).av := by
  have c0 : Pure Tryz.prog 18 [iv 1] (ratQ 1) := qOf 1 (by omega)
  have c1 := r13Vec a.1 a.2 b.1 b.2 ha.1 ha.2 hb.1 hb.2 (by omega)
  have c3 := r13Turned (b.1 - a.1) (b.2 - a.2) (hb.2.sub ha.2) (by omega)
  have c2 := r13Along p.1 p.2 1 (-(b.2 - a.2)) (b.1 - a.1) (j := 2 * j + 1) (hp.1.mono (by omega)) (hp.2.mono (by omega)) ((nat_sz1 1 (by omega)).mono (by omega)) ((hb.2.sub ha.2).neg.mono (by omega)) ((hb.1.sub ha.1).mono (by omega)) (by omega)
  unfold turnP
  obtain ⟨p1, p2⟩ := p
  obtain ⟨a1, a2⟩ := a
  obtain ⟨b1, b2⟩ := b
  simp only at *
  generalize p1 + 1 * -(b2 - a2) = x at *
  generalize p2 + 1 * (b1 - a1) = y at *
  generalize b1 - a1 = u at *
  generalize -(b2 - a2) = w at *
  generalize b2 - a2 = v at *
  generalize (1 : Rat) = o at *
  refine pure_intro (tok := 0) Tryz.func22 rfl Tryz.ntmps22 Tryz.results22 Tryz.call22 (by rfl) (by simp) ?_
  (repeat' (first | (with_reducible first | refine stp ?_ | apply gx1 | apply gx2 | apply gx3 | apply gx4 | apply gx5 | apply gx6 | apply gx7 | apply gy8 | apply gz2 | apply gz3 | refine gw0 (c0) ?_ ?_ | refine gw3 (c0) ?_ ?_ ?_ | refine gw0 (c1) ?_ ?_ | refine gw3 (c1) ?_ ?_ ?_ | refine gw0 (c3) ?_ ?_ | refine gw3 (c3) ?_ ?_ ?_ | refine gw0 (c2) ?_ ?_ | refine gw3 (c2) ?_ ?_ ?_) | (with_reducible refine all_v ?_; intro _) | ((with_reducible refine gE ?_); (try simp (disch := omega) only [go_sem]) <;> first | rfl | omega) | with_reducible refine t_in_other (by decide) ?_ | ((with_reducible apply gy1); iterate 3 focus rfl) | ((with_reducible apply gy2); iterate 3 focus rfl) | ((with_reducible apply gy3); iterate 2 focus rfl) | ((with_reducible apply gy4); iterate 1 focus rfl) | ((with_reducible apply gy5); iterate 4 focus rfl) | ((with_reducible apply gy6); iterate 4 focus rfl) | ((with_reducible apply d_bar); iterate 3 focus rfl) | ((with_reducible apply q_pub); iterate 1 focus rfl) | ((with_reducible apply gy7); iterate 1 focus rfl) | ((with_reducible apply gy9); (focus ((with_reducible refine gE ?_); (try simp (disch := omega) only [go_sem]) <;> rfl))) | ((with_reducible apply gz1); (focus first | rfl | (simp (disch := omega) only [go_sem]; done))) | ((with_reducible apply r_drawD (pickR [(1, ratQ o), (4, ptQ u v), (5, ptQ w u), (6, ptQ x y)]) [] [6]); (focus kernel_rfl); (focus rfl); (focus kernel_rfl); (focus (simp only [List.length_cons, List.length_nil, Nat.reduceAdd]; rfl)))))
  simp (disch := omega) only [go_sem]
set_option maxHeartbeats 4000000 in
theorem lwPoints (cs : List (Po × Po)) (V X : List AV) (P : Nat → PQ) (hc : cs.length ≤ 1000)
    (hev : ∀ i (h : i < cs.length), Pure Tryz.prog 58 [poA cs[i].1, .sl 3 X] (.tup [ratQ (P i).1, iv 0]) ∧ Pure Tryz.prog 58 [poA cs[i].2, .sl 3 X] (.tup [ratQ (P i).2, iv 0])) :
    Pure Tryz.prog 19 [.agg [.sl 2 (cs.map coA), .sl 3 V], .sl 3 X] (.tup [.sl 6 ((List.range cs.length).map fun i => (P i).av), .v (.bool true)]) := by
  have hlC : (cs.map coA).length = cs.length := List.length_map ..
  have hgC : ∀ i (h : i < cs.length), (cs.map coA).getD i .u = coA cs[i] := fun i h => map_atB coA h
  have hr : ∀ i, (List.range (i + 1)).map (fun i => (P i).av) = (List.range i).map (fun i => (P i).av) ++ [(P i).av] := fun i => by rw [List.range_succ, List.map_append]; rfl
  have hrl : ∀ i, ((List.range i).map (fun i => (P i).av)).length = i := fun i => by simp
  generalize cs.map coA = C at *
  refine pure_intro (tok := 0) Tryz.func19 rfl Tryz.ntmps19 Tryz.results19 Tryz.call19 (by rfl) (by simp) ?_
  (focus (refine wkap (w_a hlC w_t) w_t (w_r 0) ?_; (repeat' first | exact w_t | apply w_l); all_goals intros))
  rename_i g2
  refine r_frz (Frz.nilOwn (d := 6) 100 6 52 (by exact gC)) ?_
  refine r_loopE (ι := Nat) (fun i e m => i ≤ cs.length ∧ e 1 = .sl 3 X ∧ e 14 = .sl 2 C ∧ e 15 = iv cs.length ∧ e 16 = iv i ∧ ∃ sv, e 6 = .own 100 sv ∧ m 100 = some (.row sv 52 6 ((List.range i).map fun i => (P i).av) 0)) (fun i => cs.length - i) 0 (by rfl) ?_ ?_
  · rintro i e m ⟨hi, e1, e14, e15, e16, sv, e6, m6⟩
    by_cases hlt : i < cs.length
    · have hg := hgC i hlt
      have hri := hr i
      have hrli := hrl i
      obtain ⟨c1, c2⟩ := hev i hlt
      generalize cs[i] = c at *
      obtain ⟨p, q⟩ := c
      generalize P i = pt at *
      obtain ⟨x, y⟩ := pt
      simp only at c1 c2
      have c1 : Pure Tryz.prog 58 [.sl 4 (p.map tmA), .sl 3 X] (.tup [ratQ x, iv 0]) := c1
      have c2 : Pure Tryz.prog 58 [.sl 4 (q.map tmA), .sl 3 X] (.tup [ratQ y, iv 0]) := c2
      have hg : C.getD i .u = .agg [.sl 4 (p.map tmA), .sl 4 (q.map tmA)] := hg
      rw [show PQ.av (x, y) = .agg [.v (.bool (decide (x.num < 0))), lim (toL x.num.natAbs), lim (toL x.den), .v (.bool (decide (y.num < 0))), lim (toL y.num.natAbs), lim (toL y.den)] from rfl] at hri
      generalize (List.range i).map (fun i => (P i).av) = R at *
      generalize p.map tmA = A at *
      generalize q.map tmA = B at *
      by_cases hAB : A = B ∧ x = y
      · obtain ⟨rfl, rfl⟩ := hAB
        (focus (refine wkax (w_a e1 (w_a e14 (w_a e15 (w_a e16 (w_a e6 (w_a m6 (w_a hlC (w_a hg (w_a hrli w_t))))))))) w_t w_t w_t (w_a c1 w_t) w_t (w_r 0) ?_; (repeat' first | exact w_t | apply w_l); all_goals intros))
        all_goals refine ⟨i + 1, ⟨by omega, by exact gW e1, by exact gW e14, by exact gW e15, by exact gS, _, by exact gW e6, ?_⟩, by omega⟩
        all_goals (rw [hri]; exact gC)
      · (focus (refine wkax (w_a e1 (w_a e14 (w_a e15 (w_a e16 (w_a e6 (w_a m6 (w_a hlC (w_a hg (w_a hrli w_t))))))))) w_t w_t w_t (w_a c1 (w_a c2 w_t)) w_t (w_r 0) ?_; (repeat' first | exact w_t | apply w_l); all_goals intros))
        all_goals refine ⟨i + 1, ⟨by omega, by exact gW e1, by exact gW e14, by exact gW e15, by exact gS, _, by exact gW e6, ?_⟩, by omega⟩
        all_goals (rw [hri]; exact gC)
    · obtain rfl : i = cs.length := by omega
      have hrli := hrl cs.length
      (focus (refine wklp (w_a e1 (w_a e14 (w_a e15 (w_a e16 (w_a e6 (w_a m6 (w_a hlC (w_a hrli w_t)))))))) w_t (w_a m6 (w_a hrli w_t)) (w_r 0) ?_; (repeat' first | exact w_t | apply w_l); all_goals intros))
  · exact ⟨Nat.zero_le _, by exact gC, by exact gC, by (simp (disch := omega) only [go_sem, hlC] <;> repeat' first | rfl | refine ⟨?_, ?_⟩), by exact gC, _, by exact gC, by (simp (disch := omega) only [go_sem, List.range_zero] <;> repeat' first | rfl | refine ⟨?_, ?_⟩)⟩
theorem byRt : bytOf Tryz.prog 43 = some 56 := by kernel_rfl
theorem szI8 : szOf Tryz.prog 37 = some 1 := by kernel_rfl
end Go.Proofs.YtbgmnobnaplmlaaGreat
end

section
namespace Go.Proofs.YtbgmnobnaplmlaaGreat
open Go Go.RowKit Go.Pg
set_option linter.unusedSimpArgs false
set_option linter.unusedVariables false
set_option maxRecDepth 20000
attribute [local go_sem] Tryz.underlying3 Tryz.underlying4 Tryz.underlying9 Tryz.underlying48 Tryz.underlying93 Tryz.underlying31 Tryz.underlying85 sz3 by3 z3 szB zB szErr zErr szStr byStr zStr szSlI zSlI szSlStr zSlStr szCond byCond zCond
attribute [-bool_to_prop] Bool.and_eq_decide Bool.or_eq_decide Bool.decide_beq_decide decide_eq_decide
/-! ### conditions, and their texts -/
structure RC where
  k : Int
  ar : List Int
  st : Int
abbrev RC.av (c : RC) : AV := .agg [iv c.k, ivs c.ar, iv c.st]
def cAr (k : Int) : Int := if k = 1 then 2 else if k = 2 then 3 else if k = 3 then 4 else if k = 4 then 0 else -1
def cErr (k : Int) (ar : List Int) (n : Nat) : Int := if cAr k < 0 then 8 else if (ar.length : Int) ≠ cAr k then 1 else if outB n ar = true then 2 else 0
def lineB (a b : ByteArray) : ByteArray := if 1 < a.size ∨ 1 < b.size then ⟨#[40]⟩ ++ a ++ ⟨#[32]⟩ ++ b ++ ⟨#[41]⟩ else a ++ b
def cTxt (k : Int) (x y z w : ByteArray) : ByteArray :=
  if k = 1 then x ++ ⟨#[32, 33, 61, 32]⟩ ++ y
  else if k = 2 then x ++ ⟨#[44, 32]⟩ ++ y ++ ⟨#[44, 32]⟩ ++ z ++ ⟨#[32, 97, 114, 101, 32, 110, 111, 116, 32, 99, 111, 108, 108, 105, 110, 101, 97, 114]⟩
  else lineB x y ++ ⟨#[32, 97, 110, 100, 32]⟩ ++ lineB z w ++ ⟨#[32, 97, 114, 101, 32, 110, 111, 116, 32, 112, 97, 114, 97, 108, 108, 101, 108]⟩
abbrev nmA (ss : List ByteArray) (j : Int) : ByteArray := ss.getD j.toNat ByteArray.empty
def cRes (c : RC) (ss : List ByteArray) : AV :=
  if cErr c.k c.ar ss.length ≠ 0 then .tup [strA ⟨#[]⟩, iv (cErr c.k c.ar ss.length)]
  else if c.k = 4 then (if c.st < 0 ∨ (ss.length : Int) ≤ c.st then .tup [strA ⟨#[]⟩, iv 2] else .tup [strA (⟨#[115, 108, 111, 112, 101, 32, 111, 102, 32]⟩ ++ nmA ss c.st), iv 0])
  else .tup [strA (cTxt c.k (nmA ss (gI c.ar 0)) (nmA ss (gI c.ar 1)) (nmA ss (gI c.ar 2)) (nmA ss (gI c.ar 3))), iv 0]
end Go.Proofs.YtbgmnobnaplmlaaGreat
end

section
namespace Go.Proofs.YtbgmnobnaplmlaaGreat
open Go Go.RowKit Go.Pg
set_option linter.unusedSimpArgs false
set_option linter.unusedVariables false
set_option maxRecDepth 20000
attribute [-bool_to_prop] Bool.and_eq_decide Bool.or_eq_decide Bool.decide_beq_decide decide_eq_decide
theorem szIns : szOf Tryz.prog 89 = some 3 := by kernel_rfl
theorem zIns : zeroOf Tryz.prog 89 = some (.agg #[.slice none 0 0, .slice none 0 0, .slice none 0 0]) := by kernel_rfl
end Go.Proofs.YtbgmnobnaplmlaaGreat
end

section
namespace Go.Proofs.YtbgmnobnaplmlaaGreat
open Go Go.RowKit Go.Pg
set_option linter.unusedSimpArgs false
set_option linter.unusedVariables false
set_option maxRecDepth 20000
attribute [local go_sem] Tryz.underlying3 Tryz.underlying4 Tryz.underlying178 Tryz.underlying48 Tryz.underlying31 Tryz.underlying43 Tryz.underlying41 Tryz.underlying39 Tryz.underlying52 Tryz.underlying45 Tryz.underlying36 Tryz.underlying87 Tryz.underlying89 Tryz.underlying85 sz3 by3 z3 szB zB szErr zErr szL byL zL szRat zRat szInt zInt szNat zNat szSlI zSlI szPt byPt zPt szSlPt zSlPt szSlR zSlR szSlB zSlB szIns zIns szCond byCond zCond
attribute [-bool_to_prop] Bool.and_eq_decide Bool.or_eq_decide Bool.decide_beq_decide decide_eq_decide
/-! ### whether conditions hold -/
def eqP (p q : PQ) : Bool := decide (p.1 = q.1) && decide (p.2 = q.2)
abbrev ptN (ps : List PQ) (j : Int) : PQ := ps.getD j.toNat (0, 0)
def cHld (k : Int) (x y z w : PQ) : Bool :=
  if k = 1 then !eqP x y
  else if k = 2 then !decide ((crossP x y x z).num.sign = 0)
  else if k = 3 then !decide ((crossP x y z w).num.sign = 0)
  else true
def hRes (c : RC) (ps : List PQ) : AV :=
  if cErr c.k c.ar ps.length ≠ 0 then .tup [.v (.bool false), iv (cErr c.k c.ar ps.length)]
  else .tup [.v (.bool (cHld c.k (ptN ps (gI c.ar 0)) (ptN ps (gI c.ar 1)) (ptN ps (gI c.ar 2)) (ptN ps (gI c.ar 3)))), iv 0]
theorem r13Equal (p q : PQ) {j : Nat} (hp : p.sz j) (hq : q.sz j) (hj : j ≤ 1000) : Pure Tryz.prog 23 [p.av, q.av] (.v (.bool (eqP p q))) := by
  have c1 := qEqual p.1 q.1 hp.1 hq.1 (by omega) (by omega)
  have c2 := qEqual p.2 q.2 hp.2 hq.2 (by omega) (by omega)
  unfold eqP
  clear hp hq
  obtain ⟨a, b⟩ := p
  obtain ⟨c, d⟩ := q
  simp only at *
  generalize decide (a = c) = u at *
  generalize decide (b = d) = v at *
  cases u
  all_goals
    refine pure_intro (tok := 0) Tryz.func23 rfl Tryz.ntmps23 Tryz.results23 Tryz.call23 (by rfl) (by simp) ?_
    (focus (refine wklp w_t (w_a c1 (w_a c2 w_t)) w_t (w_r 0) ?_; (repeat' first | exact w_t | apply w_l); all_goals intros))
/-! ### points of few limbs -/
def RQ.four (r : RQ) : Bool := decide (r.l.length ≤ 4) && decide (r.d.length ≤ 4)
def RP.fine (p : RP) : Bool := p.x.four && (p.y.four && (p.x.ok && p.y.ok))
def fineB (ps : List RP) : Bool := decide (ps.length ≤ 12) && ps.all RP.fine
end Go.Proofs.YtbgmnobnaplmlaaGreat
end

section
namespace Go.Proofs.YtbgmnobnaplmlaaGreat
open Go Go.RowKit Go.Pg Go.Pol
set_option linter.unusedSimpArgs false
set_option linter.unusedVariables false
set_option maxRecDepth 20000
attribute [local go_sem] Tryz.underlying3 Tryz.underlying4 Tryz.underlying178 Tryz.underlying9 Tryz.underlying48 Tryz.underlying31 Tryz.underlying43 Tryz.underlying41 Tryz.underlying39 Tryz.underlying50 Tryz.underlying22 Tryz.underlying124 Tryz.underlying23 Tryz.underlying25 sz3 by3 z3 szB zB szL byL zL szErr zErr szStr byStr zStr szRat zRat szInt zInt szNat zNat szStep byStep zStep szFact byFact zFact szFig zFig szSlI zSlI szSlS zSlS szSlF zSlF
attribute [-bool_to_prop] Bool.and_eq_decide Bool.or_eq_decide Bool.decide_beq_decide decide_eq_decide
/-! ### the sizes that the laws of figures take -/
def fitS (s : RS) : Bool := !(decide (2 < s.r.l.length) || decide (2 < s.r.d.length) || decide (8 < s.ar.length))
def fitsB (ss : List RS) (gs : List RG) : Bool := ss.all fitS && (decide (nfN ss ss.length ≤ 12) && (decide (ss.length ≤ 42) && decide (gs.length ≤ 10)))
theorem all_at {α : Type} {p : α → Bool} {l : List α} {i : Nat} (h : i < l.length) (hp : p l[i] = false) : l.all p = false := by
  rw [Bool.eq_false_iff]
  intro ha
  rw [List.all_eq_true] at ha
  rw [ha _ (List.getElem_mem h)] at hp
  cases hp
theorem all_of {α : Type} {p : α → Bool} {l : List α} (h : ∀ j (hj : j < l.length), p l[j] = true) : l.all p = true := by
  rw [List.all_eq_true]
  intro x hx
  obtain ⟨j, hj, rfl⟩ := List.mem_iff_getElem.1 hx
  exact h j hj
theorem nfN_le (ss : List RS) : ∀ i, nfN ss i ≤ i
  | 0 => Nat.le_refl _
  | i + 1 => by
    have := nfN_le ss i
    unfold nfN
    split <;> omega
theorem nfN_y {ss : List RS} {i : Nat} (hi : i < ss.length) (h : ss[i].k = 1) : nfN ss (i + 1) = nfN ss i := by
  show nfN ss i + _ = _
  rw [show ss.getD i ⟨0, .empty, [], ⟨false, [], []⟩⟩ = ss[i] from by rw [List.getD_eq_getElem?_getD, List.getElem?_eq_getElem hi]; rfl, if_pos h]; rfl
theorem nfN_n {ss : List RS} {i : Nat} (hi : i < ss.length) (h : ss[i].k ≠ 1) : nfN ss (i + 1) = nfN ss i + 1 := by
  show nfN ss i + _ = _
  rw [show ss.getD i ⟨0, .empty, [], ⟨false, [], []⟩⟩ = ss[i] from by rw [List.getD_eq_getElem?_getD, List.getElem?_eq_getElem hi]; rfl, if_neg h]
set_option maxHeartbeats 4000000 in
theorem lwFits (ss : List RS) (gs : List RG) (h1 : ss.length ≤ 1000000000) : Pure Tryz.prog 14 [figA ss gs] (.v (.bool (fitsB ss gs))) := by
  have hls : (ss.map RS.av).length = ss.length := List.length_map ..
  have hlg : (gs.map RG.av).length = gs.length := List.length_map ..
  have hg : ∀ i (h : i < ss.length), (ss.map RS.av).getD i .u = ss[i].av := fun i h => map_atB RS.av h
  show Pure _ _ [.agg [.sl 6 (ss.map RS.av), .sl 5 (gs.map RG.av)]] _
  generalize ss.map RS.av = M at *
  generalize gs.map RG.av = N at *
  refine pure_intro (tok := 0) Tryz.func14 rfl Tryz.ntmps14 Tryz.results14 Tryz.call14 (by rfl) (by simp) ?_
  (focus (refine wkap (w_a hls (w_a hlg w_t)) w_t (w_r 0) ?_; (repeat' first | exact w_t | apply w_l); all_goals intros))
  rename_i g1
  refine r_loopE (ι := Nat) (fun i e m => i ≤ ss.length ∧ e 1 = .pbox 1 g1 0 ∧ m 1 = some (.box g1 25 [.sl 6 M, .sl 5 N] false) ∧ e 3 = iv (nfN ss i) ∧ e 7 = .sl 6 M ∧ e 8 = iv ss.length ∧ e 9 = iv i ∧ ∀ j, (hj : j < ss.length) → j < i → fitS ss[j] = true) (fun i => ss.length - i) 0 (by rfl) ?_ ?_
  · rintro i e m ⟨hi, e1, m1, e3, e7, e8, e9, hz⟩
    have hnf := nfN_le ss i
    by_cases hlt : i < ss.length
    · have hgi := hg i hlt
      have hy := @nfN_y ss i hlt
      have hn := @nfN_n ss i hlt
      have hB : fitS ss[i] = false → fitsB ss gs = false := fun h => by unfold fitsB; rw [all_at hlt h]; rfl
      have hZ : fitS ss[i] = true → ∀ j, (hj : j < ss.length) → j < i + 1 → fitS ss[j] = true := fun h j hj hji => by
        by_cases e : j = i
        · subst e; exact h
        · exact hz j hj (by omega)
      clear hz
      have hf : fitS ss[i] = !(decide (2 < ss[i].r.l.length) || decide (2 < ss[i].r.d.length) || decide (8 < ss[i].ar.length)) := rfl
      generalize nfN ss i = n0 at *
      generalize fitS ss[i] = ft at *
      generalize fitsB ss gs = fb at *
      generalize ss[i] = s at *
      obtain ⟨k, nm, ar, ⟨rs, rl, rd⟩⟩ := s
      simp only at *
      have hal : (ar.map iv).length = ar.length := List.length_map ..
      by_cases b1 : 2 < rl.length
      · have := hB (by rw [hf]; simp [b1])
        subst this
        by_cases k1 : k = 1
        · subst k1
          (focus (refine wkap (w_a e1 (w_a m1 (w_a e3 (w_a e7 (w_a e8 (w_a e9 (w_a hls (w_a hlg (w_a hgi (w_a hal w_t)))))))))) w_t (w_r 0) ?_; (repeat' first | exact w_t | apply w_l); all_goals intros))
          all_goals (all_goals (try simp (disch := omega) only [go_sem, decide_eq_true, decide_eq_false, if_pos, if_neg, Int.reduceAdd, Int.reduceSub, Int.reduceToNat, Int.zero_add])); (all_goals first | done | rfl | (congr 2; first | done | omega | (rw [Bool.eq_iff_iff]; simp only [bool_to_prop, Bool.false_eq_true, iff_true, true_iff, iff_false, false_iff]; omega)) | skip)
        · (focus (refine wkap (w_a e1 (w_a m1 (w_a e3 (w_a e7 (w_a e8 (w_a e9 (w_a hls (w_a hlg (w_a hgi (w_a hal w_t)))))))))) w_t (w_r 0) ?_; (repeat' first | exact w_t | apply w_l); all_goals intros))
          all_goals (all_goals (try simp (disch := omega) only [go_sem, decide_eq_true, decide_eq_false, if_pos, if_neg, Int.reduceAdd, Int.reduceSub, Int.reduceToNat, Int.zero_add])); (all_goals first | done | rfl | (congr 2; first | done | omega | (rw [Bool.eq_iff_iff]; simp only [bool_to_prop, Bool.false_eq_true, iff_true, true_iff, iff_false, false_iff]; omega)) | skip)
      · by_cases b2 : 2 < rd.length
        · have := hB (by rw [hf]; simp [b2])
          subst this
          by_cases k1 : k = 1
          · subst k1
            (focus (refine wkap (w_a e1 (w_a m1 (w_a e3 (w_a e7 (w_a e8 (w_a e9 (w_a hls (w_a hlg (w_a hgi (w_a hal w_t)))))))))) w_t (w_r 0) ?_; (repeat' first | exact w_t | apply w_l); all_goals intros))
            all_goals (all_goals (try simp (disch := omega) only [go_sem, decide_eq_true, decide_eq_false, if_pos, if_neg, Int.reduceAdd, Int.reduceSub, Int.reduceToNat, Int.zero_add])); (all_goals first | done | rfl | (congr 2; first | done | omega | (rw [Bool.eq_iff_iff]; simp only [bool_to_prop, Bool.false_eq_true, iff_true, true_iff, iff_false, false_iff]; omega)) | skip)
          · (focus (refine wkap (w_a e1 (w_a m1 (w_a e3 (w_a e7 (w_a e8 (w_a e9 (w_a hls (w_a hlg (w_a hgi (w_a hal w_t)))))))))) w_t (w_r 0) ?_; (repeat' first | exact w_t | apply w_l); all_goals intros))
            all_goals (all_goals (try simp (disch := omega) only [go_sem, decide_eq_true, decide_eq_false, if_pos, if_neg, Int.reduceAdd, Int.reduceSub, Int.reduceToNat, Int.zero_add])); (all_goals first | done | rfl | (congr 2; first | done | omega | (rw [Bool.eq_iff_iff]; simp only [bool_to_prop, Bool.false_eq_true, iff_true, true_iff, iff_false, false_iff]; omega)) | skip)
        · by_cases b3 : 8 < ar.length
          · have := hB (by rw [hf]; simp [b3])
            subst this
            by_cases k1 : k = 1
            · subst k1
              (focus (refine wkap (w_a e1 (w_a m1 (w_a e3 (w_a e7 (w_a e8 (w_a e9 (w_a hls (w_a hlg (w_a hgi (w_a hal w_t)))))))))) w_t (w_r 0) ?_; (repeat' first | exact w_t | apply w_l); all_goals intros))
              all_goals (all_goals (try simp (disch := omega) only [go_sem, decide_eq_true, decide_eq_false, if_pos, if_neg, Int.reduceAdd, Int.reduceSub, Int.reduceToNat, Int.zero_add])); (all_goals first | done | rfl | (congr 2; first | done | omega | (rw [Bool.eq_iff_iff]; simp only [bool_to_prop, Bool.false_eq_true, iff_true, true_iff, iff_false, false_iff]; omega)) | skip)
            · (focus (refine wkap (w_a e1 (w_a m1 (w_a e3 (w_a e7 (w_a e8 (w_a e9 (w_a hls (w_a hlg (w_a hgi (w_a hal w_t)))))))))) w_t (w_r 0) ?_; (repeat' first | exact w_t | apply w_l); all_goals intros))
              all_goals (all_goals (try simp (disch := omega) only [go_sem, decide_eq_true, decide_eq_false, if_pos, if_neg, Int.reduceAdd, Int.reduceSub, Int.reduceToNat, Int.zero_add])); (all_goals first | done | rfl | (congr 2; first | done | omega | (rw [Bool.eq_iff_iff]; simp only [bool_to_prop, Bool.false_eq_true, iff_true, true_iff, iff_false, false_iff]; omega)) | skip)
          · have hZ := hZ (by rw [hf]; simp [b1, b2, b3])
            by_cases k1 : k = 1
            · subst k1
              have hy := hy rfl
              (focus (refine wkap (w_a e1 (w_a m1 (w_a e3 (w_a e7 (w_a e8 (w_a e9 (w_a hls (w_a hlg (w_a hgi (w_a hal w_t)))))))))) w_t (w_r 0) ?_; (repeat' first | exact w_t | apply w_l); all_goals intros))
              exact ⟨i + 1, ⟨by omega, by exact gW e1, by exact gW m1, (by rw [hy]; exact gW e3), by exact gW e7, by exact gW e8, by exact gS, hZ⟩, by omega⟩
            · have hn := hn k1
              (focus (refine wkap (w_a e1 (w_a m1 (w_a e3 (w_a e7 (w_a e8 (w_a e9 (w_a hls (w_a hlg (w_a hgi (w_a hal w_t)))))))))) w_t (w_r 0) ?_; (repeat' first | exact w_t | apply w_l); all_goals intros))
              exact ⟨i + 1, ⟨by omega, by exact gW e1, by exact gW m1, (by rw [hn]; exact gS), by exact gW e7, by exact gW e8, by exact gS, hZ⟩, by omega⟩
    · have hi2 : i = ss.length := by omega
      have hE : fitsB ss gs = (decide (nfN ss ss.length ≤ 12) && (decide (ss.length ≤ 42) && decide (gs.length ≤ 10))) := by
        unfold fitsB
        rw [all_of fun j hj => hz j hj (by omega), Bool.true_and]
      rw [hE]
      rw [hi2] at e3 e9 hnf
      clear hz hE hg
      generalize nfN ss ss.length = n1 at *
      (focus (refine wkap (w_a e1 (w_a m1 (w_a e3 (w_a e7 (w_a e8 (w_a e9 (w_a hls (w_a hlg w_t)))))))) w_t (w_r 0) ?_; (repeat' first | exact w_t | apply w_l); all_goals intros))
      all_goals (all_goals (try simp (disch := omega) only [go_sem, decide_eq_true, decide_eq_false, if_pos, if_neg, Int.reduceAdd, Int.reduceSub, Int.reduceToNat, Int.zero_add])); (all_goals first | done | rfl | (congr 2; first | done | omega | (rw [Bool.eq_iff_iff]; simp only [bool_to_prop, Bool.false_eq_true, iff_true, true_iff, iff_false, false_iff]; omega)) | skip)
  · exact ⟨Nat.zero_le _, by exact gC, by exact gC, by (simp (disch := omega) only [go_sem, nfN] <;> repeat' first | rfl | refine ⟨?_, ?_⟩), by exact gC, by exact gW hls, by exact gC, fun j _ hj => by omega⟩
end Go.Proofs.YtbgmnobnaplmlaaGreat
end

section
namespace Go.Proofs.YtbgmnobnaplmlaaGreat
open Go Go.RowKit Go.Pg Go.Pol
set_option linter.unusedSimpArgs false
set_option linter.unusedVariables false
set_option maxRecDepth 20000
attribute [local go_sem] Tryz.underlying3 Tryz.underlying4 Tryz.underlying178 Tryz.underlying9 Tryz.underlying48 Tryz.underlying31 Tryz.underlying43 Tryz.underlying41 Tryz.underlying39 Tryz.underlying50 Tryz.underlying22 Tryz.underlying25 Tryz.underlying56 Tryz.underlying28 Tryz.underlying72 Tryz.underlying27 Tryz.underlying30 Tryz.underlying105 Tryz.underlying107 Tryz.underlying70 Tryz.underlying63 Tryz.underlying103 Tryz.underlying154 sz3 by3 z3 szB zB szErr zErr szStr byStr zStr szRat zRat szInt zInt szNat zNat szStep byStep zStep szFig zFig szSlI zSlI szSlS zSlS szVar byVar zVar szSlV zSlV szCoord byCoord zCoord szSlC zSlC szFrame zFrame szCBld byCBld zCBld szCVec byCVec zCVec szPoly byPoly zPoly szTerm zTerm szPtrB zPtrB szFnC zFnC Tryz.underlying124 Tryz.underlying23 szL byL zL szFact byFact zFact szSlF zSlF
attribute [-bool_to_prop] Bool.and_eq_decide Bool.or_eq_decide Bool.decide_beq_decide decide_eq_decide
theorem figE_ok {ss : List RS} {gs : List RG} (h : figE ss gs = 0) : ss.length ≤ 40 ∧ ∀ i, i < ss.length → errS ss i = 0 := by
  unfold figE at h
  split at h
  · omega
  · rename_i h1
    split at h
    · rename_i h2; exact absurd h h2
    · rename_i h2
      refine ⟨by omega, fstE_all ?_⟩
      rcases Decidable.em (fstE (errS ss) ss.length = 0) with h3 | h3
      · exact h3
      · exact absurd h3 h2
theorem figOk_of {ss : List RS} {gs : List RG} (h : figE ss gs = 0) (hs : ∀ s ∈ ss, s.sm) (hf : fitsB ss gs = true) : FigOk ss := by
  obtain ⟨h1, h2⟩ := figE_ok h
  unfold fitsB at hf
  simp only [Bool.and_eq_true, decide_eq_true_eq, List.all_eq_true] at hf
  refine ⟨h1, h2, fun s hm => ?_, by omega⟩
  have := hf.1 s hm
  unfold fitS at this
  simp only [Bool.not_eq_true', Bool.or_eq_false_iff, decide_eq_false_iff_not, Nat.not_lt] at this
  obtain ⟨k1, k2, k3, k4⟩ := (hs s hm).1
  exact ⟨k1, k2, this.1.1, this.1.2⟩
theorem frN_small {ss : List RS} (h : (List.range ss.length).any (bigN ss) ≠ true) : (frN ss ss.length).vs.length ≤ 64 := by
  rcases Nat.eq_zero_or_pos ss.length with h0 | h0
  · rw [h0]; exact Nat.zero_le _
  · have hb : bigN ss (ss.length - 1) ≠ true := fun hb => h (List.any_eq_true.2 ⟨ss.length - 1, List.mem_range.2 (by omega), hb⟩)
    unfold bigN at hb
    simp only [ne_eq, Bool.or_eq_true, decide_eq_true_eq, not_or, Nat.not_lt] at hb
    have := hb.1.1
    rwa [show ss.length - 1 + 1 = ss.length by omega] at this
end Go.Proofs.YtbgmnobnaplmlaaGreat
end

section
namespace Go.Proofs.YtbgmnobnaplmlaaGreat
open Go Go.RowKit Go.Pg Go.Pol
set_option linter.unusedSimpArgs false
set_option linter.unusedVariables false
set_option maxRecDepth 20000
attribute [-bool_to_prop] Bool.and_eq_decide Bool.or_eq_decide Bool.decide_beq_decide decide_eq_decide
section
variable {N n : Nat} {cs : List AV}
theorem agInt : aggTy Tryz.prog 3 = false := by kernel_rfl
theorem csInt : Tryz.prog.cellsOf 3 = 1 := by kernel_rfl
theorem shIvs (h : Shape Tryz.prog N n 48 cs) : ∃ l : List Int, cs = [ivs l] ∧ l.length ≤ N := by
  obtain ⟨bs, rfl, hl, _⟩ := shape_sliceOf (g := fun k : Int => [iv k]) (Q := fun _ => True) Tryz.underlying48 h fun m x hx => by
    obtain ⟨i, rfl, _⟩ := shape_int Tryz.underlying3 hx
    exact ⟨i, rfl, trivial⟩
  refine ⟨bs, ?_, hl⟩
  rw [csInt]
  have : (bs.map fun b : Int => wrapA Tryz.prog 3 [iv b]) = bs.map iv := List.map_congr_left fun b _ => wrapA_one agInt _
  rw [this]
theorem shStep (h : Shape Tryz.prog N n 50 cs) : ∃ s : RS, cs = [iv s.k, strA s.nm, ivs s.ar, .v (.bool s.r.s), lim s.r.l, lim s.r.d] ∧ s.r.lm N ∧ s.nm.size ≤ N ∧ s.ar.length ≤ N := by
  obtain ⟨m, rfl, hs⟩ := shape_struct Tryz.underlying50 (by kernel_rfl) h
  obtain ⟨x, y, rfl, h1, hs⟩ := hs.inv
  obtain ⟨x2, y, rfl, h2, hs⟩ := hs.inv
  obtain ⟨x3, y, rfl, h3, hs⟩ := hs.inv
  obtain ⟨x4, y, rfl, h4, hs⟩ := hs.inv
  obtain rfl := hs.inv0
  obtain ⟨k, rfl, _⟩ := shape_int Tryz.underlying3 h1
  obtain ⟨nm, rfl, hn⟩ := shape_string Tryz.underlying9 h2
  obtain ⟨ar, rfl, ha⟩ := shIvs h3
  obtain ⟨r, rfl, hr⟩ := shRat h4
  exact ⟨⟨k, nm, ar, r⟩, rfl, hr, hn, ha⟩
theorem shFact (h : Shape Tryz.prog N n 124 cs) : ∃ g : RG, cs = [iv g.k, ivs g.ar, .v (.bool g.r.s), lim g.r.l, lim g.r.d] ∧ g.r.lm N ∧ g.ar.length ≤ N := by
  obtain ⟨m, rfl, hs⟩ := shape_struct Tryz.underlying124 (by kernel_rfl) h
  obtain ⟨x, y, rfl, h1, hs⟩ := hs.inv
  obtain ⟨x3, y, rfl, h3, hs⟩ := hs.inv
  obtain ⟨x4, y, rfl, h4, hs⟩ := hs.inv
  obtain rfl := hs.inv0
  obtain ⟨k, rfl, _⟩ := shape_int Tryz.underlying3 h1
  obtain ⟨ar, rfl, ha⟩ := shIvs h3
  obtain ⟨r, rfl, hr⟩ := shRat h4
  exact ⟨⟨k, ar, r⟩, rfl, hr, ha⟩
theorem shSteps (h : Shape Tryz.prog N n 22 cs) : ∃ l : List RS, cs = [.sl 6 (l.map RS.av)] ∧ l.length ≤ N ∧ ∀ s ∈ l, s.r.lm N ∧ s.nm.size ≤ N ∧ s.ar.length ≤ N := by
  obtain ⟨bs, rfl, hl, hq⟩ := shape_sliceOf (g := fun s : RS => [iv s.k, strA s.nm, ivs s.ar, .v (.bool s.r.s), lim s.r.l, lim s.r.d]) (Q := fun s => s.r.lm N ∧ s.nm.size ≤ N ∧ s.ar.length ≤ N) Tryz.underlying22 h fun m x hx => shStep hx
  refine ⟨bs, ?_, hl, hq⟩
  rw [show Tryz.prog.cellsOf 50 = 6 from by kernel_rfl]
  have : (bs.map fun s : RS => wrapA Tryz.prog 50 [iv s.k, strA s.nm, ivs s.ar, .v (.bool s.r.s), lim s.r.l, lim s.r.d]) = bs.map RS.av := List.map_congr_left fun b _ => wrapA_agg Tryz.underlying50 _
  rw [this]
theorem shFacts (h : Shape Tryz.prog N n 23 cs) : ∃ l : List RG, cs = [.sl 5 (l.map RG.av)] ∧ l.length ≤ N ∧ ∀ s ∈ l, s.r.lm N ∧ s.ar.length ≤ N := by
  obtain ⟨bs, rfl, hl, hq⟩ := shape_sliceOf (g := fun s : RG => [iv s.k, ivs s.ar, .v (.bool s.r.s), lim s.r.l, lim s.r.d]) (Q := fun s => s.r.lm N ∧ s.ar.length ≤ N) Tryz.underlying23 h fun m x hx => shFact hx
  refine ⟨bs, ?_, hl, hq⟩
  rw [show Tryz.prog.cellsOf 124 = 5 from by kernel_rfl]
  have : (bs.map fun s : RG => wrapA Tryz.prog 124 [iv s.k, ivs s.ar, .v (.bool s.r.s), lim s.r.l, lim s.r.d]) = bs.map RG.av := List.map_congr_left fun b _ => wrapA_agg Tryz.underlying124 _
  rw [this]
theorem shFigure (h : Shape Tryz.prog N n 25 cs) : ∃ (ss : List RS) (gs : List RG), wrapA Tryz.prog 25 cs = figA ss gs ∧ ss.length ≤ N ∧ gs.length ≤ N ∧ (∀ s ∈ ss, s.r.lm N ∧ s.nm.size ≤ N ∧ s.ar.length ≤ N) ∧ ∀ s ∈ gs, s.r.lm N ∧ s.ar.length ≤ N := by
  obtain ⟨m, rfl, hs⟩ := shape_struct Tryz.underlying25 (by kernel_rfl) h
  obtain ⟨x, y, rfl, h1, hs⟩ := hs.inv
  obtain ⟨x3, y, rfl, h3, hs⟩ := hs.inv
  obtain rfl := hs.inv0
  obtain ⟨ss, rfl, hl, hq⟩ := shSteps h1
  obtain ⟨gs, rfl, kl, kq⟩ := shFacts h3
  exact ⟨ss, gs, wrapA_agg Tryz.underlying25 _, hl, kl, hq, kq⟩
end
theorem lm_mono {r : RQ} {a b : Nat} (h : r.lm a) (hab : a ≤ b) : r.lm b := ⟨h.1, h.2.1, Nat.le_trans h.2.2.1 hab, Nat.le_trans h.2.2.2 hab⟩
end Go.Proofs.YtbgmnobnaplmlaaGreat
end

section
namespace Go.Proofs.YtbgmnobnaplmlaaGreat
open Go Go.RowKit Go.Pg Go.Pol
set_option linter.unusedSimpArgs false
set_option linter.unusedVariables false
set_option maxRecDepth 20000
attribute [local go_sem] Tryz.underlying3 Tryz.underlying115 Tryz.underlying4 Tryz.underlying178 Tryz.underlying31 Tryz.underlying43 Tryz.underlying41 Tryz.underlying39 Tryz.underlying52 Tryz.underlying36 Tryz.underlying45 Tryz.underlying72 Tryz.underlying27 Tryz.underlying56 Tryz.underlying28 Tryz.underlying30 Tryz.underlying9 Tryz.underlying48 Tryz.underlying50 Tryz.underlying22 Tryz.underlying25 Tryz.underlying37 Tryz.underlying35 Tryz.underlying61 Tryz.underlying63 Tryz.underlying70 sz3 by3 z3 szErr zErr szRat zRat szNat zNat szInt zInt szB zB szPt byPt zPt szMono szTerm byTerm zTerm szPoly byPoly zPoly szCoord byCoord zCoord szSlC zSlC szFrame zFrame szVar byVar zVar szSlV zSlV szStr byStr zStr szStep byStep zStep szFig zFig szSlI zSlI szSlS zSlS szI8 byRt
attribute [-bool_to_prop] Bool.and_eq_decide Bool.or_eq_decide Bool.decide_beq_decide decide_eq_decide
/-! ### points are where the steps say: the law's walk -/
abbrev i8s (l : List Int) : List AV := l.map fun k => .v (.int .i8 k)
/-- What a step says of its point. -/
structure StV (s : RS) (i : Nat) (vs : List Vt) (x : Nat → Rat) (P : Nat → PQ) : Prop where
  k2 : s.k = 2 → ∃ (a b : Nat) (q : Rat), s.ar = [(a : Int), (b : Int)] ∧ a < i ∧ b < i ∧ s.r.av = ratQ q ∧ Pure Tryz.prog 20 [(P a).av, (P b).av, ratQ q] (P i).av
  k3 : s.k = 3 → ∃ a b c : Nat, s.ar = [(a : Int), (b : Int), (c : Int)] ∧ a < i ∧ b < i ∧ c < i ∧ Pure Tryz.prog 21 [(P a).av, (P b).av, (P c).av] (P i).av
  k4 : s.k = 4 → ∃ a b c : Nat, s.ar = [(a : Int), (b : Int), (c : Int)] ∧ a < i ∧ b < i ∧ c < i ∧ Pure Tryz.prog 22 [(P a).av, (P b).av, (P c).av] (P i).av
  k5 : s.k = 5 → ∃ a b : Nat, s.ar = [(a : Int), (b : Int)] ∧ a < i ∧ b < i ∧ ∀ j (h : j < vs.length), vs[j].2.1 = (i : Int) → Pure Tryz.prog 20 [(P a).av, (P b).av, ratQ (x j)] (P i).av
set_option maxHeartbeats 8000000 in
theorem lawVals1 (ss : List RS) (gs : List RG) (cs : List (Po × Po)) (vs : List Vt) (l : List Int) (x : Nat → Rat) (xv : Nat → Int) (P : Nat → PQ) (hlen : ss.length ≤ 42) (hv : vs.length ≤ 64) (hcl : cs.length = ss.length)
    (hl8 : ∀ j (h : j < l.length), -128 ≤ l[j] ∧ l[j] ≤ 127)
    (hxv : ∀ j (h : j < l.length), xv j = l[j].tmod 101) (hxw : ∀ j, l.length ≤ j → xv j = j) (hxb : ∀ j, j < 64 → -1000 ≤ xv j ∧ xv j ≤ 1000)
    (cx : ∀ j, j < vs.length → Pure Tryz.prog 18 [iv (xv j)] (ratQ (x j)))
    (cf : Pure Tryz.prog 14 [figA ss gs] (.v (.bool true)))
    (co : Pure Tryz.prog 15 [figA ss gs] (.tup [frmA cs vs, iv 0]))
    (cp : Pure Tryz.prog 19 [frmA cs vs, .sl 3 ((List.range vs.length).map fun j => ratQ (x j))] (.tup [.sl 6 ((List.range ss.length).map fun i => (P i).av), .v (.bool true)]))
    (ce : ∀ i, i < ss.length → Pure Tryz.prog 23 [(P i).av, (P i).av] (.v (.bool true)))
    (hst : ∀ i (h : i < ss.length), StV ss[i] i vs x P) :
    Pure Tryz.prog 4 [figA ss gs, .sl 1 (i8s l)] (.v (.bool true)) := by
  have cf : Pure Tryz.prog 14 [.agg [.sl 6 (ss.map RS.av), .sl 5 (gs.map RG.av)]] (.v (.bool true)) := cf
  have co : Pure Tryz.prog 15 [.agg [.sl 6 (ss.map RS.av), .sl 5 (gs.map RG.av)]] (.tup [.agg [.sl 2 (cs.map coA), .sl 3 (vs.map Vt.av)], iv 0]) := co
  have cp : Pure Tryz.prog 19 [.agg [.sl 2 (cs.map coA), .sl 3 (vs.map Vt.av)], .sl 3 ((List.range vs.length).map fun j => ratQ (x j))] (.tup [.sl 6 ((List.range ss.length).map fun i => (P i).av), .v (.bool true)]) := cp
  have hls : (ss.map RS.av).length = ss.length := List.length_map ..
  have hlC : (cs.map coA).length = ss.length := by rw [List.length_map, hcl]
  have hlV : (vs.map Vt.av).length = vs.length := List.length_map ..
  have hlL : (i8s l).length = l.length := List.length_map ..
  have hgS : ∀ i (h : i < ss.length), (ss.map RS.av).getD i .u = ss[i].av := fun i h => map_atB RS.av h
  have hgV : ∀ i (h : i < vs.length), (vs.map Vt.av).getD i .u = vs[i].av := fun i h => map_atB Vt.av h
  have hgL : ∀ i (h : i < l.length), (i8s l).getD i .u = .v (.int .i8 l[i]) := fun i h => map_atB (fun k : Int => AV.v (.int .i8 k)) h
  have hrX : ∀ i, (List.range (i + 1)).map (fun j => ratQ (x j)) = (List.range i).map (fun j => ratQ (x j)) ++ [ratQ (x i)] := fun i => by rw [List.range_succ, List.map_append]; rfl
  have hlX : ∀ i, ((List.range i).map (fun j => ratQ (x j))).length = i := fun i => by simp
  have hgX : ∀ i, i < vs.length → ((List.range vs.length).map (fun j => ratQ (x j))).getD i .u = ratQ (x i) := fun i h => by rw [map_atB (fun j => ratQ (x j)) (by simpa using h), List.getElem_range]
  have hlP : ((List.range ss.length).map (fun i => (P i).av)).length = ss.length := by simp
  have hgP : ∀ i, i < ss.length → ((List.range ss.length).map (fun i => (P i).av)).getD i .u = (P i).av := fun i h => by rw [map_atB (fun j => (P j).av) (by simpa using h), List.getElem_range]
  show Pure _ _ [.agg [.sl 6 (ss.map RS.av), .sl 5 (gs.map RG.av)], .sl 1 (i8s l)] _
  generalize (List.range ss.length).map (fun i => (P i).av) = LP at *
  generalize ss.map RS.av = M at *
  generalize gs.map RG.av = N at *
  generalize cs.map coA = C at *
  generalize vs.map Vt.av = V at *
  generalize i8s l = L at *
  refine pure_intro (tok := 0) Tryz.func4 rfl Tryz.ntmps4 Tryz.results4 Tryz.call4 (by rfl) (by simp) ?_
  (focus (refine wkad (w_a hls w_t) (w_a cf (w_a co w_t)) w_t ?_; (repeat' first | exact w_t | apply w_l); all_goals intros))
  rename_i g2 g5
  refine r_frz (Frz.nilOwn (d := 7) 300 3 43 (by exact gC)) ?_
  refine r_loopE (ι := Nat) (fun i e m => i ≤ vs.length ∧ e 1 = .sl 1 L ∧ e 2 = .pbox 2 g2 0 ∧ m 2 = some (.box g2 25 [.sl 6 M, .sl 5 N] false) ∧ e 5 = .pbox 5 g5 0 ∧ m 5 = some (.box g5 30 [.sl 2 C, .sl 3 V] false) ∧ e 29 = iv vs.length ∧ e 30 = iv i ∧ ∃ sv, e 7 = .own 300 sv ∧ m 300 = some (.row sv 43 3 ((List.range i).map fun j => ratQ (x j)) 0)) (fun i => vs.length - i) 0 (by rfl) ?_ ?_
  · rintro i e m ⟨hi, e1, e2, m2, e5, m5, e29, e30, sv, e7, m7⟩
    by_cases hlt : i < vs.length
    · have c := cx i hlt
      have hxi := hrX i
      have hli := hlX i
      have hb := hxb i (by omega)
      by_cases hil : i < l.length
      · have hg := hgL i hil
        have hx := hxv i hil
        have h8 := hl8 i hil
        rw [hx] at c hb
        generalize l[i] = k at *
        generalize hw : k.tmod 101 = w at *
        generalize x i = q at *
        generalize (List.range i).map (fun j => ratQ (x j)) = R at *
        (focus (refine wkad (w_a e1 (w_a e2 (w_a m2 (w_a e5 (w_a m5 (w_a e29 (w_a e30 (w_a e7 (w_a m7 (w_a hlL (w_a hli (w_a hg (w_a hw w_t))))))))))))) (w_a c w_t) w_t ?_; (repeat' first | exact w_t | apply w_l); all_goals intros))
        refine ⟨i + 1, ⟨by omega, by exact gW e1, by exact gW e2, by exact gW m2, by exact gW e5, by exact gW m5, by exact gW e29, by exact gS, _, by exact gW e7, ?_⟩, by omega⟩
        rw [hxi]; exact gC
      · have hx := hxw i (by omega)
        rw [hx] at c
        generalize x i = q at *
        generalize (List.range i).map (fun j => ratQ (x j)) = R at *
        (focus (refine wkad (w_a e1 (w_a e2 (w_a m2 (w_a e5 (w_a m5 (w_a e29 (w_a e30 (w_a e7 (w_a m7 (w_a hlL (w_a hli (w_a hil w_t)))))))))))) (w_a c w_t) w_t ?_; (repeat' first | exact w_t | apply w_l); all_goals intros))
        refine ⟨i + 1, ⟨by omega, by exact gW e1, by exact gW e2, by exact gW m2, by exact gW e5, by exact gW m5, by exact gW e29, by exact gS, _, by exact gW e7, ?_⟩, by omega⟩
        rw [hxi]; exact gC
    · obtain rfl : i = vs.length := by omega
      have hli := hlX vs.length
      clear hrX hlX
      generalize (List.range vs.length).map (fun j => ratQ (x j)) = R at *
      (focus (refine wkax (w_a e1 (w_a e2 (w_a m2 (w_a e5 (w_a m5 (w_a e29 (w_a e30 (w_a e7 (w_a m7 (w_a hli (w_a hlP (w_a hls w_t)))))))))))) w_t w_t (w_a cp w_t) w_t w_t (w_r 0) ?_; (repeat' first | exact w_t | apply w_l); all_goals intros))
      refine r_loopE (ι := Nat) (fun i e m => i ≤ ss.length ∧ e 2 = .pbox 2 g2 0 ∧ m 2 = some (.box g2 25 [.sl 6 M, .sl 5 N] false) ∧ e 5 = .pbox 5 g5 0 ∧ m 5 = some (.box g5 30 [.sl 2 C, .sl 3 V] false) ∧ e 7 = .own 300 sv ∧ m 300 = some (.row sv 43 3 R vs.length) ∧ e 10 = .sl 6 LP ∧ e 67 = .sl 6 M ∧ e 68 = iv ss.length ∧ e 69 = iv i) (fun i => ss.length - i) 0 (by rfl) ?_ ?_
      · rintro i e m ⟨hi, e2, m2, e5, m5, e7, m7, e10, e67, e68, e69⟩
        by_cases hlt : i < ss.length
        · have hgi := hgS i hlt
          have hgp := hgP i hlt
          have cq := ce i hlt
          obtain ⟨k2, k3, k4, k5⟩ := hst i hlt
          generalize ss[i] = s at *
          obtain ⟨k, nm, ar, r⟩ := s
          simp only at k2 k3 k4 k5
          have hgi : M.getD i .u = .agg [iv k, strA nm, .sl 1 (ar.map iv), .v (.bool r.s), lim r.l, lim r.d] := hgi
          generalize hpi : P i = pi at *
          obtain ⟨px, py⟩ := pi
          rw [show PQ.av (px, py) = .agg [.v (.bool (decide (px.num < 0))), lim (toL px.num.natAbs), lim (toL px.den), .v (.bool (decide (py.num < 0))), lim (toL py.num.natAbs), lim (toL py.den)] from rfl] at *
          by_cases h2 : k = 2
          · obtain ⟨a, b, q, rfl, ha, hb, hq, c⟩ := k2 h2
            subst h2
            clear k2 k3 k4 k5
            have hga := hgP a (by omega)
            have hgb := hgP b (by omega)
            generalize P a = pa at *
            obtain ⟨a1, a2⟩ := pa
            generalize P b = pb at *
            obtain ⟨b1, b2⟩ := pb
            have hq : AV.agg [.v (.bool r.s), lim r.l, lim r.d] = .agg [.v (.bool (decide (q.num < 0))), lim (toL q.num.natAbs), lim (toL q.den)] := hq
            simp only [AV.agg.injEq, List.cons.injEq, and_true] at hq
            rw [hq.1, hq.2.1, hq.2.2] at hgi
            simp only [List.map_cons, List.map_nil] at hgi
            (focus (refine wkad (w_a e2 (w_a m2 (w_a e5 (w_a m5 (w_a e7 (w_a m7 (w_a e10 (w_a e67 (w_a e68 (w_a e69 (w_a hls (w_a hlP (w_a hgi (w_a hgp (w_a hga (w_a hgb w_t)))))))))))))))) (w_a c (w_a cq w_t)) (w_a (w_d 36 [(5, .v (.bool true))] [] []) (w_a (w_d 24 [(16, ptQ px py)] [17] []) w_t)) ?_; (repeat' first | exact w_t | apply w_l); all_goals intros))
            exact ⟨i + 1, ⟨by omega, by exact gW e2, by exact gW m2, by exact gW e5, by exact gW m5, by exact gW e7, by exact gW m7, by exact gW e10, by exact gW e67, by exact gW e68, by exact gS⟩, by omega⟩
          · by_cases h3 : k = 3
            · obtain ⟨a, b, c0, rfl, ha, hb, hc, c⟩ := k3 h3
              subst h3
              clear k2 k3 k4 k5
              have hga := hgP a (by omega)
              have hgb := hgP b (by omega)
              have hgc := hgP c0 (by omega)
              generalize P a = pa at *
              obtain ⟨a1, a2⟩ := pa
              generalize P b = pb at *
              obtain ⟨b1, b2⟩ := pb
              generalize P c0 = pc at *
              obtain ⟨c1, c2⟩ := pc
              simp only [List.map_cons, List.map_nil] at hgi
              (focus (refine wkad (w_a e2 (w_a m2 (w_a e5 (w_a m5 (w_a e7 (w_a m7 (w_a e10 (w_a e67 (w_a e68 (w_a e69 (w_a hls (w_a hlP (w_a hgi (w_a hgp (w_a hga (w_a hgb (w_a hgc w_t))))))))))))))))) (w_a c (w_a cq w_t)) (w_a (w_d 36 [(5, .v (.bool true))] [] []) (w_a (w_d 26 [(21, ptQ px py)] [22] []) w_t)) ?_; (repeat' first | exact w_t | apply w_l); all_goals intros))
              exact ⟨i + 1, ⟨by omega, by exact gW e2, by exact gW m2, by exact gW e5, by exact gW m5, by exact gW e7, by exact gW m7, by exact gW e10, by exact gW e67, by exact gW e68, by exact gS⟩, by omega⟩
            · by_cases h4 : k = 4
              · obtain ⟨a, b, c0, rfl, ha, hb, hc, c⟩ := k4 h4
                subst h4
                clear k2 k3 k4 k5
                have hga := hgP a (by omega)
                have hgb := hgP b (by omega)
                have hgc := hgP c0 (by omega)
                generalize P a = pa at *
                obtain ⟨a1, a2⟩ := pa
                generalize P b = pb at *
                obtain ⟨b1, b2⟩ := pb
                generalize P c0 = pc at *
                obtain ⟨c1, c2⟩ := pc
                simp only [List.map_cons, List.map_nil] at hgi
                (focus (refine wkad (w_a e2 (w_a m2 (w_a e5 (w_a m5 (w_a e7 (w_a m7 (w_a e10 (w_a e67 (w_a e68 (w_a e69 (w_a hls (w_a hlP (w_a hgi (w_a hgp (w_a hga (w_a hgb (w_a hgc w_t))))))))))))))))) (w_a c (w_a cq w_t)) (w_a (w_d 36 [(5, .v (.bool true))] [] []) (w_a (w_d 28 [(21, ptQ px py)] [22] []) w_t)) ?_; (repeat' first | exact w_t | apply w_l); all_goals intros))
                exact ⟨i + 1, ⟨by omega, by exact gW e2, by exact gW m2, by exact gW e5, by exact gW m5, by exact gW e7, by exact gW m7, by exact gW e10, by exact gW e67, by exact gW e68, by exact gS⟩, by omega⟩
              · by_cases h5 : k = 5
                · obtain ⟨a, b, rfl, ha, hb, c⟩ := k5 h5
                  subst h5
                  clear k2 k3 k4 k5
                  have hga := hgP a (by omega)
                  have hgb := hgP b (by omega)
                  generalize P a = pa at *
                  obtain ⟨a1, a2⟩ := pa
                  generalize P b = pb at *
                  obtain ⟨b1, b2⟩ := pb
                  simp only [List.map_cons, List.map_nil] at hgi
                  (focus (refine wkad (w_a e2 (w_a m2 (w_a e5 (w_a m5 (w_a e7 (w_a m7 (w_a e10 (w_a e67 (w_a e68 (w_a e69 (w_a hls (w_a hlP (w_a hlV (w_a hgi (w_a hgp w_t))))))))))))))) w_t w_t ?_; (repeat' first | exact w_t | apply w_l); all_goals intros))
                  rename_i g13 g14
                  refine r_loopE (ι := Nat) (fun j e m => j ≤ vs.length ∧ e 2 = .pbox 2 g2 0 ∧ m 2 = some (.box g2 25 [.sl 6 M, .sl 5 N] false) ∧ e 5 = .pbox 5 g5 0 ∧ m 5 = some (.box g5 30 [.sl 2 C, .sl 3 V] false) ∧ e 7 = .own 300 sv ∧ m 300 = some (.row sv 43 3 R vs.length) ∧ e 10 = .sl 6 LP ∧ e 67 = .sl 6 M ∧ e 68 = iv ss.length ∧ e 69 = iv i ∧ e 12 = iv i ∧
                    e 13 = .pbox 13 g13 0 ∧ m 13 = some (.box g13 50 [iv 5, strA nm, .sl 1 [iv (a : Int), iv (b : Int)], .v (.bool r.s), lim r.l, lim r.d] false) ∧ e 14 = .pbox 14 g14 0 ∧ m 14 = some (.box g14 52 [.v (.bool (decide (px.num < 0))), lim (toL px.num.natAbs), lim (toL px.den), .v (.bool (decide (py.num < 0))), lim (toL py.num.natAbs), lim (toL py.den)] false) ∧ e 150 = .sl 3 V ∧ e 151 = iv vs.length ∧ e 152 = iv j) (fun j => vs.length - j) 0 (by rfl) ?_ ?_
                  · rintro j e m ⟨hj, e2, m2, e5, m5, e7, m7, e10, e67, e68, e69, e12, e13, m13, e14, m14, e150, e151, e152⟩
                    by_cases hjl : j < vs.length
                    · have hgv := hgV j hjl
                      have hgx := hgX j hjl
                      have cj := c j hjl
                      generalize vs[j] = v at *
                      obtain ⟨v1, v2, v3⟩ := v
                      simp only at cj
                      generalize x j = q at *
                      by_cases hvi : v2 = (i : Int)
                      · have ck := cj hvi
                        subst hvi
                        (focus (refine wkad (w_a e2 (w_a m2 (w_a e5 (w_a m5 (w_a e7 (w_a m7 (w_a e10 (w_a e67 (w_a e68 (w_a e69 (w_a e12 (w_a e13 (w_a m13 (w_a e14 (w_a m14 (w_a e150 (w_a e151 (w_a e152 (w_a hls (w_a hlP (w_a hlV (w_a hli (w_a hgv (w_a hgx (w_a hga (w_a hgb w_t)))))))))))))))))))))))))) (w_a ck w_t) (w_a (w_d 34 [(18, ptQ px py)] [19] []) w_t) ?_; (repeat' first | exact w_t | apply w_l); all_goals intros))
                        exact ⟨j + 1, ⟨by omega, by exact gW e2, by exact gW m2, by exact gW e5, by exact gW m5, by exact gW e7, by exact gW m7, by exact gW e10, by exact gW e67, by exact gW e68, by exact gW e69, by exact gW e12, by exact gW e13, by exact gW m13, by exact gW e14, by exact gC, by exact gW e150, by exact gW e151, by exact gS⟩, by omega⟩
                      · (focus (refine wkad (w_a e2 (w_a m2 (w_a e5 (w_a m5 (w_a e7 (w_a m7 (w_a e10 (w_a e67 (w_a e68 (w_a e69 (w_a e12 (w_a e13 (w_a m13 (w_a e14 (w_a m14 (w_a e150 (w_a e151 (w_a e152 (w_a hls (w_a hlP (w_a hlV (w_a hli (w_a hgv (w_a hgx (w_a hvi w_t))))))))))))))))))))))))) w_t w_t ?_; (repeat' first | exact w_t | apply w_l); all_goals intros))
                        exact ⟨j + 1, ⟨by omega, by exact gW e2, by exact gW m2, by exact gW e5, by exact gW m5, by exact gW e7, by exact gW m7, by exact gW e10, by exact gW e67, by exact gW e68, by exact gW e69, by exact gW e12, by exact gW e13, by exact gW m13, by exact gW e14, by exact gW m14, by exact gW e150, by exact gW e151, by exact gS⟩, by omega⟩
                    · (focus (refine wkad (w_a e2 (w_a m2 (w_a e5 (w_a m5 (w_a e7 (w_a m7 (w_a e10 (w_a e67 (w_a e68 (w_a e69 (w_a e12 (w_a e13 (w_a m13 (w_a e14 (w_a m14 (w_a e150 (w_a e151 (w_a e152 (w_a hls (w_a hlP (w_a hlV (w_a hgp w_t)))))))))))))))))))))) (w_a cq w_t) (w_a (w_d 36 [(5, .v (.bool true))] [] []) w_t) ?_; (repeat' first | exact w_t | apply w_l); all_goals intros))
                      exact ⟨i + 1, ⟨by omega, by exact gW e2, by exact gW m2, by exact gW e5, by exact gW m5, by exact gW e7, by exact gW m7, by exact gW e10, by exact gW e67, by exact gW e68, by exact gS⟩, by omega⟩
                  · exact ⟨Nat.zero_le _, by exact gW e2, by exact gW m2, by exact gW e5, by exact gW m5, by exact gW e7, by exact gW m7, by exact gW e10, by exact gW e67, by exact gW e68, by exact gW e69, by exact gC, by exact gC, by exact gC, by exact gC, by exact gC, by exact gC, by (simp (disch := omega) only [go_sem, hlV] <;> repeat' first | rfl | refine ⟨?_, ?_⟩), by exact gC⟩
                · clear k2 k3 k4 k5
                  (focus (refine wkad (w_a e2 (w_a m2 (w_a e5 (w_a m5 (w_a e7 (w_a m7 (w_a e10 (w_a e67 (w_a e68 (w_a e69 (w_a hls (w_a hlP (w_a hgi (w_a hgp (w_a h2 (w_a h3 (w_a h4 (w_a h5 w_t)))))))))))))))))) (w_a cq w_t) (w_a (w_d 36 [(5, .v (.bool true))] [] []) w_t) ?_; (repeat' first | exact w_t | apply w_l); all_goals intros))
                  exact ⟨i + 1, ⟨by omega, by exact gW e2, by exact gW m2, by exact gW e5, by exact gW m5, by exact gW e7, by exact gW m7, by exact gW e10, by exact gW e67, by exact gW e68, by exact gS⟩, by omega⟩
        · (focus (refine wkad (w_a e2 (w_a m2 (w_a e5 (w_a m5 (w_a e7 (w_a m7 (w_a e10 (w_a e67 (w_a e68 (w_a e69 (w_a hls w_t))))))))))) w_t w_t ?_; (repeat' first | exact w_t | apply w_l); all_goals intros))
          all_goals (all_goals (try simp (disch := omega) only [go_sem, decide_eq_true, decide_eq_false, if_pos, if_neg, Int.reduceAdd, Int.reduceSub, Int.reduceToNat, Int.zero_add])); (all_goals first | done | rfl | (congr 2; first | done | omega | (rw [Bool.eq_iff_iff]; simp only [bool_to_prop, Bool.false_eq_true, iff_true, true_iff, iff_false, false_iff]; omega)) | skip)
      · exact ⟨Nat.zero_le _, by exact gW e2, by exact gW m2, by exact gW e5, by exact gW m5, by exact gW e7, by exact gW m7, by exact gC, by exact gC, by exact gW hls, by exact gC⟩
  · exact ⟨Nat.zero_le _, by exact gC, by exact gC, by exact gC, by exact gC, by exact gC, by (simp (disch := omega) only [go_sem, hlV] <;> repeat' first | rfl | refine ⟨?_, ?_⟩), by exact gC, _, by exact gC, by (simp (disch := omega) only [go_sem, List.range_zero] <;> repeat' first | rfl | refine ⟨?_, ?_⟩)⟩
end Go.Proofs.YtbgmnobnaplmlaaGreat
end

section
namespace Go.Proofs.YtbgmnobnaplmlaaGreat
open Go Go.RowKit Go.Pg Go.Pol
set_option linter.unusedSimpArgs false
set_option linter.unusedVariables false
set_option maxRecDepth 20000
attribute [-bool_to_prop] Bool.and_eq_decide Bool.or_eq_decide Bool.decide_beq_decide decide_eq_decide
/-! ### arguments of a known number -/
theorem ar2 {ar : List Int} {n : Nat} (hl : (ar.length : Int) = 2) (h : ∀ k, k < ar.length → 0 ≤ gI ar k ∧ gI ar k < (n : Int)) : ∃ a b : Nat, ar = [(a : Int), (b : Int)] ∧ a < n ∧ b < n := by
  match ar, hl, h with
  | [x, y], _, h =>
    have h0 := h 0 (by simp)
    have h1 := h 1 (by simp)
    simp only [gI, List.getD_cons_zero, List.getD_cons_succ] at h0 h1
    exact ⟨x.toNat, y.toNat, by rw [Int.toNat_of_nonneg h0.1, Int.toNat_of_nonneg h1.1], by omega, by omega⟩
theorem ar3 {ar : List Int} {n : Nat} (hl : (ar.length : Int) = 3) (h : ∀ k, k < ar.length → 0 ≤ gI ar k ∧ gI ar k < (n : Int)) : ∃ a b c : Nat, ar = [(a : Int), (b : Int), (c : Int)] ∧ a < n ∧ b < n ∧ c < n := by
  match ar, hl, h with
  | [x, y, z], _, h =>
    have h0 := h 0 (by simp)
    have h1 := h 1 (by simp)
    have h2 := h 2 (by simp)
    simp only [gI, List.getD_cons_zero, List.getD_cons_succ] at h0 h1 h2
    exact ⟨x.toNat, y.toNat, z.toNat, by rw [Int.toNat_of_nonneg h0.1, Int.toNat_of_nonneg h1.1, Int.toNat_of_nonneg h2.1], by omega, by omega, by omega⟩
end Go.Proofs.YtbgmnobnaplmlaaGreat
end

section
namespace Go.Proofs.YtbgmnobnaplmlaaGreat
open Go Go.RowKit Go.Pg Go.Pol
set_option linter.unusedSimpArgs false
set_option linter.unusedVariables false
set_option maxRecDepth 20000
attribute [local go_sem] Tryz.underlying3 Tryz.underlying4 Tryz.underlying178 Tryz.underlying9 Tryz.underlying48 Tryz.underlying31 Tryz.underlying43 Tryz.underlying41 Tryz.underlying39 Tryz.underlying50 Tryz.underlying22 Tryz.underlying25 Tryz.underlying56 Tryz.underlying28 Tryz.underlying72 Tryz.underlying27 Tryz.underlying30 Tryz.underlying105 Tryz.underlying107 Tryz.underlying70 Tryz.underlying63 Tryz.underlying103 Tryz.underlying154 sz3 by3 z3 szB zB szErr zErr szStr byStr zStr szRat zRat szInt zInt szNat zNat szStep byStep zStep szFig zFig szSlI zSlI szSlS zSlS szVar byVar zVar szSlV zSlV szCoord byCoord zCoord szSlC zSlC szFrame zFrame szCBld byCBld zCBld szCVec byCVec zCVec szPoly byPoly zPoly szTerm zTerm szPtrB zPtrB szFnC zFnC
attribute [-bool_to_prop] Bool.and_eq_decide Bool.or_eq_decide Bool.decide_beq_decide decide_eq_decide
theorem Agr.re {m σ : Mem} {t k : Nat} {e1 e e' : Ent} (h : Agr m (upd σ k (some e1))) (ht : t = k + 1000) (he : e' = e.sh) : Agr (upd m t (some e')) (upd σ k (some e)) := by
  have := h.put (k := k) (e := e) ht he
  rwa [upd_over] at this
/-- A frame's handles under other names. -/
theorem Sub.frame (KC KV KC' KV' : Nat) (svC svV : Value) : Sub (.agg [.own KC svC, .own KV svV]) (.agg [.own KC' svC, .own KV' svV]) := Sub.agg2 (Sub.own _ _ _) (Sub.own _ _ _)
end Go.Proofs.YtbgmnobnaplmlaaGreat
end

section
namespace Go.Proofs.YtbgmnobnaplmlaaGreat
open Go Go.RowKit Go.Pg Go.Pol
set_option linter.unusedSimpArgs false
set_option linter.unusedVariables false
set_option maxRecDepth 20000
attribute [-bool_to_prop] Bool.and_eq_decide Bool.or_eq_decide Bool.decide_beq_decide decide_eq_decide
abbrev cstM (q : Rat) : Po := if q = 0 then [] else [(q, [])]
theorem PK.take {p : Po} {k e : Nat} (h : PK p k e) (i : Nat) : PK (p.take i) k e := fun t ht => h t (List.mem_of_mem_take ht)
end Go.Proofs.YtbgmnobnaplmlaaGreat
end

section
namespace Go.Proofs.YtbgmnobnaplmlaaGreat
open Go Go.RowKit Go.Pg Go.Pol
set_option linter.unusedSimpArgs false
set_option linter.unusedVariables false
set_option maxRecDepth 20000
attribute [local go_sem] Tryz.underlying3 Tryz.underlying4 Tryz.underlying178 Tryz.underlying9 Tryz.underlying48 Tryz.underlying31 Tryz.underlying43 Tryz.underlying41 Tryz.underlying39 Tryz.underlying50 Tryz.underlying22 Tryz.underlying25 Tryz.underlying56 Tryz.underlying28 Tryz.underlying72 Tryz.underlying27 Tryz.underlying30 Tryz.underlying105 Tryz.underlying107 Tryz.underlying70 Tryz.underlying63 Tryz.underlying103 Tryz.underlying154 sz3 by3 z3 szB zB szErr zErr szStr byStr zStr szRat zRat szInt zInt szNat zNat szStep byStep zStep szFig zFig szSlI zSlI szSlS zSlS szVar byVar zVar szSlV zSlV szCoord byCoord zCoord szSlC zSlC szFrame zFrame szCBld byCBld zCBld szCVec byCVec zCVec szPoly byPoly zPoly szTerm zTerm szPtrB zPtrB szFnC zFnC
attribute [-bool_to_prop] Bool.and_eq_decide Bool.or_eq_decide Bool.decide_beq_decide decide_eq_decide
theorem Agr.at {m σ : Mem} (h : Agr m σ) {k : Nat} {e : Ent} (hk : σ k = some e) : m (k + 1000) = some e.sh := by rw [h k, hk]; rfl
def ptsN (cs : List (Po × Po)) (ar : List Int) : List (Po × Po) := ar.map fun a => cs.getD a.toNat ([], [])
end Go.Proofs.YtbgmnobnaplmlaaGreat
end

section
namespace Go.Proofs.YtbgmnobnaplmlaaGreat
open Go Go.RowKit Go.Pg Go.Pol
set_option linter.unusedSimpArgs false
set_option linter.unusedVariables false
set_option maxRecDepth 20000
attribute [local go_sem] Tryz.underlying3 Tryz.underlying4 Tryz.underlying178 Tryz.underlying9 Tryz.underlying48 Tryz.underlying31 Tryz.underlying43 Tryz.underlying41 Tryz.underlying39 Tryz.underlying50 Tryz.underlying22 Tryz.underlying25 Tryz.underlying56 Tryz.underlying28 Tryz.underlying72 Tryz.underlying27 Tryz.underlying30 Tryz.underlying105 Tryz.underlying107 Tryz.underlying70 Tryz.underlying63 Tryz.underlying103 Tryz.underlying154 sz3 by3 z3 szB zB szErr zErr szStr byStr zStr szRat zRat szInt zInt szNat zNat szStep byStep zStep szFig zFig szSlI zSlI szSlS zSlS szVar byVar zVar szSlV zSlV szCoord byCoord zCoord szSlC zSlC szFrame zFrame szCBld byCBld zCBld szCVec byCVec zCVec szPoly byPoly zPoly szTerm zTerm szPtrB zPtrB szFnC zFnC
attribute [-bool_to_prop] Bool.and_eq_decide Bool.or_eq_decide Bool.decide_beq_decide decide_eq_decide
end Go.Proofs.YtbgmnobnaplmlaaGreat
end

section
namespace Go.Proofs.YtbgmnobnaplmlaaGreat
open Go Go.RowKit Go.Pg Go.Pol
set_option linter.unusedSimpArgs false
set_option linter.unusedVariables false
set_option maxRecDepth 20000
attribute [local go_sem] Tryz.underlying3 Tryz.underlying4 Tryz.underlying178 Tryz.underlying9 Tryz.underlying48 Tryz.underlying31 Tryz.underlying43 Tryz.underlying41 Tryz.underlying39 Tryz.underlying50 Tryz.underlying22 Tryz.underlying25 Tryz.underlying56 Tryz.underlying28 Tryz.underlying72 Tryz.underlying27 Tryz.underlying30 Tryz.underlying105 Tryz.underlying107 Tryz.underlying70 Tryz.underlying63 Tryz.underlying103 Tryz.underlying154 sz3 by3 z3 szB zB szErr zErr szStr byStr zStr szRat zRat szInt zInt szNat zNat szStep byStep zStep szFig zFig szSlI zSlI szSlS zSlS szVar byVar zVar szSlV zSlV szCoord byCoord zCoord szSlC zSlC szFrame zFrame szCBld byCBld zCBld szCVec byCVec zCVec szPoly byPoly zPoly szTerm zTerm szPtrB zPtrB szFnC zFnC
attribute [-bool_to_prop] Bool.and_eq_decide Bool.or_eq_decide Bool.decide_beq_decide decide_eq_decide
theorem vk_big {z : Int} : Vk (.tup [.agg [.v (.slice none 0 0), .v (.slice none 0 0)], iv z]) (.tup [frmA [] [], iv z]) := Vk.tupL (.cons (Vk.aggL (.cons (.nil 2) (.cons (.nil 3) .nil))) (.cons (.refl _) .nil))
end Go.Proofs.YtbgmnobnaplmlaaGreat
end

section
namespace Go.Proofs.YtbgmnobnaplmlaaGreat
open Go Go.RowKit Go.Pg Go.Pol
set_option linter.unusedSimpArgs false
set_option linter.unusedVariables false
set_option maxRecDepth 20000
attribute [local go_sem] Tryz.underlying3 Tryz.underlying115 Tryz.underlying4 Tryz.underlying178 Tryz.underlying31 Tryz.underlying43 Tryz.underlying41 Tryz.underlying39 Tryz.underlying52 Tryz.underlying36 Tryz.underlying45 Tryz.underlying72 Tryz.underlying27 Tryz.underlying56 Tryz.underlying28 Tryz.underlying30 Tryz.underlying9 Tryz.underlying48 Tryz.underlying50 Tryz.underlying22 Tryz.underlying25 Tryz.underlying37 Tryz.underlying35 Tryz.underlying61 Tryz.underlying63 Tryz.underlying70 sz3 by3 z3 szErr zErr szRat zRat szNat zNat szInt zInt szB zB szPt byPt zPt szMono szTerm byTerm zTerm szPoly byPoly zPoly szCoord byCoord zCoord szSlC zSlC szFrame zFrame szVar byVar zVar szSlV zSlV szStr byStr zStr szStep byStep zStep szFig zFig szSlI zSlI szSlS zSlS szI8 byRt
attribute [-bool_to_prop] Bool.and_eq_decide Bool.or_eq_decide Bool.decide_beq_decide decide_eq_decide
/-! ### points are where the steps say: the plain law -/
theorem tmod_bd (a : Int) (h : -128 ≤ a ∧ a ≤ 127) : -100 ≤ a.tmod 101 ∧ a.tmod 101 ≤ 100 := by
  have h1 : (a.tmod 101).natAbs = a.natAbs % 101 := Int.natAbs_tmod a 101
  have h2 : a.natAbs % 101 < 101 := Nat.mod_lt _ (by omega)
  omega
/-- The values that the law lets the variables stand for. -/
def valI (l : List Int) (j : Nat) : Int := if j < l.length then (gI l j).tmod 101 else j
def valX (l : List Int) (n j : Nat) : Rat := ((List.range n).map fun j => ((valI l j : Int) : Rat)).getD j 0
theorem valX_at (l : List Int) {n j : Nat} (h : j < n) : valX l n j = ((valI l j : Int) : Rat) := by
  unfold valX
  rw [List.getD_eq_getElem?_getD, List.getElem?_map, List.getElem?_range h]; rfl
theorem valI_bd {l : List Int} (h8 : ∀ j (h : j < l.length), -128 ≤ l[j] ∧ l[j] ≤ 127) {j : Nat} (hj : j < 64) : -100 ≤ valI l j ∧ valI l j ≤ 100 := by
  unfold valI
  split
  · rename_i h
    rw [gI_at h]
    exact tmod_bd _ (h8 j h)
  · omega
theorem bq_mv {x : Nat → Rat} {n : Nat} (hx : ∀ j, j < n → BQ 1 100 (x j)) {m : List Int} (h0 : ∀ j, 0 ≤ gI m j) (h1 : ∀ j, gI m j ≤ 1) : ∀ k, k ≤ n → BQ 1 (100 ^ k) (mvN x m k)
  | 0, _ => BQ.int 1 (by decide)
  | k + 1, hk => by
    have ih := bq_mv hx h0 h1 k (by omega)
    have hf : BQ 1 100 (x k ^ (gI m k).toNat) := by
      have a := h0 k
      have b := h1 k
      have : (gI m k).toNat = 0 ∨ (gI m k).toNat = 1 := by omega
      rcases this with e | e <;> rw [e]
      · rw [Rat.pow_zero]; exact BQ.int 1 (by decide)
      · rw [Rat.pow_succ, Rat.pow_zero, Rat.one_mul]; exact hx k (by omega)
    exact (ih.mul hf).mono (by decide) (by rw [Nat.pow_succ]; exact Nat.le_refl _)
theorem bq_evl {x : Nat → Rat} {D B : Nat} : ∀ p : Po, (∀ t ∈ p, BQ D B (t.1 * mv x t.2)) → BQ D (p.length * B) (evP x p)
  | [], _ => by
    rw [show evP x [] = ((0 : Int) : Rat) from rfl]
    exact BQ.int 0 (by simp)
  | t :: p, h => by
    have h1 := bq_evl p fun u hu => h u (.tail _ hu)
    exact ((h t (.head _)).add h1).mono (Nat.dvd_refl _) (by rw [List.length_cons, Nat.succ_mul]; omega)
theorem big64 : 4000 * (65536 ^ 60 * 100 ^ 64) < 65536 ^ 89 := by decide +kernel
/-- The bounds of a good polynomial's value. -/
theorem gp_vals {n D v : Nat} {p : Po} (hp : GP n D v p) (hl : p.length ≤ 4000) (hv : v ≤ 64) (hn : n ≤ 20) (h0 : D ≠ 0) (hd : D < 65536 ^ (2 * n + 1)) {x : Nat → Rat} (hx : ∀ j, j < v → BQ 1 100 (x j)) :
    (∀ t ∈ p, ∀ k, k ≤ t.2.length → Sz (t.1 * mvN x t.2 k) 130) ∧ ∀ i, i ≤ p.length → Sz (evP x (p.take i)) 130 := by
  have hd2 : D < 65536 ^ 41 := Nat.lt_of_lt_of_le hd (Nat.pow_le_pow_right (by omega) (by omega))
  have hB : BB n ≤ 65536 ^ 60 := Nat.pow_le_pow_right (by omega) (by omega)
  have key : ∀ t ∈ p, ∀ k, k ≤ t.2.length → BQ D (65536 ^ 60 * 100 ^ 64) (t.1 * mvN x t.2 k) := fun t ht k hk => by
    obtain ⟨h1, h2, h3⟩ := hp.2 t ht
    have := h1.mul (bq_mv hx (hp.1.1 t ht).2.1 h3 k (by omega))
    exact this.mono (by rw [Nat.mul_one]; exact Nat.dvd_refl _) (Nat.mul_le_mul hB (Nat.pow_le_pow_right (by omega) (by omega)))
  have hb : 65536 ^ 60 * 100 ^ 64 < 65536 ^ 89 := Nat.lt_of_le_of_lt (Nat.le_mul_of_pos_left _ (by decide)) big64
  refine ⟨fun t ht k hk => bq_sz (key t ht k hk) h0 hd2 hb, fun i hi => ?_⟩
  have h1 := bq_evl (x := x) (p.take i) fun t ht => key t (List.mem_of_mem_take ht) _ (Nat.le_refl _)
  have hl2 : (p.take i).length ≤ 4000 := by rw [List.length_take]; omega
  exact bq_sz h1 h0 hd2 (Nat.lt_of_le_of_lt (Nat.mul_le_mul_right _ hl2) big64)
/-! ### the parts of a frame -/
theorem nxt_step (f : FS) (i : Nat) (s : RS) : ∀ v ∈ (f.nxt i s).1, v.2.1 = (i : Int) := by
  unfold FS.nxt
  simp only
  repeat' split
  all_goals (intro v hv; simp at hv)
  all_goals (try (rcases hv with rfl | rfl | rfl <;> rfl))
  all_goals (try (rcases hv with rfl | rfl <;> rfl))
  all_goals (try (subst hv; rfl))
theorem vs_lt (ss : List RS) : ∀ i, ∀ v ∈ (frN ss i).vs, v.2.1 < (i : Int)
  | 0, v, h => by simp [frN] at h
  | i + 1, v, h => by
    rcases List.mem_append.1 (show v ∈ (frN ss i).vs ++ ((frN ss i).nxt i (ss.getD i RS.zero)).1 from h) with h1 | h1
    · have := vs_lt ss i v h1; omega
    · have := nxt_step _ _ _ v h1; omega
theorem vs_more (ss : List RS) (i : Nat) : ∀ d, ∃ l, (frN ss (i + d)).vs = (frN ss i).vs ++ l ∧ ∀ v ∈ l, (i : Int) ≤ v.2.1
  | 0 => ⟨[], by rw [List.append_nil]; rfl, fun v h => by simp at h⟩
  | d + 1 => by
    obtain ⟨l, hl, hv⟩ := vs_more ss i d
    refine ⟨l ++ ((frN ss (i + d)).nxt (i + d) (ss.getD (i + d) RS.zero)).1, ?_, fun v h => ?_⟩
    · show (frN ss (i + d)).vs ++ _ = _
      rw [hl, List.append_assoc]; rfl
    · rcases List.mem_append.1 h with h1 | h1
      · exact hv v h1
      · have := nxt_step _ _ _ v h1; omega
theorem cs_more (ss : List RS) (i : Nat) : ∀ d, ∃ l, (frN ss (i + d)).cs = (frN ss i).cs ++ l
  | 0 => ⟨[], by rw [List.append_nil]; rfl⟩
  | d + 1 => by
    obtain ⟨l, hl⟩ := cs_more ss i d
    refine ⟨l ++ [((frN ss (i + d)).nxt (i + d) (ss.getD (i + d) RS.zero)).2], ?_⟩
    show (frN ss (i + d)).cs ++ _ = _
    rw [hl, List.append_assoc]; rfl
theorem cs_at {ss : List RS} {i j : Nat} (hi : i ≤ ss.length) (hj : j < i) : (frN ss ss.length).cs.getD j ([], []) = (frN ss i).cs.getD j ([], []) := by
  obtain ⟨l, hl⟩ := cs_more ss i (ss.length - i)
  rw [show i + (ss.length - i) = ss.length by omega] at hl
  rw [hl, List.getD_eq_getElem?_getD, List.getD_eq_getElem?_getD, List.getElem?_append_left (by rw [frN_len]; omega)]
theorem cs_nxt {ss : List RS} {i : Nat} (hi : i < ss.length) : (frN ss ss.length).cs.getD i ([], []) = ((frN ss i).nxt i ss[i]).2 := by
  rw [cs_at (show i + 1 ≤ ss.length by omega) (by omega), frN_succ hi, List.getD_eq_getElem?_getD, List.getElem?_append_right (by rw [frN_len]; omega), frN_len, Nat.sub_self]; rfl
/-- The only variable of a step on a line. -/
theorem var_of {ss : List RS} {i : Nat} (hi : i < ss.length) (hk : ss[i].k = 5) {j : Nat} (hj : j < (frN ss ss.length).vs.length) (h : (frN ss ss.length).vs[j].2.1 = (i : Int)) : j = (frN ss i).vs.length := by
  obtain ⟨l, hl, hv⟩ := vs_more ss (i + 1) (ss.length - (i + 1))
  rw [show i + 1 + (ss.length - (i + 1)) = ss.length by omega, frN_succ hi] at hl
  have hn : ((frN ss i).nxt i ss[i]).1 = [(1, (i : Int), 0)] := by unfold FS.nxt; simp [hk]
  simp only [hn] at hl
  rcases Nat.lt_trichotomy j (frN ss i).vs.length with h1 | h1 | h1
  · exfalso
    have e : (frN ss ss.length).vs[j] = (frN ss i).vs[j] := by simp only [hl]; rw [List.getElem_append_left (by simp; omega), List.getElem_append_left h1]
    have := vs_lt ss i _ (List.getElem_mem h1)
    rw [e] at h; omega
  · exact h1
  · exfalso
    have hj2 : j - ((frN ss i).vs ++ [((1, (i : Int), 0) : Vt)]).length < l.length := by rw [hl, List.length_append] at hj; simp at hj ⊢; omega
    have e : (frN ss ss.length).vs[j] = l[j - ((frN ss i).vs ++ [((1, (i : Int), 0) : Vt)]).length] := by simp only [hl]; rw [List.getElem_append_right (by simp; omega)]
    have := hv _ (List.getElem_mem hj2)
    rw [e] at h; omega
theorem srt_scl {a : Rat} {p : Po} (h : SrtM p) : SrtM (sclM a p) := by
  unfold sclM
  split
  · exact .nil
  · rename_i h0; exact scale_srt h h0
theorem srt_sub {p q : Po} (hp : SrtM p) (hq : SrtM q) : SrtM (subM p q) := addP_srt ordM hp (scale_srt hq neg1)
abbrev ptV (x : Nat → Rat) (c : Po × Po) : PQ := (evP x c.1, evP x c.2)
/-- Where the steps' points are. -/
theorem nxt_val (x : Nat → Rat) (f : FS) (i : Nat) (s : RS) (hs : ∀ k, SrtM (f.at s k).1 ∧ SrtM (f.at s k).2) (hv : f.vs.length < 64 ∨ s.k ≠ 5) :
    (s.k = 2 → ptV x (f.nxt i s).2 = alongP (ptV x (f.at s 0)) (ptV x (f.at s 1)) s.r.q) ∧
    (s.k = 3 → ptV x (f.nxt i s).2 = shiftP (ptV x (f.at s 0)) (ptV x (f.at s 1)) (ptV x (f.at s 2))) ∧
    (s.k = 4 → ptV x (f.nxt i s).2 = turnP (ptV x (f.at s 0)) (ptV x (f.at s 1)) (ptV x (f.at s 2))) ∧
    (s.k = 5 → ptV x (f.nxt i s).2 = alongP (ptV x (f.at s 0)) (ptV x (f.at s 1)) (x f.vs.length)) := by
  obtain ⟨a1, a2⟩ := hs 0
  obtain ⟨b1, b2⟩ := hs 1
  obtain ⟨c1, c2⟩ := hs 2
  refine ⟨fun h => ?_, fun h => ?_, fun h => ?_, fun h => ?_⟩
  · unfold FS.nxt alongP ptV
    simp only [h]
    rw [if_neg (by decide), if_pos trivial]
    simp only [evP_add x a1 (srt_scl (srt_sub b1 a1)), evP_add x a2 (srt_scl (srt_sub b2 a2)), evP_scl, evP_sub x b1 a1, evP_sub x b2 a2]
  · unfold FS.nxt shiftP ptV
    simp only [h]
    rw [if_neg (by decide), if_neg (by decide), if_pos trivial]
    simp only [evP_add x a1 (srt_sub c1 b1), evP_add x a2 (srt_sub c2 b2), evP_sub x c1 b1, evP_sub x c2 b2, Rat.one_mul]
  · unfold FS.nxt turnP ptV
    simp only [h]
    rw [if_neg (by decide), if_neg (by decide), if_neg (by decide), if_pos trivial]
    simp only [evP_add x a1 (srt_sub b2 c2), evP_add x a2 (srt_sub c1 b1), evP_sub x b2 c2, evP_sub x c1 b1, Rat.one_mul]
    congr 1
    grind
  · have h64 : f.vs.length < 64 := hv.resolve_right fun k => k h
    unfold FS.nxt alongP ptV
    simp only [h]
    rw [if_neg (by decide), if_neg (by decide), if_neg (by decide), if_neg (by decide), if_pos trivial]
    simp only [evP_add x a1 (mulR_srt ordM mulK (srt_sub b1 a1) (varM_srt _)), evP_add x a2 (mulR_srt ordM mulK (srt_sub b2 a2) (varM_srt _)), evP_mul x (srt_sub b1 a1) (varM_srt _), evP_mul x (srt_sub b2 a2) (varM_srt _), evP_sub x b1 a1, evP_sub x b2 a2, evP_var x h64, Rat.mul_comm]
set_option maxHeartbeats 4000000 in
theorem lawVals (ss : List RS) (gs : List RG) (l : List Int) (h8 : ∀ j (h : j < l.length), -128 ≤ l[j] ∧ l[j] ≤ 127) (h1 : ss.length ≤ 1000000000) (h2 : gs.length ≤ 1000000000) (hs : ∀ s ∈ ss, s.sm) (hg : ∀ g ∈ gs, g.sm) : Pure Tryz.prog 4 [figA ss gs, .sl 1 (i8s l)] (.v (.bool true)) := by
  have cf := lwFits ss gs h1
  have cr := lwRight ss gs h1 h2 hs hg
  have er : ∀ z : Int, z ≠ 0 → Pure Tryz.prog 14 [figA ss gs] (.v (.bool true)) → Pure Tryz.prog 15 [figA ss gs] (.tup [.agg [.sl 2 [], .sl 3 []], iv z]) → Pure Tryz.prog 4 [figA ss gs, .sl 1 (i8s l)] (.v (.bool true)) := by
    intro z hz cf co
    clear hs hg cr h8
    have cf : Pure Tryz.prog 14 [.agg [.sl 6 (ss.map RS.av), .sl 5 (gs.map RG.av)]] (.v (.bool true)) := cf
    have co : Pure Tryz.prog 15 [.agg [.sl 6 (ss.map RS.av), .sl 5 (gs.map RG.av)]] (.tup [.agg [.sl 2 [], .sl 3 []], iv z]) := co
    show Pure _ _ [.agg [.sl 6 (ss.map RS.av), .sl 5 (gs.map RG.av)], .sl 1 (i8s l)] _
    generalize ss.map RS.av = M at *
    generalize gs.map RG.av = N at *
    generalize i8s l = L at *
    refine pure_intro (tok := 0) Tryz.func4 rfl Tryz.ntmps4 Tryz.results4 Tryz.call4 (by rfl) (by simp) ?_
    (focus (refine wkad (w_a hz w_t) (w_a cf (w_a co w_t)) w_t ?_; (repeat' first | exact w_t | apply w_l); all_goals intros))
    all_goals (all_goals (try simp (disch := omega) only [go_sem, decide_eq_true, decide_eq_false, if_pos, if_neg, Int.reduceAdd, Int.reduceSub, Int.reduceToNat, Int.zero_add])); (all_goals first | done | rfl | (congr 2; first | done | omega | (rw [Bool.eq_iff_iff]; simp only [bool_to_prop, Bool.false_eq_true, iff_true, true_iff, iff_false, false_iff]; omega)) | skip)
  cases hf : fitsB ss gs with
  | false =>
    rw [hf] at cf
    have cf : Pure Tryz.prog 14 [.agg [.sl 6 (ss.map RS.av), .sl 5 (gs.map RG.av)]] (.v (.bool false)) := cf
    clear hs hg cr er h8
    show Pure _ _ [.agg [.sl 6 (ss.map RS.av), .sl 5 (gs.map RG.av)], .sl 1 (i8s l)] _
    generalize ss.map RS.av = M at *
    generalize gs.map RG.av = N at *
    generalize i8s l = L at *
    refine pure_intro (tok := 0) Tryz.func4 rfl Tryz.ntmps4 Tryz.results4 Tryz.call4 (by rfl) (by simp) ?_
    (focus (refine wkad w_t (w_a cf w_t) w_t ?_; (repeat' first | exact w_t | apply w_l); all_goals intros))
    all_goals (all_goals (try simp (disch := omega) only [go_sem, decide_eq_true, decide_eq_false, if_pos, if_neg, Int.reduceAdd, Int.reduceSub, Int.reduceToNat, Int.zero_add])); (all_goals first | done | rfl | (congr 2; first | done | omega | (rw [Bool.eq_iff_iff]; simp only [bool_to_prop, Bool.false_eq_true, iff_true, true_iff, iff_false, false_iff]; omega)) | skip)
  | true =>
    rw [hf] at cf
    by_cases he : figE ss gs = 0
    · have ok := figOk_of he hs hf
      rw [he] at cr
      have co := coFrame1 ss gs cr ok
      by_cases hb : (List.range ss.length).any (bigN ss) = true
      · rw [if_pos hb] at co
        exact er 4 (by decide) cf (pure_vkR co vk_big)
      · rw [if_neg hb] at co
        have hnb : ∀ j, j < ss.length → bigN ss j = false := fun j hj => by
          cases h : bigN ss j with
          | false => rfl
          | true => exact absurd (List.any_eq_true.2 ⟨j, List.mem_range.2 hj, h⟩) hb
        obtain ⟨D, hD, hn⟩ := ok.fi (i := ss.length) (Nat.le_refl _) hnb
        have hv := frN_small hb
        have hcl := frN_len ss ss.length
        have hll := ok.len
        have hbX : ∀ j, j < (frN ss ss.length).vs.length → BQ 1 100 (valX l (frN ss ss.length).vs.length j) := fun j hj => by
          rw [valX_at l hj]
          have := valI_bd h8 (j := j) (by omega)
          exact BQ.int _ (by omega)
        have hsX : ∀ j, j < (frN ss ss.length).vs.length → Sz (valX l (frN ss ss.length).vs.length j) 1 := fun j hj => by
          rw [valX_at l hj]
          have := valI_bd h8 (j := j) (by omega)
          exact szZ _ (by omega)
        have hlX : ((List.range (frN ss ss.length).vs.length).map fun j => ((valI l j : Int) : Rat)).length = (frN ss ss.length).vs.length := by simp
        -- the values of the coordinates
        have ev : ∀ c ∈ (frN ss ss.length).cs, ∀ p : Po, p = c.1 ∨ p = c.2 → Pure Tryz.prog 58 [poA p, .sl 3 (((List.range (frN ss ss.length).vs.length).map fun j => ((valI l j : Int) : Rat)).map ratQ)] (.tup [ratQ (evP (valX l (frN ss ss.length).vs.length) p), iv 0]) ∧ Sz (evP (valX l (frN ss ss.length).vs.length) p) 130 := fun c hc p hp => by
          have g : GP (nfN ss ss.length) D (frN ss ss.length).vs.length p ∧ p.length ≤ 4000 := by
            rcases hp with rfl | rfl
            · exact ⟨(hD.cs c hc).1, (hD.ln c hc).1⟩
            · exact ⟨(hD.cs c hc).2, (hD.ln c hc).2⟩
          obtain ⟨b1, b2⟩ := gp_vals g.1 g.2 hv hn hD.D0 hD.Dl hbX
          have pk := g.1.pk (by omega) hD.D0 hD.Dl hn
          have l4 := g.2
          refine ⟨rpEval p ((List.range (frN ss ss.length).vs.length).map fun j => ((valI l j : Int) : Rat)) (s := 1) (K := 130) pk (fun j hj => hsX j (by rwa [hlX] at hj)) (by omega) (by omega) (by omega) (by omega) (by omega) (by rw [hlX]; omega) (fun t ht => by rw [hlX]; exact (g.1.2 t ht).2.1) b1 b2 (by omega), ?_⟩
          have := b2 p.length (Nat.le_refl _)
          rwa [List.take_length] at this
        have hcs : ∀ i (h : i < (frN ss ss.length).cs.length), (frN ss ss.length).cs.getD i ([], []) = (frN ss ss.length).cs[i] := fun i h => by rw [List.getD_eq_getElem?_getD, List.getElem?_eq_getElem h]; rfl
        have psz : ∀ i, i < ss.length → (ptV (valX l (frN ss ss.length).vs.length) ((frN ss ss.length).cs.getD i ([], []))).sz 130 := fun i hi => by
          have hm := List.getElem_mem (l := (frN ss ss.length).cs) (n := i) (by omega)
          rw [hcs i (by omega)]
          exact ⟨(ev _ hm _ (.inl rfl)).2, (ev _ hm _ (.inr rfl)).2⟩
        have cp := lwPoints (frN ss ss.length).cs ((frN ss ss.length).vs.map Vt.av) (((List.range (frN ss ss.length).vs.length).map fun j => ((valI l j : Int) : Rat)).map ratQ) (fun i => ptV (valX l (frN ss ss.length).vs.length) ((frN ss ss.length).cs.getD i ([], []))) (by omega) (fun i hi => by
          have hm := List.getElem_mem (l := (frN ss ss.length).cs) (n := i) hi
          simp only [hcs i hi]
          exact ⟨(ev _ hm _ (.inl rfl)).1, (ev _ hm _ (.inr rfl)).1⟩)
        rw [hcl, List.map_map, show (ratQ ∘ fun j : Nat => ((valI l j : Int) : Rat)) = fun j => ratQ ((valI l j : Int) : Rat) from rfl] at cp
        refine lawVals1 ss gs _ _ l (fun j => ((valI l j : Int) : Rat)) (valI l) (fun i => ptV (valX l (frN ss ss.length).vs.length) ((frN ss ss.length).cs.getD i ([], []))) (by omega) hv hcl h8 (fun j hj => ?_) (fun j hj => ?_) (fun j hj => ?_) (fun j hj => ?_) cf co cp (fun i hi => ?_) (fun i hi => ?_)
        · unfold valI; rw [if_pos hj, gI_at hj]
        · unfold valI; rw [if_neg (by omega)]
        · have := valI_bd h8 hj; omega
        · have := valI_bd h8 (j := j) (by omega)
          exact qOfZ _ (by omega)
        · have := r13Equal _ _ (psz i hi) (psz i hi) (by omega)
          rwa [show eqP (ptV (valX l (frN ss ss.length).vs.length) ((frN ss ss.length).cs.getD i ([], []))) (ptV (valX l (frN ss ss.length).vs.length) ((frN ss ss.length).cs.getD i ([], []))) = true from by simp [eqP]] at this
        · have so := ok.st hi
          have hfi : ∀ k, k < ss[i].ar.length → (frN ss i).at ss[i] k = (frN ss ss.length).cs.getD (gI ss[i].ar k).toNat ([], []) ∧ (gI ss[i].ar k).toNat < i := fun k hk => by
            have := so.ai k hk
            rw [frN_len] at this
            refine ⟨?_, by omega⟩
            unfold FS.at
            rw [cs_at (Nat.le_of_lt hi) (by omega)]
          obtain ⟨Di, hDi, -⟩ := ok.fi (i := i) (Nat.le_of_lt hi) (fun j hj => hnb j (by omega))
          have hsv : (frN ss i).vs.length < 64 ∨ ss[i].k ≠ 5 := by
            by_cases h5 : ss[i].k = 5
            · left
              have hbi := hnb i hi
              rw [bigN_at hi] at hbi
              simp only [Bool.or_eq_false_iff, decide_eq_false_iff_not] at hbi
              have h0 := hbi.1.1
              rw [show ((frN ss i).nxt i ss[i]).1 = [(1, (i : Int), 0)] from by unfold FS.nxt; simp [h5], List.length_append] at h0
              simp at h0; omega
            · right; exact h5
          have hval := nxt_val (valX l (frN ss ss.length).vs.length) (frN ss i) i ss[i] (fun k => ⟨(hDi.at ss[i] k).1.1.1, (hDi.at ss[i] k).1.2.1⟩) hsv
          rw [← cs_nxt hi] at hval
          have hal := so.al
          have hai := so.ai
          have hrl := so.rl
          have hr2 := so.r2
          have hvo := fun (hk : ss[i].k = 5) (j : Nat) (hj : j < (frN ss ss.length).vs.length) (h : (frN ss ss.length).vs[j].2.1 = (i : Int)) => var_of hi hk hj h
          have e2 : (∀ k, k < ss[i].ar.length → 0 ≤ gI ss[i].ar k ∧ gI ss[i].ar k < (ss.length : Int)) := fun k hk => by
            have := hai k hk
            rw [frN_len] at this; omega
          generalize hsi : ss[i] = s at *
          have lt : ∀ {a : Nat}, a < i → a < ss.length := fun h => by omega
          refine ⟨fun hk => ?_, fun hk => ?_, fun hk => ?_, fun hk => ?_⟩
          · obtain ⟨a, b, ha, -, -⟩ := ar2 (ar := s.ar) (n := ss.length) (by rw [hal, hk]; rfl) e2
            obtain ⟨q1, p1⟩ := hfi 0 (by rw [ha]; simp)
            obtain ⟨q2, p2⟩ := hfi 1 (by rw [ha]; simp)
            have hv2 := hval.1 hk
            rw [q1, q2] at hv2
            rw [ha] at hv2 p1 p2
            simp only [gI, List.getD_cons_zero, List.getD_cons_succ, Int.toNat_natCast] at hv2 p1 p2
            obtain ⟨r1, r2⟩ := RQ.ok_av hrl (hr2 hk)
            refine ⟨a, b, s.r.q, ha, p1, p2, r1, ?_⟩
            simp only [hv2]
            exact r13Divide _ _ _ (psz a (lt p1)) (psz b (lt p2)) (r2.mono (by omega)) (by omega)
          · obtain ⟨a, b, c, ha, -, -, -⟩ := ar3 (ar := s.ar) (n := ss.length) (by rw [hal, hk]; rfl) e2
            obtain ⟨q1, p1⟩ := hfi 0 (by rw [ha]; simp)
            obtain ⟨q2, p2⟩ := hfi 1 (by rw [ha]; simp)
            obtain ⟨q3, p3⟩ := hfi 2 (by rw [ha]; simp)
            have hv2 := hval.2.1 hk
            rw [q1, q2, q3] at hv2
            rw [ha] at hv2 p1 p2 p3
            simp only [gI, List.getD_cons_zero, List.getD_cons_succ, Int.toNat_natCast] at hv2 p1 p2 p3
            refine ⟨a, b, c, ha, p1, p2, p3, ?_⟩
            simp only [hv2]
            exact r13Shift _ _ _ (psz a (lt p1)) (psz b (lt p2)) (psz c (lt p3)) (by omega)
          · obtain ⟨a, b, c, ha, -, -, -⟩ := ar3 (ar := s.ar) (n := ss.length) (by rw [hal, hk]; rfl) e2
            obtain ⟨q1, p1⟩ := hfi 0 (by rw [ha]; simp)
            obtain ⟨q2, p2⟩ := hfi 1 (by rw [ha]; simp)
            obtain ⟨q3, p3⟩ := hfi 2 (by rw [ha]; simp)
            have hv2 := hval.2.2.1 hk
            rw [q1, q2, q3] at hv2
            rw [ha] at hv2 p1 p2 p3
            simp only [gI, List.getD_cons_zero, List.getD_cons_succ, Int.toNat_natCast] at hv2 p1 p2 p3
            refine ⟨a, b, c, ha, p1, p2, p3, ?_⟩
            simp only [hv2]
            exact r13Turn _ _ _ (psz a (lt p1)) (psz b (lt p2)) (psz c (lt p3)) (by omega)
          · obtain ⟨a, b, ha, -, -⟩ := ar2 (ar := s.ar) (n := ss.length) (by rw [hal, hk]; rfl) e2
            obtain ⟨q1, p1⟩ := hfi 0 (by rw [ha]; simp)
            obtain ⟨q2, p2⟩ := hfi 1 (by rw [ha]; simp)
            have hv2 := hval.2.2.2 hk
            rw [q1, q2] at hv2
            rw [ha] at hv2 p1 p2
            simp only [gI, List.getD_cons_zero, List.getD_cons_succ, Int.toNat_natCast] at hv2 p1 p2
            refine ⟨a, b, ha, p1, p2, fun j hj hji => ?_⟩
            have hjv := hvo hk j hj hji
            rw [← hjv, valX_at l hj] at hv2
            simp only [hv2]
            have := hsX j hj
            rw [valX_at l hj] at this
            exact r13Divide _ _ _ (psz a (lt p1)) (psz b (lt p2)) (this.mono (by omega)) (by omega)
    · exact er (figE ss gs) he cf (coFrame0 ss gs cr he)
/-! ### whatever comes in -/
theorem wf_i8 {i : Int} (h : (Lit.int .i8 i).wf = true) : -128 ≤ i ∧ i ≤ 127 := by
  have h : (decide ((-128 : Int) ≤ i) && decide (i ≤ 127)) = true := h
  simpa using h
theorem saidVals (xs : List AV) (h : ShapeL Tryz.prog 1048576 9 [25, 35] xs) : Pure Tryz.prog 4 xs (.v (.bool true)) := by
  obtain ⟨x, bs, rfl, h1, h⟩ := h.inv
  obtain ⟨y, bs, rfl, h2, h⟩ := h.inv
  obtain rfl := h.inv0
  obtain ⟨ss, gs, e, hl, kl, hq, kq⟩ := shFigure h1
  obtain ⟨l, rfl, _, hw⟩ := shape_sliceOf (g := fun k : Int => [.v (.int .i8 k)]) (Q := fun k => (Lit.int .i8 k).wf = true) Tryz.underlying35 h2 fun m x hx => by
    obtain ⟨i, rfl, hw⟩ := shape_int Tryz.underlying37 hx
    exact ⟨i, rfl, hw⟩
  rw [e, wrapA_one (by kernel_rfl), show Tryz.prog.cellsOf 37 = 1 from by kernel_rfl]
  have hm : (l.map fun b : Int => wrapA Tryz.prog 37 [.v (.int .i8 b)]) = i8s l := List.map_congr_left fun b _ => wrapA_one (by kernel_rfl) _
  rw [hm]
  exact lawVals ss gs l (fun j hj => wf_i8 (hw _ (List.getElem_mem hj))) (by omega) (by omega) (fun s hs => ⟨lm_mono (hq s hs).1 (by decide), Nat.le_trans (hq s hs).2.1 (by decide), Nat.le_trans (hq s hs).2.2 (by decide)⟩) (fun g hg => ⟨lm_mono (kq g hg).1 (by decide), Nat.le_trans (kq g hg).2 (by decide)⟩)
end Go.Proofs.YtbgmnobnaplmlaaGreat
end
