/- Contracts of the functions that the law reaches, and the rules by which they are walked. They say what a call hands back for every input within the bounds that each names; no other condition. -/
import Derived.Test.YtbgmnobnaplmlaaGreatBc5
section
namespace Go.Proofs.YtbgmnobnaplmlaaGreat
open Go Go.RowKit Go.Pg
set_option linter.unusedSimpArgs false
set_option linter.unusedVariables false
set_option maxRecDepth 20000
attribute [local go_sem] Tryz.underlying3 Tryz.underlying4 Tryz.underlying178 Tryz.underlying48 Tryz.underlying31 Tryz.underlying43 Tryz.underlying41 Tryz.underlying39 Tryz.underlying52 Tryz.underlying45 Tryz.underlying36 Tryz.underlying87 Tryz.underlying89 Tryz.underlying85 sz3 by3 z3 szB zB szErr zErr szL byL zL szRat zRat szInt zInt szNat zNat szSlI zSlI szPt byPt zPt szSlPt zSlPt szSlR zSlR szSlB zSlB szIns zIns szCond byCond zCond
attribute [-bool_to_prop] Bool.and_eq_decide Bool.or_eq_decide Bool.decide_beq_decide decide_eq_decide
/-! ### whether conditions hold -/
def eqP (p q : PQ) : Bool := decide (p.1 = q.1) && decide (p.2 = q.2)
abbrev ptN (ps : List PQ) (j : Int) : PQ := ps.getD j.toNat (0, 0)
def cHld (k : Int) (x y z w : PQ) : Bool :=
  if k = 1 then !eqP x y
  else if k = 2 then !decide ((crossP x y x z).num.sign = 0)
  else if k = 3 then !decide ((crossP x y z w).num.sign = 0)
  else true
def hRes (c : RC) (ps : List PQ) : AV :=
  if cErr c.k c.ar ps.length ≠ 0 then .tup [.v (.bool false), iv (cErr c.k c.ar ps.length)]
  else .tup [.v (.bool (cHld c.k (ptN ps (gI c.ar 0)) (ptN ps (gI c.ar 1)) (ptN ps (gI c.ar 2)) (ptN ps (gI c.ar 3)))), iv 0]
theorem pt_at {ps : List PQ} {j : Nat} (h : j < ps.length) : (ps.map PQ.av).getD j .u = (ps.getD j (0, 0)).av := by
  rw [map_atB PQ.av h, List.getD_eq_getElem?_getD, List.getElem?_eq_getElem h]; rfl
theorem pt_szs {ps : List PQ} {n : Nat} (h : ∀ p ∈ ps, p.sz n) {j : Nat} (hj : j < ps.length) : (ps.getD j (0, 0)).sz n := by
  rw [List.getD_eq_getElem?_getD, List.getElem?_eq_getElem hj]; exact h _ (List.getElem_mem hj)
theorem plEqual (p q : PQ) {j : Nat} (hp : p.sz j) (hq : q.sz j) (hj : j ≤ 1000) : Pure Tryz.prog 88 [p.av, q.av] (.v (.bool (eqP p q))) := by
  have c1 := ratEqual p.1 q.1 hp.1 hq.1 (by omega) (by omega)
  have c2 := ratEqual p.2 q.2 hp.2 hq.2 (by omega) (by omega)
  unfold eqP
  clear hp hq
  obtain ⟨a, b⟩ := p
  obtain ⟨c, d⟩ := q
  simp only at *
  generalize decide (a = c) = u at *
  generalize decide (b = d) = v at *
  cases u
  all_goals
    refine pure_intro (tok := 0) Tryz.func88 rfl Tryz.ntmps88 Tryz.results88 Tryz.call88 (by rfl) (by simp) ?_
    (focus (refine wklp w_t (w_a c1 (w_a c2 w_t)) w_t (w_r 0) ?_; (repeat' first | exact w_t | apply w_l); all_goals intros))
theorem r13Equal (p q : PQ) {j : Nat} (hp : p.sz j) (hq : q.sz j) (hj : j ≤ 1000) : Pure Tryz.prog 23 [p.av, q.av] (.v (.bool (eqP p q))) := by
  have c1 := qEqual p.1 q.1 hp.1 hq.1 (by omega) (by omega)
  have c2 := qEqual p.2 q.2 hp.2 hq.2 (by omega) (by omega)
  unfold eqP
  clear hp hq
  obtain ⟨a, b⟩ := p
  obtain ⟨c, d⟩ := q
  simp only at *
  generalize decide (a = c) = u at *
  generalize decide (b = d) = v at *
  cases u
  all_goals
    refine pure_intro (tok := 0) Tryz.func23 rfl Tryz.ntmps23 Tryz.results23 Tryz.call23 (by rfl) (by simp) ?_
    (focus (refine wklp w_t (w_a c1 (w_a c2 w_t)) w_t (w_r 0) ?_; (repeat' first | exact w_t | apply w_l); all_goals intros))
set_option maxHeartbeats 8000000 in
theorem cnHolds (c : RC) (ps : List PQ) (hl : ps.length ≤ 1000000000) (hs : ∀ p ∈ ps, p.sz 4) : Pure Tryz.prog 42 [c.av, .sl 6 (ps.map PQ.av)] (hRes c ps) := by
  have cc := cnChk c.k c.ar c.st ps.length hl
  have ok := @cErr_ok c.k c.ar ps.length
  have hlm : (ps.map PQ.av).length = ps.length := List.length_map ..
  have hat : ∀ j : Nat, j < ps.length → (ps.map PQ.av).getD j .u = (ps.getD j (0, 0)).av := fun j hj => pt_at hj
  have hsz := fun (j : Nat) (hj : j < ps.length) => pt_szs hs hj
  obtain ⟨k, ar, st⟩ := c
  unfold hRes
  simp only at *
  generalize cErr k ar ps.length = v at *
  generalize ps.map PQ.av = M at *
  by_cases hv : v = 0
  · rw [if_neg (by simpa using hv)]
    subst hv
    rcases ok rfl with ⟨rfl, a, b, rfl, ha, hb⟩ | ⟨rfl, a, b, c, rfl, ha, hb, hc⟩ | ⟨rfl, a, b, c, d, rfl, ha, hb, hc, hd⟩ | ⟨rfl, rfl⟩
    · unfold cHld ptN
      simp only [gI, List.getD_cons_zero, List.getD_cons_succ, Int.toNat_natCast, if_true, if_pos, show ¬ ((2 : Int) = 1) from by decide, show ¬ ((3 : Int) = 1) from by decide, show ¬ ((3 : Int) = 2) from by decide, if_false]
      have ga := hat a ha
      have za := hsz a ha
      have gb := hat b hb
      have zb := hsz b hb
      generalize ps.getD a (0, 0) = x at *
      generalize ps.getD b (0, 0) = y at *
      clear hat hsz ok hs
      have c1 := plEqual x y za zb (by omega)
      generalize eqP x y = e at *
      clear za zb
      obtain ⟨x1, x2⟩ := x
      obtain ⟨y1, y2⟩ := y
      try simp only at *
      refine pure_intro (tok := 0) Tryz.func42 rfl Tryz.ntmps42 Tryz.results42 Tryz.call42 (by rfl) (by simp) ?_
      (focus (refine wkax (w_a hlm (w_a ga (w_a gb w_t))) (w_a cc (w_a c1 w_t)) (w_a (w_d 12 [(6, .v (.bool e))] [] []) w_t) w_t w_t w_t (w_r 5) ?_; (repeat' first | exact w_t | apply w_l); all_goals intros))
      all_goals (all_goals (try simp (disch := omega) only [go_sem, decide_eq_true, decide_eq_false, if_pos, if_neg, Int.reduceAdd, Int.reduceSub, Int.reduceToNat, Int.zero_add])); (all_goals first | done | rfl | (congr 2; first | done | omega | (rw [Bool.eq_iff_iff]; simp only [bool_to_prop, Bool.false_eq_true, iff_true, true_iff, iff_false, false_iff]; omega)) | skip)
    · unfold cHld ptN
      simp only [gI, List.getD_cons_zero, List.getD_cons_succ, Int.toNat_natCast, if_true, if_pos, show ¬ ((2 : Int) = 1) from by decide, show ¬ ((3 : Int) = 1) from by decide, show ¬ ((3 : Int) = 2) from by decide, if_false]
      have ga := hat a ha
      have za := hsz a ha
      have gb := hat b hb
      have zb := hsz b hb
      have gc := hat c hc
      have zc := hsz c hc
      generalize ps.getD a (0, 0) = x at *
      generalize ps.getD b (0, 0) = y at *
      generalize ps.getD c (0, 0) = z at *
      clear hat hsz ok hs
      have c1 := plCrossP x y x z za zb za zc (by omega)
      have c2 := ratSign (crossP x y x z) (crossP_sz za zb za zc) (by omega)
      generalize crossP x y x z = q at *
      generalize q.num.sign = s at *
      clear za zb zc
      obtain ⟨x1, x2⟩ := x
      obtain ⟨y1, y2⟩ := y
      obtain ⟨z1, z2⟩ := z
      try simp only at *
      refine pure_intro (tok := 0) Tryz.func42 rfl Tryz.ntmps42 Tryz.results42 Tryz.call42 (by rfl) (by simp) ?_
      (focus (refine wkax (w_a hlm (w_a ga (w_a gb (w_a gc w_t)))) (w_a cc (w_a c1 (w_a c2 w_t))) (w_a (w_d 14 [(12, ratQ q), (13, iv s)] [] []) w_t) w_t w_t w_t (w_r 5) ?_; (repeat' first | exact w_t | apply w_l); all_goals intros))
      all_goals (all_goals (try simp (disch := omega) only [go_sem, decide_eq_true, decide_eq_false, if_pos, if_neg, Int.reduceAdd, Int.reduceSub, Int.reduceToNat, Int.zero_add])); (all_goals first | done | rfl | (congr 2; first | done | omega | (rw [Bool.eq_iff_iff]; simp only [bool_to_prop, Bool.false_eq_true, iff_true, true_iff, iff_false, false_iff]; omega)) | skip)
    · unfold cHld ptN
      simp only [gI, List.getD_cons_zero, List.getD_cons_succ, Int.toNat_natCast, if_true, if_pos, show ¬ ((2 : Int) = 1) from by decide, show ¬ ((3 : Int) = 1) from by decide, show ¬ ((3 : Int) = 2) from by decide, if_false]
      have ga := hat a ha
      have za := hsz a ha
      have gb := hat b hb
      have zb := hsz b hb
      have gc := hat c hc
      have zc := hsz c hc
      have gd := hat d hd
      have zd := hsz d hd
      generalize ps.getD a (0, 0) = x at *
      generalize ps.getD b (0, 0) = y at *
      generalize ps.getD c (0, 0) = z at *
      generalize ps.getD d (0, 0) = w at *
      clear hat hsz ok hs
      have c1 := plCrossP x y z w za zb zc zd (by omega)
      have c2 := ratSign (crossP x y z w) (crossP_sz za zb zc zd) (by omega)
      generalize crossP x y z w = q at *
      generalize q.num.sign = s at *
      clear za zb zc zd
      obtain ⟨x1, x2⟩ := x
      obtain ⟨y1, y2⟩ := y
      obtain ⟨z1, z2⟩ := z
      obtain ⟨w1, w2⟩ := w
      try simp only at *
      refine pure_intro (tok := 0) Tryz.func42 rfl Tryz.ntmps42 Tryz.results42 Tryz.call42 (by rfl) (by simp) ?_
      (focus (refine wkax (w_a hlm (w_a ga (w_a gb (w_a gc (w_a gd w_t))))) (w_a cc (w_a c1 (w_a c2 w_t))) (w_a (w_d 16 [(12, ratQ q), (13, iv s)] [] []) w_t) w_t w_t w_t (w_r 5) ?_; (repeat' first | exact w_t | apply w_l); all_goals intros))
      all_goals (all_goals (try simp (disch := omega) only [go_sem, decide_eq_true, decide_eq_false, if_pos, if_neg, Int.reduceAdd, Int.reduceSub, Int.reduceToNat, Int.zero_add])); (all_goals first | done | rfl | (congr 2; first | done | omega | (rw [Bool.eq_iff_iff]; simp only [bool_to_prop, Bool.false_eq_true, iff_true, true_iff, iff_false, false_iff]; omega)) | skip)
    · show Pure _ _ _ (.tup [.v (.bool true), iv 0])
      refine pure_intro (tok := 0) Tryz.func42 rfl Tryz.ntmps42 Tryz.results42 Tryz.call42 (by rfl) (by simp) ?_
      (focus (refine wkax (w_a hlm w_t) (w_a cc w_t) w_t w_t w_t w_t (w_r 5) ?_; (repeat' first | exact w_t | apply w_l); all_goals intros))
      (all_goals (try simp (disch := omega) only [go_sem, decide_eq_true, decide_eq_false, if_pos, if_neg, Int.reduceAdd, Int.reduceSub, Int.reduceToNat, Int.zero_add])); (all_goals first | done | rfl | (congr 2; first | done | omega | (rw [Bool.eq_iff_iff]; simp only [bool_to_prop, Bool.false_eq_true, iff_true, true_iff, iff_false, false_iff]; omega)) | skip)
  · rw [if_pos hv]
    clear hat hsz ok
    refine pure_intro (tok := 0) Tryz.func42 rfl Tryz.ntmps42 Tryz.results42 Tryz.call42 (by rfl) (by simp) ?_
    (focus (refine wkax (w_a hlm w_t) (w_a cc w_t) w_t w_t w_t w_t (w_r 5) ?_; (repeat' first | exact w_t | apply w_l); all_goals intros))
    (all_goals (try simp (disch := omega) only [go_sem, decide_eq_true, decide_eq_false, if_pos, if_neg, Int.reduceAdd, Int.reduceSub, Int.reduceToNat, Int.zero_add])); (all_goals first | done | rfl | (congr 2; first | done | omega | (rw [Bool.eq_iff_iff]; simp only [bool_to_prop, Bool.false_eq_true, iff_true, true_iff, iff_false, false_iff]; omega)) | skip)
set_option maxHeartbeats 8000000 in
theorem rkMeets (k : Int) (ar : List Int) (ps : List PQ) (hl : ps.length ≤ 1000000000) (hs : ∀ p ∈ ps, p.sz 4) (h0 : cErr k ar ps.length = 0) : Pure Tryz.prog 92 [iv k, ivs ar, .sl 6 (ps.map PQ.av)] (.v (.bool (cHld k (ptN ps (gI ar 0)) (ptN ps (gI ar 1)) (ptN ps (gI ar 2)) (ptN ps (gI ar 3))))) := by
  have ok := cErr_ok h0
  clear h0
  have hlm : (ps.map PQ.av).length = ps.length := List.length_map ..
  have hat : ∀ j : Nat, j < ps.length → (ps.map PQ.av).getD j .u = (ps.getD j (0, 0)).av := fun j hj => pt_at hj
  have hsz := fun (j : Nat) (hj : j < ps.length) => pt_szs hs hj
  generalize ps.map PQ.av = M at *
  rcases ok with ⟨rfl, a, b, rfl, ha, hb⟩ | ⟨rfl, a, b, c, rfl, ha, hb, hc⟩ | ⟨rfl, a, b, c, d, rfl, ha, hb, hc, hd⟩ | ⟨rfl, rfl⟩
  · unfold cHld ptN
    simp only [gI, List.getD_cons_zero, List.getD_cons_succ, Int.toNat_natCast, if_true, if_pos, show ¬ ((2 : Int) = 1) from by decide, show ¬ ((3 : Int) = 1) from by decide, show ¬ ((3 : Int) = 2) from by decide, if_false]
    have ga := hat a ha
    have za := hsz a ha
    have gb := hat b hb
    have zb := hsz b hb
    generalize ps.getD a (0, 0) = x at *
    generalize ps.getD b (0, 0) = y at *
    clear hat hsz hs
    have c1 := r13Equal x y za zb (by omega)
    generalize eqP x y = e at *
    clear za zb
    obtain ⟨x1, x2⟩ := x
    obtain ⟨y1, y2⟩ := y
    try simp only at *
    refine pure_intro (tok := 0) Tryz.func92 rfl Tryz.ntmps92 Tryz.results92 Tryz.call92 (by rfl) (by simp) ?_
    (focus (refine wkad (w_a hlm (w_a ga (w_a gb w_t))) (w_a c1 w_t) (w_a (w_d 3 [(12, .v (.bool e))] [] []) w_t) ?_; (repeat' first | exact w_t | apply w_l); all_goals intros))
    all_goals (all_goals (try simp (disch := omega) only [go_sem, decide_eq_true, decide_eq_false, if_pos, if_neg, Int.reduceAdd, Int.reduceSub, Int.reduceToNat, Int.zero_add])); (all_goals first | done | rfl | (congr 2; first | done | omega | (rw [Bool.eq_iff_iff]; simp only [bool_to_prop, Bool.false_eq_true, iff_true, true_iff, iff_false, false_iff]; omega)) | skip)
  · unfold cHld ptN
    simp only [gI, List.getD_cons_zero, List.getD_cons_succ, Int.toNat_natCast, if_true, if_pos, show ¬ ((2 : Int) = 1) from by decide, show ¬ ((3 : Int) = 1) from by decide, show ¬ ((3 : Int) = 2) from by decide, if_false]
    have ga := hat a ha
    have za := hsz a ha
    have gb := hat b hb
    have zb := hsz b hb
    have gc := hat c hc
    have zc := hsz c hc
    generalize ps.getD a (0, 0) = x at *
    generalize ps.getD b (0, 0) = y at *
    generalize ps.getD c (0, 0) = z at *
    clear hat hsz hs
    have c1 := r13CrossP x y x z za zb za zc (by omega)
    have c2 := qSign (crossP x y x z) (crossP_sz za zb za zc) (by omega)
    generalize crossP x y x z = q at *
    generalize q.num.sign = s at *
    clear za zb zc
    obtain ⟨x1, x2⟩ := x
    obtain ⟨y1, y2⟩ := y
    obtain ⟨z1, z2⟩ := z
    try simp only at *
    refine pure_intro (tok := 0) Tryz.func92 rfl Tryz.ntmps92 Tryz.results92 Tryz.call92 (by rfl) (by simp) ?_
    (focus (refine wkad (w_a hlm (w_a ga (w_a gb (w_a gc w_t)))) (w_a c1 (w_a c2 w_t)) (w_a (w_d 5 [(24, ratQ q), (25, iv s)] [] []) w_t) ?_; (repeat' first | exact w_t | apply w_l); all_goals intros))
    all_goals (all_goals (try simp (disch := omega) only [go_sem, decide_eq_true, decide_eq_false, if_pos, if_neg, Int.reduceAdd, Int.reduceSub, Int.reduceToNat, Int.zero_add])); (all_goals first | done | rfl | (congr 2; first | done | omega | (rw [Bool.eq_iff_iff]; simp only [bool_to_prop, Bool.false_eq_true, iff_true, true_iff, iff_false, false_iff]; omega)) | skip)
  · unfold cHld ptN
    simp only [gI, List.getD_cons_zero, List.getD_cons_succ, Int.toNat_natCast, if_true, if_pos, show ¬ ((2 : Int) = 1) from by decide, show ¬ ((3 : Int) = 1) from by decide, show ¬ ((3 : Int) = 2) from by decide, if_false]
    have ga := hat a ha
    have za := hsz a ha
    have gb := hat b hb
    have zb := hsz b hb
    have gc := hat c hc
    have zc := hsz c hc
    have gd := hat d hd
    have zd := hsz d hd
    generalize ps.getD a (0, 0) = x at *
    generalize ps.getD b (0, 0) = y at *
    generalize ps.getD c (0, 0) = z at *
    generalize ps.getD d (0, 0) = w at *
    clear hat hsz hs
    have c1 := r13CrossP x y z w za zb zc zd (by omega)
    have c2 := qSign (crossP x y z w) (crossP_sz za zb zc zd) (by omega)
    generalize crossP x y z w = q at *
    generalize q.num.sign = s at *
    clear za zb zc zd
    obtain ⟨x1, x2⟩ := x
    obtain ⟨y1, y2⟩ := y
    obtain ⟨z1, z2⟩ := z
    obtain ⟨w1, w2⟩ := w
    try simp only at *
    refine pure_intro (tok := 0) Tryz.func92 rfl Tryz.ntmps92 Tryz.results92 Tryz.call92 (by rfl) (by simp) ?_
    (focus (refine wkad (w_a hlm (w_a ga (w_a gb (w_a gc (w_a gd w_t))))) (w_a c1 (w_a c2 w_t)) (w_a (w_d 7 [(24, ratQ q), (25, iv s)] [] []) w_t) ?_; (repeat' first | exact w_t | apply w_l); all_goals intros))
    all_goals (all_goals (try simp (disch := omega) only [go_sem, decide_eq_true, decide_eq_false, if_pos, if_neg, Int.reduceAdd, Int.reduceSub, Int.reduceToNat, Int.zero_add])); (all_goals first | done | rfl | (congr 2; first | done | omega | (rw [Bool.eq_iff_iff]; simp only [bool_to_prop, Bool.false_eq_true, iff_true, true_iff, iff_false, false_iff]; omega)) | skip)
  · show Pure _ _ _ (.v (.bool true))
    refine pure_intro (tok := 0) Tryz.func92 rfl Tryz.ntmps92 Tryz.results92 Tryz.call92 (by rfl) (by simp) ?_
    (focus (refine wkld (w_a hlm w_t) w_t w_t w_t ?_; (repeat' first | exact w_t | apply w_l); all_goals intros))
set_option maxHeartbeats 4000000 in
theorem rkHolds (c : RC) (ps : List PQ) (hl : ps.length ≤ 1000000000) (hs : ∀ p ∈ ps, p.sz 4) : Pure Tryz.prog 43 [c.av, .sl 6 (ps.map PQ.av)] (hRes c ps) := by
  have cc := rkChk c.k c.ar c.st ps.length hl
  have cm := rkMeets c.k c.ar ps hl hs
  have hlm : (ps.map PQ.av).length = ps.length := List.length_map ..
  obtain ⟨k, ar, st⟩ := c
  unfold hRes
  simp only at *
  generalize cHld k _ _ _ _ = b at *
  generalize cErr k ar ps.length = v at *
  generalize ps.map PQ.av = M at *
  by_cases hv : v = 0
  · rw [if_neg (by simpa using hv)]
    subst hv
    have cm := cm rfl
    refine pure_intro (tok := 0) Tryz.func43 rfl Tryz.ntmps43 Tryz.results43 Tryz.call43 (by rfl) (by simp) ?_
    (focus (refine wklp (w_a hlm w_t) (w_a cc (w_a cm w_t)) w_t (w_r 0) ?_; (repeat' first | exact w_t | apply w_l); all_goals intros))
  · rw [if_pos hv]
    clear cm
    refine pure_intro (tok := 0) Tryz.func43 rfl Tryz.ntmps43 Tryz.results43 Tryz.call43 (by rfl) (by simp) ?_
    (focus (refine wklp (w_a hlm w_t) (w_a cc w_t) w_t (w_r 0) ?_; (repeat' first | exact w_t | apply w_l); all_goals intros))
/-! ### points of few limbs -/
def RQ.four (r : RQ) : Bool := decide (r.l.length ≤ 4) && decide (r.d.length ≤ 4)
def RP.fine (p : RP) : Bool := p.x.four && (p.y.four && (p.x.ok && p.y.ok))
def fineB (ps : List RP) : Bool := decide (ps.length ≤ 12) && ps.all RP.fine
theorem fine_in {ps : List RP} {k : Nat} (hs : ∀ p ∈ ps, p.lm k) (h : fineB ps = true) : ∃ qs : List PQ, ps.map RP.av = qs.map PQ.av ∧ (∀ p ∈ qs, p.sz 4) ∧ qs.length ≤ 12 := by
  unfold fineB at h
  simp only [Bool.and_eq_true, decide_eq_true_eq, List.all_eq_true] at h
  obtain ⟨h1, h2⟩ := h
  have key : ∀ p ∈ ps, p.av = PQ.av (p.x.q, p.y.q) ∧ PQ.sz (p.x.q, p.y.q) 4 := fun p hp => by
    have h3 := h2 p hp
    unfold RP.fine RQ.four at h3
    simp only [Bool.and_eq_true, decide_eq_true_eq] at h3
    obtain ⟨⟨a1, a2⟩, ⟨b1, b2⟩, o1, o2⟩ := h3
    have l1 := hs p hp
    obtain ⟨e1, z1⟩ := RQ.ok_av (k := 4) (r := p.x) ⟨l1.1.1, l1.1.2.1, a1, a2⟩ o1
    obtain ⟨e2, z2⟩ := RQ.ok_av (k := 4) (r := p.y) ⟨l1.2.1, l1.2.2.1, b1, b2⟩ o2
    refine ⟨?_, z1, z2⟩
    simp only [AV.agg.injEq, List.cons.injEq] at e1 e2
    show AV.agg [_, _, _, _, _, _] = AV.agg [_, _, _, _, _, _]
    rw [e1.1, e1.2.1, e1.2.2.1, e2.1, e2.2.1, e2.2.2.1]
  refine ⟨ps.map fun p => (p.x.q, p.y.q), ?_, fun p hp => ?_, by rw [List.length_map]; exact h1⟩
  · rw [List.map_map]
    exact List.map_congr_left fun p hp => (key p hp).1
  · obtain ⟨x, hx, rfl⟩ := List.mem_map.1 hp
    exact (key x hx).2
theorem rhMild0 : Pure Tryz.prog 85 [.v (.slice none 0 0)] (.v (.bool true)) := by
  refine pure_intro (tok := 0) Tryz.func85 rfl Tryz.ntmps85 Tryz.results85 Tryz.call85 (by rfl) (by simp) ?_
  (focus (refine wklp w_t w_t w_t (w_r 2) ?_; (repeat' first | exact w_t | apply w_l); all_goals intros))
set_option maxHeartbeats 8000000 in
theorem rhFine (ps : List RP) {k : Nat} (hs : ∀ p ∈ ps, p.lm k) : Pure Tryz.prog 40 [.agg [.v (.slice none 0 0), .v (.slice none 0 0), .sl 6 (ps.map RP.av)]] (.v (.bool (fineB ps))) := by
  have cm := rhMild0
  have hlm : (ps.map RP.av).length = ps.length := List.length_map ..
  have hg : ∀ i (h : i < ps.length), (ps.map RP.av).getD i .u = ps[i].av := fun i h => map_atB RP.av h
  unfold fineB
  by_cases hl : ps.length ≤ 12
  · rw [decide_eq_true hl, Bool.true_and]
    have hq : ∀ i (h : i < ps.length), (ps[i].x.l.length ≤ 4 ∧ ps[i].x.d.length ≤ 4 ∧ ps[i].y.l.length ≤ 4 ∧ ps[i].y.d.length ≤ 4) → Pure Tryz.prog 86 [.agg [.v (.bool ps[i].x.s), lim ps[i].x.l, lim ps[i].x.d]] (.v (.bool ps[i].x.ok)) ∧ Pure Tryz.prog 86 [.agg [.v (.bool ps[i].y.s), lim ps[i].y.l, lim ps[i].y.d]] (.v (.bool ps[i].y.ok)) := fun i h h4 => by
      obtain ⟨h1, h2⟩ := hs _ (List.getElem_mem h)
      exact ⟨qRight _ _ _ h1.1 h1.2.1 (by omega) (by omega), qRight _ _ _ h2.1 h2.2.1 (by omega) (by omega)⟩
    have hno : ∀ i (h : i < ps.length), ps[i].fine = false → ps.all RP.fine = false := fun i h e => by
      rw [List.all_eq_false]
      exact ⟨ps[i], List.getElem_mem h, by rw [e]; simp⟩
    have hyes : (∀ i (h : i < ps.length), ps[i].fine = true) → ps.all RP.fine = true := fun e => by
      rw [List.all_eq_true]
      intro x hx
      obtain ⟨j, hj, rfl⟩ := List.mem_iff_getElem.1 hx
      exact e j hj
    generalize ps.all RP.fine = v at *
    generalize ps.map RP.av = M at *
    refine pure_intro (tok := 0) Tryz.func40 rfl Tryz.ntmps40 Tryz.results40 Tryz.call40 (by rfl) (by simp) ?_
    (focus (refine wkad (w_a hlm w_t) (w_a cm w_t) w_t ?_; (repeat' first | exact w_t | apply w_l); all_goals intros))
    rename_i g1
    refine r_loopE (ι := Nat) (fun i e m => i ≤ ps.length ∧ e 1 = .pbox 1 g1 0 ∧ m 1 = some (.box g1 89 [.v (.slice none 0 0), .v (.slice none 0 0), .sl 6 M] false) ∧ e 3 = iv i ∧ ∀ j (h : j < ps.length), j < i → ps[j].fine = true) (fun i => ps.length - i) 0 (by rfl) ?_ ?_
    · rintro i e m ⟨hi, e1, m1, e3, hj⟩
      by_cases hlt : i < ps.length
      · have hgi := hg i hlt
        have q12 := hq i hlt
        have hno := hno i hlt
        have hnx : ps[i].fine = true → ∀ j (h : j < ps.length), j < i + 1 → ps[j].fine = true := fun h j hjj h2 => by
          by_cases e : j = i
          · subst e; exact h
          · exact hj j hjj (by omega)
        clear hj hyes hg hq hs
        have hfd : ps[i].fine = (ps[i].x.four && (ps[i].y.four && (ps[i].x.ok && ps[i].y.ok))) := rfl
        unfold RQ.four at hfd
        generalize ps[i].fine = f at *
        generalize hpi : ps[i] = p at *
        obtain ⟨⟨s1, l1, d1⟩, ⟨s2, l2, d2⟩⟩ := p
        simp only at *
        generalize RQ.ok ⟨s1, l1, d1⟩ = o1 at *
        generalize RQ.ok ⟨s2, l2, d2⟩ = o2 at *
        by_cases a1 : l1.length ≤ 4 ∧ d1.length ≤ 4 ∧ l2.length ≤ 4 ∧ d2.length ≤ 4
        · obtain ⟨q1, q2⟩ := q12 a1
          clear q12
          obtain ⟨a1, a2, a3, a4⟩ := a1
          rw [decide_eq_true a1, decide_eq_true a2, decide_eq_true a3, decide_eq_true a4] at hfd
          cases o1 with
          | false =>
            rw [hno (by rw [hfd]; rfl)]
            clear hno hnx hfd
            (focus (refine wkld (w_a e1 (w_a m1 (w_a e3 (w_a hlm (w_a hgi (w_a @u16s_len w_t)))))) (w_a q1 (w_a q2 w_t)) w_t (w_a (w_d 6 [] [] [4, 5]) w_t) ?_; (repeat' first | exact w_t | apply w_l); all_goals intros))
          | true =>
            cases o2 with
            | false =>
              rw [hno (by rw [hfd]; rfl)]
              clear hno hnx hfd
              (focus (refine wkld (w_a e1 (w_a m1 (w_a e3 (w_a hlm (w_a hgi (w_a @u16s_len w_t)))))) (w_a q1 (w_a q2 w_t)) w_t (w_a (w_d 6 [] [] [4, 5]) w_t) ?_; (repeat' first | exact w_t | apply w_l); all_goals intros))
            | true =>
              have := hnx (by rw [hfd]; rfl)
              clear hno hnx hfd
              (focus (refine wkad (w_a e1 (w_a m1 (w_a e3 (w_a hlm (w_a hgi (w_a @u16s_len w_t)))))) (w_a q1 (w_a q2 w_t)) (w_a (w_d 6 [] [] [4, 5]) w_t) ?_; (repeat' first | exact w_t | apply w_l); all_goals intros))
              exact ⟨i + 1, ⟨by omega, by exact gW e1, by exact gW m1, by exact gS, this⟩, by omega⟩
        · rw [hno (by rw [hfd]; simp only [Bool.and_eq_false_iff, decide_eq_false_iff_not]; omega)]
          clear hno hnx hfd q12
          (focus (refine wkad (w_a e1 (w_a m1 (w_a e3 (w_a hlm (w_a hgi (w_a @u16s_len w_t)))))) w_t (w_a (w_d 6 [] [] [4, 5]) w_t) ?_; (repeat' first | exact w_t | apply w_l); all_goals intros))
          all_goals first | ((all_goals (try simp (disch := omega) only [go_sem, decide_eq_true, decide_eq_false, if_pos, if_neg, Int.reduceAdd, Int.reduceSub, Int.reduceToNat, Int.zero_add])); (all_goals first | done | rfl | (congr 2; first | done | omega | (rw [Bool.eq_iff_iff]; simp only [bool_to_prop, Bool.false_eq_true, iff_true, true_iff, iff_false, false_iff]; omega)) | skip)) | omega
      · rw [hyes fun j h => hj j h (by omega)]
        clear hj hyes hno hg hq hs
        (focus (refine wkld (w_a e1 (w_a m1 (w_a e3 (w_a hlm w_t)))) w_t w_t w_t ?_; (repeat' first | exact w_t | apply w_l); all_goals intros))
    · exact ⟨Nat.zero_le _, by exact gC, by exact gC, by exact gC, fun j h h2 => by omega⟩
  · rw [decide_eq_false hl, Bool.false_and]
    clear hg hs
    generalize ps.map RP.av = M at *
    refine pure_intro (tok := 0) Tryz.func40 rfl Tryz.ntmps40 Tryz.results40 Tryz.call40 (by rfl) (by simp) ?_
    (focus (refine wkld (w_a hlm w_t) (w_a cm w_t) w_t w_t ?_; (repeat' first | exact w_t | apply w_l); all_goals intros))
end Go.Proofs.YtbgmnobnaplmlaaGreat
end

section
namespace Go.Proofs.YtbgmnobnaplmlaaGreat
open Go Go.RowKit Go.Pg Go.Pol
set_option linter.unusedSimpArgs false
set_option linter.unusedVariables false
set_option maxRecDepth 20000
attribute [local go_sem] Tryz.underlying3 Tryz.underlying4 Tryz.underlying178 Tryz.underlying9 Tryz.underlying48 Tryz.underlying31 Tryz.underlying43 Tryz.underlying41 Tryz.underlying39 Tryz.underlying50 Tryz.underlying22 Tryz.underlying124 Tryz.underlying23 Tryz.underlying25 sz3 by3 z3 szB zB szL byL zL szErr zErr szStr byStr zStr szRat zRat szInt zInt szNat zNat szStep byStep zStep szFact byFact zFact szFig zFig szSlI zSlI szSlS zSlS szSlF zSlF
attribute [-bool_to_prop] Bool.and_eq_decide Bool.or_eq_decide Bool.decide_beq_decide decide_eq_decide
/-! ### the sizes that the laws of figures take -/
def fitS (s : RS) : Bool := !(decide (2 < s.r.l.length) || decide (2 < s.r.d.length) || decide (8 < s.ar.length))
def fitsB (ss : List RS) (gs : List RG) : Bool := ss.all fitS && (decide (nfN ss ss.length ≤ 12) && (decide (ss.length ≤ 42) && decide (gs.length ≤ 10)))
theorem all_at {α : Type} {p : α → Bool} {l : List α} {i : Nat} (h : i < l.length) (hp : p l[i] = false) : l.all p = false := by
  rw [Bool.eq_false_iff]
  intro ha
  rw [List.all_eq_true] at ha
  rw [ha _ (List.getElem_mem h)] at hp
  cases hp
theorem all_of {α : Type} {p : α → Bool} {l : List α} (h : ∀ j (hj : j < l.length), p l[j] = true) : l.all p = true := by
  rw [List.all_eq_true]
  intro x hx
  obtain ⟨j, hj, rfl⟩ := List.mem_iff_getElem.1 hx
  exact h j hj
theorem nfN_le (ss : List RS) : ∀ i, nfN ss i ≤ i
  | 0 => Nat.le_refl _
  | i + 1 => by
    have := nfN_le ss i
    unfold nfN
    split <;> omega
end Go.Proofs.YtbgmnobnaplmlaaGreat
end

section
namespace Go.Proofs.YtbgmnobnaplmlaaGreat
open Go Go.RowKit Go.Pg Go.Pol
set_option linter.unusedSimpArgs false
set_option linter.unusedVariables false
set_option maxRecDepth 20000
attribute [local go_sem] Tryz.underlying3 Tryz.underlying4 Tryz.underlying178 Tryz.underlying9 Tryz.underlying48 Tryz.underlying31 Tryz.underlying43 Tryz.underlying41 Tryz.underlying39 Tryz.underlying50 Tryz.underlying22 Tryz.underlying25 Tryz.underlying56 Tryz.underlying28 Tryz.underlying72 Tryz.underlying27 Tryz.underlying30 Tryz.underlying105 Tryz.underlying107 Tryz.underlying70 Tryz.underlying63 Tryz.underlying103 Tryz.underlying154 sz3 by3 z3 szB zB szErr zErr szStr byStr zStr szRat zRat szInt zInt szNat zNat szStep byStep zStep szFig zFig szSlI zSlI szSlS zSlS szVar byVar zVar szSlV zSlV szCoord byCoord zCoord szSlC zSlC szFrame zFrame szCBld byCBld zCBld szCVec byCVec zCVec szPoly byPoly zPoly szTerm zTerm szPtrB zPtrB szFnC zFnC Tryz.underlying124 Tryz.underlying23 szL byL zL szFact byFact zFact szSlF zSlF
attribute [-bool_to_prop] Bool.and_eq_decide Bool.or_eq_decide Bool.decide_beq_decide decide_eq_decide
theorem figE_ok {ss : List RS} {gs : List RG} (h : figE ss gs = 0) : ss.length ≤ 40 ∧ ∀ i, i < ss.length → errS ss i = 0 := by
  unfold figE at h
  split at h
  · omega
  · rename_i h1
    split at h
    · rename_i h2; exact absurd h h2
    · rename_i h2
      refine ⟨by omega, fstE_all ?_⟩
      rcases Decidable.em (fstE (errS ss) ss.length = 0) with h3 | h3
      · exact h3
      · exact absurd h3 h2
end Go.Proofs.YtbgmnobnaplmlaaGreat
end

section
namespace Go.Proofs.YtbgmnobnaplmlaaGreat
open Go Go.RowKit Go.Pg Go.Pol
set_option linter.unusedSimpArgs false
set_option linter.unusedVariables false
set_option maxRecDepth 20000
attribute [-bool_to_prop] Bool.and_eq_decide Bool.or_eq_decide Bool.decide_beq_decide decide_eq_decide
section
variable {N n : Nat} {cs : List AV}
theorem agInt : aggTy Tryz.prog 3 = false := by kernel_rfl
theorem csInt : Tryz.prog.cellsOf 3 = 1 := by kernel_rfl
theorem shIvs (h : Shape Tryz.prog N n 48 cs) : ∃ l : List Int, cs = [ivs l] ∧ l.length ≤ N := by
  obtain ⟨bs, rfl, hl, _⟩ := shape_sliceOf (g := fun k : Int => [iv k]) (Q := fun _ => True) Tryz.underlying48 h fun m x hx => by
    obtain ⟨i, rfl, _⟩ := shape_int Tryz.underlying3 hx
    exact ⟨i, rfl, trivial⟩
  refine ⟨bs, ?_, hl⟩
  rw [csInt]
  have : (bs.map fun b : Int => wrapA Tryz.prog 3 [iv b]) = bs.map iv := List.map_congr_left fun b _ => wrapA_one agInt _
  rw [this]
theorem shStep (h : Shape Tryz.prog N n 50 cs) : ∃ s : RS, cs = [iv s.k, strA s.nm, ivs s.ar, .v (.bool s.r.s), lim s.r.l, lim s.r.d] ∧ s.r.lm N ∧ s.nm.size ≤ N ∧ s.ar.length ≤ N := by
  obtain ⟨m, rfl, hs⟩ := shape_struct Tryz.underlying50 (by kernel_rfl) h
  obtain ⟨x, y, rfl, h1, hs⟩ := hs.inv
  obtain ⟨x2, y, rfl, h2, hs⟩ := hs.inv
  obtain ⟨x3, y, rfl, h3, hs⟩ := hs.inv
  obtain ⟨x4, y, rfl, h4, hs⟩ := hs.inv
  obtain rfl := hs.inv0
  obtain ⟨k, rfl, _⟩ := shape_int Tryz.underlying3 h1
  obtain ⟨nm, rfl, hn⟩ := shape_string Tryz.underlying9 h2
  obtain ⟨ar, rfl, ha⟩ := shIvs h3
  obtain ⟨r, rfl, hr⟩ := shRat h4
  exact ⟨⟨k, nm, ar, r⟩, rfl, hr, hn, ha⟩
theorem shFact (h : Shape Tryz.prog N n 124 cs) : ∃ g : RG, cs = [iv g.k, ivs g.ar, .v (.bool g.r.s), lim g.r.l, lim g.r.d] ∧ g.r.lm N ∧ g.ar.length ≤ N := by
  obtain ⟨m, rfl, hs⟩ := shape_struct Tryz.underlying124 (by kernel_rfl) h
  obtain ⟨x, y, rfl, h1, hs⟩ := hs.inv
  obtain ⟨x3, y, rfl, h3, hs⟩ := hs.inv
  obtain ⟨x4, y, rfl, h4, hs⟩ := hs.inv
  obtain rfl := hs.inv0
  obtain ⟨k, rfl, _⟩ := shape_int Tryz.underlying3 h1
  obtain ⟨ar, rfl, ha⟩ := shIvs h3
  obtain ⟨r, rfl, hr⟩ := shRat h4
  exact ⟨⟨k, ar, r⟩, rfl, hr, ha⟩
theorem shSteps (h : Shape Tryz.prog N n 22 cs) : ∃ l : List RS, cs = [.sl 6 (l.map RS.av)] ∧ l.length ≤ N ∧ ∀ s ∈ l, s.r.lm N ∧ s.nm.size ≤ N ∧ s.ar.length ≤ N := by
  obtain ⟨bs, rfl, hl, hq⟩ := shape_sliceOf (g := fun s : RS => [iv s.k, strA s.nm, ivs s.ar, .v (.bool s.r.s), lim s.r.l, lim s.r.d]) (Q := fun s => s.r.lm N ∧ s.nm.size ≤ N ∧ s.ar.length ≤ N) Tryz.underlying22 h fun m x hx => shStep hx
  refine ⟨bs, ?_, hl, hq⟩
  rw [show Tryz.prog.cellsOf 50 = 6 from by kernel_rfl]
  have : (bs.map fun s : RS => wrapA Tryz.prog 50 [iv s.k, strA s.nm, ivs s.ar, .v (.bool s.r.s), lim s.r.l, lim s.r.d]) = bs.map RS.av := List.map_congr_left fun b _ => wrapA_agg Tryz.underlying50 _
  rw [this]
theorem shFacts (h : Shape Tryz.prog N n 23 cs) : ∃ l : List RG, cs = [.sl 5 (l.map RG.av)] ∧ l.length ≤ N ∧ ∀ s ∈ l, s.r.lm N ∧ s.ar.length ≤ N := by
  obtain ⟨bs, rfl, hl, hq⟩ := shape_sliceOf (g := fun s : RG => [iv s.k, ivs s.ar, .v (.bool s.r.s), lim s.r.l, lim s.r.d]) (Q := fun s => s.r.lm N ∧ s.ar.length ≤ N) Tryz.underlying23 h fun m x hx => shFact hx
  refine ⟨bs, ?_, hl, hq⟩
  rw [show Tryz.prog.cellsOf 124 = 5 from by kernel_rfl]
  have : (bs.map fun s : RG => wrapA Tryz.prog 124 [iv s.k, ivs s.ar, .v (.bool s.r.s), lim s.r.l, lim s.r.d]) = bs.map RG.av := List.map_congr_left fun b _ => wrapA_agg Tryz.underlying124 _
  rw [this]
theorem shFigure (h : Shape Tryz.prog N n 25 cs) : ∃ (ss : List RS) (gs : List RG), wrapA Tryz.prog 25 cs = figA ss gs ∧ ss.length ≤ N ∧ gs.length ≤ N ∧ (∀ s ∈ ss, s.r.lm N ∧ s.nm.size ≤ N ∧ s.ar.length ≤ N) ∧ ∀ s ∈ gs, s.r.lm N ∧ s.ar.length ≤ N := by
  obtain ⟨m, rfl, hs⟩ := shape_struct Tryz.underlying25 (by kernel_rfl) h
  obtain ⟨x, y, rfl, h1, hs⟩ := hs.inv
  obtain ⟨x3, y, rfl, h3, hs⟩ := hs.inv
  obtain rfl := hs.inv0
  obtain ⟨ss, rfl, hl, hq⟩ := shSteps h1
  obtain ⟨gs, rfl, kl, kq⟩ := shFacts h3
  exact ⟨ss, gs, wrapA_agg Tryz.underlying25 _, hl, kl, hq, kq⟩
end
theorem lm_mono {r : RQ} {a b : Nat} (h : r.lm a) (hab : a ≤ b) : r.lm b := ⟨h.1, h.2.1, Nat.le_trans h.2.2.1 hab, Nat.le_trans h.2.2.2 hab⟩
end Go.Proofs.YtbgmnobnaplmlaaGreat
end

section
namespace Go.Proofs.YtbgmnobnaplmlaaGreat
open Go Go.RowKit Go.Pg
set_option linter.unusedSimpArgs false
set_option linter.unusedVariables false
set_option maxRecDepth 20000
attribute [local go_sem] Tryz.underlying3 Tryz.underlying4 Tryz.underlying178 Tryz.underlying9 Tryz.underlying48 Tryz.underlying93 Tryz.underlying31 Tryz.underlying43 Tryz.underlying41 Tryz.underlying39 Tryz.underlying50 Tryz.underlying22 Tryz.underlying25 Tryz.underlying124 Tryz.underlying23 Tryz.underlying85 Tryz.underlying97 Tryz.underlying52 Tryz.underlying45 Tryz.underlying89 Tryz.underlying36 Tryz.underlying87 sz3 by3 z3 szB zB szErr zErr szStr byStr zStr szL byL zL szRat zRat szInt zInt szNat zNat szStep byStep zStep szFig zFig szSlI zSlI szSlS zSlS szFact byFact zFact szSlF zSlF szCond byCond zCond szSlCd zSlCd szPt byPt zPt szSlPt zSlPt szSlStr zSlStr szIns zIns szSlR zSlR szSlB zSlB
attribute [-bool_to_prop] Bool.and_eq_decide Bool.or_eq_decide Bool.decide_beq_decide decide_eq_decide
/-! ### the chapter's examples -/
def ss23 : List RS := [⟨1, ⟨#[65]⟩, [], ⟨false, [], []⟩⟩, ⟨1, ⟨#[66]⟩, [], ⟨false, [], []⟩⟩, ⟨1, ⟨#[67]⟩, [], ⟨false, [], []⟩⟩, ⟨7, ⟨#[68]⟩, [0, 1, 2], ⟨false, [], []⟩⟩]
theorem fig23 : figE ss23 [] = 0 := by decide +kernel
theorem big23 : (List.range ss23.length).any (bigN ss23) = false := by decide +kernel
theorem ok23 : FigOk ss23 := by
  obtain ⟨h1, h2⟩ := figE_ok fig23
  refine ⟨h1, h2, fun s hs => ?_, by decide +kernel⟩
  have : ∀ s ∈ ss23, s.r.l = [] ∧ s.r.d = [] := by decide
  obtain ⟨e1, e2⟩ := this s hs
  refine ⟨?_, ?_, by rw [e1]; simp, by rw [e2]; simp⟩
  · rw [e1]; exact fun x hx => by cases hx
  · rw [e2]; exact fun x hx => by cases hx
theorem co23 : Pure Tryz.prog 15 [figA ss23 []] (.tup [frmA (frN ss23 ss23.length).cs (frN ss23 ss23.length).vs, iv 0]) := by
  have sm : ∀ s ∈ ss23, s.sm := fun s hs => by
    have h := ok23.lm s hs
    have h2 : ∀ s ∈ ss23, s.nm.size ≤ 1 ∧ s.ar.length ≤ 3 := by decide
    obtain ⟨a, b⟩ := h2 s hs
    exact ⟨lm_mono h (by decide), Nat.le_trans a (by decide), Nat.le_trans b (by decide)⟩
  have cr := lwRight ss23 [] (by decide) (by decide) sm (fun g hg => by cases hg)
  rw [fig23] at cr
  have := coFrame1 ss23 [] cr ok23
  rwa [if_neg (by rw [big23]; decide)] at this
theorem awOf : Pure Tryz.prog 46 [.agg [.sl 6 [.agg [iv 1, strA ⟨#[65]⟩, .v (.slice none 0 0), .v (.bool false), .v (.slice none 0 0), .v (.slice none 0 0)], .agg [iv 1, strA ⟨#[66]⟩, .v (.slice none 0 0), .v (.bool false), .v (.slice none 0 0), .v (.slice none 0 0)], .agg [iv 1, strA ⟨#[67]⟩, .v (.slice none 0 0), .v (.bool false), .v (.slice none 0 0), .v (.slice none 0 0)], .agg [iv 7, strA ⟨#[68]⟩, .sl 1 [iv 0, iv 1, iv 2], .v (.bool false), .v (.slice none 0 0), .v (.slice none 0 0)]], .v (.slice none 0 0)]] (.tup [.sl 3 [.agg [iv 1, .sl 1 [iv 1, iv 2], iv 3]], iv 0]) := by
  have c := cnOf ss23 [] _ _ 0 co23 (by decide) (fun _ i h => (errS_ok h ((figE_ok fig23).2 i h)).2.1)
  rw [if_pos rfl, show (cndN ss23 ss23.length).map RC.av = [.agg [iv 1, .sl 1 [iv 1, iv 2], iv 3]] from by kernel_rfl] at c
  refine pure_vkA c (.cons (Vk.aggL (.cons (Vk.slL (by rfl) (by decide) (by decide) ?_) (.cons (.nil 5) .nil))) .nil)
  exact (.cons (.refl _) (.cons (.refl _) (.cons (.nil 1) (.cons (.refl _) (.cons (.nil 1) (.cons (.nil 1) (.cons (.refl _) (.cons (.refl _) (.cons (.nil 1) (.cons (.refl _) (.cons (.nil 1) (.cons (.nil 1) (.cons (.refl _) (.cons (.refl _) (.cons (.nil 1) (.cons (.refl _) (.cons (.nil 1) (.cons (.nil 1) (.cons (.refl _) (.cons (.refl _) (.cons (.refl _) (.cons (.refl _) (.cons (.nil 1) (.cons (.nil 1) .nil))))))))))))))))))))))))
theorem awTxt : Pure Tryz.prog 44 [.agg [iv 3, .sl 1 [iv 0, iv 1, iv 2, iv 3], iv 0], .sl 1 [strA ⟨#[65]⟩, strA ⟨#[66, 49]⟩, strA ⟨#[67]⟩, strA ⟨#[68]⟩]] (.tup [strA ⟨#[40, 65, 32, 66, 49, 41, 32, 97, 110, 100, 32, 67, 68, 32, 97, 114, 101, 32, 110, 111, 116, 32, 112, 97, 114, 97, 108, 108, 101, 108]⟩, iv 0]) := by
  have c := cnText ⟨3, [0, 1, 2, 3], 0⟩ [⟨#[65]⟩, ⟨#[66, 49]⟩, ⟨#[67]⟩, ⟨#[68]⟩] (by decide) (by decide)
  rwa [show cRes ⟨3, [0, 1, 2, 3], 0⟩ [⟨#[65]⟩, ⟨#[66, 49]⟩, ⟨#[67]⟩, ⟨#[68]⟩] = .tup [strA ⟨#[40, 65, 32, 66, 49, 41, 32, 97, 110, 100, 32, 67, 68, 32, 97, 114, 101, 32, 110, 111, 116, 32, 112, 97, 114, 97, 108, 108, 101, 108]⟩, iv 0] from by kernel_rfl] at c
theorem aw_sz : ∀ p : PQ, p ∈ [((0, 0) : PQ), (1, 0)] → PQ.sz p 4 := fun p hp => by
  have z0 : Sz (0 : Rat) 4 := (nat_sz1 0 (by omega)).mono (by omega)
  have z1 : Sz (1 : Rat) 4 := (nat_sz1 1 (by omega)).mono (by omega)
  rcases List.mem_cons.1 hp with rfl | hp
  · exact ⟨z0, z0⟩
  · rw [List.mem_singleton] at hp
    subst hp
    exact ⟨z1, z0⟩
theorem awH1 : Pure Tryz.prog 42 [.agg [iv 1, .sl 1 [iv 0, iv 1], iv 0], .sl 6 [ptQ 0 0, ptQ 1 0]] (.tup [.v (.bool true), iv 0]) := by
  have c := cnHolds ⟨1, [0, 1], 0⟩ [(0, 0), (1, 0)] (by decide) aw_sz
  rwa [show hRes ⟨1, [0, 1], 0⟩ [(0, 0), (1, 0)] = .tup [.v (.bool true), iv 0] from by kernel_rfl] at c
theorem awH2 : Pure Tryz.prog 42 [.agg [iv 2, .sl 1 [iv 0, iv 1, iv 1], iv 0], .sl 6 [ptQ 0 0, ptQ 1 0]] (.tup [.v (.bool false), iv 0]) := by
  have c := cnHolds ⟨2, [0, 1, 1], 0⟩ [(0, 0), (1, 0)] (by decide) aw_sz
  rwa [show hRes ⟨2, [0, 1, 1], 0⟩ [(0, 0), (1, 0)] = .tup [.v (.bool false), iv 0] from by kernel_rfl] at c
set_option maxHeartbeats 8000000 in
theorem aw23 : Pure Tryz.prog 41 [] (.v (.bool true)) := by
  have c1 := awOf
  have c2 := awTxt
  have c3 := awH1
  have c4 := awH2
  have o0 : Pure Tryz.prog 18 [iv 0] (ratQ 0) := qOf 0 (by omega)
  have o1 : Pure Tryz.prog 18 [iv 1] (ratQ 1) := qOf 1 (by omega)
  have cs : Pure Tryz.prog 48 [.agg [iv 1, .sl 1 [iv 1, iv 2], iv 3], .agg [iv 1, .sl 1 [iv 1, iv 2], iv 3]] (.v (.bool true)) := rkSame ⟨1, [1, 2], 3⟩ ⟨1, [1, 2], 3⟩ (by decide) (by decide)
  generalize (0 : Rat) = q0 at *
  generalize (1 : Rat) = q1 at *
  refine pure_intro (tok := 0) Tryz.func41 rfl Tryz.ntmps41 Tryz.results41 Tryz.call41 (by rfl) (by simp) ?_
  (repeat' (first | (with_reducible first | refine stp ?_ | apply gx1 | apply gx2 | apply gx3 | apply gx4 | apply gx5 | apply gx6 | apply gx7 | apply gw1 (c1) | apply gw1 (c2) | apply gw1 (cs)) | ((with_reducible apply gw1 (o1)); iterate 4 focus ((with_reducible refine gE ?_); (try simp (disch := omega) only [go_sem, decide_eq_true, decide_eq_false, if_pos, if_neg, Int.reduceAdd, Int.reduceSub, Int.reduceToNat, Int.zero_add]) <;> first | rfl | done)) | ((with_reducible apply gw1 (o0)); iterate 4 focus ((with_reducible refine gE ?_); (try simp (disch := omega) only [go_sem, decide_eq_true, decide_eq_false, if_pos, if_neg, Int.reduceAdd, Int.reduceSub, Int.reduceToNat, Int.zero_add]) <;> first | rfl | done)) | ((with_reducible apply gw1 (c4)); iterate 4 focus ((with_reducible refine gE ?_); (try simp (disch := omega) only [go_sem, decide_eq_true, decide_eq_false, if_pos, if_neg, Int.reduceAdd, Int.reduceSub, Int.reduceToNat, Int.zero_add]) <;> first | rfl | done)) | ((with_reducible apply gw1 (c3)); iterate 4 focus ((with_reducible refine gE ?_); (try simp (disch := omega) only [go_sem, decide_eq_true, decide_eq_false, if_pos, if_neg, Int.reduceAdd, Int.reduceSub, Int.reduceToNat, Int.zero_add]) <;> first | rfl | done)) | (with_reducible refine all_v ?_; intro _) | ((with_reducible refine gE ?_); (try simp (disch := omega) only [go_sem, decide_eq_true, decide_eq_false, if_pos, if_neg, Int.reduceAdd, Int.reduceSub, Int.reduceToNat, Int.zero_add]) <;> first | rfl | omega) | with_reducible refine t_in_other (by decide) ?_ | ((with_reducible first | apply og_split | apply cg_split); all_goals (intro hc; (try simp only [bool_to_prop] at hc); try (exfalso; omega)))))
  (all_goals (try simp (disch := omega) only [go_sem, decide_eq_true, decide_eq_false, if_pos, if_neg, Int.reduceAdd, Int.reduceSub, Int.reduceToNat, Int.zero_add])); (all_goals first | done | rfl | (congr 2; first | done | omega | (rw [Bool.eq_iff_iff]; simp only [bool_to_prop, Bool.false_eq_true, iff_true, true_iff, iff_false, false_iff]; omega)) | skip)
/-! ### the laws -/
theorem cRes_tup (c : RC) (ss : List ByteArray) : ∃ s e, cRes c ss = .tup [strA s, iv e] := by
  unfold cRes
  split
  · exact ⟨_, _, rfl⟩
  · split
    · split
      · exact ⟨_, _, rfl⟩
      · exact ⟨_, _, rfl⟩
    · exact ⟨_, _, rfl⟩
theorem hRes_tup (c : RC) (ps : List PQ) : ∃ b e, hRes c ps = .tup [.v (.bool b), iv e] := by
  unfold hRes
  split
  · exact ⟨_, _, rfl⟩
  · exact ⟨_, _, rfl⟩
set_option maxHeartbeats 8000000 in
theorem lawTexts (c : RC) (ss : List ByteArray) : Pure Tryz.prog 12 [c.av, .sl 1 (ss.map strA)] (.v (.bool true)) := by
  have ca := aw23
  have hlm : (ss.map strA).length = ss.length := List.length_map ..
  have hla : (c.ar.map iv).length = c.ar.length := List.length_map ..
  by_cases h8 : c.ar.length ≤ 8
  · by_cases h12 : ss.length ≤ 12
    · have hat : ∀ j (h : j < ss.length), (ss.map strA).getD j .u = strA ss[j] := fun j h => map_atB strA h
      have key : (∀ s ∈ ss, s.size ≤ 1000) → ∃ s e, Pure Tryz.prog 44 [c.av, .sl 1 (ss.map strA)] (.tup [strA s, iv e]) ∧ Pure Tryz.prog 45 [c.av, .sl 1 (ss.map strA)] (.tup [strA s, iv e]) := fun h => by
        have k1 := cnText c ss (by omega) h
        have k2 := rkText c ss (by omega) h
        obtain ⟨s, e, he⟩ := cRes_tup c ss
        rw [he] at k1 k2
        exact ⟨s, e, k1, k2⟩
      obtain ⟨k, ar, st⟩ := c
      simp only at *
      generalize ss.map strA = M at *
      refine pure_intro (tok := 0) Tryz.func12 rfl Tryz.ntmps12 Tryz.results12 Tryz.call12 (by rfl) (by simp) ?_
      (focus (refine wkap (w_a hla (w_a hlm w_t)) (w_a ca w_t) (w_r 0) ?_; (repeat' first | exact w_t | apply w_l); all_goals intros))
      rename_i g2
      refine r_loopE (ι := Nat) (fun i e m => i ≤ ss.length ∧ e 1 = .sl 1 M ∧ e 2 = .pbox 2 g2 0 ∧ m 2 = some (.box g2 85 [iv k, ivs ar, iv st] false) ∧ e 21 = .sl 1 M ∧ e 22 = iv ss.length ∧ e 23 = iv i ∧ ∀ j (h : j < ss.length), j < i → ss[j].size ≤ 1000) (fun i => ss.length - i) 0 (by rfl) ?_ ?_
      · rintro i e m ⟨hi, e1, e2, m2, e21, e22, e23, hj⟩
        by_cases hlt : i < ss.length
        · have hg := hat i hlt
          by_cases h30 : ss[i].size ≤ 30
          · have hnx : ∀ j (h : j < ss.length), j < i + 1 → ss[j].size ≤ 1000 := fun j h h3 => by
              by_cases e : j = i
              · subst e; omega
              · exact hj j h (by omega)
            clear hj key hat
            generalize ss[i] = s at *
            (focus (refine wkap (w_a e1 (w_a e2 (w_a m2 (w_a e21 (w_a e22 (w_a e23 (w_a hg (w_a hla (w_a hlm w_t))))))))) (w_a ca w_t) (w_r 0) ?_; (repeat' first | exact w_t | apply w_l); all_goals intros))
            exact ⟨i + 1, ⟨by omega, by exact gW e1, by exact gW e2, by exact gW m2, by exact gW e21, by exact gW e22, by exact gS, hnx⟩, by omega⟩
          · clear hj key hat
            generalize ss[i] = s at *
            (focus (refine wklp (w_a e1 (w_a e2 (w_a m2 (w_a e21 (w_a e22 (w_a e23 (w_a hg (w_a hla (w_a hlm w_t))))))))) (w_a ca w_t) w_t (w_r 0) ?_; (repeat' first | exact w_t | apply w_l); all_goals intros))
        · obtain ⟨s, er, k1, k2⟩ := key fun s hs => by
            obtain ⟨j, hjl, rfl⟩ := List.mem_iff_getElem.1 hs
            exact hj j hjl (by omega)
          clear hj hat key
          (focus (refine wkap (w_a e1 (w_a e2 (w_a m2 (w_a e21 (w_a e22 (w_a e23 (w_a hla (w_a hlm w_t)))))))) (w_a ca (w_a k1 (w_a k2 w_t))) (w_r 0) ?_; (repeat' first | exact w_t | apply w_l); all_goals intros))
          all_goals (all_goals (try simp (disch := omega) only [go_sem, decide_eq_true, decide_eq_false, if_pos, if_neg, Int.reduceAdd, Int.reduceSub, Int.reduceToNat, Int.zero_add])); (all_goals first | done | rfl | (congr 2; first | done | omega | (rw [Bool.eq_iff_iff]; simp only [bool_to_prop, Bool.false_eq_true, iff_true, true_iff, iff_false, false_iff]; omega)) | skip)
      · exact ⟨Nat.zero_le _, by exact gC, by exact gC, by exact gC, by exact gC, by exact gW hlm, by exact gC, fun j h h3 => by omega⟩
    · obtain ⟨k, ar, st⟩ := c
      simp only at *
      generalize ss.map strA = M at *
      refine pure_intro (tok := 0) Tryz.func12 rfl Tryz.ntmps12 Tryz.results12 Tryz.call12 (by rfl) (by simp) ?_
      (focus (refine wklp (w_a hla (w_a hlm w_t)) (w_a ca w_t) w_t (w_r 0) ?_; (repeat' first | exact w_t | apply w_l); all_goals intros))
  · obtain ⟨k, ar, st⟩ := c
    simp only at *
    generalize ss.map strA = M at *
    refine pure_intro (tok := 0) Tryz.func12 rfl Tryz.ntmps12 Tryz.results12 Tryz.call12 (by rfl) (by simp) ?_
    (focus (refine wklp (w_a hla (w_a hlm w_t)) (w_a ca w_t) w_t (w_r 0) ?_; (repeat' first | exact w_t | apply w_l); all_goals intros))
set_option maxHeartbeats 8000000 in
theorem lawHold (c : RC) (ps : List RP) {n : Nat} (hz : ∀ p ∈ ps, p.lm n) : Pure Tryz.prog 11 [c.av, .sl 6 (ps.map RP.av)] (.v (.bool true)) := by
  have ca := aw23
  have cf := rhFine ps hz
  have hla : (c.ar.map iv).length = c.ar.length := List.length_map ..
  have key : fineB ps = true → ∃ b e, Pure Tryz.prog 42 [c.av, .sl 6 (ps.map RP.av)] (.tup [.v (.bool b), iv e]) ∧ Pure Tryz.prog 43 [c.av, .sl 6 (ps.map RP.av)] (.tup [.v (.bool b), iv e]) := fun h => by
    obtain ⟨qs, e, hq, hl⟩ := fine_in hz h
    rw [e]
    have k1 := cnHolds c qs (by omega) hq
    have k2 := rkHolds c qs (by omega) hq
    obtain ⟨b, e, he⟩ := hRes_tup c qs
    rw [he] at k1 k2
    exact ⟨b, e, k1, k2⟩
  obtain ⟨k, ar, st⟩ := c
  simp only at *
  generalize fineB ps = f at *
  generalize ps.map RP.av = M at *
  by_cases h8 : ar.length ≤ 8
  · cases f with
    | false =>
      clear key
      refine pure_intro (tok := 0) Tryz.func11 rfl Tryz.ntmps11 Tryz.results11 Tryz.call11 (by rfl) (by simp) ?_
      (focus (refine wklp (w_a hla w_t) (w_a ca (w_a cf w_t)) w_t (w_r 0) ?_; (repeat' first | exact w_t | apply w_l); all_goals intros))
    | true =>
      obtain ⟨b, e, k1, k2⟩ := key rfl
      cases b
      all_goals
        refine pure_intro (tok := 0) Tryz.func11 rfl Tryz.ntmps11 Tryz.results11 Tryz.call11 (by rfl) (by simp) ?_
        (focus (refine wkap (w_a hla w_t) (w_a ca (w_a cf (w_a k1 (w_a k2 w_t)))) (w_r 0) ?_; (repeat' first | exact w_t | apply w_l); all_goals intros))
        all_goals (all_goals (try simp (disch := omega) only [go_sem, decide_eq_true, decide_eq_false, if_pos, if_neg, Int.reduceAdd, Int.reduceSub, Int.reduceToNat, Int.zero_add])); (all_goals first | done | rfl | (congr 2; first | done | omega | (rw [Bool.eq_iff_iff]; simp only [bool_to_prop, Bool.false_eq_true, iff_true, true_iff, iff_false, false_iff]; omega)) | skip)
  · clear key
    refine pure_intro (tok := 0) Tryz.func11 rfl Tryz.ntmps11 Tryz.results11 Tryz.call11 (by rfl) (by simp) ?_
    (focus (refine wklp (w_a hla w_t) (w_a ca (w_a cf w_t)) w_t (w_r 0) ?_; (repeat' first | exact w_t | apply w_l); all_goals intros))
end Go.Proofs.YtbgmnobnaplmlaaGreat
end

section
namespace Go.Proofs.YtbgmnobnaplmlaaGreat
open Go Go.RowKit Go.Pg
set_option linter.unusedSimpArgs false
set_option linter.unusedVariables false
set_option maxRecDepth 20000
attribute [-bool_to_prop] Bool.and_eq_decide Bool.or_eq_decide Bool.decide_beq_decide decide_eq_decide
section
variable {N n : Nat} {cs : List AV}
theorem shCond (h : Shape Tryz.prog N n 85 cs) : ∃ c : RC, wrapA Tryz.prog 85 cs = c.av ∧ c.ar.length ≤ N := by
  obtain ⟨m, rfl, hs⟩ := shape_struct Tryz.underlying85 (by kernel_rfl) h
  obtain ⟨x, y, rfl, h1, hs⟩ := hs.inv
  obtain ⟨x2, y, rfl, h2, hs⟩ := hs.inv
  obtain ⟨x3, y, rfl, h3, hs⟩ := hs.inv
  obtain rfl := hs.inv0
  obtain ⟨k, rfl, _⟩ := shape_int Tryz.underlying3 h1
  obtain ⟨ar, rfl, ha⟩ := shIvs h2
  obtain ⟨st, rfl, _⟩ := shape_int Tryz.underlying3 h3
  exact ⟨⟨k, ar, st⟩, wrapA_agg Tryz.underlying85 _, ha⟩
theorem agSlStr : aggTy Tryz.prog 93 = false := by kernel_rfl
theorem agStr : aggTy Tryz.prog 9 = false := by kernel_rfl
theorem shNames (h : Shape Tryz.prog N n 93 cs) : ∃ ss : List ByteArray, wrapA Tryz.prog 93 cs = .sl 1 (ss.map strA) ∧ ss.length ≤ N ∧ ∀ s ∈ ss, s.size ≤ N := by
  obtain ⟨bs, rfl, hl, hq⟩ := shape_sliceOf (g := fun s : ByteArray => [strA s]) (Q := fun s => s.size ≤ N) Tryz.underlying93 h fun m x hx => by
    obtain ⟨s, rfl, hn⟩ := shape_string Tryz.underlying9 hx
    exact ⟨s, rfl, hn⟩
  refine ⟨bs, ?_, hl, hq⟩
  rw [wrapA_one agSlStr, show Tryz.prog.cellsOf 9 = 1 from by kernel_rfl]
  have : (bs.map fun b : ByteArray => wrapA Tryz.prog 9 [strA b]) = bs.map strA := List.map_congr_left fun b _ => wrapA_one agStr _
  rw [this]
theorem agSlPt : aggTy Tryz.prog 45 = false := by kernel_rfl
theorem shPts (h : Shape Tryz.prog N n 45 cs) : ∃ ps : List RP, wrapA Tryz.prog 45 cs = .sl 6 (ps.map RP.av) ∧ ps.length ≤ N ∧ ∀ p ∈ ps, p.lm N := by
  obtain ⟨bs, rfl, hl, hq⟩ := shape_sliceOf (g := fun p : RP => [.v (.bool p.x.s), lim p.x.l, lim p.x.d, .v (.bool p.y.s), lim p.y.l, lim p.y.d]) (Q := fun p => p.lm N) Tryz.underlying45 h fun m x hx => by
    obtain ⟨p, rfl, hp⟩ := shPoint hx
    exact ⟨p, rfl, hp⟩
  refine ⟨bs, ?_, hl, hq⟩
  rw [wrapA_one agSlPt, show Tryz.prog.cellsOf 52 = 6 from by kernel_rfl]
  have : (bs.map fun b : RP => wrapA Tryz.prog 52 [.v (.bool b.x.s), lim b.x.l, lim b.x.d, .v (.bool b.y.s), lim b.y.l, lim b.y.d]) = bs.map RP.av := List.map_congr_left fun b _ => wrapA_agg Tryz.underlying52 _
  rw [this]
end
theorem saidTexts (xs : List AV) (h : ShapeL Tryz.prog maxLen 9 [85, 93] xs) : Pure Tryz.prog 12 xs (.v (.bool true)) := by
  obtain ⟨x, bs, rfl, h1, h⟩ := h.inv
  obtain ⟨y, bs, rfl, h2, h⟩ := h.inv
  obtain rfl := h.inv0
  obtain ⟨c, e1, hc⟩ := shCond h1
  obtain ⟨ss, e2, hl, hz⟩ := shNames h2
  rw [e1, e2]
  exact lawTexts c ss
theorem saidHold (xs : List AV) (h : ShapeL Tryz.prog maxLen 9 [85, 45] xs) : Pure Tryz.prog 11 xs (.v (.bool true)) := by
  obtain ⟨x, bs, rfl, h1, h⟩ := h.inv
  obtain ⟨y, bs, rfl, h2, h⟩ := h.inv
  obtain rfl := h.inv0
  obtain ⟨c, e1, hc⟩ := shCond h1
  obtain ⟨ps, e2, hl, hz⟩ := shPts h2
  rw [e1, e2]
  exact lawHold c ps hz
end Go.Proofs.YtbgmnobnaplmlaaGreat
end

section
namespace Go.Proofs.YtbgmnobnaplmlaaGreat
open Go Go.RowKit Go.Pg Go.Pol
set_option linter.unusedSimpArgs false
set_option linter.unusedVariables false
set_option maxRecDepth 20000
attribute [-bool_to_prop] Bool.and_eq_decide Bool.or_eq_decide Bool.decide_beq_decide decide_eq_decide
set_option linter.unusedSimpArgs false
set_option linter.unusedVariables false
/-! ### polynomials of bounded length, size and exponents -/
structure PB (p : Po) (n j e : Nat) : Prop where
  s : SrtM p
  k : PK p j e
  l : p.length ≤ n
theorem PB.mono {p : Po} {n j e m i f : Nat} (h : PB p n j e) (hn : n ≤ m) (hj : j ≤ i) (he : e ≤ f) : PB p m i f := ⟨h.s, h.k.mono hj he, Nat.le_trans h.l hn⟩
theorem PB.nil {n j e : Nat} : PB [] n j e := ⟨.nil, .nil, Nat.zero_le _⟩
theorem PB.add {p q : Po} {n j e m k f : Nat} (h : PB p n j e) (g : PB q m k f) : PB (addM p q) (n + m) (j + k + 1) (max e f) :=
  ⟨addP_srt ordM h.s g.s, (h.k.mono (Nat.le_refl _) (Nat.le_max_left ..)).add (g.k.mono (Nat.le_refl _) (Nat.le_max_right ..)), Nat.le_trans (addP_len p q) (Nat.add_le_add h.l g.l)⟩
theorem PB.neg {p : Po} {n j e : Nat} (h : PB p n j e) : PB (scaleP (-1) p) n j e := ⟨scale_srt h.s neg1, h.k.neg, by rw [scale_len]; exact h.l⟩
theorem PB.sub {p q : Po} {n j e m k f : Nat} (h : PB p n j e) (g : PB q m k f) : PB (subM p q) (n + m) (j + k + 1) (max e f) := h.add g.neg
theorem PB.times {p : Po} {t : Tm} {n j e k f : Nat} (h : PB p n j e) (ht : PK [t] k f) (h0 : t.1 ≠ 0) (hd : Can t.2) : PB (timesP mulM p t) n (j + k) (e + f) :=
  ⟨times_srt mulK h.s h0 hd, h.k.times ht, by rw [timesP_len]; exact h.l⟩
theorem PB.take {q : Po} {m k f : Nat} (g : PB q m k f) (i : Nat) : PB (q.take i) m k f :=
  ⟨srt_take g.s i, fun t ht => g.k t (List.mem_of_mem_take ht), by rw [List.length_take]; have := g.l; omega⟩
theorem PB.one {q : Po} {m k f : Nat} (g : PB q m k f) {t : Tm} (ht : t ∈ q) : PK [t] k f := fun u hu => by rw [List.mem_singleton] at hu; subst hu; exact g.k _ ht
theorem mul_pbN {p q : Po} {n j e m k f : Nat} (h : PB p n j e) (g : PB q m k f) : ∀ i, i ≤ q.length → PB (mlM p (q.take i)) (n * i) (i * (j + k + 1)) (e + f)
  | 0, _ => by rw [List.take_zero]; exact .nil
  | i + 1, hi => by
    rw [mulR_take hi]
    have h1 := mul_pbN h g i (by omega)
    have h2 := h.times (g.one (List.getElem_mem hi)) (g.s.1 _ (List.getElem_mem hi)).1 (g.s.1 _ (List.getElem_mem hi)).2
    refine (h1.add h2).mono ?_ ?_ ?_
    · rw [Nat.mul_succ]; omega
    · rw [Nat.succ_mul]; omega
    · omega
theorem mul_pbI {p q : Po} {n j e m k f : Nat} (h : PB p n j e) (g : PB q m k f) (i : Nat) : PB (mlM p (q.take i)) (n * m) (m * (j + k + 1)) (e + f) := by
  by_cases hi : i ≤ q.length
  · have hm := g.l
    exact (mul_pbN h g i hi).mono (Nat.mul_le_mul_left _ (by omega)) (Nat.mul_le_mul_right _ (by omega)) (Nat.le_refl _)
  · rw [List.take_of_length_le (by omega)]
    have := mul_pbN h g q.length (Nat.le_refl _)
    rw [List.take_length] at this
    exact this.mono (Nat.mul_le_mul_left _ g.l) (Nat.mul_le_mul_right _ g.l) (Nat.le_refl _)
theorem PB.mul {p q : Po} {n j e m k f : Nat} (h : PB p n j e) (g : PB q m k f) : PB (mlM p q) (n * m) (m * (j + k + 1)) (e + f) := by
  have := mul_pbI h g q.length
  rwa [List.take_length] at this
/-! ### the contracts in these terms -/
end Go.Proofs.YtbgmnobnaplmlaaGreat
end

section
namespace Go.Proofs.YtbgmnobnaplmlaaGreat
open Go Go.RowKit Go.Pg Go.Pol
set_option linter.unusedSimpArgs false
set_option linter.unusedVariables false
set_option maxRecDepth 20000
attribute [-bool_to_prop] Bool.and_eq_decide Bool.or_eq_decide Bool.decide_beq_decide decide_eq_decide
set_option linter.unusedSimpArgs false
set_option linter.unusedVariables false
/-! ### the equations, as plain polynomials -/
abbrev Pt := Po × Po
abbrev dfM (a b : Pt) : Pt := (subM b.1 a.1, subM b.2 a.2)
def crossM (a b c d : Pt) : Po := subM (mlM (subM b.1 a.1) (subM d.2 c.2)) (mlM (subM b.2 a.2) (subM d.1 c.1))
def dotM (a b c d : Pt) : Po := addM (mlM (subM b.1 a.1) (subM d.1 c.1)) (mlM (subM b.2 a.2) (subM d.2 c.2))
def dblM (p : Po) : Po := addM p p
abbrev oneM : Po := [(1, [])]
def slopeM (t : Po) : Po := addM oneM (mlM t t)
def circM (o a x : Pt) (t : Po) : List Po :=
  let s := dblM (addM (subM o.1 a.1) (mlM t (subM o.2 a.2)))
  [subM (mlM (slopeM t) (subM x.1 a.1)) s, subM (mlM (slopeM t) (subM x.2 a.2)) (mlM t s)]
def otherM (p q o x : Pt) : List Po :=
  let n := dotM p q p q
  let s := dblM (dotM p o p q)
  [subM (mlM n (subM x.1 p.1)) (mlM s (subM q.1 p.1)), subM (mlM n (subM x.2 p.2)) (mlM s (subM q.2 p.2))]
def diffM (a b c d : Pt) : Po := subM (dotM a b a b) (dotM c d c d)
def eqsM (k : Int) (a b c d x : Pt) (t : Po) : List Po :=
  if k = 6 then circM a b x t
  else if k = 7 then [crossM b c b x, dotM b c a x]
  else if k = 8 then [dotM b c a x, addM (crossM b c b a) (crossM b c b x)]
  else if k = 9 then [crossM a b a x, crossM c d c x]
  else if k = 10 then otherM a b c x
  else if k = 11 then [diffM a x b x, diffM a x c x]
  else if k = 12 then [crossM a b a x, diffM c x c d]
  else if k = 13 then [diffM a x a b, diffM c x c d]
  else if k = 14 then [diffM a x a b, diffM b x a b]
  else []
/-! ### bounds -/
structure CB (c : Pt) : Prop where
  x : PB c.1 8 110 8
  y : PB c.2 8 110 8
theorem PB.m2 {p q : Po} (h : PB p 16 221 8) (g : PB q 16 221 8) : PB (mlM p q) 256 7088 16 := (h.mul g).mono (by omega) (by omega) (by omega)
theorem one_mul {p : Po} (h : SrtM p) : mlM oneM p = p := by
  rw [mul_const (by decide) h]
  unfold scaleP
  conv => rhs; rw [← List.map_id p]
  exact List.map_congr_left fun t ht => by show (t.1 * 1, t.2) = t; rw [Rat.mul_one]
end Go.Proofs.YtbgmnobnaplmlaaGreat
end

section
namespace Go.Proofs.YtbgmnobnaplmlaaGreat
open Go Go.RowKit Go.Pg Go.Pol
set_option linter.unusedSimpArgs false
set_option linter.unusedVariables false
set_option maxRecDepth 20000
attribute [-bool_to_prop] Bool.and_eq_decide Bool.or_eq_decide Bool.decide_beq_decide decide_eq_decide
set_option linter.unusedSimpArgs false
set_option linter.unusedVariables false
/-! ### figures with few terms -/
/-! the bounds of the numbers of terms -/
def wOf (w : List Int) (s : RS) : Int :=
  if s.k = 2 then gI w (gI s.ar 0).toNat + gI w (gI s.ar 1).toNat
  else if s.k = 3 ∨ s.k = 4 then gI w (gI s.ar 0).toNat + gI w (gI s.ar 1).toNat + gI w (gI s.ar 2).toNat
  else if s.k = 5 then 2 * gI w (gI s.ar 0).toNat + gI w (gI s.ar 1).toNat
  else 1
def wts (ss : List RS) : Nat → List Int
  | 0 => []
  | i + 1 => wts ss i ++ [wOf (wts ss i) (ss.getD i RS.zero)]
theorem wts_len (ss : List RS) : ∀ i, (wts ss i).length = i
  | 0 => rfl
  | i + 1 => by show (wts ss i ++ [_]).length = i + 1; rw [List.length_append, wts_len ss i]; rfl
theorem gI_app (l : List Int) (x : Int) (n : Nat) : gI (l ++ [x]) n = if n < l.length then gI l n else if n = l.length then x else 0 := by
  split
  · rename_i h
    rw [gI_at (by simp; omega), gI_at h, List.getElem_append_left h]
  · split
    · rename_i h1 h2
      subst h2
      rw [gI_at (by simp)]
      simp
    · rw [gI_out (by simp; omega)]
theorem wts_bd (ss : List RS) : ∀ i n, 0 ≤ gI (wts ss i) n ∧ gI (wts ss i) n ≤ ((3 ^ i : Nat) : Int)
  | 0, n => by rw [gI_out (Nat.zero_le _)]; omega
  | i + 1, n => by
    show 0 ≤ gI (wts ss i ++ [_]) n ∧ gI (wts ss i ++ [_]) n ≤ _
    have hp : (3 ^ (i + 1) : Nat) = 3 * 3 ^ i := by rw [Nat.pow_succ, Nat.mul_comm]
    have hq : 1 ≤ 3 ^ i := Nat.one_le_pow _ _ (by omega)
    rw [gI_app, hp]
    have h0 := wts_bd ss i n
    have h1 := wts_bd ss i (gI (ss.getD i RS.zero).ar 0).toNat
    have h2 := wts_bd ss i (gI (ss.getD i RS.zero).ar 1).toNat
    have h3 := wts_bd ss i (gI (ss.getD i RS.zero).ar 2).toNat
    unfold wOf
    generalize (3 ^ i : Nat) = z at *
    split
    · omega
    · split
      · split
        · omega
        · split
          · omega
          · split <;> omega
      · omega
def thinB (ss : List RS) (gs : List RG) : Bool :=
  (wts ss ss.length).all (fun w => decide (w ≤ 8)) && gs.all fun g => !(decide (g.k = 6) || decide (g.k = 7)) || g.ar.all fun a => decide (gI (wts ss ss.length) a.toNat ≤ 3)
def rat2 (r : RQ) : Bool := decide (r.l.length ≤ 2) && decide (r.d.length ≤ 2)
def fewB (ss : List RS) (gs : List RG) : Bool :=
  decide (ss.length ≤ 8) && (decide (gs.length ≤ 3) && (decide (figE ss gs = 0) && (thinB ss gs && (ss.all (fun s => rat2 s.r) && gs.all fun g => rat2 g.r))))
end Go.Proofs.YtbgmnobnaplmlaaGreat
end

section
namespace Go.Proofs.YtbgmnobnaplmlaaGreat
open Go Go.RowKit Go.Pg Go.Pol
set_option linter.unusedSimpArgs false
set_option linter.unusedVariables false
set_option maxRecDepth 20000
attribute [-bool_to_prop] Bool.and_eq_decide Bool.or_eq_decide Bool.decide_beq_decide decide_eq_decide
/-! ### arguments of a known number -/
theorem ar2 {ar : List Int} {n : Nat} (hl : (ar.length : Int) = 2) (h : ∀ k, k < ar.length → 0 ≤ gI ar k ∧ gI ar k < (n : Int)) : ∃ a b : Nat, ar = [(a : Int), (b : Int)] ∧ a < n ∧ b < n := by
  match ar, hl, h with
  | [x, y], _, h =>
    have h0 := h 0 (by simp)
    have h1 := h 1 (by simp)
    simp only [gI, List.getD_cons_zero, List.getD_cons_succ] at h0 h1
    exact ⟨x.toNat, y.toNat, by rw [Int.toNat_of_nonneg h0.1, Int.toNat_of_nonneg h1.1], by omega, by omega⟩
theorem ar3 {ar : List Int} {n : Nat} (hl : (ar.length : Int) = 3) (h : ∀ k, k < ar.length → 0 ≤ gI ar k ∧ gI ar k < (n : Int)) : ∃ a b c : Nat, ar = [(a : Int), (b : Int), (c : Int)] ∧ a < n ∧ b < n ∧ c < n := by
  match ar, hl, h with
  | [x, y, z], _, h =>
    have h0 := h 0 (by simp)
    have h1 := h 1 (by simp)
    have h2 := h 2 (by simp)
    simp only [gI, List.getD_cons_zero, List.getD_cons_succ] at h0 h1 h2
    exact ⟨x.toNat, y.toNat, z.toNat, by rw [Int.toNat_of_nonneg h0.1, Int.toNat_of_nonneg h1.1, Int.toNat_of_nonneg h2.1], by omega, by omega, by omega⟩
end Go.Proofs.YtbgmnobnaplmlaaGreat
end

section
namespace Go.Proofs.YtbgmnobnaplmlaaGreat
open Go Go.RowKit Go.Pg Go.Pol
set_option linter.unusedSimpArgs false
set_option linter.unusedVariables false
set_option maxRecDepth 20000
attribute [local go_sem] Tryz.underlying3 Tryz.underlying4 Tryz.underlying178 Tryz.underlying9 Tryz.underlying48 Tryz.underlying31 Tryz.underlying43 Tryz.underlying41 Tryz.underlying39 Tryz.underlying50 Tryz.underlying22 Tryz.underlying25 Tryz.underlying124 Tryz.underlying23 sz3 by3 z3 szB zB szErr zErr szStr byStr zStr szL byL zL szRat zRat szInt zInt szNat zNat szStep byStep zStep szFig zFig szSlI zSlI szSlS zSlS szFact byFact zFact szSlF zSlF
attribute [-bool_to_prop] Bool.and_eq_decide Bool.or_eq_decide Bool.decide_beq_decide decide_eq_decide
theorem wts_at {ss : List RS} {i a : Nat} (h : a < i) : ((wts ss i).map iv).getD a .u = iv (gI (wts ss i) a) := by
  rw [map_atB iv (by rw [wts_len]; exact h), gI_at (by rw [wts_len]; exact h)]
theorem wts_succ {ss : List RS} {i : Nat} (hi : i < ss.length) : (wts ss (i + 1)).map iv = (wts ss i).map iv ++ [iv (wOf (wts ss i) ss[i])] := by
  show (wts ss i ++ [_]).map iv = _
  rw [List.map_append, show ss.getD i RS.zero = ss[i] from by rw [List.getD_eq_getElem?_getD, List.getElem?_eq_getElem hi]; rfl]; rfl
set_option maxHeartbeats 8000000 in
theorem rlWeights (ss : List RS) (gs : List RG) (hl : ss.length ≤ 8) (he : ∀ i, i < ss.length → errS ss i = 0) : Pure Tryz.prog 151 [figA ss gs] (ivs (wts ss ss.length)) := by
  have hg : ∀ i (h : i < ss.length), (ss.map RS.av).getD i .u = ss[i].av := fun i h => map_atB RS.av h
  have hls : (ss.map RS.av).length = ss.length := List.length_map ..
  have hok : ∀ i (h : i < ss.length), (ss[i].ar.length : Int) = arS ss[i].k ∧ ∀ k, k < ss[i].ar.length → 0 ≤ gI ss[i].ar k ∧ gI ss[i].ar k < (i : Int) := fun i h => ⟨(errS_ok h (he i h)).2.1, (errS_ok h (he i h)).2.2.1⟩
  have hws : ∀ i (h : i < ss.length), (wts ss (i + 1)).map iv = (wts ss i).map iv ++ [iv (wOf (wts ss i) ss[i])] := fun i h => wts_succ h
  have hwl : ∀ i, ((wts ss i).map iv).length = i := fun i => by rw [List.length_map, wts_len]
  have hbd : ∀ i n, i ≤ 8 → 0 ≤ gI (wts ss i) n ∧ gI (wts ss i) n ≤ 6561 := fun i n h => by
    have := wts_bd ss i n
    have h3 : (3 ^ i : Nat) ≤ 3 ^ 8 := Nat.pow_le_pow_right (by omega) h
    omega
  show Pure _ _ [.agg [.sl 6 (ss.map RS.av), .sl 5 (gs.map RG.av)]] (.sl 1 ((wts ss ss.length).map iv))
  generalize ss.map RS.av = M at *
  generalize gs.map RG.av = N at *
  refine pure_intro (tok := 0) Tryz.func151 rfl Tryz.ntmps151 Tryz.results151 Tryz.call151 (by rfl) (by simp) ?_
  (focus (refine wkad (w_a hls w_t) w_t w_t ?_; (repeat' first | exact w_t | apply w_l); all_goals intros))
  rename_i g1
  refine r_frz (Frz.nilOwn (d := 3) 83 1 3 (by exact gC)) ?_
  refine r_loopE (ι := Nat) (fun i e m => i ≤ ss.length ∧ e 1 = .pbox 1 g1 0 ∧ m 1 = some (.box g1 25 [.sl 6 M, .sl 5 N] false) ∧ e 4 = iv i ∧ ∃ sv, e 3 = .own 83 sv ∧ m 83 = some (.row sv 3 1 ((wts ss i).map iv) 0)) (fun i => ss.length - i) 0 (by rfl) ?_ ?_
  · rintro i e m ⟨hi, e1, m1, e4, sv, e3, m83⟩
    by_cases hlt : i < ss.length
    · have hgi := hg i hlt
      obtain ⟨ha, hr⟩ := hok i hlt
      have hwi := hwl i
      have hn := hws i hlt
      have hx := fun a (h : a < i) => wts_at (ss := ss) h
      have hb := fun n => hbd i n (by omega)
      clear hg hok hws hwl hbd
      generalize wts ss i = w at *
      generalize ss[i] = s at *
      obtain ⟨k, nm, ar, ⟨rs, rl, rd⟩⟩ := s
      unfold wOf at hn
      unfold arS at ha
      simp only at *
      generalize w.map iv = W at *
      by_cases k2 : k = 2
      · subst k2
        obtain ⟨a, b, rfl, h1, h2⟩ := ar2 (by simpa using ha) hr
        have b1 := hb a
        have b2 := hb b
        have x1 := hx a h1
        have x2 := hx b h2
        simp only [if_pos, gI, List.getD_cons_zero, List.getD_cons_succ, Int.toNat_natCast] at hn x1 x2 b1 b2
        generalize w.getD a 0 = x at *
        generalize w.getD b 0 = y at *
        clear hb hx hr ha
        (focus (refine wkad (w_a e1 (w_a m1 (w_a e4 (w_a e3 (w_a m83 (w_a hls (w_a hgi (w_a hwi (w_a x1 (w_a x2 w_t)))))))))) w_t w_t ?_; (repeat' first | exact w_t | apply w_l); all_goals intros))
        exact ⟨i + 1, ⟨by omega, by exact gW e1, by exact gW m1, by exact gS, _, by exact gC, by rw [hn]; exact gC⟩, by omega⟩
      · by_cases k34 : k = 3 ∨ k = 4
        · obtain ⟨a, b, c, rfl, h1, h2, h3⟩ := ar3 (by rcases k34 with rfl | rfl <;> simpa using ha) hr
          have b1 := hb a
          have b2 := hb b
          have b3 := hb c
          have x1 := hx a h1
          have x2 := hx b h2
          have x3 := hx c h3
          rw [if_neg k2, if_pos k34] at hn
          simp only [gI, List.getD_cons_zero, List.getD_cons_succ, Int.toNat_natCast] at hn x1 x2 x3 b1 b2 b3
          generalize w.getD a 0 = x at *
          generalize w.getD b 0 = y at *
          generalize w.getD c 0 = z at *
          clear hb hx hr ha k2
          rcases k34 with rfl | rfl
          all_goals
            (focus (refine wkad (w_a e1 (w_a m1 (w_a e4 (w_a e3 (w_a m83 (w_a hls (w_a hgi (w_a hwi (w_a x1 (w_a x2 (w_a x3 w_t))))))))))) w_t w_t ?_; (repeat' first | exact w_t | apply w_l); all_goals intros))
            exact ⟨i + 1, ⟨by omega, by exact gW e1, by exact gW m1, by exact gS, _, by exact gC, by rw [hn]; exact gC⟩, by omega⟩
        · rw [if_neg k2, if_neg k34] at hn
          by_cases k5 : k = 5
          · subst k5
            obtain ⟨a, b, rfl, h1, h2⟩ := ar2 (by simpa using ha) hr
            have b1 := hb a
            have b2 := hb b
            have x1 := hx a h1
            have x2 := hx b h2
            simp only [if_pos, gI, List.getD_cons_zero, List.getD_cons_succ, Int.toNat_natCast] at hn x1 x2 b1 b2
            generalize w.getD a 0 = x at *
            generalize w.getD b 0 = y at *
            clear hb hx hr ha k2 k34
            (focus (refine wkad (w_a e1 (w_a m1 (w_a e4 (w_a e3 (w_a m83 (w_a hls (w_a hgi (w_a hwi (w_a x1 (w_a x2 w_t)))))))))) w_t w_t ?_; (repeat' first | exact w_t | apply w_l); all_goals intros))
            exact ⟨i + 1, ⟨by omega, by exact gW e1, by exact gW m1, by exact gS, _, by exact gC, by rw [hn]; exact gC⟩, by omega⟩
          · have k3 : ¬ k = 3 := fun h => k34 (.inl h)
            have k4 : ¬ k = 4 := fun h => k34 (.inr h)
            rw [if_neg k5] at hn
            clear hb hx hr ha k34
            (focus (refine wkad (w_a e1 (w_a m1 (w_a e4 (w_a e3 (w_a m83 (w_a hls (w_a hgi (w_a hwi w_t)))))))) w_t w_t ?_; (repeat' first | exact w_t | apply w_l); all_goals intros))
            exact ⟨i + 1, ⟨by omega, by exact gW e1, by exact gW m1, by exact gS, _, by exact gC, by rw [hn]; exact gC⟩, by omega⟩
    · have hin : i = ss.length := by omega
      subst hin
      clear hws hg hok hbd
      have hwi := hwl ss.length
      generalize (wts ss ss.length).map iv = W at *
      (focus (refine wkld (w_a e1 (w_a m1 (w_a e4 (w_a e3 (w_a m83 (w_a hls (w_a hwi w_t))))))) w_t (w_a m83 w_t) w_t ?_; (repeat' first | exact w_t | apply w_l); all_goals intros))
  · exact ⟨Nat.zero_le _, by exact gC, by exact gC, by exact gC, _, by exact gC, by (simp (disch := omega) only [go_sem, wts, List.map_nil] <;> repeat' first | rfl | refine ⟨?_, ?_⟩)⟩
def thinG (w : List Int) (g : RG) : Bool := !(decide (g.k = 6) || decide (g.k = 7)) || g.ar.all fun a => decide (gI w a.toNat ≤ 3)
theorem all_take {α : Type} {p : α → Bool} {l : List α} (h : ∀ j (hj : j < l.length), p l[j] = true) : l.all p = true := all_of h
set_option maxHeartbeats 8000000 in
theorem rlThin (ss : List RS) (gs : List RG) (hl : ss.length ≤ 8) (hlg : gs.length ≤ 1000) (he : ∀ i, i < ss.length → errS ss i = 0) (heg : ∀ g ∈ gs, g.ar.length ≤ 100 ∧ ∀ k, k < g.ar.length → 0 ≤ gI g.ar k ∧ gI g.ar k < (ss.length : Int)) : Pure Tryz.prog 81 [figA ss gs] (.v (.bool (thinB ss gs))) := by
  have cw : Pure Tryz.prog 151 [.agg [.sl 6 (ss.map RS.av), .sl 5 (gs.map RG.av)]] (.sl 1 ((wts ss ss.length).map iv)) := rlWeights ss gs hl he
  have hlen := wts_len ss ss.length
  have hbd : ∀ n, 0 ≤ gI (wts ss ss.length) n ∧ gI (wts ss ss.length) n ≤ 6561 := fun n => by
    have := wts_bd ss ss.length n
    have h3 : (3 ^ ss.length : Nat) ≤ 3 ^ 8 := Nat.pow_le_pow_right (by omega) hl
    omega
  have hg : ∀ i (h : i < gs.length), (gs.map RG.av).getD i .u = gs[i].av := fun i h => map_atB RG.av h
  have hlm : (gs.map RG.av).length = gs.length := List.length_map ..
  show Pure _ _ [.agg [.sl 6 (ss.map RS.av), .sl 5 (gs.map RG.av)]] _
  have hT : thinB ss gs = ((wts ss ss.length).all (fun w => decide (w ≤ 8)) && gs.all (thinG (wts ss ss.length))) := rfl
  rw [hT]
  have hx : ∀ a, a < ss.length → ((wts ss ss.length).map iv).getD a .u = iv (gI (wts ss ss.length) a) := fun a h => wts_at h
  clear hT
  generalize ss.map RS.av = M at *
  generalize gs.map RG.av = N at *
  generalize wts ss ss.length = w at *
  generalize ss.length = n at *
  have hwl : (w.map iv).length = n := by rw [List.length_map, hlen]
  generalize hW : w.map iv = W at *
  refine pure_intro (tok := 0) Tryz.func81 rfl Tryz.ntmps81 Tryz.results81 Tryz.call81 (by rfl) (by simp) ?_
  (focus (refine wkap w_t (w_a cw w_t) (w_r 0) ?_; (repeat' first | exact w_t | apply w_l); all_goals intros))
  rename_i g1
  refine r_loopE (ι := Nat) (fun i e m => i ≤ n ∧ e 1 = .pbox 1 g1 0 ∧ m 1 = some (.box g1 25 [.sl 6 M, .sl 5 N] false) ∧ e 3 = .sl 1 W ∧ e 4 = iv i ∧ ∀ j, j < i → gI w j ≤ 8) (fun i => n - i) 0 (by rfl) ?_ ?_
  · rintro i e m ⟨hi, e1, m1, e3, e4, hj⟩
    by_cases hlt : i < n
    · have x1 := hx i hlt
      have b1 := hbd i
      have hgw : gI w i = w[i]'(by omega) := gI_at (by omega)
      by_cases h8 : 8 < gI w i
      · have : (w.all fun w => decide (w ≤ 8)) = false := all_at (i := i) (by omega) (by rw [← hgw]; simpa using h8)
        rw [this, Bool.false_and]
        generalize gI w i = x at *
        (focus (refine wklp (w_a e1 (w_a m1 (w_a e3 (w_a e4 (w_a hwl (w_a x1 w_t)))))) w_t w_t (w_r 0) ?_; (repeat' first | exact w_t | apply w_l); all_goals intros))
      · have hnx : ∀ j, j < i + 1 → gI w j ≤ 8 := fun j hjj => by
          by_cases e : j = i
          · rw [e]; omega
          · exact hj j (by omega)
        clear hj hgw
        generalize gI w i = x at *
        (focus (refine wkap (w_a e1 (w_a m1 (w_a e3 (w_a e4 (w_a hwl (w_a x1 w_t)))))) w_t (w_r 0) ?_; (repeat' first | exact w_t | apply w_l); all_goals intros))
        exact ⟨i + 1, ⟨by omega, by exact gW e1, by exact gW m1, by exact gW e3, by exact gS, hnx⟩, by omega⟩
    · have hin : n = i := by omega
      subst hin
      have : (w.all fun w => decide (w ≤ 8)) = true := all_take fun j hjj => by have := hj j (by omega); rw [gI_at hjj] at this; simpa using this
      rw [this, Bool.true_and]
      clear hj
      (focus (refine wkap (w_a e1 (w_a m1 (w_a e3 (w_a e4 (w_a hwl w_t))))) w_t (w_r 0) ?_; (repeat' first | exact w_t | apply w_l); all_goals intros))
      refine r_loopE (ι := Nat) (fun i e m => i ≤ gs.length ∧ e 1 = .pbox 1 g1 0 ∧ m 1 = some (.box g1 25 [.sl 6 M, .sl 5 N] false) ∧ e 3 = .sl 1 W ∧ e 5 = iv i ∧ ∀ j (hj : j < gs.length), j < i → thinG w gs[j] = true) (fun i => gs.length - i) 0 (by rfl) ?_ ?_
      · rintro i e m ⟨hi, e1, m1, e3, e5, hj⟩
        by_cases hlt : i < gs.length
        · have hgi := hg i hlt
          obtain ⟨ha, hr⟩ := heg _ (List.getElem_mem hlt)
          have hno : thinG w gs[i] = false → gs.all (thinG w) = false := fun h => all_at hlt h
          have hnx : thinG w gs[i] = true → ∀ j (hj : j < gs.length), j < i + 1 → thinG w gs[j] = true := fun h j hjj h2 => by
            by_cases e : j = i
            · subst e; exact h
            · exact hj j hjj (by omega)
          clear hj hg heg
          generalize gs.all (thinG w) = v at *
          generalize gs[i] = g at *
          obtain ⟨k, ar, ⟨rs, rl, rd⟩⟩ := g
          simp only at *
          have hla : (ar.map iv).length = ar.length := List.length_map ..
          have hga : ∀ j (h : j < ar.length), (ar.map iv).getD j .u = iv ar[j] := fun j h => map_atB iv h
          (focus (refine wkap (w_a e1 (w_a m1 (w_a e3 (w_a e5 (w_a hlm (w_a hgi w_t)))))) w_t (w_r 0) ?_; (repeat' first | exact w_t | apply w_l); all_goals intros))
          rename_i g6
          refine r_loopE (ι := Nat) (fun y e m => y ≤ ar.length ∧ e 1 = .pbox 1 g1 0 ∧ m 1 = some (.box g1 25 [.sl 6 M, .sl 5 N] false) ∧ e 3 = .sl 1 W ∧ e 5 = iv i ∧ e 6 = .pbox 6 g6 0 ∧ m 6 = some (.box g6 124 [iv k, ivs ar, .v (.bool rs), lim rl, lim rd] false) ∧ e 7 = iv y ∧ ((k = 6 ∨ k = 7) → ∀ j (hj : j < ar.length), j < y → gI w ar[j].toNat ≤ 3)) (fun y => ar.length - y) 0 (by rfl) ?_ ?_
          · rintro y e m ⟨hy, e1, m1, e3, e5, e6, m6, e7, hq⟩
            by_cases hly : y < ar.length
            · have hgy := hga y hly
              have hry := hr y hly
              rw [gI_at hly] at hry
              obtain ⟨a, hae⟩ : ∃ a : Nat, ar[y] = a := ⟨ar[y].toNat, by omega⟩
              have han : a < n := by omega
              have hxa := hx a han
              have hba := hbd a
              rw [hae] at hgy
              by_cases hk : k = 6 ∨ k = 7
              · by_cases h3 : 3 < gI w a
                · have : thinG w ⟨k, ar, ⟨rs, rl, rd⟩⟩ = false := by
                    unfold thinG
                    have h1 : (decide (k = 6) || decide (k = 7)) = true := by simpa using hk
                    have h2 : (ar.all fun a => decide (gI w a.toNat ≤ 3)) = false := all_at hly (by rw [hae, Int.toNat_natCast]; simpa using h3)
                    simp only [h1, h2]; rfl
                  rw [hno this]
                  clear hq hno hnx hga hr hx hbd this
                  generalize gI w a = x at *
                  rcases hk with rfl | rfl
                  all_goals
                    (focus (refine wklp (w_a e1 (w_a m1 (w_a e3 (w_a e5 (w_a e6 (w_a m6 (w_a e7 (w_a hla (w_a hgy (w_a hwl (w_a hxa w_t))))))))))) w_t w_t (w_r 0) ?_; (repeat' first | exact w_t | apply w_l); all_goals intros))
                · have hq2 : ∀ j (hj : j < ar.length), j < y + 1 → gI w ar[j].toNat ≤ 3 := fun j hjj h2 => by
                    by_cases e : j = y
                    · subst e; rw [hae, Int.toNat_natCast]; omega
                    · exact hq hk j hjj (by omega)
                  clear hq hno hnx hga hr hx hbd
                  generalize gI w a = x at *
                  rcases hk with rfl | rfl
                  all_goals
                    (focus (refine wkap (w_a e1 (w_a m1 (w_a e3 (w_a e5 (w_a e6 (w_a m6 (w_a e7 (w_a hla (w_a hgy (w_a hwl (w_a hxa w_t))))))))))) w_t (w_r 0) ?_; (repeat' first | exact w_t | apply w_l); all_goals intros))
                    exact ⟨y + 1, ⟨by omega, by exact gW e1, by exact gW m1, by exact gW e3, by exact gW e5, by exact gW e6, by exact gW m6, by exact gS, fun _ => hq2⟩, by omega⟩
              · have k6 : ¬ k = 6 := fun h => hk (.inl h)
                have k7 : ¬ k = 7 := fun h => hk (.inr h)
                clear hq hno hnx hga hr hx hbd
                (focus (refine wkap (w_a e1 (w_a m1 (w_a e3 (w_a e5 (w_a e6 (w_a m6 (w_a e7 (w_a hla w_t)))))))) w_t (w_r 0) ?_; (repeat' first | exact w_t | apply w_l); all_goals intros))
                exact ⟨y + 1, ⟨by omega, by exact gW e1, by exact gW m1, by exact gW e3, by exact gW e5, by exact gW e6, by exact gW m6, by exact gS, fun h => absurd h hk⟩, by omega⟩
            · have : thinG w ⟨k, ar, ⟨rs, rl, rd⟩⟩ = true := by
                unfold thinG
                by_cases hk : k = 6 ∨ k = 7
                · have h2 : (ar.all fun a => decide (gI w a.toNat ≤ 3)) = true := all_take fun j hjj => by have := hq hk j hjj (by omega); simpa using this
                  simp only [h2, Bool.or_true]
                · have h1 : (decide (k = 6) || decide (k = 7)) = false := by simpa using hk
                  simp only [h1]; rfl
              have := hnx this
              clear hq hno hnx hga hr hx hbd
              (focus (refine wkap (w_a e1 (w_a m1 (w_a e3 (w_a e5 (w_a e6 (w_a m6 (w_a e7 (w_a hla w_t)))))))) w_t (w_r 0) ?_; (repeat' first | exact w_t | apply w_l); all_goals intros))
              exact ⟨i + 1, ⟨by omega, by exact gW e1, by exact gW m1, by exact gW e3, by exact gS, this⟩, by omega⟩
          · exact ⟨Nat.zero_le _, by exact gW e1, by exact gW m1, by exact gW e3, by exact gW e5, by exact gC, by exact gC, by exact gC, fun _ j _ h => by omega⟩
        · have : gs.all (thinG w) = true := all_take fun j hjj => hj j hjj (by omega)
          rw [this]
          clear hj hg heg hx hbd
          (focus (refine wklp (w_a e1 (w_a m1 (w_a e3 (w_a e5 (w_a hlm w_t))))) w_t w_t (w_r 0) ?_; (repeat' first | exact w_t | apply w_l); all_goals intros))
      · exact ⟨Nat.zero_le _, by exact gW e1, by exact gW m1, by exact gW e3, by exact gC, fun j _ h => by omega⟩
  · exact ⟨Nat.zero_le _, by exact gC, by exact gC, by exact gC, by exact gC, fun j h => by omega⟩
/-! ### the figures of few terms -/
theorem arG_le (k : Int) : arG k ≤ 8 := by
  unfold arG
  repeat' split
  all_goals omega
theorem figE_goals {ss : List RS} {gs : List RG} (h : figE ss gs = 0) : ∀ g ∈ gs, g.ar.length ≤ 100 ∧ ∀ k, k < g.ar.length → 0 ≤ gI g.ar k ∧ gI g.ar k < (ss.length : Int) := fun g hg => by
  unfold figE at h
  split at h
  · omega
  · split at h
    · rename_i h2; exact absurd h h2
    · obtain ⟨j, hj, rfl⟩ := List.mem_iff_getElem.1 hg
      have h1 := fstE_all h j hj
      rw [show gs.getD j ⟨0, [], ⟨false, [], []⟩⟩ = gs[j] from by rw [List.getD_eq_getElem?_getD, List.getElem?_eq_getElem hj]; rfl] at h1
      have hle := arG_le gs[j].k
      generalize gs[j] = g at *
      unfold errG at h1
      split at h1
      · omega
      · split at h1
        · omega
        · split at h1
          · omega
          · rename_i h2 h3 h4
            exact ⟨by omega, fun k hk => outB_in (by simpa using h4) hk⟩
theorem figE_steps {ss : List RS} {gs : List RG} (h : figE ss gs = 0) : ∀ i, i < ss.length → errS ss i = 0 := by
  unfold figE at h
  split at h
  · omega
  · split at h
    · rename_i h2; exact absurd h h2
    · rename_i h2
      exact fstE_all (Decidable.byContradiction fun h3 => h2 h3)
set_option maxHeartbeats 8000000 in
theorem rlFew (ss : List RS) (gs : List RG) (cR : Pure Tryz.prog 24 [figA ss gs] (iv (figE ss gs))) : Pure Tryz.prog 34 [figA ss gs] (.v (.bool (fewB ss gs))) := by
  have cR : Pure Tryz.prog 24 [.agg [.sl 6 (ss.map RS.av), .sl 5 (gs.map RG.av)]] (iv (figE ss gs)) := cR
  have hls : (ss.map RS.av).length = ss.length := List.length_map ..
  have hlg : (gs.map RG.av).length = gs.length := List.length_map ..
  have hgS : ∀ i (h : i < ss.length), (ss.map RS.av).getD i .u = ss[i].av := fun i h => map_atB RS.av h
  have hgG : ∀ i (h : i < gs.length), (gs.map RG.av).getD i .u = gs[i].av := fun i h => map_atB RG.av h
  have cT : ss.length ≤ 8 → gs.length ≤ 3 → figE ss gs = 0 → Pure Tryz.prog 81 [.agg [.sl 6 (ss.map RS.av), .sl 5 (gs.map RG.av)]] (.v (.bool (thinB ss gs))) := fun a b h => rlThin ss gs a (by omega) (figE_steps h) (figE_goals h)
  show Pure _ _ [.agg [.sl 6 (ss.map RS.av), .sl 5 (gs.map RG.av)]] _
  unfold fewB
  have noS : ∀ i (h : i < ss.length), rat2 ss[i].r = false → (ss.all fun s => rat2 s.r) = false := fun i h e => all_at h e
  have noG : ∀ i (h : i < gs.length), rat2 gs[i].r = false → (gs.all fun s => rat2 s.r) = false := fun i h e => all_at h e
  have yeS : (∀ i (h : i < ss.length), rat2 ss[i].r = true) → (ss.all fun s => rat2 s.r) = true := fun e => all_take e
  have yeG : (∀ i (h : i < gs.length), rat2 gs[i].r = true) → (gs.all fun s => rat2 s.r) = true := fun e => all_take e
  generalize (ss.all fun s => rat2 s.r) = vS at *
  generalize (gs.all fun s => rat2 s.r) = vG at *
  generalize thinB ss gs = vT at *
  generalize figE ss gs = z at *
  generalize ss.map RS.av = M at *
  generalize gs.map RG.av = N at *
  by_cases h8 : ss.length ≤ 8
  · by_cases h3 : gs.length ≤ 3
    · rw [decide_eq_true h8, decide_eq_true h3, Bool.true_and, Bool.true_and]
      by_cases hz : z = 0
      · subst hz
        have cT := cT h8 h3 rfl
        rw [decide_eq_true rfl, Bool.true_and]
        cases vT with
        | false =>
          rw [Bool.false_and]
          refine pure_intro (tok := 0) Tryz.func34 rfl Tryz.ntmps34 Tryz.results34 Tryz.call34 (by rfl) (by simp) ?_
          (focus (refine wklp (w_a hls (w_a hlg w_t)) (w_a cR (w_a cT w_t)) w_t (w_r 0) ?_; (repeat' first | exact w_t | apply w_l); all_goals intros))
        | true =>
          rw [Bool.true_and]
          refine pure_intro (tok := 0) Tryz.func34 rfl Tryz.ntmps34 Tryz.results34 Tryz.call34 (by rfl) (by simp) ?_
          (focus (refine wkap (w_a hls (w_a hlg w_t)) (w_a cR (w_a cT w_t)) (w_r 0) ?_; (repeat' first | exact w_t | apply w_l); all_goals intros))
          rename_i g1
          clear cR cT
          refine r_loopE (ι := Nat) (fun i e m => i ≤ ss.length ∧ e 1 = .pbox 1 g1 0 ∧ m 1 = some (.box g1 25 [.sl 6 M, .sl 5 N] false) ∧ e 3 = iv i ∧ ∀ j (h : j < ss.length), j < i → rat2 ss[j].r = true) (fun i => ss.length - i) 0 (by rfl) ?_ ?_
          · rintro i e m ⟨hi, e1, m1, e3, hj⟩
            by_cases hlt : i < ss.length
            · have hg := hgS i hlt
              have no := noS i hlt
              have nx : rat2 ss[i].r = true → ∀ j (h : j < ss.length), j < i + 1 → rat2 ss[j].r = true := fun h j hjj h2 => by
                by_cases e : j = i
                · subst e; exact h
                · exact hj j hjj (by omega)
              clear hj noS yeS hgS hgG noG yeG
              unfold rat2 at no nx
              generalize ss[i] = s at *
              obtain ⟨k, nm, ar, ⟨rs, rl, rd⟩⟩ := s
              simp only at *
              by_cases a1 : rl.length ≤ 2 ∧ rd.length ≤ 2
              · have := nx (by simp [a1.1, a1.2])
                obtain ⟨a1, a2⟩ := a1
                clear nx no
                (focus (refine wkap (w_a e1 (w_a m1 (w_a e3 (w_a hls (w_a hg (w_a @u16s_len w_t)))))) w_t (w_r 0) ?_; (repeat' first | exact w_t | apply w_l); all_goals intros))
                exact ⟨i + 1, ⟨by omega, by exact gW e1, by exact gW m1, by exact gS, this⟩, by omega⟩
              · rw [no (by simp only [Bool.and_eq_false_iff, decide_eq_false_iff_not]; omega), Bool.false_and]
                clear nx no
                (focus (refine wkap (w_a e1 (w_a m1 (w_a e3 (w_a hls (w_a hg (w_a @u16s_len w_t)))))) w_t (w_r 0) ?_; (repeat' first | exact w_t | apply w_l); all_goals intros))
                all_goals first | ((all_goals (try simp (disch := omega) only [go_sem, decide_eq_true, decide_eq_false, if_pos, if_neg, Int.reduceAdd, Int.reduceSub, Int.reduceToNat, Int.zero_add])); (all_goals first | done | rfl | (congr 2; first | done | omega | (rw [Bool.eq_iff_iff]; simp only [bool_to_prop, Bool.false_eq_true, iff_true, true_iff, iff_false, false_iff]; omega)) | skip)) | omega
            · rw [yeS fun j h => hj j h (by omega), Bool.true_and]
              clear hj noS yeS hgS
              (focus (refine wkap (w_a e1 (w_a m1 (w_a e3 (w_a hls w_t)))) w_t (w_r 0) ?_; (repeat' first | exact w_t | apply w_l); all_goals intros))
              refine r_loopE (ι := Nat) (fun i e m => i ≤ gs.length ∧ e 1 = .pbox 1 g1 0 ∧ m 1 = some (.box g1 25 [.sl 6 M, .sl 5 N] false) ∧ e 4 = iv i ∧ ∀ j (h : j < gs.length), j < i → rat2 gs[j].r = true) (fun i => gs.length - i) 0 (by rfl) ?_ ?_
              · rintro i e m ⟨hi, e1, m1, e4, hj⟩
                by_cases hlt : i < gs.length
                · have hg := hgG i hlt
                  have no := noG i hlt
                  have nx : rat2 gs[i].r = true → ∀ j (h : j < gs.length), j < i + 1 → rat2 gs[j].r = true := fun h j hjj h2 => by
                    by_cases e : j = i
                    · subst e; exact h
                    · exact hj j hjj (by omega)
                  clear hj hgG noG yeG
                  unfold rat2 at no nx
                  generalize gs[i] = s at *
                  obtain ⟨k, ar, ⟨rs, rl, rd⟩⟩ := s
                  simp only at *
                  by_cases a1 : rl.length ≤ 2 ∧ rd.length ≤ 2
                  · have := nx (by simp [a1.1, a1.2])
                    obtain ⟨a1, a2⟩ := a1
                    clear nx no
                    (focus (refine wkap (w_a e1 (w_a m1 (w_a e4 (w_a hlg (w_a hg (w_a @u16s_len w_t)))))) w_t (w_r 0) ?_; (repeat' first | exact w_t | apply w_l); all_goals intros))
                    exact ⟨i + 1, ⟨by omega, by exact gW e1, by exact gW m1, by exact gS, this⟩, by omega⟩
                  · rw [no (by simp only [Bool.and_eq_false_iff, decide_eq_false_iff_not]; omega)]
                    clear nx no
                    (focus (refine wkap (w_a e1 (w_a m1 (w_a e4 (w_a hlg (w_a hg (w_a @u16s_len w_t)))))) w_t (w_r 0) ?_; (repeat' first | exact w_t | apply w_l); all_goals intros))
                    all_goals first | ((all_goals (try simp (disch := omega) only [go_sem, decide_eq_true, decide_eq_false, if_pos, if_neg, Int.reduceAdd, Int.reduceSub, Int.reduceToNat, Int.zero_add])); (all_goals first | done | rfl | (congr 2; first | done | omega | (rw [Bool.eq_iff_iff]; simp only [bool_to_prop, Bool.false_eq_true, iff_true, true_iff, iff_false, false_iff]; omega)) | skip)) | omega
                · rw [yeG fun j h => hj j h (by omega)]
                  clear hj hgG noG yeG
                  (focus (refine wklp (w_a e1 (w_a m1 (w_a e4 (w_a hlg w_t)))) w_t w_t (w_r 0) ?_; (repeat' first | exact w_t | apply w_l); all_goals intros))
              · exact ⟨Nat.zero_le _, by exact gW e1, by exact gW m1, by exact gC, fun j h h2 => by omega⟩
          · exact ⟨Nat.zero_le _, by exact gC, by exact gC, by exact gC, fun j h h2 => by omega⟩
      · rw [decide_eq_false hz, Bool.false_and]
        clear cT
        refine pure_intro (tok := 0) Tryz.func34 rfl Tryz.ntmps34 Tryz.results34 Tryz.call34 (by rfl) (by simp) ?_
        (focus (refine wklp (w_a hls (w_a hlg (w_a hz w_t))) (w_a cR w_t) w_t (w_r 0) ?_; (repeat' first | exact w_t | apply w_l); all_goals intros))
    · rw [decide_eq_true h8, decide_eq_false h3, Bool.true_and, Bool.false_and]
      clear cT
      refine pure_intro (tok := 0) Tryz.func34 rfl Tryz.ntmps34 Tryz.results34 Tryz.call34 (by rfl) (by simp) ?_
      (focus (refine wklp (w_a hls (w_a hlg w_t)) (w_a cR w_t) w_t (w_r 0) ?_; (repeat' first | exact w_t | apply w_l); all_goals intros))
  · rw [decide_eq_false h8, Bool.false_and]
    clear cT
    refine pure_intro (tok := 0) Tryz.func34 rfl Tryz.ntmps34 Tryz.results34 Tryz.call34 (by rfl) (by simp) ?_
    (focus (refine wklp (w_a hls (w_a hlg w_t)) (w_a cR w_t) w_t (w_r 0) ?_; (repeat' first | exact w_t | apply w_l); all_goals intros))
end Go.Proofs.YtbgmnobnaplmlaaGreat
end

section
namespace Go.Proofs.YtbgmnobnaplmlaaGreat
open Go Go.RowKit Go.Pg Go.Pol
set_option linter.unusedSimpArgs false
set_option linter.unusedVariables false
set_option maxRecDepth 20000
attribute [local go_sem] Tryz.underlying3 Tryz.underlying4 Tryz.underlying178 Tryz.underlying9 Tryz.underlying48 Tryz.underlying31 Tryz.underlying43 Tryz.underlying41 Tryz.underlying39 Tryz.underlying50 Tryz.underlying22 Tryz.underlying25 Tryz.underlying56 Tryz.underlying28 Tryz.underlying72 Tryz.underlying27 Tryz.underlying30 Tryz.underlying105 Tryz.underlying107 Tryz.underlying70 Tryz.underlying63 Tryz.underlying103 Tryz.underlying154 sz3 by3 z3 szB zB szErr zErr szStr byStr zStr szRat zRat szInt zInt szNat zNat szStep byStep zStep szFig zFig szSlI zSlI szSlS zSlS szVar byVar zVar szSlV zSlV szCoord byCoord zCoord szSlC zSlC szFrame zFrame szCBld byCBld zCBld szCVec byCVec zCVec szPoly byPoly zPoly szTerm zTerm szPtrB zPtrB szFnC zFnC
attribute [-bool_to_prop] Bool.and_eq_decide Bool.or_eq_decide Bool.decide_beq_decide decide_eq_decide
theorem Sub.tup2 {a b a' b' : AV} (h : Sub a a') (k : Sub b b') : Sub (.tup [a, b]) (.tup [a', b']) := Sub.tup _ _ rfl fun j x y h1 h2 => by
  match j with
  | 0 => simp at h1 h2; subst h1; subst h2; exact h
  | 1 => simp at h1 h2; subst h1; subst h2; exact k
  | j + 2 => simp at h1
theorem Agr.re {m σ : Mem} {t k : Nat} {e1 e e' : Ent} (h : Agr m (upd σ k (some e1))) (ht : t = k + 1000) (he : e' = e.sh) : Agr (upd m t (some e')) (upd σ k (some e)) := by
  have := h.put (k := k) (e := e) ht he
  rwa [upd_over] at this
/-- A frame's handles under other names. -/
theorem Sub.frame (KC KV KC' KV' : Nat) (svC svV : Value) : Sub (.agg [.own KC svC, .own KV svV]) (.agg [.own KC' svC, .own KV' svV]) := Sub.agg2 (Sub.own _ _ _) (Sub.own _ _ _)
set_option maxHeartbeats 2000000 in
theorem rcParam (σ : Mem) (KC KV : Nat) (svC svV : Value) (vs : List Vt) (kind step number : Int) (hV : σ KV = some (.row svV 56 3 (vs.map Vt.av) 0)) (hl : vs.length ≤ 200) :
    ACall Tryz.prog 118 [.agg [.own KC svC, .own KV svV], iv kind, iv step, iv number] σ fun r σ' => ∃ sv, r = .tup [.agg [.own KC svC, .own KV sv], poA (varM vs.length)] ∧ σ' = upd σ KV (some (.row sv 56 3 ((vs ++ [(kind, step, number)]).map Vt.av) 0)) := by
  have mV := lents_at hV
  have cv := rpVar vs.length (by omega)
  have hln : (vs.map Vt.av).length = vs.length := List.length_map ..
  have hm1 : ((vs.length + 1 : Nat) : Int) - 1 = (vs.length : Int) := by omega
  simp only [Ent.sh, AV.shL, AV.sh] at mV
  simp only [List.map_append, List.map_cons, List.map_nil]
  refine acall_lents Tryz.func118 rfl Tryz.ntmps118 Tryz.results118 Tryz.call118 (by rfl) (by simp) ?_
  (focus (refine wkad (w_a mV (w_a hln (w_a hm1 (w_a @l_app (w_a @lents_lt (w_a @lents_beq w_t)))))) (w_a cv w_t) (w_a (w_d 2 [(5, poA (varM vs.length))] [] [8]) w_t) ?_; (repeat' first | exact w_t | apply w_l); all_goals intros))
  simp (disch := omega) only [go_sem]
  rename_i sv1
  refine backS (Sub.tup2 (Sub.frame _ _ _ _ _ _) (Sub.refl _)) ⟨sv1, rfl, rfl⟩ ?_
  (repeat (refine Agr.own ?_ (by omega)))
  refine Agr.put ?_ rfl rfl
  (repeat' (first | exact Agr.start _ | (refine Agr.own ?_ (by omega))))
set_option maxHeartbeats 4000000 in
theorem rcFree (σ : Mem) (KC KV : Nat) (svC svV : Value) (vs : List Vt) (i fr : Nat) (hV : σ KV = some (.row svV 56 3 (vs.map Vt.av) 0)) (hl : vs.length ≤ 100) (hf : fr ≤ 1000) :
    ACall Tryz.prog 114 [.agg [.own KC svC, .own KV svV], iv i, iv fr] σ fun r σ' => ∃ sv, r = .tup [.agg [.own KC svC, .own KV sv], coA (if fr = 0 then ([], []) else if fr = 1 then (varM vs.length, []) else (varM vs.length, varM (vs.length + 1)))] ∧
      σ' = upd σ KV (some (.row sv 56 3 ((vs ++ (if fr = 0 then [] else if fr = 1 then [(1, (i : Int), 0)] else [(1, (i : Int), 0), (1, (i : Int), 1)])).map Vt.av) 0)) := by
  have mV := lents_at hV
  simp only [Ent.sh, AV.shL, AV.sh] at mV
  by_cases h0 : fr = 0
  · subst h0
    simp only [if_true, List.append_nil]
    refine acall_lents Tryz.func114 rfl Tryz.ntmps114 Tryz.results114 Tryz.call114 (by rfl) (by simp) ?_
    (focus (refine wkad (w_a mV w_t) w_t (w_a (w_d 6 [] [] [6, 7]) w_t) ?_; (repeat' first | exact w_t | apply w_l); all_goals intros))
    simp (disch := omega) only [go_sem]
    refine backS (Sub.tup2 (Sub.frame _ _ _ _ _ _) (Sub.agg2 (Sub.nil 4) (Sub.nil 4))) ⟨svV, rfl, rfl⟩ ?_
    rw [upd_same' hV]
    (repeat' (first | exact Agr.start _ | (refine Agr.own ?_ (by omega))))
  · by_cases h1 : fr = 1
    · subst h1
      simp only [if_neg h0, if_true]
      refine acall_lents Tryz.func114 rfl Tryz.ntmps114 Tryz.results114 Tryz.call114 (by rfl) (by simp) ?_
      (focus (refine wkad (w_a mV w_t) w_t w_t ?_; (repeat' first | exact w_t | apply w_l); all_goals intros))
      refine o_fresh (rcParam _ (KC + 1000) (KV + 1000) svC svV vs 1 (i : Int) 0 (by (simp (disch := omega) only [go_sem, mV, if_neg, if_pos, List.map_append, List.map_cons, List.map_nil] <;> repeat' first | rfl | refine ⟨?_, ?_⟩)) (by first | omega | (simp; omega))) ?_
      intro sv1
      (focus (refine wkad (w_a mV w_t) w_t (w_a (w_d 6 [] [] [6, 7]) w_t) ?_; (repeat' first | exact w_t | apply w_l); all_goals intros))
      simp (disch := omega) only [go_sem]
      refine backS (Sub.tup2 (Sub.frame _ _ _ _ _ _) (Sub.agg2 (Sub.refl _) (Sub.nil 4))) ⟨sv1, rfl, rfl⟩ ?_
      simp only [List.map_append, List.map_cons, List.map_nil]
      (repeat (refine Agr.own ?_ (by omega)))
      refine Agr.put ?_ rfl rfl
      (repeat' (first | exact Agr.start _ | (refine Agr.own ?_ (by omega))))
    · simp only [if_neg h0, if_neg h1]
      have hl1 : (vs ++ [((1 : Int), (i : Int), (0 : Int))]).length = vs.length + 1 := by simp
      refine acall_lents Tryz.func114 rfl Tryz.ntmps114 Tryz.results114 Tryz.call114 (by rfl) (by simp) ?_
      (focus (refine wkad (w_a mV w_t) w_t w_t ?_; (repeat' first | exact w_t | apply w_l); all_goals intros))
      refine o_fresh (rcParam _ (KC + 1000) (KV + 1000) svC svV vs 1 (i : Int) 0 (by (simp (disch := omega) only [go_sem, mV, if_neg, if_pos, List.map_append, List.map_cons, List.map_nil] <;> repeat' first | rfl | refine ⟨?_, ?_⟩)) (by first | omega | (simp; omega))) ?_
      intro sv1
      (focus (refine wkad (w_a mV w_t) w_t w_t ?_; (repeat' first | exact w_t | apply w_l); all_goals intros))
      refine o_fresh (rcParam _ (KC + 1000) (KV + 1000) svC sv1 (vs ++ [(1, (i : Int), 0)]) 1 (i : Int) 1 (by (simp (disch := omega) only [go_sem, mV, if_neg, if_pos, List.map_append, List.map_cons, List.map_nil] <;> repeat' first | rfl | refine ⟨?_, ?_⟩)) (by first | omega | (simp; omega))) ?_
      intro sv2
      (focus (refine wkad (w_a mV (w_a hl1 w_t)) w_t (w_a (w_d 6 [] [] [6, 7]) w_t) ?_; (repeat' first | exact w_t | apply w_l); all_goals intros))
      simp (disch := omega) only [go_sem, hl1]
      refine backS (Sub.tup2 (Sub.frame _ _ _ _ _ _) (Sub.refl _)) ⟨sv2, rfl, rfl⟩ ?_
      simp only [List.append_assoc, List.cons_append, List.nil_append]
      (repeat (refine Agr.own ?_ (by omega)))
      refine Agr.re (e1 := .row sv1 56 3 ((vs ++ [(1, (i : Int), 0)]).map Vt.av) 0) ?_ rfl rfl
      (repeat (refine Agr.own ?_ (by omega)))
      refine Agr.put ?_ rfl rfl
      (repeat' (first | exact Agr.start _ | (refine Agr.own ?_ (by omega))))
set_option maxHeartbeats 4000000 in
theorem rcDep (σ : Mem) (KC KV : Nat) (svC svV : Value) (vs : List Vt) (i : Nat) (num : Int) (hV : σ KV = some (.row svV 56 3 (vs.map Vt.av) 0)) (hl : vs.length ≤ 100) (hn : 0 ≤ num ∧ num ≤ 10) :
    ACall Tryz.prog 119 [.agg [.own KC svC, .own KV svV], iv i, iv num] σ fun r σ' => ∃ sv, r = .tup [.agg [.own KC svC, .own KV sv], coA (varM vs.length, varM (vs.length + 1))] ∧
      σ' = upd σ KV (some (.row sv 56 3 ((vs ++ [(2, (i : Int), num), (2, (i : Int), num + 1)]).map Vt.av) 0)) := by
  have mV := lents_at hV
  simp only [Ent.sh, AV.shL, AV.sh] at mV
  have hl1 : (vs ++ [((2 : Int), (i : Int), num)]).length = vs.length + 1 := by simp
  refine acall_lents Tryz.func119 rfl Tryz.ntmps119 Tryz.results119 Tryz.call119 (by rfl) (by simp) ?_
  (focus (refine wkad (w_a mV w_t) w_t w_t ?_; (repeat' first | exact w_t | apply w_l); all_goals intros))
  refine o_fresh (rcParam _ (KC + 1000) (KV + 1000) svC svV vs 2 (i : Int) num (by (simp (disch := omega) only [go_sem, mV, if_neg, if_pos, List.map_append, List.map_cons, List.map_nil] <;> repeat' first | rfl | refine ⟨?_, ?_⟩)) (by first | omega | (simp; omega))) ?_
  intro sv1
  (focus (refine wkad (w_a mV w_t) w_t w_t ?_; (repeat' first | exact w_t | apply w_l); all_goals intros))
  refine o_fresh (rcParam _ (KC + 1000) (KV + 1000) svC sv1 (vs ++ [(2, (i : Int), num)]) 2 (i : Int) (num + 1) (by (simp (disch := omega) only [go_sem, mV, if_neg, if_pos, List.map_append, List.map_cons, List.map_nil] <;> repeat' first | rfl | refine ⟨?_, ?_⟩)) (by first | omega | (simp; omega))) ?_
  intro sv2
  (focus (refine wkad (w_a mV (w_a hl1 w_t)) w_t (w_a (w_d 4 [] [] [6, 7]) w_t) ?_; (repeat' first | exact w_t | apply w_l); all_goals intros))
  simp (disch := omega) only [go_sem, hl1]
  refine backS (Sub.tup2 (Sub.frame _ _ _ _ _ _) (Sub.refl _)) ⟨sv2, rfl, rfl⟩ ?_
  simp only [List.append_assoc, List.cons_append, List.nil_append]
  (repeat (refine Agr.own ?_ (by omega)))
  refine Agr.re (e1 := .row sv1 56 3 ((vs ++ [(2, (i : Int), num)]).map Vt.av) 0) ?_ rfl rfl
  (repeat (refine Agr.own ?_ (by omega)))
  refine Agr.put ?_ rfl rfl
  (repeat' (first | exact Agr.start _ | (refine Agr.own ?_ (by omega))))
theorem rcAlong (a b : Po × Po) (m d1 d2 e1 e2 f1 f2 : Po) (s1 : Pure Tryz.prog 74 [poA b.1, poA a.1] (poA d1)) (s2 : Pure Tryz.prog 74 [poA b.2, poA a.2] (poA d2))
    (m1 : Pure Tryz.prog 72 [poA m, poA d1] (poA e1)) (m2 : Pure Tryz.prog 72 [poA m, poA d2] (poA e2)) (a1 : Pure Tryz.prog 80 [poA a.1, poA e1] (poA f1)) (a2 : Pure Tryz.prog 80 [poA a.2, poA e2] (poA f2)) :
    Pure Tryz.prog 115 [coA a, coA b, poA m] (coA (f1, f2)) := by
  obtain ⟨x1, x2⟩ := a
  obtain ⟨y1, y2⟩ := b
  simp only at *
  refine pure_intro (tok := 0) Tryz.func115 rfl Tryz.ntmps115 Tryz.results115 Tryz.call115 (by rfl) (by simp) ?_
  (focus (refine wkld w_t (w_a s1 (w_a s2 (w_a m1 (w_a m2 (w_a a1 (w_a a2 w_t)))))) w_t (w_a (w_d 1 [(7, poA d1), (8, poA e1), (9, poA f1), (17, poA d2), (18, poA e2), (19, poA f2)] [] [6]) w_t) ?_; (repeat' first | exact w_t | apply w_l); all_goals intros))
theorem rcPlus (p q r d f : Po) (s : Pure Tryz.prog 74 [poA q, poA r] (poA d)) (a : Pure Tryz.prog 80 [poA p, poA d] (poA f)) : Pure Tryz.prog 117 [poA p, poA q, poA r] (poA f) := by
  refine pure_intro (tok := 0) Tryz.func117 rfl Tryz.ntmps117 Tryz.results117 Tryz.call117 (by rfl) (by simp) ?_
  (focus (refine wklp w_t (w_a s (w_a a w_t)) w_t (w_r 0) ?_; (repeat' first | exact w_t | apply w_l); all_goals intros))
end Go.Proofs.YtbgmnobnaplmlaaGreat
end

section
namespace Go.Proofs.YtbgmnobnaplmlaaGreat
open Go Go.RowKit Go.Pg Go.Pol
set_option linter.unusedSimpArgs false
set_option linter.unusedVariables false
set_option maxRecDepth 20000
attribute [-bool_to_prop] Bool.and_eq_decide Bool.or_eq_decide Bool.decide_beq_decide decide_eq_decide
abbrev cstM (q : Rat) : Po := if q = 0 then [] else [(q, [])]
theorem cst_pk (q : Rat) {k : Nat} (h : Sz q k) : PK (cstM q) k 1 := by
  unfold cstM
  split
  · exact PK.nil
  · intro t ht
    rw [List.mem_singleton] at ht
    subst ht
    exact ⟨h, Nat.zero_le _, fun j => by rw [gI_out (Nat.zero_le _)]; omega⟩
theorem cst_srt (q : Rat) : SrtM (cstM q) := by
  unfold cstM
  split
  · exact .nil
  · rename_i h
    exact Srt.nil.cons h can_nil (by simp)
theorem cst_len (q : Rat) : (cstM q).length ≤ 1 := by
  unfold cstM
  split <;> simp
theorem cst_mul (q : Rat) {d : Po} (sd : SrtM d) : mlM (cstM q) d = sclM q d := by
  unfold sclM cstM
  by_cases h : q = 0
  · rw [if_pos h, if_pos h]; exact mulR_nil d
  · rw [if_neg h, if_neg h]; exact mul_const h sd
theorem PK.take {p : Po} {k e : Nat} (h : PK p k e) (i : Nat) : PK (p.take i) k e := fun t ht => h t (List.mem_of_mem_take ht)
theorem var_mul (v : Nat) {d : Po} (sd : SrtM d) : mlM (varM v) d = mlM d (varM v) := mulR_comm ordM mulK (varM_srt v) sd
theorem var_len (v : Nat) : (varM v).length ≤ 1 := by unfold varM; split <;> simp
theorem rcMulC (q : Rat) (d : Po) (hq : Sz q 2) (hd : PK d 221 1) (sd : SrtM d) (ld : d.length ≤ 8000) : Pure Tryz.prog 72 [poA (cstM q), poA d] (poA (sclM q d)) := by
  rw [← cst_mul q sd]
  have := cst_len q
  refine rpMul (cstM q) d (cst_pk q hq) hd (cst_srt q) sd (by omega) (by omega) (by omega) (by omega) (by omega) (by omega) (K := 223) (E := 1) (fun i => ?_) (by omega) (by omega)
  rw [cst_mul q (srt_take sd i)]
  have h1 := scl_len q (d.take i)
  have h2 : (d.take i).length ≤ d.length := by rw [List.length_take]; omega
  exact ⟨((hd.take i).scl hq).mono (by omega) (by omega), by omega⟩
theorem rcMulV (v : Nat) (d : Po) (hd : PK d 221 1) (sd : SrtM d) (ld : d.length ≤ 8000) : Pure Tryz.prog 72 [poA (varM v), poA d] (poA (mlM d (varM v))) := by
  rw [← var_mul v sd]
  have := var_len v
  refine rpMul (varM v) d (varM_pk v) hd (varM_srt v) sd (by omega) (by omega) (by omega) (by omega) (by omega) (by omega) (K := 222) (E := 2) (fun i => ?_) (by omega) (by omega)
  rw [var_mul v (srt_take sd i)]
  have h1 := mulV_len (d.take i) v
  have h2 : (d.take i).length ≤ d.length := by rw [List.length_take]; omega
  exact ⟨(hd.take i).mulV.mono (by omega) (by omega), by omega⟩
/-- A point on the way between two, by a share that is a number. -/
theorem rcAlongS (a b : Po × Po) (q : Rat) (hq : Sz q 2) (a1 : Co a.1) (a2 : Co a.2) (b1 : Co b.1) (b2 : Co b.2) : Pure Tryz.prog 115 [coA a, coA b, poA (cstM q)] (coA (addM a.1 (sclM q (subM b.1 a.1)), addM a.2 (sclM q (subM b.2 a.2)))) := by
  have n1 := a1.ln
  have n2 := a2.ln
  have n3 := b1.ln
  have n4 := b2.ln
  have s1 := rpSub b.1 a.1 b1.pk a1.pk b1.st a1.st (by omega) (by omega) (by omega) (by omega) (by omega)
  have s2 := rpSub b.2 a.2 b2.pk a2.pk b2.st a2.st (by omega) (by omega) (by omega) (by omega) (by omega)
  have d1 := b1.pk.sub a1.pk
  have d2 := b2.pk.sub a2.pk
  have t1 := sub_srt ordM b1.st a1.st
  have t2 := sub_srt ordM b2.st a2.st
  have l1 := sub_len b.1 a.1
  have l2 := sub_len b.2 a.2
  have m1 := rcMulC q (subM b.1 a.1) hq d1 t1 (by omega)
  have m2 := rcMulC q (subM b.2 a.2) hq d2 t2 (by omega)
  have e1 := rpAdd a.1 (sclM q (subM b.1 a.1)) a1.pk (d1.scl hq) a1.st (scl_srt t1) (by omega) (by have := scl_len q (subM b.1 a.1); omega) (by omega) (by omega) (by omega)
  have e2 := rpAdd a.2 (sclM q (subM b.2 a.2)) a2.pk (d2.scl hq) a2.st (scl_srt t2) (by omega) (by have := scl_len q (subM b.2 a.2); omega) (by omega) (by omega) (by omega)
  exact rcAlong a b (cstM q) _ _ _ _ _ _ s1 s2 m1 m2 e1 e2
/-- The same, by a share that is a variable. -/
theorem rcAlongM (a b : Po × Po) (v : Nat) (a1 : Co a.1) (a2 : Co a.2) (b1 : Co b.1) (b2 : Co b.2) : Pure Tryz.prog 115 [coA a, coA b, poA (varM v)] (coA (addM a.1 (mlM (subM b.1 a.1) (varM v)), addM a.2 (mlM (subM b.2 a.2) (varM v)))) := by
  have n1 := a1.ln
  have n2 := a2.ln
  have n3 := b1.ln
  have n4 := b2.ln
  have s1 := rpSub b.1 a.1 b1.pk a1.pk b1.st a1.st (by omega) (by omega) (by omega) (by omega) (by omega)
  have s2 := rpSub b.2 a.2 b2.pk a2.pk b2.st a2.st (by omega) (by omega) (by omega) (by omega) (by omega)
  have d1 := b1.pk.sub a1.pk
  have d2 := b2.pk.sub a2.pk
  have t1 := sub_srt ordM b1.st a1.st
  have t2 := sub_srt ordM b2.st a2.st
  have l1 := sub_len b.1 a.1
  have l2 := sub_len b.2 a.2
  have m1 := rcMulV v (subM b.1 a.1) d1 t1 (by omega)
  have m2 := rcMulV v (subM b.2 a.2) d2 t2 (by omega)
  have e1 := rpAdd a.1 (mlM (subM b.1 a.1) (varM v)) (a1.pk.mono (Nat.le_refl 110) (show 1 ≤ 1 + 1 by omega)) d1.mulV a1.st (mulR_srt ordM mulK t1 (varM_srt v)) (by omega) (by have := mulV_len (subM b.1 a.1) v; omega) (by omega) (by omega) (by omega)
  have e2 := rpAdd a.2 (mlM (subM b.2 a.2) (varM v)) (a2.pk.mono (Nat.le_refl 110) (show 1 ≤ 1 + 1 by omega)) d2.mulV a2.st (mulR_srt ordM mulK t2 (varM_srt v)) (by omega) (by have := mulV_len (subM b.2 a.2) v; omega) (by omega) (by omega) (by omega)
  exact rcAlong a b (varM v) _ _ _ _ _ _ s1 s2 m1 m2 e1 e2
theorem rcPlusC (p q r : Po) (hp : Co p) (hq : Co q) (hr : Co r) : Pure Tryz.prog 117 [poA p, poA q, poA r] (poA (addM p (subM q r))) := by
  have n1 := hp.ln
  have n2 := hq.ln
  have n3 := hr.ln
  have l1 := sub_len q r
  have s := rpSub q r hq.pk hr.pk hq.st hr.st (by omega) (by omega) (by omega) (by omega) (by omega)
  have a := rpAdd p (subM q r) hp.pk (hq.pk.sub hr.pk) hp.st (sub_srt ordM hq.st hr.st) (by omega) (by omega) (by omega) (by omega) (by omega)
  exact rcPlus p q r _ _ s a
end Go.Proofs.YtbgmnobnaplmlaaGreat
end

section
namespace Go.Proofs.YtbgmnobnaplmlaaGreat
open Go Go.RowKit Go.Pg Go.Pol
set_option linter.unusedSimpArgs false
set_option linter.unusedVariables false
set_option maxRecDepth 20000
attribute [local go_sem] Tryz.underlying3 Tryz.underlying4 Tryz.underlying178 Tryz.underlying9 Tryz.underlying48 Tryz.underlying31 Tryz.underlying43 Tryz.underlying41 Tryz.underlying39 Tryz.underlying50 Tryz.underlying22 Tryz.underlying25 Tryz.underlying56 Tryz.underlying28 Tryz.underlying72 Tryz.underlying27 Tryz.underlying30 Tryz.underlying105 Tryz.underlying107 Tryz.underlying70 Tryz.underlying63 Tryz.underlying103 Tryz.underlying154 sz3 by3 z3 szB zB szErr zErr szStr byStr zStr szRat zRat szInt zInt szNat zNat szStep byStep zStep szFig zFig szSlI zSlI szSlS zSlS szVar byVar zVar szSlV zSlV szCoord byCoord zCoord szSlC zSlC szFrame zFrame szCBld byCBld zCBld szCVec byCVec zCVec szPoly byPoly zPoly szTerm zTerm szPtrB zPtrB szFnC zFnC
attribute [-bool_to_prop] Bool.and_eq_decide Bool.or_eq_decide Bool.decide_beq_decide decide_eq_decide
theorem Agr.at {m σ : Mem} (h : Agr m σ) {k : Nat} {e : Ent} (hk : σ k = some e) : m (k + 1000) = some e.sh := by rw [h k, hk]; rfl
def ptsN (cs : List (Po × Po)) (ar : List Int) : List (Po × Po) := ar.map fun a => cs.getD a.toNat ([], [])
theorem ptsN_len (cs : List (Po × Po)) (ar : List Int) : (ptsN cs ar).length = ar.length := by unfold ptsN; simp
theorem ptsN_get {cs : List (Po × Po)} {ar : List Int} {k : Nat} (h : k < ar.length) : (ptsN cs ar)[k]'(by rw [ptsN_len]; exact h) = cs.getD (gI ar k).toNat ([], []) := by
  unfold ptsN
  rw [List.getElem_map, gI_at h]
theorem pts_at {cs : List (Po × Po)} {ar : List Int} {k : Nat} (h : k < ar.length) : ((ptsN cs ar).map coA).getD k .u = coA (cs.getD (gI ar k).toNat ([], [])) := by
  rw [map_atB coA (by rw [ptsN_len]; exact h), ptsN_get h]
theorem ptsN_take {cs : List (Po × Po)} {ar : List Int} {k : Nat} (h : k < ar.length) : (ptsN cs ar).take (k + 1) = (ptsN cs ar).take k ++ [cs.getD (gI ar k).toNat ([], [])] := by
  rw [List.take_add_one, List.getElem?_eq_getElem (by rw [ptsN_len]; exact h), ptsN_get h]; rfl
theorem arS_le (k : Int) : arS k ≤ 4 := by
  unfold arS
  repeat' split
  all_goals omega
set_option maxHeartbeats 16000000 in
theorem rcNext (σ : Mem) (KC KV : Nat) (svC svV : Value) (cs : List (Po × Po)) (vs : List Vt) (fr i : Nat) (ss : List RS) (gs : List RG) (s : RS) (hi : i < ss.length) (hs : ss[i] = s) (hV : σ KV = some (.row svV 56 3 (vs.map Vt.av) 0)) (hC : σ KC = some (.row svC 72 2 (cs.map coA) 0)) (hVC : KV ≠ KC) (hl : vs.length ≤ 64) (hf : fr ≤ 100) (hi1 : i ≤ 1000) (hok : StOk cs s) (hco : ∀ c ∈ cs, Co c.1 ∧ Co c.2) :
    ACall Tryz.prog 53 [.agg [.own KC svC, .own KV svV], figA ss gs, iv i, iv fr] σ fun r σ' => ∃ sv, r = .tup [.agg [.own KC svC, .own KV sv], coA (FS.nxt ⟨cs, vs, fr⟩ i s).2] ∧
      σ' = upd σ KV (some (.row sv 56 3 ((vs ++ (FS.nxt ⟨cs, vs, fr⟩ i s).1).map Vt.av) 0)) := by
  have hgi : (ss.map RS.av).getD i .u = s.av := by rw [← hs]; exact map_atB RS.av hi
  have hls : (ss.map RS.av).length = ss.length := List.length_map ..
  have hcl : (cs.map coA).length = cs.length := List.length_map ..
  show ACall _ _ [.agg [.own KC svC, .own KV svV], .agg [.sl 6 (ss.map RS.av), .sl 5 (gs.map RG.av)], iv i, iv fr] _ _
  generalize ss.map RS.av = M at *
  generalize gs.map RG.av = N at *
  clear hs
  obtain ⟨k0, nm, ar, ⟨rs, rl, rd⟩⟩ := s
  have hll : (ar.map iv).length = ar.length := List.length_map ..
  refine acall_lents Tryz.func53 rfl Tryz.ntmps53 Tryz.results53 Tryz.call53 (by rfl) (by simp) ?_
  (focus (refine wkad (w_a hgi (w_a hls (w_a hll w_t))) w_t w_t ?_; (repeat' first | exact w_t | apply w_l); all_goals intros))
  rename_i g4 g5 g8 g9 g10
  refine r_frz (Frz.nilOwn (d := 11) 37 2 72 (by exact gC)) ?_
  refine r_loopE (ι := Nat) (fun k e m => k ≤ ar.length ∧ e 2 = iv i ∧ e 3 = iv fr ∧ e 4 = .pbox 4 g4 0 ∧ m 4 = some (.box g4 30 [.own (KC + 1000) svC, .own (KV + 1000) svV] false) ∧ e 8 = .pbox 8 g8 0 ∧ m 8 = some (.box g8 30 [.v (.slice none 0 0), .v (.slice none 0 0)] false) ∧ e 9 = .pbox 9 g9 0 ∧ m 9 = some (.box g9 72 [.v (.slice none 0 0), .v (.slice none 0 0)] false) ∧ e 10 = .pbox 10 g10 0 ∧ m 10 = some (.box g10 50 [iv k0, strA nm, ivs ar, .v (.bool rs), lim rl, lim rd] false) ∧ e 24 = ivs ar ∧ e 25 = iv ar.length ∧ e 26 = iv k ∧ (∃ sv, e 11 = .own 37 sv ∧ m 37 = some (.row sv 72 2 (((ptsN cs ar).take k).map coA) 0)) ∧ Agr m σ) (fun k => ar.length - k) 0 (by rfl) ?_ ?_
  · rintro k e m ⟨hk, hA2, hA3, e4, m4, e8, m8, e9, m9, e10, m10, e24, e25, e26, ⟨sv, e11, m37⟩, hAg⟩
    have mV := Agr.at hAg hV
    have mC := Agr.at hAg hC
    simp only [Ent.sh, AV.shL, AV.sh] at mV mC
    by_cases hlt : k < ar.length
    · have h0 := hok.ai k hlt
      simp only at h0
      have hga : (ar.map iv).getD k .u = iv (gI ar k) := by rw [map_atB iv hlt, gI_at hlt]
      have hgc : (cs.map coA).getD (gI ar k).toNat .u = coA (cs.getD (gI ar k).toNat ([], [])) := getD_mapA (by omega)
      have htk := ptsN_take (cs := cs) hlt
      have har4 : ar.length ≤ 4 := by
        have h1 : (ar.length : Int) = arS k0 := hok.al
        have h2 := arS_le k0
        omega
      have hL : ((ptsN cs ar).take k).length ≤ 4 := by
        have h1 : (ar.length : Int) = arS k0 := hok.al
        have h2 := arS_le k0
        rw [List.length_take]
        omega
      generalize (ptsN cs ar).take k = L at *
      generalize cs.getD (gI ar k).toNat ([], []) = c at *
      generalize gI ar k = a at *
      obtain ⟨c1, c2⟩ := c
      (focus (refine wkad (w_a hA2 (w_a hA3 (w_a e4 (w_a m4 (w_a e8 (w_a m8 (w_a e9 (w_a m9 (w_a e10 (w_a m10 (w_a e11 (w_a e24 (w_a e25 (w_a e26 (w_a m37 (w_a mV (w_a mC (w_a hll (w_a hcl (w_a hga (w_a hgc w_t))))))))))))))))))))) w_t w_t ?_; (repeat' first | exact w_t | apply w_l); all_goals intros))
      rename_i sv2
      refine ⟨k + 1, ⟨by omega, by (simp (disch := omega) only [go_sem, hA2] <;> repeat' first | rfl | refine ⟨?_, ?_⟩), by (simp (disch := omega) only [go_sem, hA3] <;> repeat' first | rfl | refine ⟨?_, ?_⟩), by exact gW e4, by exact gW m4, by exact gW e8, by exact gW m8, by exact gW e9, by exact gW m9, by exact gW e10, by exact gW m10, by exact gW e24, by exact gW e25, by exact gS, ⟨_, by exact gC, by (rw [htk, List.map_append]; exact gC)⟩, ?_⟩, by omega⟩
      (repeat' (first | exact hAg | (refine Agr.own ?_ (by omega))))
    · have hkk : k = ar.length := by omega
      subst hkk
      rw [show (ptsN cs ar).take ar.length = ptsN cs ar from List.take_of_length_le (by rw [ptsN_len]; exact Nat.le_refl _)] at m37
      have hlp : ((ptsN cs ar).map coA).length = ar.length := by rw [List.length_map, ptsN_len]
      by_cases k1 : k0 = 1
      · subst k1
        have en : FS.nxt ⟨cs, vs, fr⟩ i ⟨1, nm, ar, ⟨rs, rl, rd⟩⟩ = (if fr = 0 then [] else if fr = 1 then [(1, (i : Int), 0)] else [(1, (i : Int), 0), (1, (i : Int), 1)], if fr = 0 then ([], []) else if fr = 1 then (varM vs.length, []) else (varM vs.length, varM (vs.length + 1))) := by
          unfold FS.nxt
          simp only [if_true]
          by_cases f0 : fr = 0
          · simp only [if_pos f0]
          · by_cases f1 : fr = 1
            · simp only [if_neg f0, if_pos f1]
            · simp only [if_neg f0, if_neg f1]
        rw [en]
        have cF := rcFree m (KC + 1000) (KV + 1000) svC svV vs i fr mV (by omega) (by omega)
        generalize (if fr = 0 then (([], []) : Po × Po) else if fr = 1 then (varM vs.length, []) else (varM vs.length, varM (vs.length + 1))) = x at *
        generalize (if fr = 0 then ([] : List Vt) else if fr = 1 then [(1, (i : Int), 0)] else [(1, (i : Int), 0), (1, (i : Int), 1)]) = nv at *
        obtain ⟨x1, x2⟩ := x
        (focus (refine wkad (w_a hA2 (w_a hA3 (w_a e4 (w_a m4 (w_a e8 (w_a m8 (w_a e9 (w_a m9 (w_a e10 (w_a m10 (w_a e11 (w_a e24 (w_a e25 (w_a e26 (w_a m37 (w_a mV (w_a mC (w_a hll (w_a hlp (w_a @lents_lt (w_a @lents_beq w_t))))))))))))))))))))) w_t w_t ?_; (repeat' first | exact w_t | apply w_l); all_goals intros))
        refine o_fresh cF ?_
        intro sv1
        (focus (refine wkad (w_a hA2 (w_a hA3 (w_a e4 (w_a m4 (w_a e8 (w_a m8 (w_a e9 (w_a m9 (w_a e10 (w_a m10 (w_a e11 (w_a e24 (w_a e25 (w_a e26 (w_a m37 (w_a mV (w_a mC (w_a hll (w_a hlp (w_a @lents_lt (w_a @lents_beq w_t))))))))))))))))))))) w_t w_t ?_; (repeat' first | exact w_t | apply w_l); all_goals intros))
        simp (disch := omega) only [go_sem, e8, e9]
        refine backS (Sub.tup2 (Sub.frame _ _ _ _ _ _) (Sub.refl _)) ⟨sv1, rfl, rfl⟩ ?_
        (repeat (refine Agr.own ?_ (by omega)))
        refine Agr.put ?_ rfl rfl
        (repeat' (first | exact hAg | (refine Agr.own ?_ (by omega))))
      · by_cases k2 : k0 = 2
        · subst k2
          have hal2 : ar.length = 2 := by have h1 : (ar.length : Int) = arS 2 := hok.al; have h2 : arS 2 = 2 := rfl; omega
          have h0 : 0 ≤ gI ar 0 ∧ gI ar 0 < (cs.length : Int) := hok.ai 0 (show 0 < ar.length by omega)
          obtain ⟨a1, a2⟩ : Co (cs.getD (gI ar 0).toNat ([], [])).1 ∧ Co (cs.getD (gI ar 0).toNat ([], [])).2 := hco _ (getD_mem (by omega))
          have p0 : ((ptsN cs ar).map coA).getD 0 .u = coA (cs.getD (gI ar 0).toNat ([], [])) := pts_at (by omega)
          generalize ha : cs.getD (gI ar 0).toNat ([], []) = a at *
          have h1 : 0 ≤ gI ar 1 ∧ gI ar 1 < (cs.length : Int) := hok.ai 1 (show 1 < ar.length by omega)
          obtain ⟨b1, b2⟩ : Co (cs.getD (gI ar 1).toNat ([], [])).1 ∧ Co (cs.getD (gI ar 1).toNat ([], [])).2 := hco _ (getD_mem (by omega))
          have p1 : ((ptsN cs ar).map coA).getD 1 .u = coA (cs.getD (gI ar 1).toNat ([], [])) := pts_at (by omega)
          generalize hb : cs.getD (gI ar 1).toNat ([], []) = b at *
          have ro := hok.r2 rfl
          have zr := (RQ.ok_av hok.rl ro).2
          have re := RQ.ok_eq hok.rl ro
          have en : FS.nxt ⟨cs, vs, fr⟩ i ⟨2, nm, ar, ⟨rs, rl, rd⟩⟩ = ([], (addM a.1 (sclM (RQ.q ⟨rs, rl, rd⟩) (subM b.1 a.1)), addM a.2 (sclM (RQ.q ⟨rs, rl, rd⟩) (subM b.2 a.2)))) := by
            rw [← ha, ← hb]; rfl
          rw [en]
          simp only at zr re
          generalize hq : RQ.q ⟨rs, rl, rd⟩ = q at *
          simp only [RQ.mk.injEq] at re
          obtain ⟨rfl, rfl, rfl⟩ := re
          have al := rcAlongS a b q zr a1 a2 b1 b2
          have cc := rpConst q zr (by omega)
          generalize addM a.1 (sclM q (subM b.1 a.1)) = x1 at *
          generalize addM a.2 (sclM q (subM b.2 a.2)) = x2 at *
          clear a1 a2 b1 b2 ha hb hok hco en
          obtain ⟨aa, ab⟩ := a
          obtain ⟨ba, bb⟩ := b
          (focus (refine wkad (w_a hA2 (w_a hA3 (w_a e4 (w_a m4 (w_a e8 (w_a m8 (w_a e9 (w_a m9 (w_a e10 (w_a m10 (w_a e11 (w_a e24 (w_a e25 (w_a e26 (w_a m37 (w_a mV (w_a mC (w_a hll (w_a hlp (w_a @lents_lt (w_a @lents_beq (w_a hal2 (w_a p0 (w_a p1 w_t)))))))))))))))))))))))) (w_a cc (w_a al w_t)) (w_a (w_d 12 [(9, poA (cstM q)), (10, coA (x1, x2))] [] [8, 9]) w_t) ?_; (repeat' first | exact w_t | apply w_l); all_goals intros))
          simp (disch := omega) only [go_sem, e8, e9]
          refine backS (Sub.tup2 (Sub.frame _ _ _ _ _ _) (Sub.refl _)) ⟨svV, rfl, rfl⟩ ?_
          simp only [List.append_nil, upd_same' hV]
          (repeat' (first | exact hAg | (refine Agr.own ?_ (by omega))))
        · by_cases k3 : k0 = 3
          · subst k3
            have hal2 : ar.length = 3 := by have h1 : (ar.length : Int) = arS 3 := hok.al; have h2 : arS 3 = 3 := rfl; omega
            have h0 : 0 ≤ gI ar 0 ∧ gI ar 0 < (cs.length : Int) := hok.ai 0 (show 0 < ar.length by omega)
            obtain ⟨a1, a2⟩ : Co (cs.getD (gI ar 0).toNat ([], [])).1 ∧ Co (cs.getD (gI ar 0).toNat ([], [])).2 := hco _ (getD_mem (by omega))
            have p0 : ((ptsN cs ar).map coA).getD 0 .u = coA (cs.getD (gI ar 0).toNat ([], [])) := pts_at (by omega)
            generalize ha : cs.getD (gI ar 0).toNat ([], []) = a at *
            have h1 : 0 ≤ gI ar 1 ∧ gI ar 1 < (cs.length : Int) := hok.ai 1 (show 1 < ar.length by omega)
            obtain ⟨b1, b2⟩ : Co (cs.getD (gI ar 1).toNat ([], [])).1 ∧ Co (cs.getD (gI ar 1).toNat ([], [])).2 := hco _ (getD_mem (by omega))
            have p1 : ((ptsN cs ar).map coA).getD 1 .u = coA (cs.getD (gI ar 1).toNat ([], [])) := pts_at (by omega)
            generalize hb : cs.getD (gI ar 1).toNat ([], []) = b at *
            have h2 : 0 ≤ gI ar 2 ∧ gI ar 2 < (cs.length : Int) := hok.ai 2 (show 2 < ar.length by omega)
            obtain ⟨c1, c2⟩ : Co (cs.getD (gI ar 2).toNat ([], [])).1 ∧ Co (cs.getD (gI ar 2).toNat ([], [])).2 := hco _ (getD_mem (by omega))
            have p2 : ((ptsN cs ar).map coA).getD 2 .u = coA (cs.getD (gI ar 2).toNat ([], [])) := pts_at (by omega)
            generalize hc : cs.getD (gI ar 2).toNat ([], []) = c at *
            have en : FS.nxt ⟨cs, vs, fr⟩ i ⟨3, nm, ar, ⟨rs, rl, rd⟩⟩ = ([], (addM a.1 (subM c.1 b.1), addM a.2 (subM c.2 b.2))) := by
              rw [← ha, ← hb, ← hc]; rfl
            rw [en]
            have q1 := rcPlusC a.1 c.1 b.1 a1 c1 b1
            have q2 := rcPlusC a.2 c.2 b.2 a2 c2 b2
            generalize addM a.1 (subM c.1 b.1) = x1 at *
            generalize addM a.2 (subM c.2 b.2) = x2 at *
            clear a1 a2 b1 b2 c1 c2 ha hb hc hok hco en
            obtain ⟨aa, ab⟩ := a
            obtain ⟨ba, bb⟩ := b
            obtain ⟨ca, cb⟩ := c
            (focus (refine wkad (w_a hA2 (w_a hA3 (w_a e4 (w_a m4 (w_a e8 (w_a m8 (w_a e9 (w_a m9 (w_a e10 (w_a m10 (w_a e11 (w_a e24 (w_a e25 (w_a e26 (w_a m37 (w_a mV (w_a mC (w_a hll (w_a hlp (w_a @lents_lt (w_a @lents_beq (w_a hal2 (w_a p0 (w_a p1 (w_a p2 w_t))))))))))))))))))))))))) (w_a q1 (w_a q2 w_t)) (w_a (w_d 14 [(13, poA x1), (26, poA x2)] [] [8, 9]) w_t) ?_; (repeat' first | exact w_t | apply w_l); all_goals intros))
            simp (disch := omega) only [go_sem, e8, e9]
            refine backS (Sub.tup2 (Sub.frame _ _ _ _ _ _) (Sub.refl _)) ⟨svV, rfl, rfl⟩ ?_
            simp only [List.append_nil, upd_same' hV]
            (repeat' (first | exact hAg | (refine Agr.own ?_ (by omega))))
          · by_cases k4 : k0 = 4
            · subst k4
              have hal2 : ar.length = 3 := by have h1 : (ar.length : Int) = arS 4 := hok.al; have h2 : arS 4 = 3 := rfl; omega
              have h0 : 0 ≤ gI ar 0 ∧ gI ar 0 < (cs.length : Int) := hok.ai 0 (show 0 < ar.length by omega)
              obtain ⟨a1, a2⟩ : Co (cs.getD (gI ar 0).toNat ([], [])).1 ∧ Co (cs.getD (gI ar 0).toNat ([], [])).2 := hco _ (getD_mem (by omega))
              have p0 : ((ptsN cs ar).map coA).getD 0 .u = coA (cs.getD (gI ar 0).toNat ([], [])) := pts_at (by omega)
              generalize ha : cs.getD (gI ar 0).toNat ([], []) = a at *
              have h1 : 0 ≤ gI ar 1 ∧ gI ar 1 < (cs.length : Int) := hok.ai 1 (show 1 < ar.length by omega)
              obtain ⟨b1, b2⟩ : Co (cs.getD (gI ar 1).toNat ([], [])).1 ∧ Co (cs.getD (gI ar 1).toNat ([], [])).2 := hco _ (getD_mem (by omega))
              have p1 : ((ptsN cs ar).map coA).getD 1 .u = coA (cs.getD (gI ar 1).toNat ([], [])) := pts_at (by omega)
              generalize hb : cs.getD (gI ar 1).toNat ([], []) = b at *
              have h2 : 0 ≤ gI ar 2 ∧ gI ar 2 < (cs.length : Int) := hok.ai 2 (show 2 < ar.length by omega)
              obtain ⟨c1, c2⟩ : Co (cs.getD (gI ar 2).toNat ([], [])).1 ∧ Co (cs.getD (gI ar 2).toNat ([], [])).2 := hco _ (getD_mem (by omega))
              have p2 : ((ptsN cs ar).map coA).getD 2 .u = coA (cs.getD (gI ar 2).toNat ([], [])) := pts_at (by omega)
              generalize hc : cs.getD (gI ar 2).toNat ([], []) = c at *
              have en : FS.nxt ⟨cs, vs, fr⟩ i ⟨4, nm, ar, ⟨rs, rl, rd⟩⟩ = ([], (addM a.1 (subM b.2 c.2), addM a.2 (subM c.1 b.1))) := by
                rw [← ha, ← hb, ← hc]; rfl
              rw [en]
              have q1 := rcPlusC a.1 b.2 c.2 a1 b2 c2
              have q2 := rcPlusC a.2 c.1 b.1 a2 c1 b1
              generalize addM a.1 (subM b.2 c.2) = x1 at *
              generalize addM a.2 (subM c.1 b.1) = x2 at *
              clear a1 a2 b1 b2 c1 c2 ha hb hc hok hco en
              obtain ⟨aa, ab⟩ := a
              obtain ⟨ba, bb⟩ := b
              obtain ⟨ca, cb⟩ := c
              (focus (refine wkad (w_a hA2 (w_a hA3 (w_a e4 (w_a m4 (w_a e8 (w_a m8 (w_a e9 (w_a m9 (w_a e10 (w_a m10 (w_a e11 (w_a e24 (w_a e25 (w_a e26 (w_a m37 (w_a mV (w_a mC (w_a hll (w_a hlp (w_a @lents_lt (w_a @lents_beq (w_a hal2 (w_a p0 (w_a p1 (w_a p2 w_t))))))))))))))))))))))))) (w_a q1 (w_a q2 w_t)) (w_a (w_d 16 [(13, poA x1), (26, poA x2)] [] [8, 9]) w_t) ?_; (repeat' first | exact w_t | apply w_l); all_goals intros))
              simp (disch := omega) only [go_sem, e8, e9]
              refine backS (Sub.tup2 (Sub.frame _ _ _ _ _ _) (Sub.refl _)) ⟨svV, rfl, rfl⟩ ?_
              simp only [List.append_nil, upd_same' hV]
              (repeat' (first | exact hAg | (refine Agr.own ?_ (by omega))))
            · by_cases k5 : k0 = 5
              · subst k5
                have hal2 : ar.length = 2 := by have h1 : (ar.length : Int) = arS 5 := hok.al; have h2 : arS 5 = 2 := rfl; omega
                have h0 : 0 ≤ gI ar 0 ∧ gI ar 0 < (cs.length : Int) := hok.ai 0 (show 0 < ar.length by omega)
                obtain ⟨a1, a2⟩ : Co (cs.getD (gI ar 0).toNat ([], [])).1 ∧ Co (cs.getD (gI ar 0).toNat ([], [])).2 := hco _ (getD_mem (by omega))
                have p0 : ((ptsN cs ar).map coA).getD 0 .u = coA (cs.getD (gI ar 0).toNat ([], [])) := pts_at (by omega)
                generalize ha : cs.getD (gI ar 0).toNat ([], []) = a at *
                have h1 : 0 ≤ gI ar 1 ∧ gI ar 1 < (cs.length : Int) := hok.ai 1 (show 1 < ar.length by omega)
                obtain ⟨b1, b2⟩ : Co (cs.getD (gI ar 1).toNat ([], [])).1 ∧ Co (cs.getD (gI ar 1).toNat ([], [])).2 := hco _ (getD_mem (by omega))
                have p1 : ((ptsN cs ar).map coA).getD 1 .u = coA (cs.getD (gI ar 1).toNat ([], [])) := pts_at (by omega)
                generalize hb : cs.getD (gI ar 1).toNat ([], []) = b at *
                have en : FS.nxt ⟨cs, vs, fr⟩ i ⟨5, nm, ar, ⟨rs, rl, rd⟩⟩ = ([(1, (i : Int), 0)], (addM a.1 (mlM (subM b.1 a.1) (varM vs.length)), addM a.2 (mlM (subM b.2 a.2) (varM vs.length)))) := by
                  rw [← ha, ← hb]; rfl
                rw [en]
                have al := rcAlongM a b vs.length a1 a2 b1 b2
                have cP := rcParam m (KC + 1000) (KV + 1000) svC svV vs 1 (i : Int) 0 mV (by omega)
                generalize addM a.1 (mlM (subM b.1 a.1) (varM vs.length)) = x1 at *
                generalize addM a.2 (mlM (subM b.2 a.2) (varM vs.length)) = x2 at *
                clear a1 a2 b1 b2 ha hb hok hco en
                obtain ⟨aa, ab⟩ := a
                obtain ⟨ba, bb⟩ := b
                generalize varM vs.length = vv at *
                (focus (refine wkad (w_a hA2 (w_a hA3 (w_a e4 (w_a m4 (w_a e8 (w_a m8 (w_a e9 (w_a m9 (w_a e10 (w_a m10 (w_a e11 (w_a e24 (w_a e25 (w_a e26 (w_a m37 (w_a mV (w_a mC (w_a hll (w_a hlp (w_a @lents_lt (w_a @lents_beq (w_a hal2 w_t)))))))))))))))))))))) w_t w_t ?_; (repeat' first | exact w_t | apply w_l); all_goals intros))
                refine o_fresh cP ?_
                intro sv1
                (focus (refine wkad (w_a hA2 (w_a hA3 (w_a e4 (w_a m4 (w_a e8 (w_a m8 (w_a e9 (w_a m9 (w_a e10 (w_a m10 (w_a e11 (w_a e24 (w_a e25 (w_a e26 (w_a m37 (w_a mV (w_a mC (w_a hll (w_a hlp (w_a @lents_lt (w_a @lents_beq (w_a hal2 (w_a p0 (w_a p1 w_t)))))))))))))))))))))))) (w_a al w_t) (w_a (w_d 19 [(8, coA (x1, x2))] [] [8, 9]) w_t) ?_; (repeat' first | exact w_t | apply w_l); all_goals intros))
                simp (disch := omega) only [go_sem, e8, e9]
                refine backS (Sub.tup2 (Sub.frame _ _ _ _ _ _) (Sub.refl _)) ⟨sv1, rfl, rfl⟩ ?_
                (repeat (refine Agr.own ?_ (by omega)))
                refine Agr.put ?_ rfl rfl
                (repeat' (first | exact hAg | (refine Agr.own ?_ (by omega))))
              · by_cases k6 : k0 = 6
                · subst k6
                  have en : FS.nxt ⟨cs, vs, fr⟩ i ⟨6, nm, ar, ⟨rs, rl, rd⟩⟩ = ([(1, (i : Int), 0), (2, (i : Int), 1), (2, (i : Int), 2)], (varM (vs.length + 1), varM (vs.length + 2))) := rfl
                  rw [en]
                  have hl1 : (vs ++ [((1 : Int), (i : Int), (0 : Int))]).length = vs.length + 1 := by simp
                  have cP := rcParam m (KC + 1000) (KV + 1000) svC svV vs 1 (i : Int) 0 mV (by omega)
                  (focus (refine wkad (w_a hA2 (w_a hA3 (w_a e4 (w_a m4 (w_a e8 (w_a m8 (w_a e9 (w_a m9 (w_a e10 (w_a m10 (w_a e11 (w_a e24 (w_a e25 (w_a e26 (w_a m37 (w_a mV (w_a mC (w_a hll (w_a hlp (w_a @lents_lt (w_a @lents_beq w_t))))))))))))))))))))) w_t w_t ?_; (repeat' first | exact w_t | apply w_l); all_goals intros))
                  refine o_fresh cP ?_
                  intro sv1
                  (focus (refine wkad (w_a hA2 (w_a hA3 (w_a e4 (w_a m4 (w_a e8 (w_a m8 (w_a e9 (w_a m9 (w_a e10 (w_a m10 (w_a e11 (w_a e24 (w_a e25 (w_a e26 (w_a m37 (w_a mV (w_a mC (w_a hll (w_a hlp (w_a @lents_lt (w_a @lents_beq w_t))))))))))))))))))))) w_t w_t ?_; (repeat' first | exact w_t | apply w_l); all_goals intros))
                  refine o_fresh (rcDep _ (KC + 1000) (KV + 1000) svC sv1 (vs ++ [(1, (i : Int), 0)]) i 1 (by (simp (disch := omega) only [go_sem, mV, if_neg, if_pos, List.map_append, List.map_cons, List.map_nil] <;> repeat' first | rfl | refine ⟨?_, ?_⟩)) (by first | omega | (simp; omega)) (by omega)) ?_
                  intro sv2
                  (focus (refine wkad (w_a hA2 (w_a hA3 (w_a e4 (w_a m4 (w_a e8 (w_a m8 (w_a e9 (w_a m9 (w_a e10 (w_a m10 (w_a e11 (w_a e24 (w_a e25 (w_a e26 (w_a m37 (w_a mV (w_a mC (w_a hll (w_a hlp (w_a @lents_lt (w_a @lents_beq (w_a hl1 w_t)))))))))))))))))))))) w_t w_t ?_; (repeat' first | exact w_t | apply w_l); all_goals intros))
                  simp (disch := omega) only [go_sem, hl1, e8, e9]
                  refine backS (Sub.tup2 (Sub.frame _ _ _ _ _ _) (Sub.refl _)) ⟨sv2, rfl, rfl⟩ ?_
                  simp only [List.append_assoc, List.cons_append, List.nil_append]
                  (repeat (refine Agr.own ?_ (by omega)))
                  refine Agr.re (e1 := .row sv1 56 3 ((vs ++ [(1, (i : Int), 0)]).map Vt.av) 0) ?_ rfl rfl
                  (repeat (refine Agr.own ?_ (by omega)))
                  refine Agr.put ?_ rfl rfl
                  (repeat' (first | exact hAg | (refine Agr.own ?_ (by omega))))
                · have en : FS.nxt ⟨cs, vs, fr⟩ i ⟨k0, nm, ar, ⟨rs, rl, rd⟩⟩ = ([(2, (i : Int), 0), (2, (i : Int), 1)], (varM vs.length, varM (vs.length + 1))) := by
                    unfold FS.nxt
                    simp only [if_neg k1, if_neg k2, if_neg k3, if_neg k4, if_neg k5, if_neg k6]
                  rw [en]
                  have cD := rcDep m (KC + 1000) (KV + 1000) svC svV vs i 0 mV (by omega) (by omega)
                  (focus (refine wkad (w_a hA2 (w_a hA3 (w_a e4 (w_a m4 (w_a e8 (w_a m8 (w_a e9 (w_a m9 (w_a e10 (w_a m10 (w_a e11 (w_a e24 (w_a e25 (w_a e26 (w_a m37 (w_a mV (w_a mC (w_a hll (w_a hlp (w_a @lents_lt (w_a @lents_beq w_t))))))))))))))))))))) w_t w_t ?_; (repeat' first | exact w_t | apply w_l); all_goals intros))
                  refine o_fresh cD ?_
                  intro sv1
                  (focus (refine wkad (w_a hA2 (w_a hA3 (w_a e4 (w_a m4 (w_a e8 (w_a m8 (w_a e9 (w_a m9 (w_a e10 (w_a m10 (w_a e11 (w_a e24 (w_a e25 (w_a e26 (w_a m37 (w_a mV (w_a mC (w_a hll (w_a hlp (w_a @lents_lt (w_a @lents_beq w_t))))))))))))))))))))) w_t w_t ?_; (repeat' first | exact w_t | apply w_l); all_goals intros))
                  simp (disch := omega) only [go_sem, e8, e9]
                  refine backS (Sub.tup2 (Sub.frame _ _ _ _ _ _) (Sub.refl _)) ⟨sv1, rfl, rfl⟩ ?_
                  (repeat (refine Agr.own ?_ (by omega)))
                  refine Agr.put ?_ rfl rfl
                  (repeat' (first | exact hAg | (refine Agr.own ?_ (by omega))))
  · refine ⟨Nat.zero_le _, by exact gC, by exact gC, by exact gC, by exact gC, by exact gC, by exact gC, by exact gC, by exact gC, by exact gC, by exact gC, by exact gC, by exact gW hll, by exact gC, ⟨_, by exact gC, by (simp (disch := omega) only [go_sem, List.take_zero, List.map_nil] <;> repeat' first | rfl | refine ⟨?_, ?_⟩)⟩, ?_⟩
    (repeat' (first | exact Agr.start _ | (refine Agr.own ?_ (by omega))))
end Go.Proofs.YtbgmnobnaplmlaaGreat
end

section
namespace Go.Proofs.YtbgmnobnaplmlaaGreat
open Go Go.RowKit Go.Pg Go.Pol
set_option linter.unusedSimpArgs false
set_option linter.unusedVariables false
set_option maxRecDepth 20000
attribute [local go_sem] Tryz.underlying3 Tryz.underlying4 Tryz.underlying178 Tryz.underlying9 Tryz.underlying48 Tryz.underlying31 Tryz.underlying43 Tryz.underlying41 Tryz.underlying39 Tryz.underlying50 Tryz.underlying22 Tryz.underlying25 Tryz.underlying56 Tryz.underlying28 Tryz.underlying72 Tryz.underlying27 Tryz.underlying30 Tryz.underlying105 Tryz.underlying107 Tryz.underlying70 Tryz.underlying63 Tryz.underlying103 Tryz.underlying154 sz3 by3 z3 szB zB szErr zErr szStr byStr zStr szRat zRat szInt zInt szNat zNat szStep byStep zStep szFig zFig szSlI zSlI szSlS zSlS szVar byVar zVar szSlV zSlV szCoord byCoord zCoord szSlC zSlC szFrame zFrame szCBld byCBld zCBld szCVec byCVec zCVec szPoly byPoly zPoly szTerm zTerm szPtrB zPtrB szFnC zFnC
attribute [-bool_to_prop] Bool.and_eq_decide Bool.or_eq_decide Bool.decide_beq_decide decide_eq_decide
set_option maxHeartbeats 16000000 in
theorem rcFrame1 (ss : List RS) (gs : List RG) (cR : Pure Tryz.prog 24 [figA ss gs] (iv 0)) (ho : FigOk ss) :
    Pure Tryz.prog 16 [figA ss gs] (if (List.range ss.length).any (bigN ss) = true then .tup [.agg [.v (.slice none 0 0), .v (.slice none 0 0)], iv 4] else .tup [frmA (frN ss ss.length).cs (frN ss ss.length).vs, iv 0]) := by
  have cR : Pure Tryz.prog 24 [.agg [.sl 6 (ss.map RS.av), .sl 5 (gs.map RG.av)]] (iv 0) := cR
  show Pure _ _ [.agg [.sl 6 (ss.map RS.av), .sl 5 (gs.map RG.av)]] _
  have hg : ∀ i (h : i < ss.length), (ss.map RS.av).getD i .u = ss[i].av := fun i h => map_atB RS.av h
  have hls : (ss.map RS.av).length = ss.length := List.length_map ..
  have hlen := ho.len
  have hN : ∀ (i : Nat) (hlt : i < ss.length) (svC svV : Value) (m' : Mem), m' 21 = some (.row svV 56 3 ((frN ss i).vs.map Vt.av) 0) → m' 20 = some (.row svC 72 2 ((frN ss i).cs.map coA) 0) → (frN ss i).vs.length ≤ 64 → StOk (frN ss i).cs ss[i] → (∀ c ∈ (frN ss i).cs, Co c.1 ∧ Co c.2) →
      ACall Tryz.prog 53 [.agg [.own 20 svC, .own 21 svV], .agg [.sl 6 (ss.map RS.av), .sl 5 (gs.map RG.av)], iv i, iv (frN ss i).fr] m' fun r σ' => ∃ sv, r = .tup [.agg [.own 20 svC, .own 21 sv], coA ((frN ss i).nxt i ss[i]).2] ∧ σ' = upd m' 21 (some (.row sv 56 3 (((frN ss i).vs ++ ((frN ss i).nxt i ss[i]).1).map Vt.av) 0)) :=
    fun i hlt svC svV m' hV hC h1 h2 h3 => rcNext m' 20 21 svC svV (frN ss i).cs (frN ss i).vs (frN ss i).fr i ss gs ss[i] hlt rfl hV hC (by omega) h1 (by have := frN_fr ss i; omega) (by omega) h2 h3
  generalize ss.map RS.av = M at *
  generalize gs.map RG.av = N at *
  refine pure_intro (tok := 0) Tryz.func16 rfl Tryz.ntmps16 Tryz.results16 Tryz.call16 (by rfl) (by simp) ?_
  (focus (refine wkap (w_a hls w_t) (w_a cR w_t) (w_r 0) ?_; (repeat' first | exact w_t | apply w_l); all_goals intros))
  rename_i g1 g2 g5
  refine r_frz (Frz.nilBox (k := 5) 0 20 2 72 (by exact gC) rfl (by omega)) ?_
  refine r_frz (Frz.nilBox (k := 5) 1 21 3 56 (by exact gC) rfl (by omega)) ?_
  refine r_loopE (ι := Nat) (fun i e m => i ≤ ss.length ∧ e 1 = .pbox 1 g1 0 ∧ m 1 = some (.box g1 25 [.sl 6 M, .sl 5 N] false) ∧ e 2 = .pbox 2 g2 0 ∧ m 2 = some (.box g2 30 [.v (.slice none 0 0), .v (.slice none 0 0)] false) ∧ e 5 = .pbox 5 g5 0 ∧ e 6 = iv (frN ss i).fr ∧ e 18 = .sl 6 M ∧ e 19 = iv ss.length ∧ e 20 = iv i ∧ (∃ svC svV, m 5 = some (.box g5 30 [.own 20 svC, .own 21 svV] false) ∧ m 20 = some (.row svC 72 2 ((frN ss i).cs.map coA) 0) ∧ m 21 = some (.row svV 56 3 ((frN ss i).vs.map Vt.av) 0)) ∧ ∀ j, j < i → bigN ss j = false) (fun i => ss.length - i) 0 (by rfl) ?_ ?_
  · rintro i e m ⟨hi, e1, m1, e2, m2, e5, e6, e18, e19, e20, ⟨svC, svV, m5, m20, m21⟩, hbig⟩
    by_cases hlt : i < ss.length
    · have hgi := hg i hlt
      obtain ⟨D, hD, hn⟩ := ho.fi hi hbig
      have hco := hD.co hn
      have hst := ho.st hlt
      have hfr := frN_fr ss i
      have hnv := hD.nv
      have hb := bigN_at hlt
      have hsu := frN_succ hlt
      have hn3 := nxt_vars (frN ss i) i ss[i]
      have hcl := frN_len ss i
      have hst2 := fun m' hV hC => hN i hlt svC svV m' hV hC hnv hst hco
      clear hD hco hst hN hg cR
      generalize hs : ss[i] = s at *
      generalize hf : frN ss i = f at *
      generalize hx : f.nxt i s = nx at *
      obtain ⟨nv, c1, c2⟩ := nx
      obtain ⟨k, nm, ar, ⟨rs, rl, rd⟩⟩ := s
      obtain ⟨cs, vs, fr⟩ := f
      simp only at *
      (focus (refine wkap (w_a e1 (w_a m1 (w_a e2 (w_a m2 (w_a e5 (w_a e6 (w_a e18 (w_a e19 (w_a e20 (w_a m5 (w_a m20 (w_a m21 (w_a hgi (w_a hls w_t)))))))))))))) w_t (w_r 0) ?_; (repeat' first | exact w_t | apply w_l); all_goals intros))
      refine o_fresh (hst2 _ (by exact gW m21) (by exact gW m20)) ?_
      intro sv
      have hvl : ((vs ++ nv).map Vt.av).length = (vs ++ nv).length := List.length_map ..
      have hvl2 : (vs ++ nv).length ≤ 67 := by rw [List.length_append]; omega
      have hnx : ∀ j, j < i + 1 → bigN ss i = false → bigN ss j = false := fun j hj h => by
        by_cases e : j = i
        · rw [e]; exact h
        · exact hbig j (by omega)
      have hany : bigN ss i = true → (List.range ss.length).any (bigN ss) = true := fun h => List.any_eq_true.2 ⟨i, List.mem_range.2 hlt, h⟩
      generalize vs ++ nv = vs2 at *
      have hc1 : (c1.map tmA).length = c1.length := List.length_map ..
      have hc2 : (c2.map tmA).length = c2.length := List.length_map ..
      have hcsl : (cs.map coA).length = cs.length := List.length_map ..
      by_cases b1 : 64 < vs2.length
      · rw [if_pos (hany (by rw [hb]; simp [b1]))]
        (focus (refine wklp (w_a e1 (w_a e2 (w_a m2 (w_a e5 (w_a e6 (w_a e18 (w_a e19 (w_a e20 (w_a m5 (w_a m20 (w_a hvl (w_a hls w_t)))))))))))) w_t (w_a e2 w_t) (w_r 0) ?_; (repeat' first | exact w_t | apply w_l); all_goals intros))
      · by_cases b2 : 4000 < c1.length
        · rw [if_pos (hany (by rw [hb]; simp [b2]))]
          (focus (refine wklp (w_a e1 (w_a e2 (w_a m2 (w_a e5 (w_a e6 (w_a e18 (w_a e19 (w_a e20 (w_a m5 (w_a m20 (w_a hvl (w_a hc1 (w_a hls w_t))))))))))))) w_t (w_a e2 w_t) (w_r 0) ?_; (repeat' first | exact w_t | apply w_l); all_goals intros))
        · by_cases b3 : 4000 < c2.length
          · rw [if_pos (hany (by rw [hb]; simp [b3]))]
            (focus (refine wklp (w_a e1 (w_a e2 (w_a m2 (w_a e5 (w_a e6 (w_a e18 (w_a e19 (w_a e20 (w_a m5 (w_a m20 (w_a hvl (w_a hc1 (w_a hc2 (w_a hls w_t)))))))))))))) w_t (w_a e2 w_t) (w_r 0) ?_; (repeat' first | exact w_t | apply w_l); all_goals intros))
          · have hbf : bigN ss i = false := by rw [hb]; simp [b1, b2, b3]
            clear hany
            by_cases k1 : k = 1
            · subst k1
              (focus (refine wkap (w_a e1 (w_a e2 (w_a m2 (w_a e5 (w_a e6 (w_a e18 (w_a e19 (w_a e20 (w_a m5 (w_a m20 (w_a hvl (w_a hc1 (w_a hc2 (w_a hcsl (w_a hls w_t))))))))))))))) w_t (w_r 0) ?_; (repeat' first | exact w_t | apply w_l); all_goals intros))
              rename_i svC2
              refine ⟨i + 1, ⟨by omega, by exact gW e1, by exact gW m1, by exact gW e2, by exact gW m2, by exact gW e5, by (rw [hsu]; exact gS), by exact gW e18, by exact gW e19, by exact gS, ⟨svC2, sv, ?_, ?_, ?_⟩, fun j hj => hnx j hj hbf⟩, by omega⟩
              · (simp (disch := omega) only [go_sem, List.set_cons_zero] <;> repeat' first | rfl | refine ⟨?_, ?_⟩)
              · rw [hsu, List.map_append]; exact gC
              · rw [hsu]; exact gC
            · (focus (refine wkap (w_a e1 (w_a e2 (w_a m2 (w_a e5 (w_a e6 (w_a e18 (w_a e19 (w_a e20 (w_a m5 (w_a m20 (w_a hvl (w_a hc1 (w_a hc2 (w_a hcsl (w_a hls w_t))))))))))))))) w_t (w_r 0) ?_; (repeat' first | exact w_t | apply w_l); all_goals intros))
              rename_i svC2
              refine ⟨i + 1, ⟨by omega, by exact gW e1, by exact gW m1, by exact gW e2, by exact gW m2, by exact gW e5, by (rw [hsu]; simp only [if_neg k1]; exact gW e6), by exact gW e18, by exact gW e19, by exact gS, ⟨svC2, sv, ?_, ?_, ?_⟩, fun j hj => hnx j hj hbf⟩, by omega⟩
              · (simp (disch := omega) only [go_sem, List.set_cons_zero] <;> repeat' first | rfl | refine ⟨?_, ?_⟩)
              · rw [hsu, List.map_append]; exact gC
              · rw [hsu]; exact gC
    · have hin : i = ss.length := by omega
      subst hin
      have hno : ¬ (List.range ss.length).any (bigN ss) = true := by
        rw [List.any_eq_true]
        rintro ⟨j, hj, hb⟩
        rw [hbig j (List.mem_range.1 hj)] at hb
        cases hb
      rw [if_neg hno]
      clear hN hg
      generalize (frN ss ss.length).fr = fr at *
      generalize (frN ss ss.length).cs = cs at *
      generalize (frN ss ss.length).vs = vs at *
      (focus (refine wklp (w_a e1 (w_a e2 (w_a m2 (w_a e5 (w_a e6 (w_a e18 (w_a e19 (w_a e20 (w_a m5 (w_a m20 (w_a m21 (w_a hls w_t)))))))))))) w_t (w_a e2 (w_a m2 (w_a m5 (w_a m20 (w_a m21 w_t))))) (w_r 0) ?_; (repeat' first | exact w_t | apply w_l); all_goals intros))
  · exact ⟨Nat.zero_le _, by exact gC, by exact gC, by exact gC, by exact gC, by exact gC, by (simp (disch := omega) only [go_sem, frN] <;> repeat' first | rfl | refine ⟨?_, ?_⟩), by exact gC, by exact gW hls, by exact gC, ⟨_, _, by (simp (disch := omega) only [go_sem, List.set_cons_zero, List.set_cons_succ, frN] <;> repeat' first | rfl | refine ⟨?_, ?_⟩), by (simp (disch := omega) only [go_sem, frN, List.map_nil] <;> repeat' first | rfl | refine ⟨?_, ?_⟩), by (simp (disch := omega) only [go_sem, frN, List.map_nil] <;> repeat' first | rfl | refine ⟨?_, ?_⟩)⟩, fun j hj => by omega⟩
end Go.Proofs.YtbgmnobnaplmlaaGreat
end

section
namespace Go.Proofs.YtbgmnobnaplmlaaGreat
open Go Go.RowKit Go.Pg Go.Pol
set_option linter.unusedSimpArgs false
set_option linter.unusedVariables false
set_option maxRecDepth 20000
attribute [local go_sem] Tryz.underlying3 Tryz.underlying4 Tryz.underlying178 Tryz.underlying9 Tryz.underlying48 Tryz.underlying31 Tryz.underlying43 Tryz.underlying41 Tryz.underlying39 Tryz.underlying50 Tryz.underlying22 Tryz.underlying25 Tryz.underlying56 Tryz.underlying28 Tryz.underlying72 Tryz.underlying27 Tryz.underlying30 Tryz.underlying105 Tryz.underlying107 Tryz.underlying70 Tryz.underlying63 Tryz.underlying103 Tryz.underlying154 sz3 by3 z3 szB zB szErr zErr szStr byStr zStr szRat zRat szInt zInt szNat zNat szStep byStep zStep szFig zFig szSlI zSlI szSlS zSlS szVar byVar zVar szSlV zSlV szCoord byCoord zCoord szSlC zSlC szFrame zFrame szCBld byCBld zCBld szCVec byCVec zCVec szPoly byPoly zPoly szTerm zTerm szPtrB zPtrB szFnC zFnC
attribute [-bool_to_prop] Bool.and_eq_decide Bool.or_eq_decide Bool.decide_beq_decide decide_eq_decide
theorem vk_big {z : Int} : Vk (.tup [.agg [.v (.slice none 0 0), .v (.slice none 0 0)], iv z]) (.tup [frmA [] [], iv z]) := Vk.tupL (.cons (Vk.aggL (.cons (.nil 2) (.cons (.nil 3) .nil))) (.cons (.refl _) .nil))
end Go.Proofs.YtbgmnobnaplmlaaGreat
end

section
namespace Go.Proofs.YtbgmnobnaplmlaaGreat
open Go Go.RowKit Go.Pg
set_option linter.unusedSimpArgs false
set_option linter.unusedVariables false
set_option maxRecDepth 20000
attribute [local go_sem] Tryz.underlying3 Tryz.underlying4 Tryz.underlying178 Tryz.underlying9 Tryz.underlying48 Tryz.underlying93 Tryz.underlying31 Tryz.underlying43 Tryz.underlying41 Tryz.underlying39 Tryz.underlying50 Tryz.underlying22 Tryz.underlying25 Tryz.underlying124 Tryz.underlying23 Tryz.underlying85 Tryz.underlying97 Tryz.underlying52 Tryz.underlying45 Tryz.underlying89 Tryz.underlying36 Tryz.underlying87 sz3 by3 z3 szB zB szErr zErr szStr byStr zStr szL byL zL szRat zRat szInt zInt szNat zNat szStep byStep zStep szFig zFig szSlI zSlI szSlS zSlS szFact byFact zFact szSlF zSlF szCond byCond zCond szSlCd zSlCd szPt byPt zPt szSlPt zSlPt szSlStr zSlStr szIns zIns szSlR zSlR szSlB zSlB
attribute [-bool_to_prop] Bool.and_eq_decide Bool.or_eq_decide Bool.decide_beq_decide decide_eq_decide
set_option maxHeartbeats 8000000 in
theorem lawListed1 (c : RC) (ss : List RS) (gs : List RG) (L : List RC) (z : Int) (b : Bool) (h8 : c.ar.length ≤ 8) (hL : L.length ≤ 1000)
    (cf : Pure Tryz.prog 34 [figA ss gs] (.v (.bool true)))
    (c1 : Pure Tryz.prog 46 [figA ss gs] (.tup [.sl 3 (L.map RC.av), iv z])) (c2 : Pure Tryz.prog 47 [figA ss gs] (.tup [.sl 3 (L.map RC.av), iv z]))
    (cs : ∀ x ∈ L, Pure Tryz.prog 48 [x.av, x.av] (.v (.bool true))) (cr : ∀ x ∈ L, Pure Tryz.prog 49 [x.av, figA ss gs] (.v (.bool true)))
    (r1 : Pure Tryz.prog 49 [c.av, figA ss gs] (.v (.bool b))) (r2 : Pure Tryz.prog 50 [c.av, figA ss gs] (.v (.bool b))) :
    Pure Tryz.prog 13 [figA ss gs, c.av] (.v (.bool true)) := by
  have ca := aw23
  have hla : (c.ar.map iv).length = c.ar.length := List.length_map ..
  have hlL : (L.map RC.av).length = L.length := List.length_map ..
  have hg : ∀ i (h : i < L.length), (L.map RC.av).getD i .u = L[i].av := fun i h => map_atB RC.av h
  have cf : Pure Tryz.prog 34 [.agg [.sl 6 (ss.map RS.av), .sl 5 (gs.map RG.av)]] (.v (.bool true)) := cf
  have c1 : Pure Tryz.prog 46 [.agg [.sl 6 (ss.map RS.av), .sl 5 (gs.map RG.av)]] (.tup [.sl 3 (L.map RC.av), iv z]) := c1
  have c2 : Pure Tryz.prog 47 [.agg [.sl 6 (ss.map RS.av), .sl 5 (gs.map RG.av)]] (.tup [.sl 3 (L.map RC.av), iv z]) := c2
  have cr : ∀ x ∈ L, Pure Tryz.prog 49 [x.av, .agg [.sl 6 (ss.map RS.av), .sl 5 (gs.map RG.av)]] (.v (.bool true)) := cr
  have r1 : Pure Tryz.prog 49 [c.av, .agg [.sl 6 (ss.map RS.av), .sl 5 (gs.map RG.av)]] (.v (.bool b)) := r1
  have r2 : Pure Tryz.prog 50 [c.av, .agg [.sl 6 (ss.map RS.av), .sl 5 (gs.map RG.av)]] (.v (.bool b)) := r2
  show Pure _ _ [.agg [.sl 6 (ss.map RS.av), .sl 5 (gs.map RG.av)], c.av] _
  generalize ss.map RS.av = M at *
  generalize gs.map RG.av = N at *
  generalize L.map RC.av = LA at *
  obtain ⟨k, ar, st⟩ := c
  simp only at *
  refine pure_intro (tok := 0) Tryz.func13 rfl Tryz.ntmps13 Tryz.results13 Tryz.call13 (by rfl) (by simp) ?_
  (focus (refine wkad (w_a hla (w_a hlL w_t)) (w_a cf (w_a c1 (w_a c2 w_t))) w_t ?_; (repeat' first | exact w_t | apply w_l); all_goals intros))
  rename_i g2 g3
  refine r_loopE (ι := Nat) (fun i e m => i ≤ L.length ∧ e 2 = .pbox 2 g2 0 ∧ m 2 = some (.box g2 25 [.sl 6 M, .sl 5 N] false) ∧ e 3 = .pbox 3 g3 0 ∧ m 3 = some (.box g3 85 [iv k, ivs ar, iv st] false) ∧ e 5 = .sl 3 LA ∧ e 7 = .sl 3 LA ∧ e 41 = iv L.length ∧ e 42 = iv i) (fun i => L.length - i) 0 (by rfl) ?_ ?_
  · rintro i e m ⟨hi, e2, m2, e3, m3, e5, e7, e41, e42⟩
    by_cases hlt : i < L.length
    · have hgi := hg i hlt
      have q1 := cs _ (List.getElem_mem hlt)
      have q2 := cr _ (List.getElem_mem hlt)
      clear cs cr hg r1 r2 ca c1 c2 cf
      generalize L[i] = x at *
      obtain ⟨xk, xa, xs⟩ := x
      (focus (refine wkad (w_a e2 (w_a m2 (w_a e3 (w_a m3 (w_a e5 (w_a e7 (w_a e41 (w_a e42 (w_a hlL (w_a hgi w_t)))))))))) (w_a q1 (w_a q2 w_t)) (w_a (w_d 10 [(8, .v (.bool true)), (16, .v (.bool true))] [] []) w_t) ?_; (repeat' first | exact w_t | apply w_l); all_goals intros))
      exact ⟨i + 1, ⟨by omega, by exact gW e2, by exact gW m2, by exact gW e3, by exact gW m3, by exact gW e5, by exact gW e7, by exact gW e41, by exact gS⟩, by omega⟩
    · clear cs cr hg c1 c2 cf
      (focus (refine wkad (w_a e2 (w_a m2 (w_a e3 (w_a m3 (w_a e5 (w_a e7 (w_a e41 (w_a e42 (w_a hlL w_t))))))))) (w_a r1 (w_a r2 (w_a ca w_t))) (w_a (w_d 13 [(2, .v (.bool b)), (5, .v (.bool b)), (8, .v (.bool true))] [] []) w_t) ?_; (repeat' first | exact w_t | apply w_l); all_goals intros))
      all_goals (all_goals (try simp (disch := omega) only [go_sem, decide_eq_true, decide_eq_false, if_pos, if_neg, Int.reduceAdd, Int.reduceSub, Int.reduceToNat, Int.zero_add])); (all_goals first | done | rfl | (congr 2; first | done | omega | (rw [Bool.eq_iff_iff]; simp only [bool_to_prop, Bool.false_eq_true, iff_true, true_iff, iff_false, false_iff]; omega)) | skip)
  · exact ⟨Nat.zero_le _, by exact gC, by exact gC, by exact gC, by exact gC, by exact gC, by exact gC, by (simp (disch := omega) only [go_sem, hlL] <;> repeat' first | rfl | refine ⟨?_, ?_⟩), by exact gC⟩
/-- What few terms say of a figure. -/
theorem few_in {ss : List RS} {gs : List RG} (hs : ∀ s ∈ ss, s.sm) (h : fewB ss gs = true) : ss.length ≤ 8 ∧ figE ss gs = 0 ∧ FigOk ss ∧ thinB ss gs = true := by
  unfold fewB at h
  simp only [Bool.and_eq_true, decide_eq_true_eq, List.all_eq_true] at h
  obtain ⟨h1, h2, h3, h4, h5, h6⟩ := h
  refine ⟨h1, h3, ⟨by omega, figE_steps h3, fun s hm => ?_, ?_⟩, h4⟩
  · have := h5 s hm
    unfold rat2 at this
    simp only [Bool.and_eq_true, decide_eq_true_eq] at this
    obtain ⟨k1, k2, k3, k4⟩ := (hs s hm).1
    exact ⟨k1, k2, this.1, this.2⟩
  · have := nfN_le ss ss.length
    omega
set_option maxHeartbeats 4000000 in
theorem lawListed (c : RC) (ss : List RS) (gs : List RG) (h1 : ss.length ≤ 1000000000) (h2 : gs.length ≤ 1000000000) (hs : ∀ s ∈ ss, s.sm) (hg : ∀ g ∈ gs, g.sm) :
    Pure Tryz.prog 13 [figA ss gs, c.av] (.v (.bool true)) := by
  have cR := rlRight ss gs h1 h2 hs hg
  have lR := lwRight ss gs h1 h2 hs hg
  have cf := rlFew ss gs cR
  have hla : (c.ar.map iv).length = c.ar.length := List.length_map ..
  by_cases hf : fewB ss gs = true ∧ c.ar.length ≤ 8
  · obtain ⟨hf, h8⟩ := hf
    obtain ⟨hl, he, ok, -⟩ := few_in hs hf
    rw [hf] at cf
    rw [he] at cR lR
    have hk : ∀ i (h : i < ss.length), (ss[i].ar.length : Int) = arS ss[i].k := fun i h => (errS_ok h (ok.er i h)).2.1
    have r1 := cnRight c ss gs lR (by omega) (by omega) hk
    have r2 := rkRight c ss gs (by omega) (by omega) hk
    have hsm : ∀ x ∈ cndN ss ss.length, Pure Tryz.prog 48 [x.av, x.av] (.v (.bool true)) ∧ Pure Tryz.prog 49 [x.av, figA ss gs] (.v (.bool true)) := fun x hx => by
      have hxl : x.ar.length ≤ 1000 := by
        obtain ⟨j, hj, h4, rfl⟩ := cndN_mem hx
        refine cOf_len ?_
        have := hk j hj
        have h5 := arS_le' ss[j].k
        rw [show ss.getD j RS.zero = ss[j] from by rw [List.getD_eq_getElem?_getD, List.getElem?_eq_getElem hj]; rfl]
        omega
      have k1 := rkSame x x (by omega) (by omega)
      rw [sameC_refl] at k1
      have k2 := cnRight x ss gs lR hxl (by omega) hk
      rw [cndOk_mem hx] at k2
      exact ⟨k1, k2⟩
    have hlen := cndN_len ss ss.length
    have co := coFrame1 ss gs lR ok
    have ro := rcFrame1 ss gs cR ok
    by_cases hb : (List.range ss.length).any (bigN ss) = true
    · rw [if_pos hb] at co ro
      have o1 := cnOf ss gs [] [] 4 (pure_vkR co vk_big) (by omega) (fun h => by omega)
      have o2 := rkOf ss gs [] [] 4 (pure_vkR ro vk_big) (by omega) (fun h => by omega)
      rw [if_neg (by decide)] at o1 o2
      exact lawListed1 c ss gs [] 4 _ h8 (by simp) cf o1 o2 (fun x hx => by cases hx) (fun x hx => by cases hx) r1 r2
    · rw [if_neg hb] at co ro
      have o1 := cnOf ss gs _ _ 0 co (by omega) (fun _ => hk)
      have o2 := rkOf ss gs _ _ 0 ro (by omega) (fun _ => hk)
      rw [if_pos rfl] at o1 o2
      exact lawListed1 c ss gs (cndN ss ss.length) 0 _ h8 (by omega) cf o1 o2 (fun x hx => (hsm x hx).1) (fun x hx => (hsm x hx).2) r1 r2
  · have ca := aw23
    have cf : Pure Tryz.prog 34 [.agg [.sl 6 (ss.map RS.av), .sl 5 (gs.map RG.av)]] (.v (.bool (fewB ss gs))) := cf
    show Pure _ _ [.agg [.sl 6 (ss.map RS.av), .sl 5 (gs.map RG.av)], c.av] _
    clear cR lR
    generalize fewB ss gs = f at *
    generalize ss.map RS.av = M at *
    generalize gs.map RG.av = N at *
    obtain ⟨k, ar, st⟩ := c
    simp only at *
    cases f with
    | false =>
      refine pure_intro (tok := 0) Tryz.func13 rfl Tryz.ntmps13 Tryz.results13 Tryz.call13 (by rfl) (by simp) ?_
      (focus (refine wkld (w_a hla w_t) (w_a cf (w_a ca w_t)) w_t w_t ?_; (repeat' first | exact w_t | apply w_l); all_goals intros))
    | true =>
      have h9 : ¬ ar.length ≤ 8 := fun h => hf ⟨rfl, h⟩
      clear hf
      refine pure_intro (tok := 0) Tryz.func13 rfl Tryz.ntmps13 Tryz.results13 Tryz.call13 (by rfl) (by simp) ?_
      (focus (refine wkld (w_a hla w_t) (w_a cf (w_a ca w_t)) w_t w_t ?_; (repeat' first | exact w_t | apply w_l); all_goals intros))
end Go.Proofs.YtbgmnobnaplmlaaGreat
end

section
namespace Go.Proofs.YtbgmnobnaplmlaaGreat
open Go Go.RowKit Go.Pg
set_option linter.unusedSimpArgs false
set_option linter.unusedVariables false
set_option maxRecDepth 20000
attribute [-bool_to_prop] Bool.and_eq_decide Bool.or_eq_decide Bool.decide_beq_decide decide_eq_decide
theorem saidListed (xs : List AV) (h : ShapeL Tryz.prog 1048576 9 [25, 85] xs) : Pure Tryz.prog 13 xs (.v (.bool true)) := by
  obtain ⟨x, bs, rfl, h1, h⟩ := h.inv
  obtain ⟨y, bs, rfl, h2, h⟩ := h.inv
  obtain rfl := h.inv0
  obtain ⟨ss, gs, e, hl, kl, hq, kq⟩ := shFigure h1
  obtain ⟨c, e1, hc⟩ := shCond h2
  rw [e, e1]
  exact lawListed c ss gs (by omega) (by omega) (fun s hs => ⟨lm_mono (hq s hs).1 (by decide), Nat.le_trans (hq s hs).2.1 (by decide), Nat.le_trans (hq s hs).2.2 (by decide)⟩) (fun g hg => ⟨lm_mono (kq g hg).1 (by decide), Nat.le_trans (kq g hg).2 (by decide)⟩)
end Go.Proofs.YtbgmnobnaplmlaaGreat
end
