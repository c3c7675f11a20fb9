/- Contracts of the functions that the law reaches, and the rules by which they are walked. They say what a call hands back for every input within the bounds that each names; no other condition. -/
import Derived.Test.YtbgmnobnaplmlaaGreatBr4
section
namespace Go.Proofs.YtbgmnobnaplmlaaGreat
open Go Go.RowKit Go.Pg Go.Pol
set_option linter.unusedSimpArgs false
set_option linter.unusedVariables false
set_option maxRecDepth 20000
attribute [local go_sem] Tryz.underlying3 Tryz.underlying4 Tryz.underlying43 Tryz.underlying41 Tryz.underlying39 Tryz.underlying63 Tryz.underlying69 Tryz.underlying61 Tryz.underlying70 Tryz.underlying78 sz3 by3 z3 szRat zRat szInt zInt szNat zNat szTerm byTerm zTerm szMono byMono zMono szPoly byPoly zPoly
attribute [-bool_to_prop] Bool.and_eq_decide Bool.or_eq_decide Bool.decide_beq_decide decide_eq_decide
theorem rpLex (a b : List Int) (hs : Sm a) (ht : Sm b) : Pure Tryz.prog 122 [ivs a, ivs b, iv 0] (iv (lexC a b (max a.length b.length))) := by
  have c : Pure Tryz.prog 122 [ivs a, ivs b, iv 0] (iv (cmpI a b 0)) := mrCmp a b 0 hs ht
  have e : cmpI a b 0 = lexC a b (max a.length b.length) := by unfold cmpI; rw [if_neg (by omega)]
  rwa [e] at c
theorem qSign (q : Rat) {k : Nat} (h : Sz q k) (hk : k ≤ 10000000) : Pure Tryz.prog 120 [ratQ q] (.v (.int .i64 q.num.sign)) := by
  have c := zSign q.num (by have := h.1; omega)
  have cn := qNorm q h hk
  generalize q.num.sign = z at *
  refine pure_intro (tok := 0) Tryz.func120 rfl Tryz.ntmps120 Tryz.results120 Tryz.call120 (by rfl) (by simp) ?_
  (focus (refine wklp w_t (w_a cn (w_a c w_t)) w_t (w_r 0) ?_; (repeat' first | exact w_t | apply w_l); all_goals intros))
set_option maxHeartbeats 4000000 in
theorem rpAdd (p q : Po) {j k e : Nat} (hp : PK p j e) (hq : PK q k e) (sp : SrtM p) (sq : SrtM q) (lp : p.length ≤ 1000000) (lq : q.length ≤ 1000000) (hj : j ≤ 1000000) (hk : k ≤ 1000000) (he : e ≤ 16777216) :
    Pure Tryz.prog 80 [poA p, poA q] (poA (addM p q)) := by
  refine pure_intro (tok := 0) Tryz.func80 rfl Tryz.ntmps80 Tryz.results80 Tryz.call80 (by rfl) (by simp) ?_
  (focus (refine wkad (w_a @l_map w_t) w_t w_t ?_; (repeat' first | exact w_t | apply w_l); all_goals intros))
  refine r_frz (Frz.nilOwn (d := 5) 100 4 63 (by exact gC)) ?_
  refine r_loopE (ι := Nat × Nat) (fun x e m => x.1 ≤ p.length ∧ x.2 ≤ q.length ∧ e 0 = poA p ∧ e 1 = poA q ∧ e 6 = iv x.1 ∧ e 7 = iv x.2 ∧ ∃ sv out, e 5 = .own 100 sv ∧ m 100 = some (.row sv 63 4 (out.map tmA) 0) ∧ out.length ≤ x.1 + x.2 ∧ addM p q = out ++ addM (p.drop x.1) (q.drop x.2)) (fun x => p.length + q.length - (x.1 + x.2)) (0, 0) (by rfl) ?_ ?_
  · rintro ⟨i, l⟩ e m ⟨hi, hl, e0, e1, e6, e7, sv, out, e5, em, ho, hs⟩
    simp only at hi hl e6 e7 ho hs
    by_cases hil : i < p.length ∧ l < q.length
    · obtain ⟨hi2, hl2⟩ := hil
      have hg := map_atB tmA hi2
      have hh := map_atB tmA hl2
      have st := addM_step hi2 hl2
      have ms := hp _ (List.getElem_mem hi2)
      have mt := hq _ (List.getElem_mem hl2)
      have m1 := hp.sm he (List.getElem_mem hi2)
      have m2 := hq.sm he (List.getElem_mem hl2)
      have d1 := sp.dom _ (List.getElem_mem hi2)
      have d2 := sq.dom _ (List.getElem_mem hl2)
      generalize p[i] = s at *
      generalize q[l] = t at *
      have cl := rpLex s.2 t.2 m1 m2
      have ca := qAdd s.1 t.1 ms.1 mt.1 (by omega) (by omega)
      have cz := qSign (s.1 + t.1) (ms.1.add mt.1) (by omega)
      have hlen : (out.map tmA).length = out.length := List.length_map ..
      rw [st] at hs
      obtain ⟨s1, s2⟩ := s
      obtain ⟨t1, t2⟩ := t
      simp only at *
      rcases lexM_cases d1 d2 with ⟨h1, h2⟩ | ⟨h1, h1', h2, h3⟩ | ⟨h1, h1', h2⟩
      · have h3 : ¬ ltM t2 s2 := fun h => ordM.irr _ (ordM.tr _ _ _ h h1)
        rw [if_neg h3, if_pos h1] at hs
        rw [h2] at cl
        clear st ms mt m1 m2 d1 d2 ca cz
        (focus (refine wkad (w_a e0 (w_a e1 (w_a e6 (w_a e7 (w_a e5 (w_a em (w_a hg (w_a hh (w_a @l_map w_t))))))))) (w_a cl w_t) (w_a (w_d 8 [(10, iv (-1))] [] []) w_t) ?_; (repeat' first | exact w_t | apply w_l); all_goals intros))
        refine ⟨(i, l + 1), ⟨by simp only; omega, by simp only; omega, by exact gW e0, by exact gW e1, by exact gW e6, by exact gS, _, out ++ [(t1, t2)], by exact gC, by (simp (disch := omega) only [go_sem, List.map_append] <;> repeat' first | rfl | refine ⟨?_, ?_⟩), by simp only [List.length_append, List.length_cons, List.length_nil]; omega, by rw [hs, List.append_assoc]; rfl⟩, by simp only; omega⟩
      · rw [if_neg h1', if_neg h1] at hs
        rw [h3] at cl
        by_cases hz : s1 + t1 = 0
        · rw [if_pos hz] at hs
          have hz2 : (s1 + t1).num.sign = 0 := by rw [sgn_ne]; exact hz
          clear st ms mt m1 m2 d1 d2
          generalize (s1 + t1) = z at *
          (focus (refine wkad (w_a e0 (w_a e1 (w_a e6 (w_a e7 (w_a e5 (w_a em (w_a hg (w_a hh (w_a @l_map (w_a hz2 w_t)))))))))) (w_a cl (w_a ca (w_a cz w_t))) (w_a (w_d 8 [(10, iv 0)] [] []) (w_a (w_d 9 [(10, ratQ z)] [] [9]) w_t)) ?_; (repeat' first | exact w_t | apply w_l); all_goals intros))
          refine ⟨(i + 1, l + 1), ⟨by simp only; omega, by simp only; omega, by exact gW e0, by exact gW e1, by exact gS, by exact gS, _, out, by exact gW e5, by exact gW em, by simp only; omega, hs⟩, by simp only; omega⟩
        · rw [if_neg hz] at hs
          have hz2 : ¬ (s1 + t1).num.sign = 0 := by rw [sgn_ne]; exact hz
          clear st ms mt m1 m2 d1 d2
          generalize (s1 + t1) = z at *
          (focus (refine wkax (w_a e0 (w_a e1 (w_a e6 (w_a e7 (w_a e5 (w_a em (w_a hg (w_a hh (w_a @l_map w_t))))))))) (w_a cl (w_a ca (w_a cz w_t))) (w_a (w_d 8 [(10, iv 0)] [] []) (w_a (w_d 9 [(10, ratQ z)] [] [9]) (w_a (w_d 11 [] [9, 1009] [100, 61]) w_t))) w_t w_t w_t (w_r 0) ?_; (repeat' first | exact w_t | apply w_l); all_goals intros))
          refine ⟨(i + 1, l + 1), ⟨by simp only; omega, by simp only; omega, by exact gW e0, by exact gW e1, by exact gS, by exact gS, _, out ++ [(z, s2)], by exact gC, by (simp (disch := omega) only [go_sem, List.map_append] <;> repeat' first | rfl | refine ⟨?_, ?_⟩), by simp only [List.length_append, List.length_cons, List.length_nil]; omega, by rw [hs, List.append_assoc]; rfl⟩, by simp only; omega⟩
      · rw [if_pos h1] at hs
        rw [h2] at cl
        clear st ms mt m1 m2 d1 d2 ca cz
        (focus (refine wkad (w_a e0 (w_a e1 (w_a e6 (w_a e7 (w_a e5 (w_a em (w_a hg (w_a hh (w_a @l_map w_t))))))))) (w_a cl w_t) (w_a (w_d 8 [(10, iv 1)] [] []) w_t) ?_; (repeat' first | exact w_t | apply w_l); all_goals intros))
        refine ⟨(i + 1, l), ⟨by simp only; omega, by simp only; omega, by exact gW e0, by exact gW e1, by exact gS, by exact gW e7, _, out ++ [(s1, s2)], by exact gC, by (simp (disch := omega) only [go_sem, List.map_append] <;> repeat' first | rfl | refine ⟨?_, ?_⟩), by simp only [List.length_append, List.length_cons, List.length_nil]; omega, by rw [hs, List.append_assoc]; rfl⟩, by simp only; omega⟩
    · rw [addM_end (by omega)] at hs
      by_cases hi2 : i < p.length
      · have hl2 : l = q.length := by omega
        subst hl2
        have hg := map_atB tmA hi2
        have hd : p.drop i = p[i] :: p.drop (i + 1) := List.drop_eq_getElem_cons hi2
        rw [hd] at hs
        have hs : addM p q = (out ++ [p[i]]) ++ addM (p.drop (i + 1)) (q.drop q.length) := by
          rw [addM_end (.inr (Nat.le_refl _)), hs]; simp
        clear hd
        generalize p[i] = s at *
        obtain ⟨s1, s2⟩ := s
        (focus (refine wkad (w_a e0 (w_a e1 (w_a e6 (w_a e7 (w_a e5 (w_a em (w_a hg (w_a @l_map w_t)))))))) w_t w_t ?_; (repeat' first | exact w_t | apply w_l); all_goals intros))
        refine ⟨(i + 1, q.length), ⟨by simp only; omega, by simp only; omega, by exact gW e0, by exact gW e1, by exact gS, by exact gW e7, _, out ++ [(s1, s2)], by exact gC, by (simp (disch := omega) only [go_sem, List.map_append] <;> repeat' first | rfl | refine ⟨?_, ?_⟩), by simp only [List.length_append, List.length_cons, List.length_nil]; omega, hs⟩, by simp only; omega⟩
      · have hi3 : i = p.length := by omega
        subst hi3
        by_cases hl2 : l < q.length
        · have hg := map_atB tmA hl2
          have hd : q.drop l = q[l] :: q.drop (l + 1) := List.drop_eq_getElem_cons hl2
          rw [hd] at hs
          have hs : addM p q = (out ++ [q[l]]) ++ addM (p.drop p.length) (q.drop (l + 1)) := by
            rw [addM_end (.inl (Nat.le_refl _)), hs]; simp
          clear hd
          generalize q[l] = s at *
          obtain ⟨s1, s2⟩ := s
          (focus (refine wkad (w_a e0 (w_a e1 (w_a e6 (w_a e7 (w_a e5 (w_a em (w_a hg (w_a @l_map w_t)))))))) w_t w_t ?_; (repeat' first | exact w_t | apply w_l); all_goals intros))
          refine ⟨(p.length, l + 1), ⟨by simp only; omega, by simp only; omega, by exact gW e0, by exact gW e1, by exact gW e6, by exact gS, _, out ++ [(s1, s2)], by exact gC, by (simp (disch := omega) only [go_sem, List.map_append] <;> repeat' first | rfl | refine ⟨?_, ?_⟩), by simp only [List.length_append, List.length_cons, List.length_nil]; omega, hs⟩, by simp only; omega⟩
        · have hl3 : l = q.length := by omega
          subst hl3
          rw [List.drop_length, List.drop_length, List.append_nil, List.append_nil] at hs
          rw [hs]
          (focus (refine wkld (w_a e0 (w_a e1 (w_a e6 (w_a e7 (w_a e5 (w_a em (w_a @l_map w_t))))))) w_t (w_a em w_t) w_t ?_; (repeat' first | exact w_t | apply w_l); all_goals intros))
  · exact ⟨Nat.zero_le _, Nat.zero_le _, by exact gC, by exact gC, by exact gC, by exact gC, _, [], by exact gC, by (simp (disch := omega) only [go_sem, List.map_nil] <;> repeat' first | rfl | refine ⟨?_, ?_⟩), by simp, by simp⟩
set_option maxHeartbeats 4000000 in
theorem rpTimes (p : Po) (t : Tm) {j k e f : Nat} (hp : PK p j e) (ht : PK [t] k f) (lp : p.length ≤ 1000000) (hj : j ≤ 1000000) (hk : k ≤ 1000000) (he : e ≤ 16777216) (hf : f ≤ 16777216) :
    Pure Tryz.prog 146 [poA p, tmA t] (poA (timesP mulM p t)) := by
  obtain ⟨t1, t2⟩ := t
  refine pure_intro (tok := 0) Tryz.func146 rfl Tryz.ntmps146 Tryz.results146 Tryz.call146 (by rfl) (by simp) ?_
  (focus (refine wkad (w_a @l_map w_t) w_t w_t ?_; (repeat' first | exact w_t | apply w_l); all_goals intros))
  rename_i g3
  refine r_frz (Frz.nilOwn (d := 5) 100 4 63 (by exact gC)) ?_
  refine r_loopE (ι := Nat) (fun i e m => i ≤ p.length ∧ e 3 = .pbox 3 g3 0 ∧ m 3 = some (.box g3 63 [.v (.bool (decide (t1.num < 0))), lim (toL t1.num.natAbs), lim (toL t1.den), ivs t2] false) ∧ e 0 = poA p ∧ e 6 = iv i ∧ ∃ sv, e 5 = .own 100 sv ∧ m 100 = some (.row sv 63 4 ((timesP mulM (p.take i) (t1, t2)).map tmA) 0)) (fun i => p.length - i) 0 (by rfl) ?_ ?_
  · rintro i e m ⟨hi, e3, m3, e0, e6, sv, e5, m11⟩
    by_cases hlt : i < p.length
    · have hg := map_atB tmA hlt
      have hs := poTimes1 (t := (t1, t2)) hlt
      have ms := hp _ (List.getElem_mem hlt)
      have m1 := hp.sm he (List.getElem_mem hlt)
      have m2 := ht.sm hf (.head _)
      have mt := (ht _ (.head _)).1
      have hl : (timesP mulM (p.take i) (t1, t2)).length ≤ 1000000 := by rw [timesP_len, List.length_take]; omega
      generalize p[i] = s at *
      have c1 := qMul s.1 t1 ms.1 mt (by omega) (by omega)
      have c3 : Pure Tryz.prog 205 [ivs s.2, ivs t2] (ivs (mulM s.2 t2)) := mrMul s.2 t2 m1.wd m2.wd
      obtain ⟨s1, s2⟩ := s
      simp only at *
      clear ms m1 m2 mt
      generalize s1 * t1 = z at *
      generalize mulM s2 t2 = w at *
      generalize timesP mulM (p.take i) (t1, t2) = out at *
      (focus (refine wkad (w_a e3 (w_a m3 (w_a e0 (w_a e6 (w_a e5 (w_a m11 (w_a hg (w_a @l_map w_t)))))))) (w_a c1 (w_a c3 w_t)) (w_a (w_d 5 [(8, ratQ z), (16, ivs w)] [19, 1019] [100, 31]) w_t) ?_; (repeat' first | exact w_t | apply w_l); all_goals intros))
      exact ⟨i + 1, ⟨by omega, by exact gW e3, by exact gW m3, by exact gW e0, by exact gS, _, by exact gC, by rw [hs, List.map_append]; exact gC⟩, by omega⟩
    · have hi2 : i = p.length := by omega
      subst hi2
      rw [List.take_length] at m11
      (focus (refine wkld (w_a e3 (w_a m3 (w_a e0 (w_a e6 (w_a e5 (w_a m11 (w_a @l_map w_t))))))) w_t (w_a m11 w_t) w_t ?_; (repeat' first | exact w_t | apply w_l); all_goals intros))
  · exact ⟨Nat.zero_le _, by exact gC, by exact gC, by exact gC, by exact gC, _, by exact gC, by (simp (disch := omega) only [go_sem, List.take_zero, timesP, List.map_nil] <;> repeat' first | rfl | refine ⟨?_, ?_⟩)⟩
theorem scale_take {p : Po} {a : Rat} {i : Nat} (hi : i < p.length) : scaleP a (p.take (i + 1)) = scaleP a (p.take i) ++ [(p[i].1 * a, p[i].2)] := by
  unfold scaleP
  rw [List.take_succ_eq_append_getElem hi, List.map_append]; rfl
set_option maxHeartbeats 4000000 in
theorem rpScale0 (p : Po) (a : Rat) {j k e : Nat} (hp : PK p j e) (ha : Sz a k) (lp : p.length ≤ 1000000) (hj : j ≤ 1000000) (hk : k ≤ 1000000) (h : a ≠ 0) :
    Pure Tryz.prog 206 [poA p, ratQ a] (poA (scaleP a p)) := by
  have cs := qSign a ha (by omega)
  have hz : ¬ a.num.sign = 0 := by rw [sgn_ne]; exact h
  generalize a.num.sign = sg at *
  refine pure_intro (tok := 0) Tryz.func206 rfl Tryz.ntmps206 Tryz.results206 Tryz.call206 (by rfl) (by simp) ?_
  (focus (refine wkad (w_a @l_map w_t) w_t w_t ?_; (repeat' first | exact w_t | apply w_l); all_goals intros))
  rename_i g3
  refine r_frz (Frz.nilOwn (d := 5) 100 4 63 (by exact gC)) ?_
  refine r_loopE (ι := Nat) (fun i e m => i ≤ p.length ∧ e 3 = .pbox 3 g3 0 ∧ m 3 = some (.box g3 43 [.v (.bool (decide (a.num < 0))), lim (toL a.num.natAbs), lim (toL a.den)] false) ∧ e 0 = poA p ∧ e 6 = iv i ∧ ∃ sv, e 5 = .own 100 sv ∧ m 100 = some (.row sv 63 4 ((scaleP a (p.take i)).map tmA) 0)) (fun i => p.length - i) 0 (by rfl) ?_ ?_
  · rintro i e m ⟨hi, e3, m3, e0, e6, sv, e5, m11⟩
    by_cases hlt : i < p.length
    · have hg := map_atB tmA hlt
      have hs := scale_take (a := a) hlt
      have ms := (hp _ (List.getElem_mem hlt)).1
      have hl : (scaleP a (p.take i)).length ≤ 1000000 := by rw [scale_len, List.length_take]; omega
      generalize p[i] = s at *
      have c1 := qMul s.1 a ms ha (by omega) (by omega)
      obtain ⟨s1, s2⟩ := s
      simp only at *
      clear ms
      generalize s1 * a = z at *
      generalize scaleP a (p.take i) = out at *
      (focus (refine wkad (w_a e3 (w_a m3 (w_a e0 (w_a e6 (w_a e5 (w_a m11 (w_a hg (w_a @l_map w_t)))))))) (w_a c1 (w_a cs w_t)) (w_a (w_d 5 [(7, ratQ z)] [15, 1015] [100, 32]) w_t) ?_; (repeat' first | exact w_t | apply w_l); all_goals intros))
      exact ⟨i + 1, ⟨by omega, by exact gW e3, by exact gW m3, by exact gW e0, by exact gS, _, by exact gC, by rw [hs, List.map_append]; exact gC⟩, by omega⟩
    · have hi2 : i = p.length := by omega
      subst hi2
      rw [List.take_length] at m11
      (focus (refine wkld (w_a e3 (w_a m3 (w_a e0 (w_a e6 (w_a e5 (w_a m11 (w_a @l_map w_t))))))) w_t (w_a m11 w_t) w_t ?_; (repeat' first | exact w_t | apply w_l); all_goals intros))
  · exact ⟨Nat.zero_le _, by exact gC, by exact gC, by exact gC, by exact gC, _, by exact gC, by (simp (disch := omega) only [go_sem, List.take_zero, scaleP, List.map_nil] <;> repeat' first | rfl | refine ⟨?_, ?_⟩)⟩
theorem rpNeg (p : Po) {j e : Nat} (hp : PK p j e) (lp : p.length ≤ 1000000) (hj : j ≤ 1000000) : Pure Tryz.prog 148 [poA p] (poA (scaleP (-1) p)) := by
  have c := rpScale0 p (-1) hp ((nat_sz1 1 (by omega)).neg) lp hj (by omega) neg1
  have co := qOfM
  generalize scaleP (-1) p = r at *
  generalize (-1 : Rat) = q at *
  refine pure_intro (tok := 0) Tryz.func148 rfl Tryz.ntmps148 Tryz.results148 Tryz.call148 (by rfl) (by simp) ?_
  (focus (refine wklp w_t (w_a co (w_a c w_t)) w_t (w_r 0) ?_; (repeat' first | exact w_t | apply w_l); all_goals intros))
theorem rpSub (p q : Po) {j k e : Nat} (hp : PK p j e) (hq : PK q k e) (sp : SrtM p) (sq : SrtM q) (lp : p.length ≤ 1000000) (lq : q.length ≤ 1000000) (hj : j ≤ 1000000) (hk : k ≤ 1000000) (he : e ≤ 16777216) :
    Pure Tryz.prog 74 [poA p, poA q] (poA (subM p q)) := by
  have c1 := rpNeg q hq lq hk
  have c2 := rpAdd p (scaleP (-1) q) hp hq.neg sp (scale_srt sq neg1) lp (by rw [scale_len]; exact lq) hj hk he
  show Pure _ _ _ (poA (addM p (scaleP (-1) q)))
  generalize scaleP (-1) q = n at *
  generalize addM p n = r at *
  refine pure_intro (tok := 0) Tryz.func74 rfl Tryz.ntmps74 Tryz.results74 Tryz.call74 (by rfl) (by simp) ?_
  (focus (refine wklp w_t (w_a c1 (w_a c2 w_t)) w_t (w_r 0) ?_; (repeat' first | exact w_t | apply w_l); all_goals intros))
theorem mulR_take {p q : Po} {i : Nat} (hi : i < q.length) : mlM p (q.take (i + 1)) = addM (mlM p (q.take i)) (timesP mulM p q[i]) := by
  unfold mlM mulR
  rw [List.take_succ_eq_append_getElem hi, List.foldl_append]; rfl
theorem srt_take {q : Po} (h : SrtM q) (i : Nat) : SrtM (q.take i) := ⟨fun t ht => h.1 t (List.mem_of_mem_take ht), List.Pairwise.sublist (List.take_sublist i q) h.2⟩
set_option maxHeartbeats 4000000 in
theorem rpMul (p q : Po) {j k e f K E : Nat} (hp : PK p j e) (hq : PK q k f) (sp : SrtM p) (sq : SrtM q) (lp : p.length ≤ 1000000) (lq : q.length ≤ 1000000) (hj : j ≤ 500000) (hk : k ≤ 500000) (he : e ≤ 8000000) (hf : f ≤ 8000000)
    (ho : ∀ i, PK (mlM p (q.take i)) K E ∧ (mlM p (q.take i)).length ≤ 1000000) (hK : K ≤ 1000000) (hE : E ≤ 16777216) :
    Pure Tryz.prog 72 [poA p, poA q] (poA (mlM p q)) := by
  refine pure_intro (tok := 0) Tryz.func72 rfl Tryz.ntmps72 Tryz.results72 Tryz.call72 (by rfl) (by simp) ?_
  (focus (refine wkap (w_a @l_map w_t) w_t (w_r 0) ?_; (repeat' first | exact w_t | apply w_l); all_goals intros))
  refine r_frz (Frz.nil (d := 5) 4 (by exact gC)) ?_
  refine r_loopE (ι := Nat) (fun i e' m => i ≤ q.length ∧ e' 0 = poA p ∧ e' 1 = poA q ∧ e' 6 = iv i ∧ e' 5 = poA (mlM p (q.take i))) (fun i => q.length - i) 0 (by rfl) ?_ ?_
  · rintro i e' m ⟨hi, e0, e1, e6, e5⟩
    by_cases hlt : i < q.length
    · have hg := map_atB tmA hlt
      have ht : PK [q[i]] k f := fun u hu => by rw [List.mem_singleton] at hu; subst hu; exact hq _ (List.getElem_mem hlt)
      have c1 := rpTimes p q[i] hp ht lp (by omega) (by omega) (by omega) (by omega)
      have c2 := rpAdd (mlM p (q.take i)) (timesP mulM p q[i]) (k := j + k) (e := max E (e + f)) ((ho i).1.mono (Nat.le_refl _) (by omega)) ((hp.times ht).mono (Nat.le_refl _) (by omega)) (mulR_srt ordM mulK sp (srt_take sq i)) (times_srt mulK sp (sq.1 _ (List.getElem_mem hlt)).1 (sq.1 _ (List.getElem_mem hlt)).2) (ho i).2 (by rw [timesP_len]; exact lp) hK (by omega) (by omega)
      rw [← mulR_take hlt] at c2
      generalize q[i] = t at *
      obtain ⟨t1, t2⟩ := t
      generalize timesP mulM p (t1, t2) = w at *
      generalize mlM p (q.take i) = out at *
      generalize hout : mlM p (q.take (i + 1)) = out' at *
      (focus (refine wkap (w_a e0 (w_a e1 (w_a e6 (w_a e5 (w_a hg (w_a @l_map w_t)))))) (w_a c1 (w_a c2 w_t)) (w_r 0) ?_; (repeat' first | exact w_t | apply w_l); all_goals intros))
      exact ⟨i + 1, ⟨by omega, by exact gW e0, by exact gW e1, by exact gS, by rw [hout]; exact gC⟩, by omega⟩
    · have hi2 : i = q.length := by omega
      subst hi2
      rw [List.take_length] at e5
      (focus (refine wklp (w_a e0 (w_a e1 (w_a e6 (w_a e5 (w_a @l_map w_t))))) w_t w_t (w_r 0) ?_; (repeat' first | exact w_t | apply w_l); all_goals intros))
  · exact ⟨Nat.zero_le _, by exact gC, by exact gC, by exact gC, by (simp (disch := omega) only [go_sem, List.take_zero, mlM, mulR, List.foldl_nil, List.map_nil] <;> repeat' first | rfl | refine ⟨?_, ?_⟩)⟩
theorem rpAddNil (c : Rat) (m : List Int) {k : Nat} (hc : Sz c k) (hk : k ≤ 1000000) : Pure Tryz.prog 147 [.v (.slice none 0 0), ratQ c, ivs m] (poA (if c = 0 then [] else [(c, m)])) := by
  have cs := qSign c hc (by omega)
  have cn := qNorm c hc (by omega)
  by_cases h : c = 0
  · rw [if_pos h]
    have hz : c.num.sign = 0 := by rw [sgn_ne]; exact h
    refine pure_intro (tok := 0) Tryz.func147 rfl Tryz.ntmps147 Tryz.results147 Tryz.call147 (by rfl) (by simp) ?_
    (focus (refine wkax (w_a hz w_t) (w_a cs w_t) w_t w_t w_t w_t (w_r 2) ?_; (repeat' first | exact w_t | apply w_l); all_goals intros))
    (all_goals (try simp (disch := omega) only [go_sem, decide_eq_true, decide_eq_false, if_pos, if_neg, Int.reduceAdd, Int.reduceSub, Int.reduceToNat, Int.zero_add])); (all_goals first | done | rfl | (congr 2; first | done | omega | (rw [Bool.eq_iff_iff]; simp only [bool_to_prop, Bool.false_eq_true, iff_true, true_iff, iff_false, false_iff]; omega)) | skip)
  · rw [if_neg h]
    have hz : ¬ c.num.sign = 0 := by rw [sgn_ne]; exact h
    generalize c.num.sign = z at *
    refine pure_intro (tok := 0) Tryz.func147 rfl Tryz.ntmps147 Tryz.results147 Tryz.call147 (by rfl) (by simp) ?_
    (focus (refine wkax w_t (w_a cs (w_a cn w_t)) w_t w_t w_t w_t (w_r 2) ?_; (repeat' first | exact w_t | apply w_l); all_goals intros))
    (all_goals (try simp (disch := omega) only [go_sem, decide_eq_true, decide_eq_false, if_pos, if_neg, Int.reduceAdd, Int.reduceSub, Int.reduceToNat, Int.zero_add])); (all_goals first | done | rfl | (congr 2; first | done | omega | (rw [Bool.eq_iff_iff]; simp only [bool_to_prop, Bool.false_eq_true, iff_true, true_iff, iff_false, false_iff]; omega)) | skip)
theorem rpVar (v : Nat) (hv : v < 1000) : Pure Tryz.prog 73 [iv v] (poA (varM v)) := by
  unfold varM
  by_cases h : v < 64
  · rw [if_pos h]
    have c1 := qOf 1 (by omega)
    rw [show ((1 : Nat) : Rat) = 1 from rfl] at c1
    have c2 := rpAddNil 1 (unitM v) (nat_sz1 1 (by omega)) (by omega)
    rw [if_neg (show (1 : Rat) ≠ 0 by decide)] at c2
    have hu : (iv 0 :: List.replicate v (iv 0)).set v (iv 1) = (unitM v).map iv := by rw [← List.replicate_succ]; exact unit_set v
    generalize (1 : Rat) = q at *
    have hl : (List.replicate (v + 1) (iv 0)).length = v + 1 := by simp
    refine pure_intro (tok := 0) Tryz.func73 rfl Tryz.ntmps73 Tryz.results73 Tryz.call73 (by rfl) (by simp) ?_
    (focus (refine wkax (w_a hl (w_a hu w_t)) (w_a c1 w_t) w_t (w_a c2 w_t) w_t w_t (w_r 0) ?_; (repeat' first | exact w_t | apply w_l); all_goals intros))
    (all_goals (try simp (disch := omega) only [go_sem, decide_eq_true, decide_eq_false, if_pos, if_neg, Int.reduceAdd, Int.reduceSub, Int.reduceToNat, Int.zero_add])); (all_goals first | done | rfl | (congr 2; first | done | omega | (rw [Bool.eq_iff_iff]; simp only [bool_to_prop, Bool.false_eq_true, iff_true, true_iff, iff_false, false_iff]; omega)) | skip)
  · rw [if_neg h]
    refine pure_vkR (r := .v (.slice none 0 0)) ?_ (.nil 4)
    refine pure_intro (tok := 0) Tryz.func73 rfl Tryz.ntmps73 Tryz.results73 Tryz.call73 (by rfl) (by simp) ?_
    (focus (refine wklp w_t w_t w_t (w_r 0) ?_; (repeat' first | exact w_t | apply w_l); all_goals intros))
theorem rpConst (c : Rat) {k : Nat} (hc : Sz c k) (hk : k ≤ 1000000) : Pure Tryz.prog 116 [ratQ c] (poA (if c = 0 then [] else [(c, [])])) := by
  have c2 := rpAddNil c [] hc hk
  have c2 := pure_vkA c2 (.cons (.refl _) (.cons (.refl _) (.cons (.nil 1) .nil)))
  generalize (if c = 0 then [] else [(c, [])]) = r at *
  refine pure_intro (tok := 0) Tryz.func116 rfl Tryz.ntmps116 Tryz.results116 Tryz.call116 (by rfl) (by simp) ?_
  (focus (refine wklp w_t (w_a c2 w_t) w_t (w_r 0) ?_; (repeat' first | exact w_t | apply w_l); all_goals intros))
theorem cmpQ_self (a : Rat) : cmpQ a a = 0 := by
  unfold cmpQ
  rw [if_neg (Rat.lt_irrefl), if_neg (Rat.lt_irrefl)]
theorem cmpQ_eq {a b : Rat} (h : cmpQ a b = 0) : a = b := by
  unfold cmpQ at h
  split at h
  · omega
  · split at h
    · omega
    · exact Rat.le_antisymm (Rat.not_lt.1 ‹_›) (Rat.not_lt.1 ‹_›)
def cmpT (s t : Tm) : Int := if lexC s.2 t.2 (max s.2.length t.2.length) ≠ 0 then lexC s.2 t.2 (max s.2.length t.2.length) else cmpQ s.1 t.1
def cmpPo : Po → Po → Int
  | [], [] => 0
  | [], _ :: _ => -1
  | _ :: _, [] => 1
  | s :: p, t :: q => if cmpT s t ≠ 0 then cmpT s t else cmpPo p q
theorem cmpT_zero {s t : Tm} (ds : Can s.2) (dt : Can t.2) : cmpT s t = 0 ↔ s = t := by
  unfold cmpT
  constructor
  · intro h
    split at h
    · rename_i h1; exact absurd h h1
    · rename_i h1
      rcases lexM_cases ds dt with ⟨_, h2⟩ | ⟨_, _, h2, _⟩ | ⟨_, _, h2⟩
      · omega
      · exact Prod.ext (cmpQ_eq h) h2
      · omega
  · rintro rfl
    rw [if_neg (by rw [lexC_zero _ fun j _ => rfl]; simp), cmpQ_self]
theorem cmpPo_zero : ∀ {p q : Po}, (∀ t ∈ p, Can t.2) → (∀ t ∈ q, Can t.2) → (cmpPo p q = 0 ↔ p = q)
  | [], [], _, _ => by simp [cmpPo]
  | [], _ :: _, _, _ => by simp [cmpPo]
  | _ :: _, [], _, _ => by simp [cmpPo]
  | s :: p, t :: q, hp, hq => by
    have h1 := cmpT_zero (hp s (.head _)) (hq t (.head _))
    have h2 := cmpPo_zero (p := p) (q := q) (fun u hu => hp u (.tail _ hu)) (fun u hu => hq u (.tail _ hu))
    unfold cmpPo
    by_cases h : cmpT s t = 0
    · rw [if_neg (by simpa using h), h2, h1.1 h]; simp
    · rw [if_pos h]
      constructor
      · intro h3; exact absurd h3 h
      · intro h3; cases h3; exact absurd (h1.2 rfl) h
theorem cmpPo_len {p q : Po} {i : Nat} (h : p.length ≤ i ∨ q.length ≤ i) : cmpPo (p.drop i) (q.drop i) = if (p.drop i).length < (q.drop i).length then -1 else if (q.drop i).length < (p.drop i).length then 1 else 0 := by
  rcases h with h | h
  · rw [List.drop_eq_nil_of_le h]
    cases q.drop i <;> simp [cmpPo]
  · rw [List.drop_eq_nil_of_le h]
    cases p.drop i <;> simp [cmpPo]
set_option maxHeartbeats 4000000 in
theorem rpCmp (p q : Po) {j k e f : Nat} (hp : PK p j e) (hq : PK q k f) (lp : p.length ≤ 1000000) (lq : q.length ≤ 1000000) (hj : j ≤ 2000000) (hk : k ≤ 2000000) (he : e ≤ 16777216) (hf : f ≤ 16777216) :
    Pure Tryz.prog 75 [poA p, poA q] (iv (cmpPo p q)) := by
  refine pure_intro (tok := 0) Tryz.func75 rfl Tryz.ntmps75 Tryz.results75 Tryz.call75 (by rfl) (by simp) ?_
  (focus (refine wkad (w_a @l_map w_t) w_t w_t ?_; (repeat' first | exact w_t | apply w_l); all_goals intros))
  refine r_loopE (ι := Nat) (fun i e m => i ≤ p.length ∧ i ≤ q.length ∧ e 0 = poA p ∧ e 1 = poA q ∧ e 5 = iv i ∧ cmpPo p q = cmpPo (p.drop i) (q.drop i)) (fun i => p.length - i) 0 (by rfl) ?_ ?_
  · rintro i e m ⟨hi, hl, e0, e1, e5, hs⟩
    by_cases hil : i < p.length ∧ i < q.length
    · obtain ⟨hi2, hl2⟩ := hil
      have hg := map_atB tmA hi2
      have hh := map_atB tmA hl2
      have cl := rpLex p[i].2 q[i].2 (hp.sm he (List.getElem_mem hi2)) (hq.sm hf (List.getElem_mem hl2))
      have cq := qCmp p[i].1 q[i].1 (hp _ (List.getElem_mem hi2)).1 (hq _ (List.getElem_mem hl2)).1 (by omega) (by omega)
      rw [List.drop_eq_getElem_cons hi2, List.drop_eq_getElem_cons hl2, cmpPo, cmpT] at hs
      generalize p[i] = s at *
      generalize q[i] = t at *
      obtain ⟨s1, s2⟩ := s
      obtain ⟨t1, t2⟩ := t
      simp only at *
      generalize lexC s2 t2 (max s2.length t2.length) = x at *
      generalize cmpQ s1 t1 = y at *
      by_cases hx : x = 0
      · rw [if_neg (show ¬ x ≠ 0 by omega)] at hs
        by_cases hy : y = 0
        · rw [if_neg (by omega)] at hs
          (focus (refine wkad (w_a e0 (w_a e1 (w_a e5 (w_a hg (w_a hh (w_a @l_map w_t)))))) (w_a cl (w_a cq w_t)) (w_a (w_d 4 [(10, iv x)] [] []) (w_a (w_d 7 [(10, iv y)] [] []) w_t)) ?_; (repeat' first | exact w_t | apply w_l); all_goals intros))
          exact ⟨i + 1, ⟨by omega, by omega, by exact gW e0, by exact gW e1, by exact gS, hs⟩, by omega⟩
        · rw [if_pos hy] at hs
          rw [hs]
          (focus (refine wkld (w_a e0 (w_a e1 (w_a e5 (w_a hg (w_a hh (w_a @l_map w_t)))))) (w_a cl (w_a cq w_t)) w_t (w_a (w_d 4 [(10, iv x)] [] []) (w_a (w_d 7 [(10, iv y)] [] []) w_t)) ?_; (repeat' first | exact w_t | apply w_l); all_goals intros))
      · rw [if_pos hx, if_pos hx] at hs
        rw [hs]
        (focus (refine wkld (w_a e0 (w_a e1 (w_a e5 (w_a hg (w_a hh (w_a @l_map w_t)))))) (w_a cl w_t) w_t (w_a (w_d 4 [(10, iv x)] [] []) w_t) ?_; (repeat' first | exact w_t | apply w_l); all_goals intros))
    · rw [cmpPo_len (by omega), List.length_drop, List.length_drop] at hs
      rw [hs]
      (focus (refine wkld (w_a e0 (w_a e1 (w_a e5 (w_a @l_map w_t)))) w_t w_t w_t ?_; (repeat' first | exact w_t | apply w_l); all_goals intros))
  · exact ⟨Nat.zero_le _, Nat.zero_le _, by exact gC, by exact gC, by exact gC, by simp⟩
theorem rpEqual (p q : Po) {j k e f : Nat} (hp : PK p j e) (hq : PK q k f) (dp : ∀ t ∈ p, Can t.2) (dq : ∀ t ∈ q, Can t.2) (lp : p.length ≤ 1000000) (lq : q.length ≤ 1000000) (hj : j ≤ 2000000) (hk : k ≤ 2000000) (he : e ≤ 16777216) (hf : f ≤ 16777216) :
    Pure Tryz.prog 29 [poA p, poA q] (.v (.bool (decide (p = q)))) := by
  have c := rpCmp p q hp hq lp lq hj hk he hf
  have h := cmpPo_zero dp dq
  rw [show decide (p = q) = decide (cmpPo p q = 0) from by rw [Bool.eq_iff_iff, decide_eq_true_eq, decide_eq_true_eq, h]]
  generalize cmpPo p q = z at *
  clear h
  refine pure_intro (tok := 0) Tryz.func29 rfl Tryz.ntmps29 Tryz.results29 Tryz.call29 (by rfl) (by simp) ?_
  (focus (refine wklp w_t (w_a c w_t) w_t (w_r 0) ?_; (repeat' first | exact w_t | apply w_l); all_goals intros))
theorem can_last {l : List Int} (h : Can l) : (l.getLast?.getD 1 == 0) = false := by
  rcases h.2 with h0 | h0
  · have : l = [] := List.length_eq_zero_iff.1 h0
    subst this; rfl
  · by_cases hl : l.length = 0
    · have : l = [] := List.length_eq_zero_iff.1 hl
      subst this; rfl
    · rw [getLast_at (by omega)]; simpa using h0
theorem right_can {l : List Int} (h : Can l) (hl : l.length ≤ 64) (he : ∀ j, gI l j ≤ 1048576) : rightB l = true := by
  rw [right_of hl (can_last h), List.all_eq_true]
  intro x hx
  obtain ⟨j, hj, rfl⟩ := List.mem_iff_getElem.1 hx
  have h1 := h.1 j
  have h2 := he j
  rw [gI_at hj] at h1 h2
  unfold expOk
  simp; omega
theorem rq_ok (q : Rat) : RQ.ok ⟨decide (q.num < 0), toL q.num.natAbs, toL q.den⟩ = true := by
  have v : ∀ n, valL (toL n) = true := fun n => (valL_iff (lm_toL n)).2 (by rw [nv_toL])
  unfold RQ.ok RQ.zok
  simp only [v, nv_toL, Bool.true_and, Bool.and_true]
  have h1 : (Nat.gcd q.num.natAbs q.den == 1) = true := by rw [beq_iff_eq]; exact q.reduced
  have h2 : decide (0 < (toL q.den).length) = true := decide_eq_true (toL_len_pos.2 q.den_pos)
  rw [h1, h2, Bool.and_true, Bool.and_true]
  by_cases h : q.num < 0
  · have : (toL q.num.natAbs).length ≠ 0 := by have := toL_len_pos.2 (show 0 < q.num.natAbs by omega); omega
    simp [this]
  · simp [h]
set_option maxHeartbeats 4000000 in
/-- Polynomials in order are valid. -/
theorem rpRight (p : Po) {j e : Nat} (hp : PK p j e) (sp : SrtM p) (lp : p.length ≤ 1000000) (hj : j ≤ 2000000) (he : e ≤ 1048576) (hl : ∀ t ∈ p, t.2.length ≤ 64) :
    Pure Tryz.prog 54 [poA p] (.v (.bool true)) := by
  refine pure_intro (tok := 0) Tryz.func54 rfl Tryz.ntmps54 Tryz.results54 Tryz.call54 (by rfl) (by simp) ?_
  (focus (refine wkad (w_a @l_map w_t) w_t w_t ?_; (repeat' first | exact w_t | apply w_l); all_goals intros))
  refine r_loopE (ι := Nat) (fun i e m => i ≤ p.length ∧ e 0 = poA p ∧ e 3 = iv i) (fun i => p.length - i) 0 (by rfl) ?_ ?_
  · rintro i e m ⟨hi, e0, e3⟩
    by_cases hi2 : i < p.length
    · have hg := map_atB tmA hi2
      have hm := hp _ (List.getElem_mem hi2)
      have hsm := hp.sm (by omega) (List.getElem_mem hi2)
      have n1 := (sp.1 _ (List.getElem_mem hi2)).1
      have d1 := (sp.1 _ (List.getElem_mem hi2)).2
      have cr := qRight (decide (p[i].1.num < 0)) (toL p[i].1.num.natAbs) (toL p[i].1.den) (lm_toL _) (lm_toL _) (by have := hm.1.1; omega) (by have := hm.1.2; omega)
      rw [rq_ok p[i].1] at cr
      have cs := qSign p[i].1 hm.1 (by omega)
      have hz : ¬ p[i].1.num.sign = 0 := by rw [sgn_ne]; exact n1
      have cm : Pure Tryz.prog 121 [ivs p[i].2] (.v (.bool (rightB p[i].2))) := refRight p[i].2
      rw [right_can d1 (hl _ (List.getElem_mem hi2)) (fun k => by have := (hm.2.2 k).2; omega)] at cm
      rcases Nat.eq_zero_or_pos i with h0 | h0
      · subst h0
        generalize p[0] = s at *
        obtain ⟨s1, s2⟩ := s
        simp only at *
        generalize s1.num.sign = z at *
        (focus (refine wkad (w_a e0 (w_a e3 (w_a hg (w_a @l_map w_t)))) (w_a cr (w_a cs (w_a cm w_t))) (w_a (w_d 6 [] [] []) w_t) ?_; (repeat' first | exact w_t | apply w_l); all_goals intros))
        exact ⟨1, ⟨by omega, by exact gW e0, by exact gC⟩, by omega⟩
      · obtain ⟨l, rfl⟩ : ∃ l, i = l + 1 := ⟨i - 1, by omega⟩
        have hh := map_atB tmA (show l < p.length by omega)
        have hlt : ltM p[l + 1].2 p[l].2 := List.pairwise_iff_getElem.1 sp.2 l (l + 1) (by omega) hi2 (by omega)
        have cl := rpLex p[l].2 p[l + 1].2 (hp.sm (by omega) (List.getElem_mem _)) hsm
        have hx : lexC p[l].2 p[l + 1].2 (max p[l].2.length p[l + 1].2.length) = 1 := by
          rw [lexC_neg, Nat.max_comm]
          have : lexC p[l + 1].2 p[l].2 (max p[l + 1].2.length p[l].2.length) = -1 := hlt
          rw [this]; rfl
        rw [hx] at cl
        have hi1 : ((l + 1 : Nat) : Int) - 1 = (l : Int) := by omega
        clear hlt hx hm hsm
        generalize p[l + 1] = s at *
        generalize p[l] = t at *
        obtain ⟨s1, s2⟩ := s
        obtain ⟨t1, t2⟩ := t
        simp only at *
        generalize s1.num.sign = z at *
        (focus (refine wkad (w_a e0 (w_a e3 (w_a hg (w_a hh (w_a hi1 (w_a @l_map w_t)))))) (w_a cr (w_a cs (w_a cm (w_a cl w_t)))) (w_a (w_d 6 [(14, iv 1)] [] []) w_t) ?_; (repeat' first | exact w_t | apply w_l); all_goals intros))
        exact ⟨l + 1 + 1, ⟨by omega, by exact gW e0, by exact gS⟩, by omega⟩
    · have hi3 : i = p.length := by omega
      subst hi3
      (focus (refine wkld (w_a e0 (w_a e3 (w_a @l_map w_t))) w_t w_t w_t ?_; (repeat' first | exact w_t | apply w_l); all_goals intros))
  · exact ⟨Nat.zero_le _, by exact gC, by exact gC⟩
end Go.Proofs.YtbgmnobnaplmlaaGreat
end

section
namespace Go.Proofs.YtbgmnobnaplmlaaGreat
open Go Go.RowKit Go.Pg
set_option linter.unusedSimpArgs false
set_option linter.unusedVariables false
set_option maxRecDepth 20000
attribute [-bool_to_prop] Bool.and_eq_decide Bool.or_eq_decide Bool.decide_beq_decide decide_eq_decide
theorem szPtrB : szOf Tryz.prog 103 = some 1 := by kernel_rfl
theorem zPtrB : zeroOf Tryz.prog 103 = some (.pointer none) := by kernel_rfl
theorem szFnC : szOf Tryz.prog 154 = some 1 := by kernel_rfl
theorem zFnC : zeroOf Tryz.prog 154 = some (.nilFunc) := by kernel_rfl
end Go.Proofs.YtbgmnobnaplmlaaGreat
end

section
namespace Go.Proofs.YtbgmnobnaplmlaaGreat
open Go Go.RowKit Go.Pg Go.Pol
set_option linter.unusedSimpArgs false
set_option linter.unusedVariables false
set_option maxRecDepth 20000
attribute [local go_sem] Tryz.underlying3 Tryz.underlying4 Tryz.underlying178 Tryz.underlying9 Tryz.underlying48 Tryz.underlying31 Tryz.underlying43 Tryz.underlying41 Tryz.underlying39 Tryz.underlying50 Tryz.underlying22 Tryz.underlying25 Tryz.underlying56 Tryz.underlying28 Tryz.underlying72 Tryz.underlying27 Tryz.underlying30 Tryz.underlying105 Tryz.underlying107 Tryz.underlying70 Tryz.underlying63 Tryz.underlying103 Tryz.underlying154 sz3 by3 z3 szB zB szErr zErr szStr byStr zStr szRat zRat szInt zInt szNat zNat szStep byStep zStep szFig zFig szSlI zSlI szSlS zSlS szVar byVar zVar szSlV zSlV szCoord byCoord zCoord szSlC zSlC szFrame zFrame szCBld byCBld zCBld szCVec byCVec zCVec szPoly byPoly zPoly szTerm zTerm szPtrB zPtrB szFnC zFnC
attribute [-bool_to_prop] Bool.and_eq_decide Bool.or_eq_decide Bool.decide_beq_decide decide_eq_decide
theorem Sub.nil (m : Nat) : Sub (.v (.slice none 0 0)) (.sl m []) := fun w imm x h => by
  rw [h.v_inv]
  exact .pure ((Wk.nil m).rd (.v _))
set_option maxHeartbeats 2000000 in
theorem cbVariable (σ : Mem) (KB KC KV g : Nat) (svC svV : Value) (vs : List Vt) (fr : Nat) (kind step number : Int) (hB : σ KB = some (.box g 105 [.own KC svC, .own KV svV, iv fr] false)) (hV : σ KV = some (.row svV 56 3 (vs.map Vt.av) 0)) (hl : vs.length ≤ 200) (hBV : KB ≠ KV) :
    ACall Tryz.prog 111 [.pbox KB g 0, iv kind, iv step, iv number] σ fun r σ' => ∃ sv, r = poA (varM vs.length) ∧ σ' = upd (upd σ KV (some (.row sv 56 3 ((vs ++ [(kind, step, number)]).map Vt.av) 0))) KB (some (.box g 105 [.own KC svC, .own KV sv, iv fr] false)) := by
  have mB := lents_at hB
  have mV := lents_at hV
  have cv := poVar vs.length (by omega)
  have hln : (vs.map Vt.av).length = vs.length := List.length_map ..
  have hm1 : ((vs.length + 1 : Nat) : Int) - 1 = (vs.length : Int) := by omega
  simp only [Ent.sh, AV.shL, AV.sh] at mB mV
  simp only [List.map_append, List.map_cons, List.map_nil]
  refine acall_lents Tryz.func111 rfl Tryz.ntmps111 Tryz.results111 Tryz.call111 (by rfl) (by simp) ?_
  (focus (refine wkap (w_a mB (w_a mV (w_a hln (w_a hm1 (w_a @l_app w_t))))) (w_a cv w_t) (w_r 0) ?_; (repeat' first | exact w_t | apply w_l); all_goals intros))
  simp (disch := omega) only [go_sem]
  rename_i sv0 sv1
  refine backS (Sub.refl _) ⟨sv1, rfl, rfl⟩ ?_
  (repeat' (first | exact Agr.start _ | (refine Agr.own ?_ (by omega)) | (refine Agr.put ?_ rfl rfl) | (refine Agr.mark ?_ (by omega)) | (rw [List.map_append]; rfl)))
theorem Sub.agg2 {a b a' b' : AV} (h : Sub a a') (k : Sub b b') : Sub (.agg [a, b]) (.agg [a', b']) := Sub.agg _ _ rfl fun j x y h1 h2 => by
  match j with
  | 0 => simp at h1 h2; subst h1; subst h2; exact h
  | 1 => simp at h1 h2; subst h1; subst h2; exact k
  | j + 2 => simp at h1
theorem upd_same' {σ : Mem} {k : Nat} {e : Ent} (h : σ k = some e) : upd σ k (some e) = σ := by
  funext j; rw [upd_at]; split
  · subst_vars; exact h.symm
  · rfl
set_option maxHeartbeats 4000000 in
theorem cbPoint (σ : Mem) (KB KC KV g : Nat) (svC svV : Value) (vs : List Vt) (fr : Nat) (i : Nat) (hB : σ KB = some (.box g 105 [.own KC svC, .own KV svV, iv fr] false)) (hV : σ KV = some (.row svV 56 3 (vs.map Vt.av) 0)) (hl : vs.length ≤ 100) (hBV : KB ≠ KV) (hf : fr ≤ 1000) :
    ACall Tryz.prog 107 [.pbox KB g 0, iv i] σ fun r σ' => ∃ sv, r = coA (if fr = 0 then ([], []) else if fr = 1 then (varM vs.length, []) else (varM vs.length, varM (vs.length + 1))) ∧
      σ' = upd (upd σ KV (some (.row sv 56 3 ((vs ++ (if fr = 0 then [] else if fr = 1 then [(1, (i : Int), 0)] else [(1, (i : Int), 0), (1, (i : Int), 1)])).map Vt.av) 0))) KB (some (.box g 105 [.own KC svC, .own KV sv, iv (fr + 1 : Nat)] false)) := by
  have mB := lents_at hB
  have mV := lents_at hV
  simp only [Ent.sh, AV.shL, AV.sh] at mB mV
  by_cases h0 : fr = 0
  · subst h0
    simp only [if_true, List.append_nil]
    refine acall_lents Tryz.func107 rfl Tryz.ntmps107 Tryz.results107 Tryz.call107 (by rfl) (by simp) ?_
    (focus (refine wkap (w_a mB (w_a mV w_t)) w_t (w_r 0) ?_; (repeat' first | exact w_t | apply w_l); all_goals intros))
    simp (disch := omega) only [go_sem]
    refine backS (Sub.agg2 (Sub.nil 4) (Sub.nil 4)) ⟨svV, rfl, rfl⟩ ?_
    rw [upd_same' hV]
    (repeat' (first | exact Agr.start _ | (refine Agr.own ?_ (by omega)) | (refine Agr.put ?_ rfl rfl) | (refine Agr.mark ?_ (by omega)) | (rw [List.map_append]; rfl)))
  · by_cases h1 : fr = 1
    · subst h1
      simp only [if_neg h0, if_true]
      refine acall_lents Tryz.func107 rfl Tryz.ntmps107 Tryz.results107 Tryz.call107 (by rfl) (by simp) ?_
      (focus (refine wkap (w_a mB (w_a mV w_t)) w_t (w_r 0) ?_; (repeat' first | exact w_t | apply w_l); all_goals intros))
      refine o_fresh (cbVariable _ (KB + 1000) (KC + 1000) (KV + 1000) g svC svV vs 2 1 (i : Int) 0 (by (simp (disch := omega) only [go_sem, mB, mV, if_neg, if_pos] <;> repeat' first | rfl | refine ⟨?_, ?_⟩)) (by (simp (disch := omega) only [go_sem, mB, mV, if_neg, if_pos, List.map_append, List.map_cons, List.map_nil] <;> repeat' first | rfl | refine ⟨?_, ?_⟩)) (by first | omega | (simp; omega)) (by omega)) ?_
      intro sv1
      (focus (refine wkap (w_a mB (w_a mV w_t)) w_t (w_r 0) ?_; (repeat' first | exact w_t | apply w_l); all_goals intros))
      simp (disch := omega) only [go_sem]
      refine backS (Sub.agg2 (Sub.refl _) (Sub.nil 4)) ⟨sv1, rfl, rfl⟩ ?_
      simp only [List.map_append, List.map_cons, List.map_nil]
      intro k
      by_cases hk1 : k = KB
      · rw [hk1]
        simp (disch := omega) only [upd_at, if_pos, if_neg, Option.map_some, Ent.sh, AV.shL, AV.sh]
        try rfl
      · by_cases hk2 : k = KV
        · rw [hk2]
          simp (disch := omega) only [upd_at, if_pos, if_neg, Option.map_some, Ent.sh, AV.shL, AV.sh]
          try rfl
        · simp (disch := omega) only [upd_at, if_neg]
          exact Agr.start σ k
    · simp only [if_neg h0, if_neg h1]
      have hl1 : (vs ++ [((1 : Int), (i : Int), (0 : Int))]).length = vs.length + 1 := by simp
      refine acall_lents Tryz.func107 rfl Tryz.ntmps107 Tryz.results107 Tryz.call107 (by rfl) (by simp) ?_
      (focus (refine wkap (w_a mB (w_a mV (w_a @cast_succ w_t))) w_t (w_r 0) ?_; (repeat' first | exact w_t | apply w_l); all_goals intros))
      refine o_fresh (cbVariable _ (KB + 1000) (KC + 1000) (KV + 1000) g svC svV vs (fr + 1) 1 (i : Int) 0 (by (simp (disch := omega) only [go_sem, mB, mV, if_neg, if_pos] <;> repeat' first | rfl | refine ⟨?_, ?_⟩)) (by (simp (disch := omega) only [go_sem, mB, mV, if_neg, if_pos, List.map_append, List.map_cons, List.map_nil] <;> repeat' first | rfl | refine ⟨?_, ?_⟩)) (by first | omega | (simp; omega)) (by omega)) ?_
      intro sv1
      (focus (refine wkap (w_a mB (w_a mV (w_a @cast_succ w_t))) w_t (w_r 0) ?_; (repeat' first | exact w_t | apply w_l); all_goals intros))
      refine o_fresh (cbVariable _ (KB + 1000) (KC + 1000) (KV + 1000) g svC sv1 (vs ++ [(1, (i : Int), 0)]) (fr + 1) 1 (i : Int) 1 (by (simp (disch := omega) only [go_sem, mB, mV, if_neg, if_pos] <;> repeat' first | rfl | refine ⟨?_, ?_⟩)) (by (simp (disch := omega) only [go_sem, mB, mV, if_neg, if_pos, List.map_append, List.map_cons, List.map_nil] <;> repeat' first | rfl | refine ⟨?_, ?_⟩)) (by first | omega | (simp; omega)) (by omega)) ?_
      intro sv2
      (focus (refine wkap (w_a mB (w_a mV (w_a hl1 w_t))) w_t (w_r 0) ?_; (repeat' first | exact w_t | apply w_l); all_goals intros))
      simp (disch := omega) only [go_sem, hl1]
      refine backS (Sub.refl _) ⟨sv2, rfl, rfl⟩ ?_
      simp only [List.append_assoc, List.cons_append, List.nil_append]
      intro k
      by_cases hk1 : k = KB
      · rw [hk1]
        simp (disch := omega) only [upd_at, if_pos, if_neg, Option.map_some, Ent.sh, AV.shL, AV.sh]
        try rfl
      · by_cases hk2 : k = KV
        · rw [hk2]
          simp (disch := omega) only [upd_at, if_pos, if_neg, Option.map_some, Ent.sh, AV.shL, AV.sh]
          try rfl
        · simp (disch := omega) only [upd_at, if_neg]
          exact Agr.start σ k
set_option maxHeartbeats 4000000 in
theorem cbDep (σ : Mem) (KB KC KV g : Nat) (svC svV : Value) (vs : List Vt) (fr : Nat) (i : Nat) (num : Int) (hB : σ KB = some (.box g 105 [.own KC svC, .own KV svV, iv fr] false)) (hV : σ KV = some (.row svV 56 3 (vs.map Vt.av) 0)) (hl : vs.length ≤ 100) (hBV : KB ≠ KV) (hn : 0 ≤ num ∧ num ≤ 10) :
    ACall Tryz.prog 113 [.pbox KB g 0, iv i, iv num] σ fun r σ' => ∃ sv, r = coA (varM vs.length, varM (vs.length + 1)) ∧
      σ' = upd (upd σ KV (some (.row sv 56 3 ((vs ++ [(2, (i : Int), num), (2, (i : Int), num + 1)]).map Vt.av) 0))) KB (some (.box g 105 [.own KC svC, .own KV sv, iv fr] false)) := by
  have mB := lents_at hB
  have mV := lents_at hV
  simp only [Ent.sh, AV.shL, AV.sh] at mB mV
  have hl1 : (vs ++ [((2 : Int), (i : Int), num)]).length = vs.length + 1 := by simp
  refine acall_lents Tryz.func113 rfl Tryz.ntmps113 Tryz.results113 Tryz.call113 (by rfl) (by simp) ?_
  (focus (refine wkap (w_a mB (w_a mV w_t)) w_t (w_r 0) ?_; (repeat' first | exact w_t | apply w_l); all_goals intros))
  refine o_fresh (cbVariable _ (KB + 1000) (KC + 1000) (KV + 1000) g svC svV vs fr 2 (i : Int) num (by (simp (disch := omega) only [go_sem, mB, mV, if_neg, if_pos] <;> repeat' first | rfl | refine ⟨?_, ?_⟩)) (by (simp (disch := omega) only [go_sem, mB, mV, if_neg, if_pos, List.map_append, List.map_cons, List.map_nil] <;> repeat' first | rfl | refine ⟨?_, ?_⟩)) (by first | omega | (simp; omega)) (by omega)) ?_
  intro sv1
  (focus (refine wkap (w_a mB (w_a mV w_t)) w_t (w_r 0) ?_; (repeat' first | exact w_t | apply w_l); all_goals intros))
  refine o_fresh (cbVariable _ (KB + 1000) (KC + 1000) (KV + 1000) g svC sv1 (vs ++ [(2, (i : Int), num)]) fr 2 (i : Int) (num + 1) (by (simp (disch := omega) only [go_sem, mB, mV, if_neg, if_pos] <;> repeat' first | rfl | refine ⟨?_, ?_⟩)) (by (simp (disch := omega) only [go_sem, mB, mV, if_neg, if_pos, List.map_append, List.map_cons, List.map_nil] <;> repeat' first | rfl | refine ⟨?_, ?_⟩)) (by first | omega | (simp; omega)) (by omega)) ?_
  intro sv2
  (focus (refine wkap (w_a mB (w_a mV (w_a hl1 w_t))) w_t (w_r 0) ?_; (repeat' first | exact w_t | apply w_l); all_goals intros))
  simp (disch := omega) only [go_sem, hl1]
  refine backS (Sub.refl _) ⟨sv2, rfl, rfl⟩ ?_
  simp only [List.append_assoc, List.cons_append, List.nil_append]
  intro k
  by_cases hk1 : k = KB
  · rw [hk1]
    simp (disch := omega) only [upd_at, if_pos, if_neg, Option.map_some, Ent.sh, AV.shL, AV.sh]
    try rfl
  · by_cases hk2 : k = KV
    · rw [hk2]
      simp (disch := omega) only [upd_at, if_pos, if_neg, Option.map_some, Ent.sh, AV.shL, AV.sh]
      try rfl
    · simp (disch := omega) only [upd_at, if_neg]
      exact Agr.start σ k
end Go.Proofs.YtbgmnobnaplmlaaGreat
end

section
namespace Go.Proofs.YtbgmnobnaplmlaaGreat
open Go Go.RowKit Go.Pg Go.Pol
set_option linter.unusedSimpArgs false
set_option linter.unusedVariables false
set_option maxRecDepth 20000
attribute [local go_sem] Tryz.underlying3 Tryz.underlying4 Tryz.underlying178 Tryz.underlying9 Tryz.underlying48 Tryz.underlying31 Tryz.underlying43 Tryz.underlying41 Tryz.underlying39 Tryz.underlying50 Tryz.underlying22 Tryz.underlying25 Tryz.underlying56 Tryz.underlying28 Tryz.underlying72 Tryz.underlying27 Tryz.underlying30 Tryz.underlying105 Tryz.underlying107 Tryz.underlying70 Tryz.underlying63 Tryz.underlying103 Tryz.underlying154 sz3 by3 z3 szB zB szErr zErr szStr byStr zStr szRat zRat szInt zInt szNat zNat szStep byStep zStep szFig zFig szSlI zSlI szSlS zSlS szVar byVar zVar szSlV zSlV szCoord byCoord zCoord szSlC zSlC szFrame zFrame szCBld byCBld zCBld szCVec byCVec zCVec szPoly byPoly zPoly szTerm zTerm szPtrB zPtrB szFnC zFnC
attribute [-bool_to_prop] Bool.and_eq_decide Bool.or_eq_decide Bool.decide_beq_decide decide_eq_decide
theorem lents_beq {K c : Nat} (h : c < 1000) : (K + 1000 == c) = false := by rw [beq_eq_false_iff_ne]; omega
theorem u16s_inj {a b : List Nat} (h : u16s a = u16s b) : a = b := by
  induction a generalizing b with
  | nil => cases b with
    | nil => rfl
    | cons y b => simp [u16s] at h
  | cons x a ih => cases b with
    | nil => simp [u16s] at h
    | cons y b =>
      rw [u16s_c, u16s_c] at h
      simp only [List.cons.injEq, AV.v.injEq, Value.int.injEq, true_and] at h
      rw [ih h.2, show x = y by omega]
theorem RQ.ok_eq {r : RQ} {k : Nat} (hl : r.lm k) (h : r.ok = true) : r = ⟨decide (r.q.num < 0), toL r.q.num.natAbs, toL r.q.den⟩ := by
  have h1 := (RQ.ok_av hl h).1
  simp only [RQ.av, ratQ, AV.agg.injEq, List.cons.injEq, AV.v.injEq, Value.bool.injEq, lim, AV.sl.injEq, true_and, and_true] at h1
  obtain ⟨s, l, d⟩ := r
  simp only at h1
  rw [RQ.mk.injEq]
  exact ⟨h1.1, u16s_inj h1.2.1, u16s_inj h1.2.2⟩
theorem coOf (c : Po × Po) : Pure Tryz.prog 105 [coA c] (coA c) := by
  obtain ⟨p, q⟩ := c
  refine pure_intro (tok := 0) Tryz.func105 rfl Tryz.ntmps105 Tryz.results105 Tryz.call105 (by rfl) (by simp) ?_
  (focus (refine wklp w_t w_t w_t (w_r 0) ?_; (repeat' first | exact w_t | apply w_l); all_goals intros))
theorem coCombine (f : Nat) (a b r : Po × Po) (c1 : Pure Tryz.prog f [poA a.1, poA b.1] (poA r.1)) (c2 : Pure Tryz.prog f [poA a.2, poA b.2] (poA r.2)) : Pure Tryz.prog 104 [coA a, coA b, .fn f []] (coA r) := by
  obtain ⟨a1, a2⟩ := a
  obtain ⟨b1, b2⟩ := b
  obtain ⟨r1, r2⟩ := r
  simp only at c1 c2
  refine pure_intro (tok := 0) Tryz.func104 rfl Tryz.ntmps104 Tryz.results104 Tryz.call104 (by rfl) (by simp) ?_
  (focus (refine wkld w_t (w_a c1 (w_a c2 w_t)) w_t (w_a (w_d 1 [(5, poA r1), (11, poA r2)] [] [6]) w_t) ?_; (repeat' first | exact w_t | apply w_l); all_goals intros))
theorem coBetween (a b : Po × Po) (h1 : Pure Tryz.prog 77 [poA b.1, poA a.1] (poA (subM b.1 a.1))) (h2 : Pure Tryz.prog 77 [poA b.2, poA a.2] (poA (subM b.2 a.2))) : Pure Tryz.prog 103 [coA a, coA b] (coA (subM b.1 a.1, subM b.2 a.2)) := by
  have c := coCombine 77 b a (subM b.1 a.1, subM b.2 a.2) h1 h2
  have oa := coOf a
  have ob := coOf b
  obtain ⟨a1, a2⟩ := a
  obtain ⟨b1, b2⟩ := b
  simp only at *
  generalize subM b1 a1 = x at *
  generalize subM b2 a2 = y at *
  refine pure_intro (tok := 0) Tryz.func103 rfl Tryz.ntmps103 Tryz.results103 Tryz.call103 (by rfl) (by simp) ?_
  (focus (refine wkld w_t (w_a oa (w_a ob (w_a c w_t))) w_t (w_a (w_d 1 [(1, coA (b1, b2)), (3, coA (a1, a2)), (4, coA (x, y))] [] [4]) w_t) ?_; (repeat' first | exact w_t | apply w_l); all_goals intros))
theorem cbScale (K4 g4 : Nat) (k : Int) (nm : ByteArray) (ar : List Int) (q : Rat) (p r : Po) (c : Pure Tryz.prog 109 [poA p, ratQ q] (poA r)) :
    RdC Tryz.prog [(K4, .box g4 50 [iv k, strA nm, ivs ar, .v (.bool (decide (q.num < 0))), lim (toL q.num.natAbs), lim (toL q.den)] false)] 108 [poA p, .pbox K4 g4 0] (poA r) := by
  intro σ hL
  have m4 := lents_at hL.1
  simp only [Ent.sh, AV.shL, AV.sh] at m4
  refine acall_lents Tryz.func108 rfl Tryz.ntmps108 Tryz.results108 Tryz.call108 (by rfl) (by simp) ?_
  (focus (refine wkap (w_a m4 w_t) (w_a c w_t) (w_r 0) ?_; (repeat' first | exact w_t | apply w_l); all_goals intros))
  simp (disch := omega) only [go_sem]
  exact backS (Sub.refl _) ⟨rfl, rfl⟩ (Agr.start σ)
theorem cbMulV (K g : Nat) (t p r : Po) (c : Pure Tryz.prog 78 [poA p, poA t] (poA r)) :
    RdC Tryz.prog [(K, .box g 70 [poA t] false)] 112 [poA p, .pbox K g 0] (poA r) := by
  intro σ hL
  have m4 := lents_at hL.1
  simp only [Ent.sh, AV.shL, AV.sh] at m4
  refine acall_lents Tryz.func112 rfl Tryz.ntmps112 Tryz.results112 Tryz.call112 (by rfl) (by simp) ?_
  (focus (refine wkap (w_a m4 w_t) (w_a c w_t) (w_r 0) ?_; (repeat' first | exact w_t | apply w_l); all_goals intros))
  simp (disch := omega) only [go_sem]
  exact backS (Sub.refl _) ⟨rfl, rfl⟩ (Agr.start σ)
/-- What a step's closures read: the builder's pointer, the step, the builder, its points. -/
def atL (K3 K4 KB KC KV g3 g4 gB : Nat) (svC svV : Value) (z : AV) (sc : List AV) (cs : List (Po × Po)) : List (Nat × Ent) :=
  [(K3, .box g3 103 [.pbox KB gB 0] false), (K4, .box g4 50 sc false), (KB, .box gB 105 [.own KC svC, .own KV svV, z] false), (KC, .row svC 72 2 (cs.map coA) 0)]
theorem atL_def (K3 K4 KB KC KV g3 g4 gB : Nat) (svC svV : Value) (z : AV) (sc : List AV) (cs : List (Po × Po)) : atL K3 K4 KB KC KV g3 g4 gB svC svV z sc cs =
  [(K3, .box g3 103 [.pbox KB gB 0] false), (K4, .box g4 50 sc false), (KB, .box gB 105 [.own KC svC, .own KV svV, z] false), (KC, .row svC 72 2 (cs.map coA) 0)] := rfl
set_option maxHeartbeats 4000000 in
theorem cbAt (K3 K4 KB KC KV g3 g4 gB : Nat) (svC svV : Value) (fr : Nat) (k0 : Int) (nm : ByteArray) (ar : List Int) (x y w : AV) (cs : List (Po × Po)) (k : Nat) (hx : x.sh = x ∧ y.sh = y ∧ w.sh = w) (hk : k < ar.length) (h0 : 0 ≤ gI ar k ∧ gI ar k < (cs.length : Int)) :
    RdC Tryz.prog (atL K3 K4 KB KC KV g3 g4 gB svC svV (iv fr) [iv k0, strA nm, ivs ar, x, y, w] cs) 101 [iv k, .pbox K3 g3 0, .pbox K4 g4 0] (coA (cs.getD (gI ar k).toNat ([], []))) := by
  intro σ hL
  simp only [atL, hasAll_cons, hasAll_nil] at hL
  obtain ⟨h3, h4, hB, hC, -⟩ := hL
  have m3 := lents_at h3
  have m4 := lents_at h4
  have mB := lents_at hB
  have mC := lents_at hC
  simp only [Ent.sh, AV.shL, AV.sh, hx.1, hx.2.1, hx.2.2] at m3 m4 mB mC
  have hga : (ar.map iv).getD k .u = iv (gI ar k) := by rw [map_atB iv hk, gI_at hk]
  have hgc : (cs.map coA).getD (gI ar k).toNat .u = coA (cs.getD (gI ar k).toNat ([], [])) := getD_mapA (by omega)
  have hll : (ar.map iv).length = ar.length := List.length_map ..
  have hcl : (cs.map coA).length = cs.length := List.length_map ..
  generalize cs.getD (gI ar k).toNat ([], []) = c at *
  generalize gI ar k = a at *
  obtain ⟨c1, c2⟩ := c
  refine acall_lents Tryz.func101 rfl Tryz.ntmps101 Tryz.results101 Tryz.call101 (by rfl) (by simp) ?_
  (focus (refine wkad (w_a m3 (w_a m4 (w_a mB (w_a mC (w_a hga (w_a hgc (w_a hll (w_a hcl (w_a @lents_lt (w_a @lents_beq w_t)))))))))) w_t (w_a (w_d 1 [] [] [4]) w_t) ?_; (repeat' first | exact w_t | apply w_l); all_goals intros))
  simp (disch := omega) only [go_sem]
  refine backS (Sub.refl _) ⟨rfl, rfl⟩ ?_
  exact ((Agr.start σ).own (by omega)).own (by omega)
end Go.Proofs.YtbgmnobnaplmlaaGreat
end

section
namespace Go.Proofs.YtbgmnobnaplmlaaGreat
open Go Go.RowKit Go.Pg Go.Pol
set_option linter.unusedSimpArgs false
set_option linter.unusedVariables false
set_option maxRecDepth 20000
attribute [local go_sem] Tryz.underlying3 Tryz.underlying4 Tryz.underlying178 Tryz.underlying9 Tryz.underlying48 Tryz.underlying31 Tryz.underlying43 Tryz.underlying41 Tryz.underlying39 Tryz.underlying50 Tryz.underlying22 Tryz.underlying25 Tryz.underlying56 Tryz.underlying28 Tryz.underlying72 Tryz.underlying27 Tryz.underlying30 Tryz.underlying105 Tryz.underlying107 Tryz.underlying70 Tryz.underlying63 Tryz.underlying103 Tryz.underlying154 sz3 by3 z3 szErr zErr szStr byStr zStr szStep byStep zStep szFig zFig szSlI zSlI szSlS zSlS szVar byVar zVar szSlV zSlV szCoord byCoord zCoord szSlC zSlC szFrame zFrame szCBld byCBld zCBld szCVec byCVec zCVec szPoly byPoly zPoly szTerm zTerm
attribute [-bool_to_prop] Bool.and_eq_decide Bool.or_eq_decide Bool.decide_beq_decide decide_eq_decide
/-! ### the parameters of a frame -/
abbrev frmA (cs : List (Po × Po)) (vs : List Vt) : AV := .agg [.sl 2 (cs.map coA), .sl 3 (vs.map Vt.av)]
def parsN (l : List Vt) (i : Nat) : List Int := ((List.range i).filter fun j => decide ((l.getD j (0, 0, 0)).1 = 1)).map fun n : Nat => (n : Int)
/-! ### how many there are -/
def cnt1 (l : List Vt) : Nat := (l.filter fun v => decide (v.1 = 1)).length
def cF (ss : List RS) : Nat → Nat
  | 0 => 0
  | i + 1 => cF ss i + if (ss.getD i RS.zero).k = 1 then 1 else 0
def cP (ss : List RS) : Nat → Nat
  | 0 => 0
  | i + 1 => cP ss i + if (ss.getD i RS.zero).k = 5 ∨ (ss.getD i RS.zero).k = 6 then 1 else 0
def cD (ss : List RS) : Nat → Nat
  | 0 => 0
  | i + 1 => cD ss i + if (ss.getD i RS.zero).k = 1 ∨ (ss.getD i RS.zero).k = 2 ∨ (ss.getD i RS.zero).k = 3 ∨ (ss.getD i RS.zero).k = 4 ∨ (ss.getD i RS.zero).k = 5 then 0 else 2
end Go.Proofs.YtbgmnobnaplmlaaGreat
end

section
namespace Go.Proofs.YtbgmnobnaplmlaaGreat
open Go Go.RowKit Go.Pg Go.Pol
set_option linter.unusedSimpArgs false
set_option linter.unusedVariables false
set_option maxRecDepth 20000
attribute [local go_sem] Tryz.underlying3 Tryz.underlying4 Tryz.underlying178 Tryz.underlying9 Tryz.underlying48 Tryz.underlying31 Tryz.underlying43 Tryz.underlying41 Tryz.underlying39 Tryz.underlying50 Tryz.underlying22 Tryz.underlying25 Tryz.underlying56 Tryz.underlying28 Tryz.underlying72 Tryz.underlying27 Tryz.underlying30 Tryz.underlying105 Tryz.underlying107 Tryz.underlying70 Tryz.underlying63 Tryz.underlying103 Tryz.underlying154 sz3 by3 z3 szB zB szErr zErr szStr byStr zStr szRat zRat szInt zInt szNat zNat szStep byStep zStep szFig zFig szSlI zSlI szSlS zSlS szVar byVar zVar szSlV zSlV szCoord byCoord zCoord szSlC zSlC szFrame zFrame szCBld byCBld zCBld szCVec byCVec zCVec szPoly byPoly zPoly szTerm zTerm szPtrB zPtrB szFnC zFnC
attribute [-bool_to_prop] Bool.and_eq_decide Bool.or_eq_decide Bool.decide_beq_decide decide_eq_decide
theorem Sub.tup2 {a b a' b' : AV} (h : Sub a a') (k : Sub b b') : Sub (.tup [a, b]) (.tup [a', b']) := Sub.tup _ _ rfl fun j x y h1 h2 => by
  match j with
  | 0 => simp at h1 h2; subst h1; subst h2; exact h
  | 1 => simp at h1 h2; subst h1; subst h2; exact k
  | j + 2 => simp at h1
theorem Agr.re {m σ : Mem} {t k : Nat} {e1 e e' : Ent} (h : Agr m (upd σ k (some e1))) (ht : t = k + 1000) (he : e' = e.sh) : Agr (upd m t (some e')) (upd σ k (some e)) := by
  have := h.put (k := k) (e := e) ht he
  rwa [upd_over] at this
/-- A frame's handles under other names. -/
theorem Sub.frame (KC KV KC' KV' : Nat) (svC svV : Value) : Sub (.agg [.own KC svC, .own KV svV]) (.agg [.own KC' svC, .own KV' svV]) := Sub.agg2 (Sub.own _ _ _) (Sub.own _ _ _)
set_option maxHeartbeats 2000000 in
theorem rcParam (σ : Mem) (KC KV : Nat) (svC svV : Value) (vs : List Vt) (kind step number : Int) (hV : σ KV = some (.row svV 56 3 (vs.map Vt.av) 0)) (hl : vs.length ≤ 200) :
    ACall Tryz.prog 118 [.agg [.own KC svC, .own KV svV], iv kind, iv step, iv number] σ fun r σ' => ∃ sv, r = .tup [.agg [.own KC svC, .own KV sv], poA (varM vs.length)] ∧ σ' = upd σ KV (some (.row sv 56 3 ((vs ++ [(kind, step, number)]).map Vt.av) 0)) := by
  have mV := lents_at hV
  have cv := rpVar vs.length (by omega)
  have hln : (vs.map Vt.av).length = vs.length := List.length_map ..
  have hm1 : ((vs.length + 1 : Nat) : Int) - 1 = (vs.length : Int) := by omega
  simp only [Ent.sh, AV.shL, AV.sh] at mV
  simp only [List.map_append, List.map_cons, List.map_nil]
  refine acall_lents Tryz.func118 rfl Tryz.ntmps118 Tryz.results118 Tryz.call118 (by rfl) (by simp) ?_
  (focus (refine wkad (w_a mV (w_a hln (w_a hm1 (w_a @l_app (w_a @lents_lt (w_a @lents_beq w_t)))))) (w_a cv w_t) (w_a (w_d 2 [(5, poA (varM vs.length))] [] [8]) w_t) ?_; (repeat' first | exact w_t | apply w_l); all_goals intros))
  simp (disch := omega) only [go_sem]
  rename_i sv1
  refine backS (Sub.tup2 (Sub.frame _ _ _ _ _ _) (Sub.refl _)) ⟨sv1, rfl, rfl⟩ ?_
  (repeat (refine Agr.own ?_ (by omega)))
  refine Agr.put ?_ rfl rfl
  (repeat' (first | exact Agr.start _ | (refine Agr.own ?_ (by omega))))
set_option maxHeartbeats 4000000 in
theorem rcFree (σ : Mem) (KC KV : Nat) (svC svV : Value) (vs : List Vt) (i fr : Nat) (hV : σ KV = some (.row svV 56 3 (vs.map Vt.av) 0)) (hl : vs.length ≤ 100) (hf : fr ≤ 1000) :
    ACall Tryz.prog 114 [.agg [.own KC svC, .own KV svV], iv i, iv fr] σ fun r σ' => ∃ sv, r = .tup [.agg [.own KC svC, .own KV sv], coA (if fr = 0 then ([], []) else if fr = 1 then (varM vs.length, []) else (varM vs.length, varM (vs.length + 1)))] ∧
      σ' = upd σ KV (some (.row sv 56 3 ((vs ++ (if fr = 0 then [] else if fr = 1 then [(1, (i : Int), 0)] else [(1, (i : Int), 0), (1, (i : Int), 1)])).map Vt.av) 0)) := by
  have mV := lents_at hV
  simp only [Ent.sh, AV.shL, AV.sh] at mV
  by_cases h0 : fr = 0
  · subst h0
    simp only [if_true, List.append_nil]
    refine acall_lents Tryz.func114 rfl Tryz.ntmps114 Tryz.results114 Tryz.call114 (by rfl) (by simp) ?_
    (focus (refine wkad (w_a mV w_t) w_t (w_a (w_d 6 [] [] [6, 7]) w_t) ?_; (repeat' first | exact w_t | apply w_l); all_goals intros))
    simp (disch := omega) only [go_sem]
    refine backS (Sub.tup2 (Sub.frame _ _ _ _ _ _) (Sub.agg2 (Sub.nil 4) (Sub.nil 4))) ⟨svV, rfl, rfl⟩ ?_
    rw [upd_same' hV]
    (repeat' (first | exact Agr.start _ | (refine Agr.own ?_ (by omega))))
  · by_cases h1 : fr = 1
    · subst h1
      simp only [if_neg h0, if_true]
      refine acall_lents Tryz.func114 rfl Tryz.ntmps114 Tryz.results114 Tryz.call114 (by rfl) (by simp) ?_
      (focus (refine wkad (w_a mV w_t) w_t w_t ?_; (repeat' first | exact w_t | apply w_l); all_goals intros))
      refine o_fresh (rcParam _ (KC + 1000) (KV + 1000) svC svV vs 1 (i : Int) 0 (by (simp (disch := omega) only [go_sem, mV, if_neg, if_pos, List.map_append, List.map_cons, List.map_nil] <;> repeat' first | rfl | refine ⟨?_, ?_⟩)) (by first | omega | (simp; omega))) ?_
      intro sv1
      (focus (refine wkad (w_a mV w_t) w_t (w_a (w_d 6 [] [] [6, 7]) w_t) ?_; (repeat' first | exact w_t | apply w_l); all_goals intros))
      simp (disch := omega) only [go_sem]
      refine backS (Sub.tup2 (Sub.frame _ _ _ _ _ _) (Sub.agg2 (Sub.refl _) (Sub.nil 4))) ⟨sv1, rfl, rfl⟩ ?_
      simp only [List.map_append, List.map_cons, List.map_nil]
      (repeat (refine Agr.own ?_ (by omega)))
      refine Agr.put ?_ rfl rfl
      (repeat' (first | exact Agr.start _ | (refine Agr.own ?_ (by omega))))
    · simp only [if_neg h0, if_neg h1]
      have hl1 : (vs ++ [((1 : Int), (i : Int), (0 : Int))]).length = vs.length + 1 := by simp
      refine acall_lents Tryz.func114 rfl Tryz.ntmps114 Tryz.results114 Tryz.call114 (by rfl) (by simp) ?_
      (focus (refine wkad (w_a mV w_t) w_t w_t ?_; (repeat' first | exact w_t | apply w_l); all_goals intros))
      refine o_fresh (rcParam _ (KC + 1000) (KV + 1000) svC svV vs 1 (i : Int) 0 (by (simp (disch := omega) only [go_sem, mV, if_neg, if_pos, List.map_append, List.map_cons, List.map_nil] <;> repeat' first | rfl | refine ⟨?_, ?_⟩)) (by first | omega | (simp; omega))) ?_
      intro sv1
      (focus (refine wkad (w_a mV w_t) w_t w_t ?_; (repeat' first | exact w_t | apply w_l); all_goals intros))
      refine o_fresh (rcParam _ (KC + 1000) (KV + 1000) svC sv1 (vs ++ [(1, (i : Int), 0)]) 1 (i : Int) 1 (by (simp (disch := omega) only [go_sem, mV, if_neg, if_pos, List.map_append, List.map_cons, List.map_nil] <;> repeat' first | rfl | refine ⟨?_, ?_⟩)) (by first | omega | (simp; omega))) ?_
      intro sv2
      (focus (refine wkad (w_a mV (w_a hl1 w_t)) w_t (w_a (w_d 6 [] [] [6, 7]) w_t) ?_; (repeat' first | exact w_t | apply w_l); all_goals intros))
      simp (disch := omega) only [go_sem, hl1]
      refine backS (Sub.tup2 (Sub.frame _ _ _ _ _ _) (Sub.refl _)) ⟨sv2, rfl, rfl⟩ ?_
      simp only [List.append_assoc, List.cons_append, List.nil_append]
      (repeat (refine Agr.own ?_ (by omega)))
      refine Agr.re (e1 := .row sv1 56 3 ((vs ++ [(1, (i : Int), 0)]).map Vt.av) 0) ?_ rfl rfl
      (repeat (refine Agr.own ?_ (by omega)))
      refine Agr.put ?_ rfl rfl
      (repeat' (first | exact Agr.start _ | (refine Agr.own ?_ (by omega))))
set_option maxHeartbeats 4000000 in
theorem rcDep (σ : Mem) (KC KV : Nat) (svC svV : Value) (vs : List Vt) (i : Nat) (num : Int) (hV : σ KV = some (.row svV 56 3 (vs.map Vt.av) 0)) (hl : vs.length ≤ 100) (hn : 0 ≤ num ∧ num ≤ 10) :
    ACall Tryz.prog 119 [.agg [.own KC svC, .own KV svV], iv i, iv num] σ fun r σ' => ∃ sv, r = .tup [.agg [.own KC svC, .own KV sv], coA (varM vs.length, varM (vs.length + 1))] ∧
      σ' = upd σ KV (some (.row sv 56 3 ((vs ++ [(2, (i : Int), num), (2, (i : Int), num + 1)]).map Vt.av) 0)) := by
  have mV := lents_at hV
  simp only [Ent.sh, AV.shL, AV.sh] at mV
  have hl1 : (vs ++ [((2 : Int), (i : Int), num)]).length = vs.length + 1 := by simp
  refine acall_lents Tryz.func119 rfl Tryz.ntmps119 Tryz.results119 Tryz.call119 (by rfl) (by simp) ?_
  (focus (refine wkad (w_a mV w_t) w_t w_t ?_; (repeat' first | exact w_t | apply w_l); all_goals intros))
  refine o_fresh (rcParam _ (KC + 1000) (KV + 1000) svC svV vs 2 (i : Int) num (by (simp (disch := omega) only [go_sem, mV, if_neg, if_pos, List.map_append, List.map_cons, List.map_nil] <;> repeat' first | rfl | refine ⟨?_, ?_⟩)) (by first | omega | (simp; omega))) ?_
  intro sv1
  (focus (refine wkad (w_a mV w_t) w_t w_t ?_; (repeat' first | exact w_t | apply w_l); all_goals intros))
  refine o_fresh (rcParam _ (KC + 1000) (KV + 1000) svC sv1 (vs ++ [(2, (i : Int), num)]) 2 (i : Int) (num + 1) (by (simp (disch := omega) only [go_sem, mV, if_neg, if_pos, List.map_append, List.map_cons, List.map_nil] <;> repeat' first | rfl | refine ⟨?_, ?_⟩)) (by first | omega | (simp; omega))) ?_
  intro sv2
  (focus (refine wkad (w_a mV (w_a hl1 w_t)) w_t (w_a (w_d 4 [] [] [6, 7]) w_t) ?_; (repeat' first | exact w_t | apply w_l); all_goals intros))
  simp (disch := omega) only [go_sem, hl1]
  refine backS (Sub.tup2 (Sub.frame _ _ _ _ _ _) (Sub.refl _)) ⟨sv2, rfl, rfl⟩ ?_
  simp only [List.append_assoc, List.cons_append, List.nil_append]
  (repeat (refine Agr.own ?_ (by omega)))
  refine Agr.re (e1 := .row sv1 56 3 ((vs ++ [(2, (i : Int), num)]).map Vt.av) 0) ?_ rfl rfl
  (repeat (refine Agr.own ?_ (by omega)))
  refine Agr.put ?_ rfl rfl
  (repeat' (first | exact Agr.start _ | (refine Agr.own ?_ (by omega))))
theorem rcAlong (a b : Po × Po) (m d1 d2 e1 e2 f1 f2 : Po) (s1 : Pure Tryz.prog 74 [poA b.1, poA a.1] (poA d1)) (s2 : Pure Tryz.prog 74 [poA b.2, poA a.2] (poA d2))
    (m1 : Pure Tryz.prog 72 [poA m, poA d1] (poA e1)) (m2 : Pure Tryz.prog 72 [poA m, poA d2] (poA e2)) (a1 : Pure Tryz.prog 80 [poA a.1, poA e1] (poA f1)) (a2 : Pure Tryz.prog 80 [poA a.2, poA e2] (poA f2)) :
    Pure Tryz.prog 115 [coA a, coA b, poA m] (coA (f1, f2)) := by
  obtain ⟨x1, x2⟩ := a
  obtain ⟨y1, y2⟩ := b
  simp only at *
  refine pure_intro (tok := 0) Tryz.func115 rfl Tryz.ntmps115 Tryz.results115 Tryz.call115 (by rfl) (by simp) ?_
  (focus (refine wkld w_t (w_a s1 (w_a s2 (w_a m1 (w_a m2 (w_a a1 (w_a a2 w_t)))))) w_t (w_a (w_d 1 [(7, poA d1), (8, poA e1), (9, poA f1), (17, poA d2), (18, poA e2), (19, poA f2)] [] [6]) w_t) ?_; (repeat' first | exact w_t | apply w_l); all_goals intros))
theorem rcPlus (p q r d f : Po) (s : Pure Tryz.prog 74 [poA q, poA r] (poA d)) (a : Pure Tryz.prog 80 [poA p, poA d] (poA f)) : Pure Tryz.prog 117 [poA p, poA q, poA r] (poA f) := by
  refine pure_intro (tok := 0) Tryz.func117 rfl Tryz.ntmps117 Tryz.results117 Tryz.call117 (by rfl) (by simp) ?_
  (focus (refine wklp w_t (w_a s (w_a a w_t)) w_t (w_r 0) ?_; (repeat' first | exact w_t | apply w_l); all_goals intros))
end Go.Proofs.YtbgmnobnaplmlaaGreat
end

section
namespace Go.Proofs.YtbgmnobnaplmlaaGreat
open Go Go.RowKit Go.Pg Go.Pol
set_option linter.unusedSimpArgs false
set_option linter.unusedVariables false
set_option maxRecDepth 20000
attribute [local go_sem] Tryz.underlying3 Tryz.underlying4 Tryz.underlying178 Tryz.underlying9 Tryz.underlying48 Tryz.underlying31 Tryz.underlying43 Tryz.underlying41 Tryz.underlying39 Tryz.underlying50 Tryz.underlying22 Tryz.underlying25 Tryz.underlying56 Tryz.underlying28 Tryz.underlying72 Tryz.underlying27 Tryz.underlying30 Tryz.underlying105 Tryz.underlying107 Tryz.underlying70 Tryz.underlying63 Tryz.underlying103 Tryz.underlying154 sz3 by3 z3 szB zB szErr zErr szStr byStr zStr szRat zRat szInt zInt szNat zNat szStep byStep zStep szFig zFig szSlI zSlI szSlS zSlS szVar byVar zVar szSlV zSlV szCoord byCoord zCoord szSlC zSlC szFrame zFrame szCBld byCBld zCBld szCVec byCVec zCVec szPoly byPoly zPoly szTerm zTerm szPtrB zPtrB szFnC zFnC
attribute [-bool_to_prop] Bool.and_eq_decide Bool.or_eq_decide Bool.decide_beq_decide decide_eq_decide
set_option maxHeartbeats 8000000 in
theorem cbAlongS (K3 K4 K7 KB KC KV g3 g4 g7 gB : Nat) (svC svV : Value) (fr : Nat) (k0 : Int) (nm : ByteArray) (ar : List Int) (q : Rat) (cs : List (Po × Po)) (a b x r : Po × Po) (hk : 2 ≤ ar.length) (h0 : 0 ≤ gI ar 0 ∧ gI ar 0 < (cs.length : Int)) (h1 : 0 ≤ gI ar 1 ∧ gI ar 1 < (cs.length : Int)) (ha : cs.getD (gI ar 0).toNat ([], []) = a) (hb : cs.getD (gI ar 1).toNat ([], []) = b)
    (s1 : Pure Tryz.prog 77 [poA b.1, poA a.1] (poA (subM b.1 a.1))) (s2 : Pure Tryz.prog 77 [poA b.2, poA a.2] (poA (subM b.2 a.2)))
    (c1 : Pure Tryz.prog 109 [poA (subM b.1 a.1), ratQ q] (poA x.1)) (c2 : Pure Tryz.prog 109 [poA (subM b.2 a.2), ratQ q] (poA x.2))
    (a1 : Pure Tryz.prog 106 [poA a.1, poA x.1] (poA r.1)) (a2 : Pure Tryz.prog 106 [poA a.2, poA x.2] (poA r.2)) :
    RdC Tryz.prog ((K7, .box g7 154 [.fn 101 [.pbox K3 g3 0, .pbox K4 g4 0]] false) :: atL K3 K4 KB KC KV g3 g4 gB svC svV (iv fr) [iv k0, strA nm, ivs ar, .v (.bool (decide (q.num < 0))), lim (toL q.num.natAbs), lim (toL q.den)] cs) 102 [.fn 108 [.pbox K4 g4 0], .pbox K7 g7 0] (coA r) := by
  intro σ hL
  have t0 := cbAt (K3 + 1000) (K4 + 1000) (KB + 1000) (KC + 1000) (KV + 1000) g3 g4 gB svC svV fr k0 nm ar (.v (.bool (decide (q.num < 0)))) (lim (toL q.num.natAbs)) (lim (toL q.den)) cs 0 ⟨rfl, rfl, rfl⟩ (by omega) h0
  have t1 := cbAt (K3 + 1000) (K4 + 1000) (KB + 1000) (KC + 1000) (KV + 1000) g3 g4 gB svC svV fr k0 nm ar (.v (.bool (decide (q.num < 0)))) (lim (toL q.num.natAbs)) (lim (toL q.den)) cs 1 ⟨rfl, rfl, rfl⟩ (by omega) h1
  rw [ha] at t0
  rw [hb] at t1
  have cB := coBetween a b s1 s2
  have oa := coOf a
  have cC := coCombine 106 a x r a1 a2
  have p1 := cbScale (K4 + 1000) g4 k0 nm ar q (subM b.1 a.1) x.1 c1
  have p2 := cbScale (K4 + 1000) g4 k0 nm ar q (subM b.2 a.2) x.2 c2
  simp only [atL, hasAll_cons, hasAll_nil] at hL
  obtain ⟨h7, h3, h4, hB, hC, -⟩ := hL
  have m3 := lents_at h3
  have m4 := lents_at h4
  have m7 := lents_at h7
  have mB := lents_at hB
  have mC := lents_at hC
  skip
  simp only [Ent.sh, AV.shL, AV.sh] at m3 m4 m7 mB mC
  clear a1 a2 s1 s2 ha hb h0 h1
  obtain ⟨aa, ab⟩ := a
  obtain ⟨ba, bb⟩ := b
  obtain ⟨xa, xb⟩ := x
  obtain ⟨ra, rb⟩ := r
  simp only at *
  generalize subM ba aa = da at *
  generalize subM bb ab = db at *
  refine acall_lents Tryz.func102 rfl Tryz.ntmps102 Tryz.results102 Tryz.call102 (by rfl) (by simp) ?_
  (focus (refine wkax (w_a m3 (w_a m4 (w_a m7 (w_a mB (w_a mC (w_a @lents_lt (w_a @lents_beq (w_a @atL_def w_t)))))))) (w_a cB (w_a oa (w_a cC w_t))) (w_a (w_d 1 [(1, coA (aa, ab)), (3, coA (ba, bb)), (4, coA (da, db))] [] []) (w_a (w_d 2 [(1, coA (aa, ab)), (2, coA (aa, ab)), (6, poA xa), (10, poA xb), (12, coA (ra, rb))] [] [3]) w_t)) w_t w_t (w_a t0 (w_a t1 (w_a p1 (w_a p2 w_t)))) (w_r 0) ?_; (repeat' first | exact w_t | apply w_l); all_goals intros))
  simp (disch := omega) only [go_sem]
  refine backS (Sub.refl _) ⟨rfl, rfl⟩ ?_
  (repeat' (first | exact Agr.start _ | (refine Agr.own ?_ (by omega))))
set_option maxHeartbeats 8000000 in
theorem cbAlongM (K3 K4 K7 KB KC KV g3 g4 g7 gB : Nat) (svC svV : Value) (fr : Nat) (k0 : Int) (nm : ByteArray) (ar : List Int) (rs : Bool) (rl rd : List Nat) (K10 g10 : Nat) (t : Po) (cs : List (Po × Po)) (a b x r : Po × Po) (hk : 2 ≤ ar.length) (h0 : 0 ≤ gI ar 0 ∧ gI ar 0 < (cs.length : Int)) (h1 : 0 ≤ gI ar 1 ∧ gI ar 1 < (cs.length : Int)) (ha : cs.getD (gI ar 0).toNat ([], []) = a) (hb : cs.getD (gI ar 1).toNat ([], []) = b)
    (s1 : Pure Tryz.prog 77 [poA b.1, poA a.1] (poA (subM b.1 a.1))) (s2 : Pure Tryz.prog 77 [poA b.2, poA a.2] (poA (subM b.2 a.2)))
    (c1 : Pure Tryz.prog 78 [poA (subM b.1 a.1), poA t] (poA x.1)) (c2 : Pure Tryz.prog 78 [poA (subM b.2 a.2), poA t] (poA x.2))
    (a1 : Pure Tryz.prog 106 [poA a.1, poA x.1] (poA r.1)) (a2 : Pure Tryz.prog 106 [poA a.2, poA x.2] (poA r.2)) :
    RdC Tryz.prog ((K10, .box g10 70 [poA t] false) :: (K7, .box g7 154 [.fn 101 [.pbox K3 g3 0, .pbox K4 g4 0]] false) :: atL K3 K4 KB KC KV g3 g4 gB svC svV (iv fr) [iv k0, strA nm, ivs ar, .v (.bool rs), lim rl, lim rd] cs) 102 [.fn 112 [.pbox K10 g10 0], .pbox K7 g7 0] (coA r) := by
  intro σ hL
  have t0 := cbAt (K3 + 1000) (K4 + 1000) (KB + 1000) (KC + 1000) (KV + 1000) g3 g4 gB svC svV fr k0 nm ar (.v (.bool rs)) (lim rl) (lim rd) cs 0 ⟨rfl, rfl, rfl⟩ (by omega) h0
  have t1 := cbAt (K3 + 1000) (K4 + 1000) (KB + 1000) (KC + 1000) (KV + 1000) g3 g4 gB svC svV fr k0 nm ar (.v (.bool rs)) (lim rl) (lim rd) cs 1 ⟨rfl, rfl, rfl⟩ (by omega) h1
  rw [ha] at t0
  rw [hb] at t1
  have cB := coBetween a b s1 s2
  have oa := coOf a
  have cC := coCombine 106 a x r a1 a2
  have p1 := cbMulV (K10 + 1000) g10 t (subM b.1 a.1) x.1 c1
  have p2 := cbMulV (K10 + 1000) g10 t (subM b.2 a.2) x.2 c2
  simp only [atL, hasAll_cons, hasAll_nil] at hL
  obtain ⟨h10, h7, h3, h4, hB, hC, -⟩ := hL
  have m3 := lents_at h3
  have m4 := lents_at h4
  have m7 := lents_at h7
  have mB := lents_at hB
  have mC := lents_at hC
  have m10 := lents_at h10
  simp only [Ent.sh, AV.shL, AV.sh] at m3 m4 m7 mB mC m10
  clear a1 a2 s1 s2 ha hb h0 h1
  obtain ⟨aa, ab⟩ := a
  obtain ⟨ba, bb⟩ := b
  obtain ⟨xa, xb⟩ := x
  obtain ⟨ra, rb⟩ := r
  simp only at *
  generalize subM ba aa = da at *
  generalize subM bb ab = db at *
  refine acall_lents Tryz.func102 rfl Tryz.ntmps102 Tryz.results102 Tryz.call102 (by rfl) (by simp) ?_
  (focus (refine wkax (w_a m3 (w_a m4 (w_a m7 (w_a mB (w_a mC (w_a m10 (w_a @lents_lt (w_a @lents_beq (w_a @atL_def w_t))))))))) (w_a cB (w_a oa (w_a cC w_t))) (w_a (w_d 1 [(1, coA (aa, ab)), (3, coA (ba, bb)), (4, coA (da, db))] [] []) (w_a (w_d 2 [(1, coA (aa, ab)), (2, coA (aa, ab)), (6, poA xa), (10, poA xb), (12, coA (ra, rb))] [] [3]) w_t)) w_t w_t (w_a t0 (w_a t1 (w_a p1 (w_a p2 w_t)))) (w_r 0) ?_; (repeat' first | exact w_t | apply w_l); all_goals intros))
  simp (disch := omega) only [go_sem]
  refine backS (Sub.refl _) ⟨rfl, rfl⟩ ?_
  (repeat' (first | exact Agr.start _ | (refine Agr.own ?_ (by omega))))
end Go.Proofs.YtbgmnobnaplmlaaGreat
end

section
namespace Go.Proofs.YtbgmnobnaplmlaaGreat
open Go Go.RowKit Go.Pg Go.Pol
set_option linter.unusedSimpArgs false
set_option linter.unusedVariables false
set_option maxRecDepth 20000
attribute [local go_sem] Tryz.underlying3 Tryz.underlying4 Tryz.underlying178 Tryz.underlying9 Tryz.underlying48 Tryz.underlying31 Tryz.underlying43 Tryz.underlying41 Tryz.underlying39 Tryz.underlying50 Tryz.underlying22 Tryz.underlying25 Tryz.underlying56 Tryz.underlying28 Tryz.underlying72 Tryz.underlying27 Tryz.underlying30 Tryz.underlying105 Tryz.underlying107 Tryz.underlying70 Tryz.underlying63 Tryz.underlying103 Tryz.underlying154 sz3 by3 z3 szB zB szErr zErr szStr byStr zStr szRat zRat szInt zInt szNat zNat szStep byStep zStep szFig zFig szSlI zSlI szSlS zSlS szVar byVar zVar szSlV zSlV szCoord byCoord zCoord szSlC zSlC szFrame zFrame szCBld byCBld zCBld szCVec byCVec zCVec szPoly byPoly zPoly szTerm zTerm szPtrB zPtrB szFnC zFnC
attribute [-bool_to_prop] Bool.and_eq_decide Bool.or_eq_decide Bool.decide_beq_decide decide_eq_decide
/-! ### sizes of what a step computes -/
theorem PK.sub {p q : Po} {j k e : Nat} (hp : PK p j e) (hq : PK q k e) : PK (subM p q) (j + k + 1) e := hp.add hq.neg
theorem PK.scl {p : Po} {j k e : Nat} {a : Rat} (hp : PK p j e) (ha : Sz a k) : PK (sclM a p) (j + k) e := by
  unfold sclM; split
  · exact .nil
  · exact hp.scale ha
theorem PK.mulV {p : Po} {j e v : Nat} (hp : PK p j e) : PK (mlM p (varM v)) (j + 1) (e + 1) := by
  rw [mul_var]; split
  · refine hp.times (t := (1, unitM v)) fun u hu => ?_
    rw [List.mem_singleton] at hu
    subst hu
    have h := varM_pk v (1, unitM v) (by unfold varM; rw [if_pos (by assumption)]; exact .head _)
    exact h
  · exact .nil
theorem scl_srt {a : Rat} {p : Po} (h : SrtM p) : SrtM (sclM a p) := by
  unfold sclM; split
  · exact .nil
  · exact scale_srt h ‹_›
theorem scl_len (a : Rat) (p : Po) : (sclM a p).length ≤ p.length := by
  unfold sclM; split
  · simp
  · rw [scale_len]; exact Nat.le_refl _
theorem mulV_len (p : Po) (v : Nat) : (mlM p (varM v)).length ≤ p.length := by
  rw [mul_var]; split
  · rw [timesP_len]; exact Nat.le_refl _
  · simp
theorem sub_len (p q : Po) : (subM p q).length ≤ p.length + q.length := by
  have := addP_len (lt := ltM) p (scaleP (-1) q)
  rw [scale_len] at this; exact this
/-- A coordinate of a frame in order. -/
structure Co (p : Po) : Prop where
  pk : PK p 110 1
  st : SrtM p
  ln : p.length ≤ 4000
/-- A step in order. -/
structure StOk (cs : List (Po × Po)) (s : RS) : Prop where
  k0 : 0 ≤ arS s.k
  al : (s.ar.length : Int) = arS s.k
  ai : ∀ k, k < s.ar.length → 0 ≤ gI s.ar k ∧ gI s.ar k < (cs.length : Int)
  r2 : s.k = 2 → s.r.ok = true
  rl : s.r.lm 2
set_option maxHeartbeats 8000000 in
theorem cbStep1 (σ : Mem) (KB KC KV g : Nat) (svC svV : Value) (cs : List (Po × Po)) (vs : List Vt) (fr : Nat) (i : Nat) (s : RS) (hB : σ KB = some (.box g 105 [.own KC svC, .own KV svV, iv fr] false)) (hV : σ KV = some (.row svV 56 3 (vs.map Vt.av) 0)) (hC : σ KC = some (.row svC 72 2 (cs.map coA) 0)) (hBV : KB ≠ KV) (hBC : KB ≠ KC) (hVC : KV ≠ KC) (hl : vs.length ≤ 64) (hf : fr ≤ 100) (hk : s.k = 1) : ACall Tryz.prog 52 [.pbox KB g 0, s.av, iv i] σ fun r σ' => ∃ sv, r = coA (FS.nxt ⟨cs, vs, fr⟩ i s).2 ∧
      σ' = upd (upd σ KV (some (.row sv 56 3 ((vs ++ (FS.nxt ⟨cs, vs, fr⟩ i s).1).map Vt.av) 0))) KB (some (.box g 105 [.own KC svC, .own KV sv, iv (if s.k = 1 then fr + 1 else fr : Nat)] false)) := by
  have mB := lents_at hB
  have mV := lents_at hV
  have mC := lents_at hC
  simp only [Ent.sh, AV.shL, AV.sh] at mB mV mC
  have en : FS.nxt ⟨cs, vs, fr⟩ i s = ((if fr = 0 then [] else if fr = 1 then [(1, (i : Int), 0)] else [(1, (i : Int), 0), (1, (i : Int), 1)]), (if fr = 0 then ([], []) else if fr = 1 then (varM vs.length, []) else (varM vs.length, varM (vs.length + 1)))) := by
    unfold FS.nxt; simp only; rw [if_pos hk]; split
    · rfl
    · split <;> rfl
  rw [en]
  simp only [if_pos hk]
  generalize hnv : (if fr = 0 then [] else if fr = 1 then [((1 : Int), (i : Int), (0 : Int))] else [(1, (i : Int), 0), (1, (i : Int), 1)]) = nv at *
  generalize hnc : (if fr = 0 then (([] : Po), ([] : Po)) else if fr = 1 then (varM vs.length, []) else (varM vs.length, varM (vs.length + 1))) = nc at *
  obtain ⟨k, nm, ar, r, rl, rd⟩ := s
  simp only at hk
  subst hk
  refine acall_lents Tryz.func52 rfl Tryz.ntmps52 Tryz.results52 Tryz.call52 (by rfl) (by simp) ?_
  (focus (refine wkad (w_a mB (w_a mV (w_a mC (w_a @lents_lt w_t)))) w_t w_t ?_; (repeat' first | exact w_t | apply w_l); all_goals intros))
  refine o_fresh ((cbPoint _ (KB + 1000) (KC + 1000) (KV + 1000) g svC svV vs fr i (by (simp (disch := omega) only [go_sem, mB, mV, if_neg, if_pos] <;> repeat' first | rfl | refine ⟨?_, ?_⟩)) (by (simp (disch := omega) only [go_sem, mB, mV, if_neg, if_pos] <;> repeat' first | rfl | refine ⟨?_, ?_⟩)) (by omega) (by omega) (by omega))) ?_
  rw [hnv, hnc]
  intro sv1
  obtain ⟨n1, n2⟩ := nc
  (focus (refine wkad (w_a mB (w_a mV (w_a mC (w_a @lents_lt w_t)))) w_t w_t ?_; (repeat' first | exact w_t | apply w_l); all_goals intros))
  simp (disch := omega) only [go_sem]
  refine backS (Sub.refl _) ⟨sv1, rfl, rfl⟩ ?_
  intro k
  by_cases hk1 : k = KB
  · rw [hk1]
    simp (disch := omega) only [upd_at, if_pos, if_neg, Option.map_some, Ent.sh, AV.shL, AV.sh]
    try rfl
  · by_cases hk2 : k = KV
    · rw [hk2]
      simp (disch := omega) only [upd_at, if_pos, if_neg, Option.map_some, Ent.sh, AV.shL, AV.sh]
      try rfl
    · simp (disch := omega) only [upd_at, if_neg]
      exact Agr.start σ k

set_option maxHeartbeats 8000000 in
theorem cbStep6 (σ : Mem) (KB KC KV g : Nat) (svC svV : Value) (cs : List (Po × Po)) (vs : List Vt) (fr : Nat) (i : Nat) (s : RS) (hB : σ KB = some (.box g 105 [.own KC svC, .own KV svV, iv fr] false)) (hV : σ KV = some (.row svV 56 3 (vs.map Vt.av) 0)) (hC : σ KC = some (.row svC 72 2 (cs.map coA) 0)) (hBV : KB ≠ KV) (hBC : KB ≠ KC) (hVC : KV ≠ KC) (hl : vs.length ≤ 64) (hf : fr ≤ 100) (hk : s.k = 6) : ACall Tryz.prog 52 [.pbox KB g 0, s.av, iv i] σ fun r σ' => ∃ sv, r = coA (FS.nxt ⟨cs, vs, fr⟩ i s).2 ∧
      σ' = upd (upd σ KV (some (.row sv 56 3 ((vs ++ (FS.nxt ⟨cs, vs, fr⟩ i s).1).map Vt.av) 0))) KB (some (.box g 105 [.own KC svC, .own KV sv, iv (if s.k = 1 then fr + 1 else fr : Nat)] false)) := by
  have mB := lents_at hB
  have mV := lents_at hV
  have mC := lents_at hC
  simp only [Ent.sh, AV.shL, AV.sh] at mB mV mC
  have en : FS.nxt ⟨cs, vs, fr⟩ i s = ([(1, (i : Int), 0), (2, (i : Int), 1), (2, (i : Int), 2)], (varM (vs.length + 1), varM (vs.length + 2))) := by
    unfold FS.nxt; simp only [hk]; rfl
  rw [en]
  simp only [if_neg (show ¬ s.k = 1 by omega)]
  have hl1 : (vs ++ [((1 : Int), (i : Int), (0 : Int))]).length = vs.length + 1 := by simp
  obtain ⟨k, nm, ar, r, rl, rd⟩ := s
  simp only at hk
  subst hk
  refine acall_lents Tryz.func52 rfl Tryz.ntmps52 Tryz.results52 Tryz.call52 (by rfl) (by simp) ?_
  (focus (refine wkad (w_a mB (w_a mV (w_a mC (w_a @lents_lt w_t)))) w_t w_t ?_; (repeat' first | exact w_t | apply w_l); all_goals intros))
  refine o_fresh ((cbVariable _ (KB + 1000) (KC + 1000) (KV + 1000) g svC svV vs fr 1 (i : Int) 0 (by (simp (disch := omega) only [go_sem, mB, mV, if_neg, if_pos] <;> repeat' first | rfl | refine ⟨?_, ?_⟩)) (by (simp (disch := omega) only [go_sem, mB, mV, if_neg, if_pos] <;> repeat' first | rfl | refine ⟨?_, ?_⟩)) (by omega) (by omega))) ?_
  intro sv1
  (focus (refine wkad (w_a mB (w_a mV (w_a mC (w_a @lents_lt w_t)))) w_t w_t ?_; (repeat' first | exact w_t | apply w_l); all_goals intros))
  refine o_fresh ((cbDep _ (KB + 1000) (KC + 1000) (KV + 1000) g svC sv1 (vs ++ [(1, (i : Int), 0)]) fr i 1 (by (simp (disch := omega) only [go_sem, mB, mV, if_neg, if_pos] <;> repeat' first | rfl | refine ⟨?_, ?_⟩)) (by (simp (disch := omega) only [go_sem, mB, mV, if_neg, if_pos, List.map_append, List.map_cons, List.map_nil] <;> repeat' first | rfl | refine ⟨?_, ?_⟩)) (by rw [hl1]; omega) (by omega) (by omega))) ?_
  intro sv2
  rw [hl1]
  (focus (refine wkad (w_a mB (w_a mV (w_a mC (w_a @lents_lt w_t)))) w_t w_t ?_; (repeat' first | exact w_t | apply w_l); all_goals intros))
  simp (disch := omega) only [go_sem]
  refine backS (Sub.refl _) ⟨sv2, rfl, rfl⟩ ?_
  simp only [List.append_assoc, List.cons_append, List.nil_append]
  intro k
  by_cases hk1 : k = KB
  · rw [hk1]
    simp (disch := omega) only [upd_at, if_pos, if_neg, Option.map_some, Ent.sh, AV.shL, AV.sh]
    try rfl
  · by_cases hk2 : k = KV
    · rw [hk2]
      simp (disch := omega) only [upd_at, if_pos, if_neg, Option.map_some, Ent.sh, AV.shL, AV.sh]
      try rfl
    · simp (disch := omega) only [upd_at, if_neg]
      exact Agr.start σ k

set_option maxHeartbeats 8000000 in
theorem cbStep7 (σ : Mem) (KB KC KV g : Nat) (svC svV : Value) (cs : List (Po × Po)) (vs : List Vt) (fr : Nat) (i : Nat) (s : RS) (hB : σ KB = some (.box g 105 [.own KC svC, .own KV svV, iv fr] false)) (hV : σ KV = some (.row svV 56 3 (vs.map Vt.av) 0)) (hC : σ KC = some (.row svC 72 2 (cs.map coA) 0)) (hBV : KB ≠ KV) (hBC : KB ≠ KC) (hVC : KV ≠ KC) (hl : vs.length ≤ 64) (hf : fr ≤ 100) (hk : s.k ≠ 1 ∧ s.k ≠ 2 ∧ s.k ≠ 3 ∧ s.k ≠ 4 ∧ s.k ≠ 5 ∧ s.k ≠ 6) : ACall Tryz.prog 52 [.pbox KB g 0, s.av, iv i] σ fun r σ' => ∃ sv, r = coA (FS.nxt ⟨cs, vs, fr⟩ i s).2 ∧
      σ' = upd (upd σ KV (some (.row sv 56 3 ((vs ++ (FS.nxt ⟨cs, vs, fr⟩ i s).1).map Vt.av) 0))) KB (some (.box g 105 [.own KC svC, .own KV sv, iv (if s.k = 1 then fr + 1 else fr : Nat)] false)) := by
  have mB := lents_at hB
  have mV := lents_at hV
  have mC := lents_at hC
  simp only [Ent.sh, AV.shL, AV.sh] at mB mV mC
  have en : FS.nxt ⟨cs, vs, fr⟩ i s = ([(2, (i : Int), 0), (2, (i : Int), 1)], (varM vs.length, varM (vs.length + 1))) := by
    unfold FS.nxt; simp only; rw [if_neg hk.1, if_neg hk.2.1, if_neg hk.2.2.1, if_neg hk.2.2.2.1, if_neg hk.2.2.2.2.1, if_neg hk.2.2.2.2.2]
  rw [en]
  simp only [if_neg hk.1]
  obtain ⟨k, nm, ar, r, rl, rd⟩ := s
  simp only at hk
  obtain ⟨k1, k2, k3, k4, k5, k6⟩ := hk
  refine acall_lents Tryz.func52 rfl Tryz.ntmps52 Tryz.results52 Tryz.call52 (by rfl) (by simp) ?_
  (focus (refine wkad (w_a mB (w_a mV (w_a mC (w_a @lents_lt w_t)))) w_t w_t ?_; (repeat' first | exact w_t | apply w_l); all_goals intros))
  refine o_fresh ((cbDep _ (KB + 1000) (KC + 1000) (KV + 1000) g svC svV vs fr i 0 (by (simp (disch := omega) only [go_sem, mB, mV, if_neg, if_pos] <;> repeat' first | rfl | refine ⟨?_, ?_⟩)) (by (simp (disch := omega) only [go_sem, mB, mV, if_neg, if_pos] <;> repeat' first | rfl | refine ⟨?_, ?_⟩)) (by omega) (by omega) (by omega))) ?_
  intro sv2
  (focus (refine wkad (w_a mB (w_a mV (w_a mC (w_a @lents_lt w_t)))) w_t w_t ?_; (repeat' first | exact w_t | apply w_l); all_goals intros))
  simp (disch := omega) only [go_sem]
  refine backS (Sub.refl _) ⟨sv2, rfl, rfl⟩ ?_
  simp only [Int.zero_add]
  intro k
  by_cases hk1 : k = KB
  · rw [hk1]
    simp (disch := omega) only [upd_at, if_pos, if_neg, Option.map_some, Ent.sh, AV.shL, AV.sh]
    try rfl
  · by_cases hk2 : k = KV
    · rw [hk2]
      simp (disch := omega) only [upd_at, if_pos, if_neg, Option.map_some, Ent.sh, AV.shL, AV.sh]
      try rfl
    · simp (disch := omega) only [upd_at, if_neg]
      exact Agr.start σ k

end Go.Proofs.YtbgmnobnaplmlaaGreat
end

section
namespace Go.Proofs.YtbgmnobnaplmlaaGreat
open Go Go.RowKit Go.Pg Go.Pol
set_option linter.unusedSimpArgs false
set_option linter.unusedVariables false
set_option maxRecDepth 20000
attribute [local go_sem] Tryz.underlying3 Tryz.underlying4 Tryz.underlying178 Tryz.underlying9 Tryz.underlying48 Tryz.underlying31 Tryz.underlying43 Tryz.underlying41 Tryz.underlying39 Tryz.underlying50 Tryz.underlying22 Tryz.underlying25 Tryz.underlying56 Tryz.underlying28 Tryz.underlying72 Tryz.underlying27 Tryz.underlying30 Tryz.underlying105 Tryz.underlying107 Tryz.underlying70 Tryz.underlying63 Tryz.underlying103 Tryz.underlying154 sz3 by3 z3 szB zB szErr zErr szStr byStr zStr szRat zRat szInt zInt szNat zNat szStep byStep zStep szFig zFig szSlI zSlI szSlS zSlS szVar byVar zVar szSlV zSlV szCoord byCoord zCoord szSlC zSlC szFrame zFrame szCBld byCBld zCBld szCVec byCVec zCVec szPoly byPoly zPoly szTerm zTerm szPtrB zPtrB szFnC zFnC
attribute [-bool_to_prop] Bool.and_eq_decide Bool.or_eq_decide Bool.decide_beq_decide decide_eq_decide
set_option maxHeartbeats 8000000 in
theorem cbStep2 (σ : Mem) (KB KC KV g : Nat) (svC svV : Value) (cs : List (Po × Po)) (vs : List Vt) (fr : Nat) (i : Nat) (s : RS) (hB : σ KB = some (.box g 105 [.own KC svC, .own KV svV, iv fr] false)) (hV : σ KV = some (.row svV 56 3 (vs.map Vt.av) 0)) (hC : σ KC = some (.row svC 72 2 (cs.map coA) 0)) (hBV : KB ≠ KV) (hBC : KB ≠ KC) (hVC : KV ≠ KC) (hl : vs.length ≤ 64) (hf : fr ≤ 100) (hok : StOk cs s) (hco : ∀ c ∈ cs, Co c.1 ∧ Co c.2) (hk : s.k = 2) : ACall Tryz.prog 52 [.pbox KB g 0, s.av, iv i] σ fun r σ' => ∃ sv, r = coA (FS.nxt ⟨cs, vs, fr⟩ i s).2 ∧
      σ' = upd (upd σ KV (some (.row sv 56 3 ((vs ++ (FS.nxt ⟨cs, vs, fr⟩ i s).1).map Vt.av) 0))) KB (some (.box g 105 [.own KC svC, .own KV sv, iv (if s.k = 1 then fr + 1 else fr : Nat)] false)) := by
  have mB := lents_at hB
  have mV := lents_at hV
  have mC := lents_at hC
  simp only [Ent.sh, AV.shL, AV.sh] at mB mV mC
  have har : arS s.k = 2 := by rw [hk]; rfl
  have hal := hok.al
  have h0 := hok.ai 0 (by omega)
  obtain ⟨a1, a2⟩ : Co (cs.getD (gI s.ar 0).toNat ([], [])).1 ∧ Co (cs.getD (gI s.ar 0).toNat ([], [])).2 := hco _ (getD_mem (by omega))
  have h1 := hok.ai 1 (by omega)
  obtain ⟨b1, b2⟩ : Co (cs.getD (gI s.ar 1).toNat ([], [])).1 ∧ Co (cs.getD (gI s.ar 1).toNat ([], [])).2 := hco _ (getD_mem (by omega))
  have en : FS.nxt ⟨cs, vs, fr⟩ i s = ([], (addM (cs.getD (gI s.ar 0).toNat ([], [])).1 (sclM s.r.q (subM (cs.getD (gI s.ar 1).toNat ([], [])).1 (cs.getD (gI s.ar 0).toNat ([], [])).1)), addM (cs.getD (gI s.ar 0).toNat ([], [])).2 (sclM s.r.q (subM (cs.getD (gI s.ar 1).toNat ([], [])).2 (cs.getD (gI s.ar 0).toNat ([], [])).2)))) := by
    unfold FS.nxt; simp only [hk]; rfl
  rw [en]
  simp only [if_neg (show ¬ s.k = 1 by omega)]
  clear en
  generalize ha : cs.getD (gI s.ar 0).toNat ([], []) = a at *
  generalize hb : cs.getD (gI s.ar 1).toNat ([], []) = b at *
  have ro := hok.r2 hk
  have zr := (RQ.ok_av hok.rl ro).2
  have s1 := poSub b.1 a.1 b1.pk a1.pk b1.st a1.st (by have := b1.ln; omega) (by have := a1.ln; omega) (by omega) (by omega) (by omega)
  have s2 := poSub b.2 a.2 b2.pk a2.pk b2.st a2.st (by have := b2.ln; omega) (by have := a2.ln; omega) (by omega) (by omega) (by omega)
  have d1 := b1.pk.sub a1.pk
  have d2 := b2.pk.sub a2.pk
  have t1 := sub_srt ordM b1.st a1.st
  have t2 := sub_srt ordM b2.st a2.st
  have l1 := sub_len b.1 a.1
  have l2 := sub_len b.2 a.2
  have n1 := a1.ln
  have n2 := a2.ln
  have n3 := b1.ln
  have n4 := b2.ln
  have c1 := poScale (subM b.1 a.1) s.r.q d1 zr t1 (by omega) (by omega) (by omega) (by omega)
  have c2 := poScale (subM b.2 a.2) s.r.q d2 zr t2 (by omega) (by omega) (by omega) (by omega)
  have e1 := poAdd a.1 (sclM s.r.q (subM b.1 a.1)) a1.pk (d1.scl zr) a1.st (scl_srt t1) (by omega) (by have := scl_len s.r.q (subM b.1 a.1); omega) (by omega) (by omega) (by omega)
  have e2 := poAdd a.2 (sclM s.r.q (subM b.2 a.2)) a2.pk (d2.scl zr) a2.st (scl_srt t2) (by omega) (by have := scl_len s.r.q (subM b.2 a.2); omega) (by omega) (by omega) (by omega)
  have re := RQ.ok_eq hok.rl ro
  obtain ⟨k, nm, ar, r⟩ := s
  simp only at *
  subst hk
  generalize hq : r.q = q at *
  rw [re]
  have al := fun g3 g4 g7 => cbAlongS 3 4 7 (KB + 1000) (KC + 1000) (KV + 1000) g3 g4 g7 g svC svV fr 2 nm ar q cs a b (sclM q (subM b.1 a.1), sclM q (subM b.2 a.2)) (addM a.1 (sclM q (subM b.1 a.1)), addM a.2 (sclM q (subM b.2 a.2))) (by omega) h0 h1 ha hb s1 s2 c1 c2 e1 e2
  clear s1 s2 c1 c2 e1 e2 d1 d2 t1 t2 l1 l2 a1 a2 b1 b2 hco hok re ro zr hq n1 n2 n3 n4
  generalize addM a.1 (sclM q (subM b.1 a.1)) = x1 at *
  generalize addM a.2 (sclM q (subM b.2 a.2)) = x2 at *
  refine acall_lents Tryz.func52 rfl Tryz.ntmps52 Tryz.results52 Tryz.call52 (by rfl) (by simp) ?_
  (focus (refine wkad (w_a mB (w_a mV (w_a mC (w_a @lents_lt w_t)))) w_t w_t ?_; (repeat' first | exact w_t | apply w_l); all_goals intros))
  rename_i g3 g4 g6 g7
  have al := al g3 g4 g7
  (focus (refine wkax (w_a mB (w_a mV (w_a mC (w_a @lents_lt (w_a @atL_def w_t))))) w_t w_t w_t w_t (w_a al w_t) (w_r 0) ?_; (repeat' first | exact w_t | apply w_l); all_goals intros))
  simp (disch := omega) only [go_sem]
  refine backS (Sub.refl _) ⟨svV, rfl, rfl⟩ ?_
  rw [upd_same' hV, upd_same' hB]
  (repeat' (first | exact Agr.start _ | (refine Agr.own ?_ (by omega))))
set_option maxHeartbeats 8000000 in
theorem cbStep3 (σ : Mem) (KB KC KV g : Nat) (svC svV : Value) (cs : List (Po × Po)) (vs : List Vt) (fr : Nat) (i : Nat) (s : RS) (hB : σ KB = some (.box g 105 [.own KC svC, .own KV svV, iv fr] false)) (hV : σ KV = some (.row svV 56 3 (vs.map Vt.av) 0)) (hC : σ KC = some (.row svC 72 2 (cs.map coA) 0)) (hBV : KB ≠ KV) (hBC : KB ≠ KC) (hVC : KV ≠ KC) (hl : vs.length ≤ 64) (hf : fr ≤ 100) (hok : StOk cs s) (hco : ∀ c ∈ cs, Co c.1 ∧ Co c.2) (hk : s.k = 3) : ACall Tryz.prog 52 [.pbox KB g 0, s.av, iv i] σ fun r σ' => ∃ sv, r = coA (FS.nxt ⟨cs, vs, fr⟩ i s).2 ∧
      σ' = upd (upd σ KV (some (.row sv 56 3 ((vs ++ (FS.nxt ⟨cs, vs, fr⟩ i s).1).map Vt.av) 0))) KB (some (.box g 105 [.own KC svC, .own KV sv, iv (if s.k = 1 then fr + 1 else fr : Nat)] false)) := by
  have mB := lents_at hB
  have mV := lents_at hV
  have mC := lents_at hC
  simp only [Ent.sh, AV.shL, AV.sh] at mB mV mC
  have har : arS s.k = 3 := by rw [hk]; rfl
  have hal := hok.al
  have h0 := hok.ai 0 (by omega)
  obtain ⟨a1, a2⟩ : Co (cs.getD (gI s.ar 0).toNat ([], [])).1 ∧ Co (cs.getD (gI s.ar 0).toNat ([], [])).2 := hco _ (getD_mem (by omega))
  have h1 := hok.ai 1 (by omega)
  obtain ⟨b1, b2⟩ : Co (cs.getD (gI s.ar 1).toNat ([], [])).1 ∧ Co (cs.getD (gI s.ar 1).toNat ([], [])).2 := hco _ (getD_mem (by omega))
  have h2 := hok.ai 2 (by omega)
  obtain ⟨c1, c2⟩ : Co (cs.getD (gI s.ar 2).toNat ([], [])).1 ∧ Co (cs.getD (gI s.ar 2).toNat ([], [])).2 := hco _ (getD_mem (by omega))
  have en : FS.nxt ⟨cs, vs, fr⟩ i s = ([], (addM (cs.getD (gI s.ar 0).toNat ([], [])).1 (subM (cs.getD (gI s.ar 2).toNat ([], [])).1 (cs.getD (gI s.ar 1).toNat ([], [])).1), addM (cs.getD (gI s.ar 0).toNat ([], [])).2 (subM (cs.getD (gI s.ar 2).toNat ([], [])).2 (cs.getD (gI s.ar 1).toNat ([], [])).2))) := by
    unfold FS.nxt; simp only [hk]; rfl
  rw [en]
  simp only [if_neg (show ¬ s.k = 1 by omega)]
  clear en
  generalize ha : cs.getD (gI s.ar 0).toNat ([], []) = a at *
  generalize hb : cs.getD (gI s.ar 1).toNat ([], []) = b at *
  generalize hc : cs.getD (gI s.ar 2).toNat ([], []) = c at *
  have n1 := a1.ln
  have n2 := a2.ln
  have n3 := b1.ln
  have n4 := b2.ln
  have n5 := c1.ln
  have n6 := c2.ln
  have s1 := poSub c.1 b.1 c1.pk b1.pk c1.st b1.st (by omega) (by omega) (by omega) (by omega) (by omega)
  have s2 := poSub c.2 b.2 c2.pk b2.pk c2.st b2.st (by omega) (by omega) (by omega) (by omega) (by omega)
  have l1 := sub_len c.1 b.1
  have l2 := sub_len c.2 b.2
  have e1 := poAdd a.1 (subM c.1 b.1) a1.pk (c1.pk.sub b1.pk) a1.st (sub_srt ordM c1.st b1.st) (by omega) (by omega) (by omega) (by omega) (by omega)
  have e2 := poAdd a.2 (subM c.2 b.2) a2.pk (c2.pk.sub b2.pk) a2.st (sub_srt ordM c2.st b2.st) (by omega) (by omega) (by omega) (by omega) (by omega)
  have cB := coBetween b c s1 s2
  have oa := coOf a
  have cC := coCombine 106 a (subM c.1 b.1, subM c.2 b.2) (addM a.1 (subM c.1 b.1), addM a.2 (subM c.2 b.2)) e1 e2
  obtain ⟨k, nm, ar, ⟨rs, rl, rd⟩⟩ := s
  simp only at *
  subst hk
  have t0 := fun g3 g4 => cbAt 3 4 (KB + 1000) (KC + 1000) (KV + 1000) g3 g4 g svC svV fr 3 nm ar (.v (.bool rs)) (lim rl) (lim rd) cs 0 ⟨rfl, rfl, rfl⟩ (by omega) h0
  have t1 := fun g3 g4 => cbAt 3 4 (KB + 1000) (KC + 1000) (KV + 1000) g3 g4 g svC svV fr 3 nm ar (.v (.bool rs)) (lim rl) (lim rd) cs 1 ⟨rfl, rfl, rfl⟩ (by omega) h1
  have t2 := fun g3 g4 => cbAt 3 4 (KB + 1000) (KC + 1000) (KV + 1000) g3 g4 g svC svV fr 3 nm ar (.v (.bool rs)) (lim rl) (lim rd) cs 2 ⟨rfl, rfl, rfl⟩ (by omega) h2
  rw [ha] at t0
  rw [hb] at t1
  rw [hc] at t2
  clear s1 s2 e1 e2 l1 l2 a1 a2 b1 b2 c1 c2 hco hok n1 n2 n3 n4 n5 n6 ha hb hc
  generalize addM a.1 (subM c.1 b.1) = x1 at *
  generalize addM a.2 (subM c.2 b.2) = x2 at *
  generalize subM c.1 b.1 = y1 at *
  generalize subM c.2 b.2 = y2 at *
  obtain ⟨aa, ab⟩ := a
  obtain ⟨ba, bb⟩ := b
  obtain ⟨ca, cb⟩ := c
  refine acall_lents Tryz.func52 rfl Tryz.ntmps52 Tryz.results52 Tryz.call52 (by rfl) (by simp) ?_
  (repeat' (first | (with_reducible first | refine stp ?_ | apply gx1 | apply gx2 | apply gx3 | apply gx4 | apply gx5 | apply gx6 | apply gx7 | apply gy8 | apply gz2 | apply gz3 | refine gwr (t0 _ _) ?_ ?_ | refine gwr (t1 _ _) ?_ ?_ | refine gwr (t2 _ _) ?_ ?_ | refine gw0 (oa) ?_ ?_ | refine gw3 (oa) ?_ ?_ ?_ | refine gw0 (cB) ?_ ?_ | refine gw3 (cB) ?_ ?_ ?_ | refine gw0 (cC) ?_ ?_ | refine gw3 (cC) ?_ ?_ ?_) | ((with_reducible apply gyr (t2 _ _)); (focus rfl); (focus rfl); iterate 3 focus ((with_reducible refine gE ?_); (try simp (disch := omega) only [go_sem, mB, mV, mC, lents_lt, lents_beq, atL_def, decide_eq_true, decide_eq_false, if_pos, if_neg, Int.reduceAdd, Int.reduceSub, Int.reduceToNat, Int.zero_add]) <;> first | rfl | done)) | ((with_reducible apply gyr (t1 _ _)); (focus rfl); (focus rfl); iterate 3 focus ((with_reducible refine gE ?_); (try simp (disch := omega) only [go_sem, mB, mV, mC, lents_lt, lents_beq, atL_def, decide_eq_true, decide_eq_false, if_pos, if_neg, Int.reduceAdd, Int.reduceSub, Int.reduceToNat, Int.zero_add]) <;> first | rfl | done)) | ((with_reducible apply gyr (t0 _ _)); (focus rfl); (focus rfl); iterate 3 focus ((with_reducible refine gE ?_); (try simp (disch := omega) only [go_sem, mB, mV, mC, lents_lt, lents_beq, atL_def, decide_eq_true, decide_eq_false, if_pos, if_neg, Int.reduceAdd, Int.reduceSub, Int.reduceToNat, Int.zero_add]) <;> first | rfl | done)) | (with_reducible refine all_v ?_; intro _) | ((with_reducible refine gE ?_); (try simp (disch := omega) only [go_sem, mB, mV, mC, lents_lt, lents_beq, atL_def, decide_eq_true, decide_eq_false, if_pos, if_neg, Int.reduceAdd, Int.reduceSub, Int.reduceToNat, Int.zero_add]) <;> first | rfl | omega) | with_reducible refine t_in_other (by decide) ?_ | ((with_reducible apply gy1); iterate 3 focus rfl) | ((with_reducible apply gy2); iterate 3 focus rfl) | ((with_reducible apply gy3); iterate 2 focus rfl) | ((with_reducible apply gy4); iterate 1 focus rfl) | ((with_reducible apply gy5); iterate 4 focus rfl) | ((with_reducible apply gy5c); iterate 4 focus rfl) | ((with_reducible apply gy6); iterate 4 focus rfl) | ((with_reducible apply d_bar); iterate 3 focus rfl) | ((with_reducible apply q_pub); iterate 1 focus rfl) | ((with_reducible apply gy7); iterate 1 focus rfl) | ((with_reducible apply gy9); (focus ((with_reducible refine gE ?_); (try simp (disch := omega) only [go_sem, mB, mV, mC, lents_lt, lents_beq, atL_def, decide_eq_true, decide_eq_false, if_pos, if_neg, Int.reduceAdd, Int.reduceSub, Int.reduceToNat, Int.zero_add]) <;> rfl))) | ((with_reducible apply gz1); (focus first | rfl | (simp (disch := omega) only [go_sem, mB, mV, mC, lents_lt, lents_beq, atL_def, decide_eq_true, decide_eq_false, if_pos, if_neg, Int.reduceAdd, Int.reduceSub, Int.reduceToNat, Int.zero_add]; done))) | ((with_reducible apply r_drawD (id := 9) (pickR [(1, coA (aa, ab)), (2, coA (aa, ab)), (4, coA (ba, bb)), (6, coA (ca, cb)), (7, coA (y1, y2)), (8, coA (x1, x2))]) [] [6]); (focus kernel_rfl); (focus rfl); (focus kernel_rfl); (focus (simp only [List.length_cons, List.length_nil, Nat.reduceAdd]; rfl))) | ((with_reducible first | apply og_split | apply dg_split | apply cg_split); all_goals (intro hc; (try simp only [bool_to_prop] at hc); try (exfalso; omega)))))
  simp (disch := omega) only [go_sem]
  refine backS (Sub.refl _) ⟨svV, rfl, rfl⟩ ?_
  rw [upd_same' hV, upd_same' hB]
  (repeat' (first | exact Agr.start _ | (refine Agr.own ?_ (by omega))))
set_option maxHeartbeats 8000000 in
theorem cbStep4 (σ : Mem) (KB KC KV g : Nat) (svC svV : Value) (cs : List (Po × Po)) (vs : List Vt) (fr : Nat) (i : Nat) (s : RS) (hB : σ KB = some (.box g 105 [.own KC svC, .own KV svV, iv fr] false)) (hV : σ KV = some (.row svV 56 3 (vs.map Vt.av) 0)) (hC : σ KC = some (.row svC 72 2 (cs.map coA) 0)) (hBV : KB ≠ KV) (hBC : KB ≠ KC) (hVC : KV ≠ KC) (hl : vs.length ≤ 64) (hf : fr ≤ 100) (hok : StOk cs s) (hco : ∀ c ∈ cs, Co c.1 ∧ Co c.2) (hk : s.k = 4) : ACall Tryz.prog 52 [.pbox KB g 0, s.av, iv i] σ fun r σ' => ∃ sv, r = coA (FS.nxt ⟨cs, vs, fr⟩ i s).2 ∧
      σ' = upd (upd σ KV (some (.row sv 56 3 ((vs ++ (FS.nxt ⟨cs, vs, fr⟩ i s).1).map Vt.av) 0))) KB (some (.box g 105 [.own KC svC, .own KV sv, iv (if s.k = 1 then fr + 1 else fr : Nat)] false)) := by
  have mB := lents_at hB
  have mV := lents_at hV
  have mC := lents_at hC
  simp only [Ent.sh, AV.shL, AV.sh] at mB mV mC
  have har : arS s.k = 3 := by rw [hk]; rfl
  have hal := hok.al
  have h0 := hok.ai 0 (by omega)
  obtain ⟨a1, a2⟩ : Co (cs.getD (gI s.ar 0).toNat ([], [])).1 ∧ Co (cs.getD (gI s.ar 0).toNat ([], [])).2 := hco _ (getD_mem (by omega))
  have h1 := hok.ai 1 (by omega)
  obtain ⟨b1, b2⟩ : Co (cs.getD (gI s.ar 1).toNat ([], [])).1 ∧ Co (cs.getD (gI s.ar 1).toNat ([], [])).2 := hco _ (getD_mem (by omega))
  have h2 := hok.ai 2 (by omega)
  obtain ⟨c1, c2⟩ : Co (cs.getD (gI s.ar 2).toNat ([], [])).1 ∧ Co (cs.getD (gI s.ar 2).toNat ([], [])).2 := hco _ (getD_mem (by omega))
  have en : FS.nxt ⟨cs, vs, fr⟩ i s = ([], (addM (cs.getD (gI s.ar 0).toNat ([], [])).1 (subM (cs.getD (gI s.ar 1).toNat ([], [])).2 (cs.getD (gI s.ar 2).toNat ([], [])).2), addM (cs.getD (gI s.ar 0).toNat ([], [])).2 (subM (cs.getD (gI s.ar 2).toNat ([], [])).1 (cs.getD (gI s.ar 1).toNat ([], [])).1))) := by
    unfold FS.nxt; simp only [hk]; rfl
  rw [en]
  simp only [if_neg (show ¬ s.k = 1 by omega)]
  clear en
  generalize ha : cs.getD (gI s.ar 0).toNat ([], []) = a at *
  generalize hb : cs.getD (gI s.ar 1).toNat ([], []) = b at *
  generalize hc : cs.getD (gI s.ar 2).toNat ([], []) = c at *
  have n1 := a1.ln
  have n2 := a2.ln
  have n3 := b1.ln
  have n4 := b2.ln
  have n5 := c1.ln
  have n6 := c2.ln
  have s1 := poSub c.1 b.1 c1.pk b1.pk c1.st b1.st (by omega) (by omega) (by omega) (by omega) (by omega)
  have s2 := poSub c.2 b.2 c2.pk b2.pk c2.st b2.st (by omega) (by omega) (by omega) (by omega) (by omega)
  have l1 := sub_len c.1 b.1
  have l2 := sub_len c.2 b.2
  have l3 := sub_len b.2 c.2
  have hn := poNeg (subM c.2 b.2) (c2.pk.sub b2.pk) (sub_srt ordM c2.st b2.st) (by omega) (by omega) (by omega)
  rw [show scaleP (-1) (subM c.2 b.2) = subM b.2 c.2 from neg_sub ordM c2.st b2.st] at hn
  have e1 := poAdd a.1 (subM b.2 c.2) a1.pk (b2.pk.sub c2.pk) a1.st (sub_srt ordM b2.st c2.st) (by omega) (by omega) (by omega) (by omega) (by omega)
  have e2 := poAdd a.2 (subM c.1 b.1) a2.pk (c1.pk.sub b1.pk) a2.st (sub_srt ordM c1.st b1.st) (by omega) (by omega) (by omega) (by omega) (by omega)
  have cB := coBetween b c s1 s2
  have oa := coOf a
  have cC := coCombine 106 a (subM b.2 c.2, subM c.1 b.1) (addM a.1 (subM b.2 c.2), addM a.2 (subM c.1 b.1)) e1 e2
  obtain ⟨k, nm, ar, ⟨rs, rl, rd⟩⟩ := s
  simp only at *
  subst hk
  have t0 := fun g3 g4 => cbAt 3 4 (KB + 1000) (KC + 1000) (KV + 1000) g3 g4 g svC svV fr 4 nm ar (.v (.bool rs)) (lim rl) (lim rd) cs 0 ⟨rfl, rfl, rfl⟩ (by omega) h0
  have t1 := fun g3 g4 => cbAt 3 4 (KB + 1000) (KC + 1000) (KV + 1000) g3 g4 g svC svV fr 4 nm ar (.v (.bool rs)) (lim rl) (lim rd) cs 1 ⟨rfl, rfl, rfl⟩ (by omega) h1
  have t2 := fun g3 g4 => cbAt 3 4 (KB + 1000) (KC + 1000) (KV + 1000) g3 g4 g svC svV fr 4 nm ar (.v (.bool rs)) (lim rl) (lim rd) cs 2 ⟨rfl, rfl, rfl⟩ (by omega) h2
  rw [ha] at t0
  rw [hb] at t1
  rw [hc] at t2
  clear s1 s2 e1 e2 l1 l2 l3 a1 a2 b1 b2 c1 c2 hco hok n1 n2 n3 n4 n5 n6 ha hb hc
  generalize addM a.1 (subM b.2 c.2) = x1 at *
  generalize addM a.2 (subM c.1 b.1) = x2 at *
  generalize subM c.1 b.1 = y1 at *
  generalize subM c.2 b.2 = y2 at *
  generalize subM b.2 c.2 = y3 at *
  obtain ⟨aa, ab⟩ := a
  obtain ⟨ba, bb⟩ := b
  obtain ⟨ca, cb⟩ := c
  refine acall_lents Tryz.func52 rfl Tryz.ntmps52 Tryz.results52 Tryz.call52 (by rfl) (by simp) ?_
  (repeat' (first | (with_reducible first | refine stp ?_ | apply gx1 | apply gx2 | apply gx3 | apply gx4 | apply gx5 | apply gx6 | apply gx7 | apply gy8 | apply gz2 | apply gz3 | refine gwr (t0 _ _) ?_ ?_ | refine gwr (t1 _ _) ?_ ?_ | refine gwr (t2 _ _) ?_ ?_ | refine gw0 (oa) ?_ ?_ | refine gw3 (oa) ?_ ?_ ?_ | refine gw0 (cB) ?_ ?_ | refine gw3 (cB) ?_ ?_ ?_ | refine gw0 (cC) ?_ ?_ | refine gw3 (cC) ?_ ?_ ?_ | refine gw0 (hn) ?_ ?_ | refine gw3 (hn) ?_ ?_ ?_) | ((with_reducible apply gyr (t2 _ _)); (focus rfl); (focus rfl); iterate 3 focus ((with_reducible refine gE ?_); (try simp (disch := omega) only [go_sem, mB, mV, mC, lents_lt, lents_beq, atL_def, decide_eq_true, decide_eq_false, if_pos, if_neg, Int.reduceAdd, Int.reduceSub, Int.reduceToNat, Int.zero_add]) <;> first | rfl | done)) | ((with_reducible apply gyr (t1 _ _)); (focus rfl); (focus rfl); iterate 3 focus ((with_reducible refine gE ?_); (try simp (disch := omega) only [go_sem, mB, mV, mC, lents_lt, lents_beq, atL_def, decide_eq_true, decide_eq_false, if_pos, if_neg, Int.reduceAdd, Int.reduceSub, Int.reduceToNat, Int.zero_add]) <;> first | rfl | done)) | ((with_reducible apply gyr (t0 _ _)); (focus rfl); (focus rfl); iterate 3 focus ((with_reducible refine gE ?_); (try simp (disch := omega) only [go_sem, mB, mV, mC, lents_lt, lents_beq, atL_def, decide_eq_true, decide_eq_false, if_pos, if_neg, Int.reduceAdd, Int.reduceSub, Int.reduceToNat, Int.zero_add]) <;> first | rfl | done)) | (with_reducible refine all_v ?_; intro _) | ((with_reducible refine gE ?_); (try simp (disch := omega) only [go_sem, mB, mV, mC, lents_lt, lents_beq, atL_def, decide_eq_true, decide_eq_false, if_pos, if_neg, Int.reduceAdd, Int.reduceSub, Int.reduceToNat, Int.zero_add]) <;> first | rfl | omega) | with_reducible refine t_in_other (by decide) ?_ | ((with_reducible apply gy1); iterate 3 focus rfl) | ((with_reducible apply gy2); iterate 3 focus rfl) | ((with_reducible apply gy3); iterate 2 focus rfl) | ((with_reducible apply gy4); iterate 1 focus rfl) | ((with_reducible apply gy5); iterate 4 focus rfl) | ((with_reducible apply gy5c); iterate 4 focus rfl) | ((with_reducible apply gy6); iterate 4 focus rfl) | ((with_reducible apply d_bar); iterate 3 focus rfl) | ((with_reducible apply q_pub); iterate 1 focus rfl) | ((with_reducible apply gy7); iterate 1 focus rfl) | ((with_reducible apply gy9); (focus ((with_reducible refine gE ?_); (try simp (disch := omega) only [go_sem, mB, mV, mC, lents_lt, lents_beq, atL_def, decide_eq_true, decide_eq_false, if_pos, if_neg, Int.reduceAdd, Int.reduceSub, Int.reduceToNat, Int.zero_add]) <;> rfl))) | ((with_reducible apply gz1); (focus first | rfl | (simp (disch := omega) only [go_sem, mB, mV, mC, lents_lt, lents_beq, atL_def, decide_eq_true, decide_eq_false, if_pos, if_neg, Int.reduceAdd, Int.reduceSub, Int.reduceToNat, Int.zero_add]; done))) | ((with_reducible apply r_drawD (id := 11) (pickR [(1, coA (ba, bb)), (3, coA (ca, cb)), (4, coA (y1, y2))]) [] []); (focus kernel_rfl); (focus rfl); (focus kernel_rfl); (focus (simp only [List.length_cons, List.length_nil, Nat.reduceAdd]; rfl))) | ((with_reducible apply r_drawD (id := 12) (pickR [(1, coA (aa, ab)), (2, coA (aa, ab)), (5, poA y3), (9, coA (x1, x2))]) [] [6]); (focus kernel_rfl); (focus rfl); (focus kernel_rfl); (focus (simp only [List.length_cons, List.length_nil, Nat.reduceAdd]; rfl))) | ((with_reducible first | apply og_split | apply dg_split | apply cg_split); all_goals (intro hc; (try simp only [bool_to_prop] at hc); try (exfalso; omega)))))
  simp (disch := omega) only [go_sem]
  refine backS (Sub.refl _) ⟨svV, rfl, rfl⟩ ?_
  rw [upd_same' hV, upd_same' hB]
  (repeat' (first | exact Agr.start _ | (refine Agr.own ?_ (by omega))))
set_option maxHeartbeats 8000000 in
theorem cbStep5 (σ : Mem) (KB KC KV g : Nat) (svC svV : Value) (cs : List (Po × Po)) (vs : List Vt) (fr : Nat) (i : Nat) (s : RS) (hB : σ KB = some (.box g 105 [.own KC svC, .own KV svV, iv fr] false)) (hV : σ KV = some (.row svV 56 3 (vs.map Vt.av) 0)) (hC : σ KC = some (.row svC 72 2 (cs.map coA) 0)) (hBV : KB ≠ KV) (hBC : KB ≠ KC) (hVC : KV ≠ KC) (hl : vs.length ≤ 64) (hf : fr ≤ 100) (hok : StOk cs s) (hco : ∀ c ∈ cs, Co c.1 ∧ Co c.2) (hk : s.k = 5) : ACall Tryz.prog 52 [.pbox KB g 0, s.av, iv i] σ fun r σ' => ∃ sv, r = coA (FS.nxt ⟨cs, vs, fr⟩ i s).2 ∧
      σ' = upd (upd σ KV (some (.row sv 56 3 ((vs ++ (FS.nxt ⟨cs, vs, fr⟩ i s).1).map Vt.av) 0))) KB (some (.box g 105 [.own KC svC, .own KV sv, iv (if s.k = 1 then fr + 1 else fr : Nat)] false)) := by
  have mB := lents_at hB
  have mV := lents_at hV
  have mC := lents_at hC
  simp only [Ent.sh, AV.shL, AV.sh] at mB mV mC
  have har : arS s.k = 2 := by rw [hk]; rfl
  have hal := hok.al
  have h0 := hok.ai 0 (by omega)
  obtain ⟨a1, a2⟩ : Co (cs.getD (gI s.ar 0).toNat ([], [])).1 ∧ Co (cs.getD (gI s.ar 0).toNat ([], [])).2 := hco _ (getD_mem (by omega))
  have h1 := hok.ai 1 (by omega)
  obtain ⟨b1, b2⟩ : Co (cs.getD (gI s.ar 1).toNat ([], [])).1 ∧ Co (cs.getD (gI s.ar 1).toNat ([], [])).2 := hco _ (getD_mem (by omega))
  have en : FS.nxt ⟨cs, vs, fr⟩ i s = ([(1, (i : Int), 0)], (addM (cs.getD (gI s.ar 0).toNat ([], [])).1 (mlM (subM (cs.getD (gI s.ar 1).toNat ([], [])).1 (cs.getD (gI s.ar 0).toNat ([], [])).1) (varM vs.length)), addM (cs.getD (gI s.ar 0).toNat ([], [])).2 (mlM (subM (cs.getD (gI s.ar 1).toNat ([], [])).2 (cs.getD (gI s.ar 0).toNat ([], [])).2) (varM vs.length)))) := by
    unfold FS.nxt; simp only [hk]; rfl
  rw [en]
  simp only [if_neg (show ¬ s.k = 1 by omega)]
  clear en
  generalize ha : cs.getD (gI s.ar 0).toNat ([], []) = a at *
  generalize hb : cs.getD (gI s.ar 1).toNat ([], []) = b at *
  have s1 := poSub b.1 a.1 b1.pk a1.pk b1.st a1.st (by have := b1.ln; omega) (by have := a1.ln; omega) (by omega) (by omega) (by omega)
  have s2 := poSub b.2 a.2 b2.pk a2.pk b2.st a2.st (by have := b2.ln; omega) (by have := a2.ln; omega) (by omega) (by omega) (by omega)
  have d1 := b1.pk.sub a1.pk
  have d2 := b2.pk.sub a2.pk
  have t1 := sub_srt ordM b1.st a1.st
  have t2 := sub_srt ordM b2.st a2.st
  have l1 := sub_len b.1 a.1
  have l2 := sub_len b.2 a.2
  have n1 := a1.ln
  have n2 := a2.ln
  have n3 := b1.ln
  have n4 := b2.ln
  have c1 := poMulVar (subM b.1 a.1) vs.length d1 t1 (by omega) (by omega) (by omega)
  have c2 := poMulVar (subM b.2 a.2) vs.length d2 t2 (by omega) (by omega) (by omega)
  have e1 := poAdd a.1 (mlM (subM b.1 a.1) (varM vs.length)) (a1.pk.mono (Nat.le_refl _) (show 1 ≤ 2 by omega)) d1.mulV a1.st (mulR_srt ordM mulK t1 (varM_srt _)) (by omega) (by have := mulV_len (subM b.1 a.1) vs.length; omega) (by omega) (by omega) (by omega)
  have e2 := poAdd a.2 (mlM (subM b.2 a.2) (varM vs.length)) (a2.pk.mono (Nat.le_refl _) (show 1 ≤ 2 by omega)) d2.mulV a2.st (mulR_srt ordM mulK t2 (varM_srt _)) (by omega) (by have := mulV_len (subM b.2 a.2) vs.length; omega) (by omega) (by omega) (by omega)
  obtain ⟨k, nm, ar, ⟨rs, rl, rd⟩⟩ := s
  simp only at *
  subst hk
  have al := fun sv1 g3 g4 g7 g10 => cbAlongM 3 4 7 (KB + 1000) (KC + 1000) (KV + 1000) g3 g4 g7 g svC sv1 fr 5 nm ar rs rl rd 10 g10 (varM vs.length) cs a b (mlM (subM b.1 a.1) (varM vs.length), mlM (subM b.2 a.2) (varM vs.length)) (addM a.1 (mlM (subM b.1 a.1) (varM vs.length)), addM a.2 (mlM (subM b.2 a.2) (varM vs.length))) (by omega) h0 h1 ha hb s1 s2 c1 c2 e1 e2
  clear s1 s2 c1 c2 e1 e2 d1 d2 t1 t2 l1 l2 a1 a2 b1 b2 hco hok n1 n2 n3 n4
  generalize addM a.1 (mlM (subM b.1 a.1) (varM vs.length)) = x1 at *
  generalize addM a.2 (mlM (subM b.2 a.2) (varM vs.length)) = x2 at *
  refine acall_lents Tryz.func52 rfl Tryz.ntmps52 Tryz.results52 Tryz.call52 (by rfl) (by simp) ?_
  (focus (refine wkad (w_a mB (w_a mV (w_a mC (w_a @lents_lt w_t)))) w_t w_t ?_; (repeat' first | exact w_t | apply w_l); all_goals intros))
  refine o_fresh ((cbVariable _ (KB + 1000) (KC + 1000) (KV + 1000) g svC svV vs fr 1 (i : Int) 0 (by (simp (disch := omega) only [go_sem, mB, mV, if_neg, if_pos] <;> repeat' first | rfl | refine ⟨?_, ?_⟩)) (by (simp (disch := omega) only [go_sem, mB, mV, if_neg, if_pos] <;> repeat' first | rfl | refine ⟨?_, ?_⟩)) (by omega) (by omega))) ?_
  intro sv1
  generalize varM vs.length = t at *
  (focus (refine wkad (w_a mB (w_a mV (w_a mC (w_a @lents_lt w_t)))) w_t w_t ?_; (repeat' first | exact w_t | apply w_l); all_goals intros))
  rename_i g3 g4 g6 g7 g10
  have al := al sv1 g3 g4 g7 g10
  (focus (refine wkax (w_a mB (w_a mV (w_a mC (w_a @lents_lt (w_a @atL_def w_t))))) w_t w_t w_t w_t (w_a al w_t) (w_r 0) ?_; (repeat' first | exact w_t | apply w_l); all_goals intros))
  simp (disch := omega) only [go_sem]
  refine backS (Sub.refl _) ⟨sv1, rfl, rfl⟩ ?_
  intro k
  by_cases hk1 : k = KB
  · rw [hk1]
    simp (disch := omega) only [upd_at, if_pos, if_neg, Option.map_some, Ent.sh, AV.shL, AV.sh]
    try rfl
  · by_cases hk2 : k = KV
    · rw [hk2]
      simp (disch := omega) only [upd_at, if_pos, if_neg, Option.map_some, Ent.sh, AV.shL, AV.sh]
      try rfl
    · simp (disch := omega) only [upd_at, if_neg]
      exact Agr.start σ k

theorem cbStep (σ : Mem) (KB KC KV g : Nat) (svC svV : Value) (cs : List (Po × Po)) (vs : List Vt) (fr : Nat) (i : Nat) (s : RS) (hB : σ KB = some (.box g 105 [.own KC svC, .own KV svV, iv fr] false)) (hV : σ KV = some (.row svV 56 3 (vs.map Vt.av) 0)) (hC : σ KC = some (.row svC 72 2 (cs.map coA) 0)) (hBV : KB ≠ KV) (hBC : KB ≠ KC) (hVC : KV ≠ KC) (hl : vs.length ≤ 64) (hf : fr ≤ 100) (hok : StOk cs s) (hco : ∀ c ∈ cs, Co c.1 ∧ Co c.2) : ACall Tryz.prog 52 [.pbox KB g 0, s.av, iv i] σ fun r σ' => ∃ sv, r = coA (FS.nxt ⟨cs, vs, fr⟩ i s).2 ∧
      σ' = upd (upd σ KV (some (.row sv 56 3 ((vs ++ (FS.nxt ⟨cs, vs, fr⟩ i s).1).map Vt.av) 0))) KB (some (.box g 105 [.own KC svC, .own KV sv, iv (if s.k = 1 then fr + 1 else fr : Nat)] false)) := by
  by_cases k1 : s.k = 1
  · exact cbStep1 σ KB KC KV g svC svV cs vs fr i s hB hV hC hBV hBC hVC hl hf k1
  · by_cases k2 : s.k = 2
    · exact cbStep2 σ KB KC KV g svC svV cs vs fr i s hB hV hC hBV hBC hVC hl hf hok hco k2
    · by_cases k3 : s.k = 3
      · exact cbStep3 σ KB KC KV g svC svV cs vs fr i s hB hV hC hBV hBC hVC hl hf hok hco k3
      · by_cases k4 : s.k = 4
        · exact cbStep4 σ KB KC KV g svC svV cs vs fr i s hB hV hC hBV hBC hVC hl hf hok hco k4
        · by_cases k5 : s.k = 5
          · exact cbStep5 σ KB KC KV g svC svV cs vs fr i s hB hV hC hBV hBC hVC hl hf hok hco k5
          · by_cases k6 : s.k = 6
            · exact cbStep6 σ KB KC KV g svC svV cs vs fr i s hB hV hC hBV hBC hVC hl hf k6
            · exact cbStep7 σ KB KC KV g svC svV cs vs fr i s hB hV hC hBV hBC hVC hl hf ⟨k1, k2, k3, k4, k5, k6⟩
end Go.Proofs.YtbgmnobnaplmlaaGreat
end

section
namespace Go.Pg
open Go Go.RowKit
set_option linter.unusedSimpArgs false
set_option linter.unusedVariables false
section
variable {P : Program} {all rest : List Oper} {K : St → Prop} {e : Nat → AV} {m : Mem} {dst : Option Nat} {d t j : Nat} {op : Op} {ty : TypeId} {pos : String} {af : Array Edge} {r : Res} {rs : Nat → AV} {bar : List Nat} {fu k : Nat} {σs : Mem}
/-- An append that steps that look at no memory may pass. -/
theorem gy5d (hb : bar.contains k = true) (hs : (bar.contains (k + 1000) || bar.contains (k + 3000)) = false) (h2 : bar.contains (k + 2000) = true) (ho : all[k]? = some ⟨some d, op, ty, pos, af, none⟩) (h : Ev (opRes P ⟨e, m⟩ op = r)) (hkp : Ev (resKeep noMem r)) (hk : aRes P d (some d) r (dList P 0 all rs bar noMem fu (k + 1) K) ⟨e, m⟩) : dList P 0 all rs bar σs (fu + 1) k K ⟨e, m⟩ := by
  rw [dList_succ]
  unfold xStep
  rw [ho]
  simp only [Bool.or_eq_false_iff] at hs
  simp only [nextS, hb, hs, h2, if_true, Bool.false_eq_true, if_false]
  have h : opRes P ⟨e, m⟩ op = r := h
  refine ⟨?_, fun _ => ⟨rfl, by rw [h]; exact hkp, fun h => by cases h⟩⟩
  unfold fStep
  rw [aList_none, h, Option.getD_some, Nat.zero_add]
  exact hk
end
end Go.Pg
end

section
namespace Go.Proofs.YtbgmnobnaplmlaaGreat
open Go Go.RowKit Go.Pg Go.Pol
set_option linter.unusedSimpArgs false
set_option linter.unusedVariables false
set_option maxRecDepth 20000
attribute [local go_sem] Tryz.underlying3 Tryz.underlying4 Tryz.underlying178 Tryz.underlying9 Tryz.underlying48 Tryz.underlying31 Tryz.underlying43 Tryz.underlying41 Tryz.underlying39 Tryz.underlying50 Tryz.underlying22 Tryz.underlying25 Tryz.underlying56 Tryz.underlying28 Tryz.underlying72 Tryz.underlying27 Tryz.underlying30 Tryz.underlying105 Tryz.underlying107 Tryz.underlying70 Tryz.underlying63 Tryz.underlying103 Tryz.underlying154 sz3 by3 z3 szB zB szErr zErr szStr byStr zStr szRat zRat szInt zInt szNat zNat szStep byStep zStep szFig zFig szSlI zSlI szSlS zSlS szVar byVar zVar szSlV zSlV szCoord byCoord zCoord szSlC zSlC szFrame zFrame szCBld byCBld zCBld szCVec byCVec zCVec szPoly byPoly zPoly szTerm zTerm szPtrB zPtrB szFnC zFnC
attribute [-bool_to_prop] Bool.and_eq_decide Bool.or_eq_decide Bool.decide_beq_decide decide_eq_decide
theorem frN_fr (ss : List RS) : ∀ i, (frN ss i).fr ≤ i
  | 0 => Nat.le_refl _
  | i + 1 => by
    have := frN_fr ss i
    unfold frN
    simp only [FS.push]
    split <;> omega
theorem nfN_mono (ss : List RS) : ∀ i k, nfN ss i ≤ nfN ss (i + k)
  | i, 0 => Nat.le_refl _
  | i, k + 1 => Nat.le_trans (nfN_mono ss i k) (by show _ ≤ nfN ss (i + k) + _; omega)
/-- What is known of a figure in order. -/
structure FigOk (ss : List RS) : Prop where
  len : ss.length ≤ 40
  er : ∀ i, i < ss.length → errS ss i = 0
  lm : ∀ s ∈ ss, s.r.lm 2
  nf : nfN ss ss.length ≤ 20
theorem FigOk.fi {ss : List RS} (h : FigOk ss) {i : Nat} (hi : i ≤ ss.length) (hj : ∀ j, j < i → bigN ss j = false) : ∃ D, FI (frN ss i) (nfN ss i) D ∧ nfN ss i ≤ 20 := by
  have hr : ∀ s ∈ ss, s.k = 2 → s.r.ok = true := fun s hs => by
    obtain ⟨j, hj, rfl⟩ := List.mem_iff_getElem.1 hs
    exact (errS_ok hj (h.er j hj)).2.2.2
  obtain ⟨D, hD⟩ := frN_ok ss hr (fun s hs => lm_bd (h.lm s hs)) i hi hj
  refine ⟨D, hD, Nat.le_trans ?_ h.nf⟩
  have := nfN_mono ss i (ss.length - i)
  rwa [show i + (ss.length - i) = ss.length by omega] at this
theorem FI.co {f : FS} {n D : Nat} (h : FI f n D) (hn : n ≤ 20) : ∀ c ∈ f.cs, Co c.1 ∧ Co c.2 := fun c hc => by
  obtain ⟨h1, h2⟩ := h.cs c hc
  obtain ⟨l1, l2⟩ := h.ln c hc
  have hv := h.nv
  exact ⟨⟨h1.pk (by omega) h.D0 h.Dl hn, h1.1, l1⟩, ⟨h2.pk (by omega) h.D0 h.Dl hn, h2.1, l2⟩⟩
theorem FigOk.st {ss : List RS} (h : FigOk ss) {i : Nat} (hi : i < ss.length) : StOk (frN ss i).cs ss[i] := by
  obtain ⟨h1, h2, h3, h4⟩ := errS_ok hi (h.er i hi)
  exact ⟨h1, h2, fun k hk => by rw [frN_len]; exact h3 k hk, h4, h.lm _ (List.getElem_mem hi)⟩
/-- What the next frame is. -/
theorem frN_succ {ss : List RS} {i : Nat} (hi : i < ss.length) : frN ss (i + 1) = ⟨(frN ss i).cs ++ [((frN ss i).nxt i ss[i]).2], (frN ss i).vs ++ ((frN ss i).nxt i ss[i]).1, if ss[i].k = 1 then (frN ss i).fr + 1 else (frN ss i).fr⟩ := by
  show (frN ss i).push i (ss.getD i RS.zero) = _
  rw [show ss.getD i RS.zero = ss[i] from by rw [List.getD_eq_getElem?_getD, List.getElem?_eq_getElem hi]; rfl]; rfl
theorem bigN_at {ss : List RS} {i : Nat} (hi : i < ss.length) : bigN ss i = (decide (64 < ((frN ss i).vs ++ ((frN ss i).nxt i ss[i]).1).length) || decide (4000 < ((frN ss i).nxt i ss[i]).2.1.length) || decide (4000 < ((frN ss i).nxt i ss[i]).2.2.length)) := by
  unfold bigN
  rw [frN_succ hi, show ss.getD i ⟨0, .empty, [], ⟨false, [], []⟩⟩ = ss[i] from by rw [List.getD_eq_getElem?_getD, List.getElem?_eq_getElem hi]; rfl]
theorem nxt_vars (f : FS) (i : Nat) (s : RS) : (f.nxt i s).1.length ≤ 3 := by
  unfold FS.nxt; simp only
  repeat' split
  all_goals simp
set_option maxHeartbeats 8000000 in
theorem coFrame0 (ss : List RS) (gs : List RG) (cR : Pure Tryz.prog 51 [figA ss gs] (iv (figE ss gs))) (h : figE ss gs ≠ 0) : Pure Tryz.prog 15 [figA ss gs] (.tup [frmA [] [], iv (figE ss gs)]) := by
  refine pure_vkR (r := .tup [.agg [.v (.slice none 0 0), .v (.slice none 0 0)], iv (figE ss gs)]) ?_ (Vk.tupL (.cons (Vk.aggL (.cons (.nil 2) (.cons (.nil 3) .nil))) (.cons (.refl _) .nil)))
  have cR : Pure Tryz.prog 51 [.agg [.sl 6 (ss.map RS.av), .sl 5 (gs.map RG.av)]] (iv (figE ss gs)) := cR
  show Pure _ _ [.agg [.sl 6 (ss.map RS.av), .sl 5 (gs.map RG.av)]] _
  generalize figE ss gs = z at *
  generalize ss.map RS.av = M at *
  generalize gs.map RG.av = N at *
  refine pure_intro (tok := 0) Tryz.func15 rfl Tryz.ntmps15 Tryz.results15 Tryz.call15 (by rfl) (by simp) ?_
  (focus (refine wkld w_t (w_a cR w_t) w_t w_t ?_; (repeat' first | exact w_t | apply w_l); all_goals intros))
set_option maxHeartbeats 8000000 in
theorem coFrame1 (ss : List RS) (gs : List RG) (cR : Pure Tryz.prog 51 [figA ss gs] (iv 0)) (ho : FigOk ss) :
    Pure Tryz.prog 15 [figA ss gs] (if (List.range ss.length).any (bigN ss) = true then .tup [.agg [.v (.slice none 0 0), .v (.slice none 0 0)], iv 4] else .tup [frmA (frN ss ss.length).cs (frN ss ss.length).vs, iv 0]) := by
  have cR : Pure Tryz.prog 51 [.agg [.sl 6 (ss.map RS.av), .sl 5 (gs.map RG.av)]] (iv 0) := cR
  show Pure _ _ [.agg [.sl 6 (ss.map RS.av), .sl 5 (gs.map RG.av)]] _
  have hg : ∀ i (h : i < ss.length), (ss.map RS.av).getD i .u = ss[i].av := fun i h => map_atB RS.av h
  have hls : (ss.map RS.av).length = ss.length := List.length_map ..
  have hlen := ho.len
  generalize ss.map RS.av = M at *
  generalize gs.map RG.av = N at *
  refine pure_intro (tok := 0) Tryz.func15 rfl Tryz.ntmps15 Tryz.results15 Tryz.call15 (by rfl) (by simp) ?_
  (focus (refine wkad (w_a hls w_t) (w_a cR w_t) w_t ?_; (repeat' first | exact w_t | apply w_l); all_goals intros))
  rename_i g1 g2 gb
  refine r_frz (Frz.nilBox (k := 16) 0 20 2 72 (by exact gC) rfl (by omega)) ?_
  refine r_frz (Frz.nilBox (k := 16) 1 21 3 56 (by exact gC) rfl (by omega)) ?_
  refine r_loopE (ι := Nat) (fun i e m => i ≤ ss.length ∧ e 2 = .pbox 2 g2 0 ∧ m 2 = some (.box g2 30 [.v (.slice none 0 0), .v (.slice none 0 0)] false) ∧ e 5 = .pbox 16 gb 0 ∧ e 18 = .sl 6 M ∧ e 19 = iv ss.length ∧ e 20 = iv i ∧ (∃ svC svV, m 16 = some (.box gb 105 [.own 20 svC, .own 21 svV, iv (frN ss i).fr] false) ∧ m 20 = some (.row svC 72 2 ((frN ss i).cs.map coA) 0) ∧ m 21 = some (.row svV 56 3 ((frN ss i).vs.map Vt.av) 0)) ∧ ∀ j, j < i → bigN ss j = false) (fun i => ss.length - i) 0 (by rfl) ?_ ?_
  · rintro i e m ⟨hi, e2, m2, e5, e18, e19, e20, ⟨svC, svV, m16, m20, m21⟩, hbig⟩
    by_cases hlt : i < ss.length
    · have hgi := hg i hlt
      obtain ⟨D, hD, hn⟩ := ho.fi hi hbig
      have hco := hD.co hn
      have hst := ho.st hlt
      have hfr := frN_fr ss i
      have hnv := hD.nv
      have hb := bigN_at hlt
      have hsu := frN_succ hlt
      have hn3 := nxt_vars (frN ss i) i ss[i]
      have hcl := frN_len ss i
      have hst2 := fun m' hB hV hC => cbStep m' 16 20 21 gb svC svV (frN ss i).cs (frN ss i).vs (frN ss i).fr i ss[i] hB hV hC (by omega) (by omega) (by omega) hnv (by omega) hst hco
      rw [show (FS.mk (frN ss i).cs (frN ss i).vs (frN ss i).fr) = frN ss i from rfl] at hst2
      clear hD hco hst
      generalize hs : ss[i] = s at *
      generalize hf : frN ss i = f at *
      generalize hx : f.nxt i s = nx at *
      obtain ⟨nv, c1, c2⟩ := nx
      obtain ⟨k, nm, ar, ⟨rs, rl, rd⟩⟩ := s
      obtain ⟨cs, vs, fr⟩ := f
      simp only at *
      (focus (refine wkad (w_a e2 (w_a m2 (w_a e5 (w_a e18 (w_a e19 (w_a e20 (w_a m16 (w_a m20 (w_a m21 (w_a hgi (w_a hls w_t))))))))))) w_t w_t ?_; (repeat' first | exact w_t | apply w_l); all_goals intros))
      refine o_fresh (hst2 _ (by exact gW m16) (by exact gW m21) (by exact gW m20)) ?_
      intro sv
      generalize hfr2 : (if k = 1 then fr + 1 else fr) = fr2 at *
      have hvl : ((vs ++ nv).map Vt.av).length = (vs ++ nv).length := List.length_map ..
      have hvl2 : (vs ++ nv).length ≤ 67 := by rw [List.length_append]; omega
      have hnx : ∀ j, j < i + 1 → bigN ss i = false → bigN ss j = false := fun j hj h => by
        by_cases e : j = i
        · rw [e]; exact h
        · exact hbig j (by omega)
      have hany : bigN ss i = true → (List.range ss.length).any (bigN ss) = true := fun h => List.any_eq_true.2 ⟨i, List.mem_range.2 hlt, h⟩
      generalize vs ++ nv = vs2 at *
      have hc1 : (c1.map tmA).length = c1.length := List.length_map ..
      have hc2 : (c2.map tmA).length = c2.length := List.length_map ..
      have hcsl : (cs.map coA).length = cs.length := List.length_map ..
      by_cases b1 : 64 < vs2.length
      · rw [if_pos (hany (by rw [hb]; simp [b1]))]
        (focus (refine wkld (w_a e2 (w_a m2 (w_a e5 (w_a e18 (w_a e19 (w_a e20 (w_a hvl (w_a hls w_t)))))))) w_t (w_a e2 w_t) w_t ?_; (repeat' first | exact w_t | apply w_l); all_goals intros))
      · by_cases b2 : 4000 < c1.length
        · rw [if_pos (hany (by rw [hb]; simp [b2]))]
          (focus (refine wkld (w_a e2 (w_a m2 (w_a e5 (w_a e18 (w_a e19 (w_a e20 (w_a hvl (w_a hc1 (w_a hls w_t))))))))) w_t (w_a e2 w_t) w_t ?_; (repeat' first | exact w_t | apply w_l); all_goals intros))
        · by_cases b3 : 4000 < c2.length
          · rw [if_pos (hany (by rw [hb]; simp [b3]))]
            (focus (refine wkld (w_a e2 (w_a m2 (w_a e5 (w_a e18 (w_a e19 (w_a e20 (w_a hvl (w_a hc1 (w_a hc2 (w_a hls w_t)))))))))) w_t (w_a e2 w_t) w_t ?_; (repeat' first | exact w_t | apply w_l); all_goals intros))
          · have hbf : bigN ss i = false := by rw [hb]; simp [b1, b2, b3]
            clear hany
            (repeat' (first | ((with_reducible apply gy5d); iterate 4 focus rfl) | (with_reducible first | refine stp ?_ | apply gx1 | apply gx2 | apply gx3 | apply gx4 | apply gx5 | apply gx6 | apply gx7 | apply gy8 | apply gz2 | apply gz3) | (with_reducible refine all_v ?_; intro _) | ((with_reducible refine gE ?_); (try simp (disch := omega) only [go_sem, e2, m2, e5, e18, e19, e20, m20, hvl, hc1, hc2, hcsl, hls, decide_eq_true, decide_eq_false, if_pos, if_neg, Int.reduceAdd, Int.reduceSub, Int.reduceToNat, Int.zero_add]) <;> first | rfl | omega) | with_reducible refine t_in_other (by decide) ?_ | ((with_reducible apply gy1); iterate 3 focus rfl) | ((with_reducible apply gy2); iterate 3 focus rfl) | ((with_reducible apply gy3); iterate 2 focus rfl) | ((with_reducible apply gy4); iterate 1 focus rfl) | ((with_reducible apply gy5); iterate 4 focus rfl) | ((with_reducible apply gy5c); iterate 4 focus rfl) | ((with_reducible apply gy6); iterate 4 focus rfl) | ((with_reducible apply d_bar); iterate 3 focus rfl) | ((with_reducible apply q_pub); iterate 1 focus rfl) | ((with_reducible apply gy7); iterate 1 focus rfl) | ((with_reducible apply gy9); (focus ((with_reducible refine gE ?_); (try simp (disch := omega) only [go_sem, e2, m2, e5, e18, e19, e20, m20, hvl, hc1, hc2, hcsl, hls, decide_eq_true, decide_eq_false, if_pos, if_neg, Int.reduceAdd, Int.reduceSub, Int.reduceToNat, Int.zero_add]) <;> rfl))) | ((with_reducible apply gz1); (focus first | rfl | (simp (disch := omega) only [go_sem, e2, m2, e5, e18, e19, e20, m20, hvl, hc1, hc2, hcsl, hls, decide_eq_true, decide_eq_false, if_pos, if_neg, Int.reduceAdd, Int.reduceSub, Int.reduceToNat, Int.zero_add]; done))) | ((with_reducible apply r_drawD (id := 11) (pickR []) [12, 2012, 16] [20, 60]); (focus kernel_rfl); (focus rfl); (focus kernel_rfl); (focus (simp only [List.length_cons, List.length_nil, Nat.reduceAdd]; rfl))) | ((with_reducible first | apply og_split | apply dg_split | apply cg_split); all_goals (intro hc; (try simp only [bool_to_prop] at hc); try (exfalso; omega)))))
            rename_i svC2
            refine ⟨i + 1, ⟨by omega, by exact gW e2, by exact gW m2, by exact gW e5, by exact gW e18, by exact gW e19, by exact gS, ⟨svC2, sv, ?_, ?_, ?_⟩, fun j hj => hnx j hj hbf⟩, by omega⟩
            · rw [hsu]; exact gW hfr2
            · rw [hsu, List.map_append]; exact gC
            · rw [hsu]; exact gC
    · have hin : i = ss.length := by omega
      subst hin
      have hno : ¬ (List.range ss.length).any (bigN ss) = true := by
        rw [List.any_eq_true]
        rintro ⟨j, hj, hb⟩
        rw [hbig j (List.mem_range.1 hj)] at hb
        cases hb
      rw [if_neg hno]
      generalize (frN ss ss.length).fr = fr at *
      generalize (frN ss ss.length).cs = cs at *
      generalize (frN ss ss.length).vs = vs at *
      (focus (refine wkld (w_a e2 (w_a m2 (w_a e5 (w_a e18 (w_a e19 (w_a e20 (w_a m16 (w_a m20 (w_a m21 (w_a hls w_t)))))))))) w_t (w_a e2 (w_a m2 (w_a m16 (w_a m20 (w_a m21 w_t))))) w_t ?_; (repeat' first | exact w_t | apply w_l); all_goals intros))
  · exact ⟨Nat.zero_le _, by exact gC, by exact gC, by exact gC, by exact gC, by exact gW hls, by exact gC, ⟨_, _, by (simp (disch := omega) only [go_sem, List.set_cons_zero, List.set_cons_succ, frN] <;> repeat' first | rfl | refine ⟨?_, ?_⟩), by (simp (disch := omega) only [go_sem, frN, List.map_nil] <;> repeat' first | rfl | refine ⟨?_, ?_⟩), by (simp (disch := omega) only [go_sem, frN, List.map_nil] <;> repeat' first | rfl | refine ⟨?_, ?_⟩)⟩, fun j hj => by omega⟩
end Go.Proofs.YtbgmnobnaplmlaaGreat
end

section
namespace Go.Proofs.YtbgmnobnaplmlaaGreat
open Go Go.RowKit Go.Pg Go.Pol
set_option linter.unusedSimpArgs false
set_option linter.unusedVariables false
set_option maxRecDepth 20000
attribute [-bool_to_prop] Bool.and_eq_decide Bool.or_eq_decide Bool.decide_beq_decide decide_eq_decide
abbrev cstM (q : Rat) : Po := if q = 0 then [] else [(q, [])]
theorem cst_pk (q : Rat) {k : Nat} (h : Sz q k) : PK (cstM q) k 1 := by
  unfold cstM
  split
  · exact PK.nil
  · intro t ht
    rw [List.mem_singleton] at ht
    subst ht
    exact ⟨h, Nat.zero_le _, fun j => by rw [gI_out (Nat.zero_le _)]; omega⟩
theorem cst_srt (q : Rat) : SrtM (cstM q) := by
  unfold cstM
  split
  · exact .nil
  · rename_i h
    exact Srt.nil.cons h can_nil (by simp)
theorem cst_len (q : Rat) : (cstM q).length ≤ 1 := by
  unfold cstM
  split <;> simp
theorem cst_mul (q : Rat) {d : Po} (sd : SrtM d) : mlM (cstM q) d = sclM q d := by
  unfold sclM cstM
  by_cases h : q = 0
  · rw [if_pos h, if_pos h]; exact mulR_nil d
  · rw [if_neg h, if_neg h]; exact mul_const h sd
theorem PK.take {p : Po} {k e : Nat} (h : PK p k e) (i : Nat) : PK (p.take i) k e := fun t ht => h t (List.mem_of_mem_take ht)
theorem var_mul (v : Nat) {d : Po} (sd : SrtM d) : mlM (varM v) d = mlM d (varM v) := mulR_comm ordM mulK (varM_srt v) sd
theorem var_len (v : Nat) : (varM v).length ≤ 1 := by unfold varM; split <;> simp
theorem rcMulC (q : Rat) (d : Po) (hq : Sz q 2) (hd : PK d 221 1) (sd : SrtM d) (ld : d.length ≤ 8000) : Pure Tryz.prog 72 [poA (cstM q), poA d] (poA (sclM q d)) := by
  rw [← cst_mul q sd]
  have := cst_len q
  refine rpMul (cstM q) d (cst_pk q hq) hd (cst_srt q) sd (by omega) (by omega) (by omega) (by omega) (by omega) (by omega) (K := 223) (E := 1) (fun i => ?_) (by omega) (by omega)
  rw [cst_mul q (srt_take sd i)]
  have h1 := scl_len q (d.take i)
  have h2 : (d.take i).length ≤ d.length := by rw [List.length_take]; omega
  exact ⟨((hd.take i).scl hq).mono (by omega) (by omega), by omega⟩
theorem rcMulV (v : Nat) (d : Po) (hd : PK d 221 1) (sd : SrtM d) (ld : d.length ≤ 8000) : Pure Tryz.prog 72 [poA (varM v), poA d] (poA (mlM d (varM v))) := by
  rw [← var_mul v sd]
  have := var_len v
  refine rpMul (varM v) d (varM_pk v) hd (varM_srt v) sd (by omega) (by omega) (by omega) (by omega) (by omega) (by omega) (K := 222) (E := 2) (fun i => ?_) (by omega) (by omega)
  rw [var_mul v (srt_take sd i)]
  have h1 := mulV_len (d.take i) v
  have h2 : (d.take i).length ≤ d.length := by rw [List.length_take]; omega
  exact ⟨(hd.take i).mulV.mono (by omega) (by omega), by omega⟩
/-- A point on the way between two, by a share that is a number. -/
theorem rcAlongS (a b : Po × Po) (q : Rat) (hq : Sz q 2) (a1 : Co a.1) (a2 : Co a.2) (b1 : Co b.1) (b2 : Co b.2) : Pure Tryz.prog 115 [coA a, coA b, poA (cstM q)] (coA (addM a.1 (sclM q (subM b.1 a.1)), addM a.2 (sclM q (subM b.2 a.2)))) := by
  have n1 := a1.ln
  have n2 := a2.ln
  have n3 := b1.ln
  have n4 := b2.ln
  have s1 := rpSub b.1 a.1 b1.pk a1.pk b1.st a1.st (by omega) (by omega) (by omega) (by omega) (by omega)
  have s2 := rpSub b.2 a.2 b2.pk a2.pk b2.st a2.st (by omega) (by omega) (by omega) (by omega) (by omega)
  have d1 := b1.pk.sub a1.pk
  have d2 := b2.pk.sub a2.pk
  have t1 := sub_srt ordM b1.st a1.st
  have t2 := sub_srt ordM b2.st a2.st
  have l1 := sub_len b.1 a.1
  have l2 := sub_len b.2 a.2
  have m1 := rcMulC q (subM b.1 a.1) hq d1 t1 (by omega)
  have m2 := rcMulC q (subM b.2 a.2) hq d2 t2 (by omega)
  have e1 := rpAdd a.1 (sclM q (subM b.1 a.1)) a1.pk (d1.scl hq) a1.st (scl_srt t1) (by omega) (by have := scl_len q (subM b.1 a.1); omega) (by omega) (by omega) (by omega)
  have e2 := rpAdd a.2 (sclM q (subM b.2 a.2)) a2.pk (d2.scl hq) a2.st (scl_srt t2) (by omega) (by have := scl_len q (subM b.2 a.2); omega) (by omega) (by omega) (by omega)
  exact rcAlong a b (cstM q) _ _ _ _ _ _ s1 s2 m1 m2 e1 e2
/-- The same, by a share that is a variable. -/
theorem rcAlongM (a b : Po × Po) (v : Nat) (a1 : Co a.1) (a2 : Co a.2) (b1 : Co b.1) (b2 : Co b.2) : Pure Tryz.prog 115 [coA a, coA b, poA (varM v)] (coA (addM a.1 (mlM (subM b.1 a.1) (varM v)), addM a.2 (mlM (subM b.2 a.2) (varM v)))) := by
  have n1 := a1.ln
  have n2 := a2.ln
  have n3 := b1.ln
  have n4 := b2.ln
  have s1 := rpSub b.1 a.1 b1.pk a1.pk b1.st a1.st (by omega) (by omega) (by omega) (by omega) (by omega)
  have s2 := rpSub b.2 a.2 b2.pk a2.pk b2.st a2.st (by omega) (by omega) (by omega) (by omega) (by omega)
  have d1 := b1.pk.sub a1.pk
  have d2 := b2.pk.sub a2.pk
  have t1 := sub_srt ordM b1.st a1.st
  have t2 := sub_srt ordM b2.st a2.st
  have l1 := sub_len b.1 a.1
  have l2 := sub_len b.2 a.2
  have m1 := rcMulV v (subM b.1 a.1) d1 t1 (by omega)
  have m2 := rcMulV v (subM b.2 a.2) d2 t2 (by omega)
  have e1 := rpAdd a.1 (mlM (subM b.1 a.1) (varM v)) (a1.pk.mono (Nat.le_refl 110) (show 1 ≤ 1 + 1 by omega)) d1.mulV a1.st (mulR_srt ordM mulK t1 (varM_srt v)) (by omega) (by have := mulV_len (subM b.1 a.1) v; omega) (by omega) (by omega) (by omega)
  have e2 := rpAdd a.2 (mlM (subM b.2 a.2) (varM v)) (a2.pk.mono (Nat.le_refl 110) (show 1 ≤ 1 + 1 by omega)) d2.mulV a2.st (mulR_srt ordM mulK t2 (varM_srt v)) (by omega) (by have := mulV_len (subM b.2 a.2) v; omega) (by omega) (by omega) (by omega)
  exact rcAlong a b (varM v) _ _ _ _ _ _ s1 s2 m1 m2 e1 e2
theorem rcPlusC (p q r : Po) (hp : Co p) (hq : Co q) (hr : Co r) : Pure Tryz.prog 117 [poA p, poA q, poA r] (poA (addM p (subM q r))) := by
  have n1 := hp.ln
  have n2 := hq.ln
  have n3 := hr.ln
  have l1 := sub_len q r
  have s := rpSub q r hq.pk hr.pk hq.st hr.st (by omega) (by omega) (by omega) (by omega) (by omega)
  have a := rpAdd p (subM q r) hp.pk (hq.pk.sub hr.pk) hp.st (sub_srt ordM hq.st hr.st) (by omega) (by omega) (by omega) (by omega) (by omega)
  exact rcPlus p q r _ _ s a
end Go.Proofs.YtbgmnobnaplmlaaGreat
end

section
namespace Go.Proofs.YtbgmnobnaplmlaaGreat
open Go Go.RowKit Go.Pg Go.Pol
set_option linter.unusedSimpArgs false
set_option linter.unusedVariables false
set_option maxRecDepth 20000
attribute [local go_sem] Tryz.underlying3 Tryz.underlying4 Tryz.underlying178 Tryz.underlying9 Tryz.underlying48 Tryz.underlying31 Tryz.underlying43 Tryz.underlying41 Tryz.underlying39 Tryz.underlying50 Tryz.underlying22 Tryz.underlying25 Tryz.underlying56 Tryz.underlying28 Tryz.underlying72 Tryz.underlying27 Tryz.underlying30 Tryz.underlying105 Tryz.underlying107 Tryz.underlying70 Tryz.underlying63 Tryz.underlying103 Tryz.underlying154 sz3 by3 z3 szB zB szErr zErr szStr byStr zStr szRat zRat szInt zInt szNat zNat szStep byStep zStep szFig zFig szSlI zSlI szSlS zSlS szVar byVar zVar szSlV zSlV szCoord byCoord zCoord szSlC zSlC szFrame zFrame szCBld byCBld zCBld szCVec byCVec zCVec szPoly byPoly zPoly szTerm zTerm szPtrB zPtrB szFnC zFnC
attribute [-bool_to_prop] Bool.and_eq_decide Bool.or_eq_decide Bool.decide_beq_decide decide_eq_decide
theorem Agr.at {m σ : Mem} (h : Agr m σ) {k : Nat} {e : Ent} (hk : σ k = some e) : m (k + 1000) = some e.sh := by rw [h k, hk]; rfl
def ptsN (cs : List (Po × Po)) (ar : List Int) : List (Po × Po) := ar.map fun a => cs.getD a.toNat ([], [])
theorem ptsN_len (cs : List (Po × Po)) (ar : List Int) : (ptsN cs ar).length = ar.length := by unfold ptsN; simp
theorem ptsN_get {cs : List (Po × Po)} {ar : List Int} {k : Nat} (h : k < ar.length) : (ptsN cs ar)[k]'(by rw [ptsN_len]; exact h) = cs.getD (gI ar k).toNat ([], []) := by
  unfold ptsN
  rw [List.getElem_map, gI_at h]
theorem pts_at {cs : List (Po × Po)} {ar : List Int} {k : Nat} (h : k < ar.length) : ((ptsN cs ar).map coA).getD k .u = coA (cs.getD (gI ar k).toNat ([], [])) := by
  rw [map_atB coA (by rw [ptsN_len]; exact h), ptsN_get h]
theorem ptsN_take {cs : List (Po × Po)} {ar : List Int} {k : Nat} (h : k < ar.length) : (ptsN cs ar).take (k + 1) = (ptsN cs ar).take k ++ [cs.getD (gI ar k).toNat ([], [])] := by
  rw [List.take_add_one, List.getElem?_eq_getElem (by rw [ptsN_len]; exact h), ptsN_get h]; rfl
theorem arS_le (k : Int) : arS k ≤ 4 := by
  unfold arS
  repeat' split
  all_goals omega
set_option maxHeartbeats 16000000 in
theorem rcNext (σ : Mem) (KC KV : Nat) (svC svV : Value) (cs : List (Po × Po)) (vs : List Vt) (fr i : Nat) (ss : List RS) (gs : List RG) (s : RS) (hi : i < ss.length) (hs : ss[i] = s) (hV : σ KV = some (.row svV 56 3 (vs.map Vt.av) 0)) (hC : σ KC = some (.row svC 72 2 (cs.map coA) 0)) (hVC : KV ≠ KC) (hl : vs.length ≤ 64) (hf : fr ≤ 100) (hi1 : i ≤ 1000) (hok : StOk cs s) (hco : ∀ c ∈ cs, Co c.1 ∧ Co c.2) :
    ACall Tryz.prog 53 [.agg [.own KC svC, .own KV svV], figA ss gs, iv i, iv fr] σ fun r σ' => ∃ sv, r = .tup [.agg [.own KC svC, .own KV sv], coA (FS.nxt ⟨cs, vs, fr⟩ i s).2] ∧
      σ' = upd σ KV (some (.row sv 56 3 ((vs ++ (FS.nxt ⟨cs, vs, fr⟩ i s).1).map Vt.av) 0)) := by
  have hgi : (ss.map RS.av).getD i .u = s.av := by rw [← hs]; exact map_atB RS.av hi
  have hls : (ss.map RS.av).length = ss.length := List.length_map ..
  have hcl : (cs.map coA).length = cs.length := List.length_map ..
  show ACall _ _ [.agg [.own KC svC, .own KV svV], .agg [.sl 6 (ss.map RS.av), .sl 5 (gs.map RG.av)], iv i, iv fr] _ _
  generalize ss.map RS.av = M at *
  generalize gs.map RG.av = N at *
  clear hs
  obtain ⟨k0, nm, ar, ⟨rs, rl, rd⟩⟩ := s
  have hll : (ar.map iv).length = ar.length := List.length_map ..
  refine acall_lents Tryz.func53 rfl Tryz.ntmps53 Tryz.results53 Tryz.call53 (by rfl) (by simp) ?_
  (focus (refine wkad (w_a hgi (w_a hls (w_a hll w_t))) w_t w_t ?_; (repeat' first | exact w_t | apply w_l); all_goals intros))
  rename_i g4 g5 g8 g9 g10
  refine r_frz (Frz.nilOwn (d := 11) 37 2 72 (by exact gC)) ?_
  refine r_loopE (ι := Nat) (fun k e m => k ≤ ar.length ∧ e 2 = iv i ∧ e 3 = iv fr ∧ e 4 = .pbox 4 g4 0 ∧ m 4 = some (.box g4 30 [.own (KC + 1000) svC, .own (KV + 1000) svV] false) ∧ e 8 = .pbox 8 g8 0 ∧ m 8 = some (.box g8 30 [.v (.slice none 0 0), .v (.slice none 0 0)] false) ∧ e 9 = .pbox 9 g9 0 ∧ m 9 = some (.box g9 72 [.v (.slice none 0 0), .v (.slice none 0 0)] false) ∧ e 10 = .pbox 10 g10 0 ∧ m 10 = some (.box g10 50 [iv k0, strA nm, ivs ar, .v (.bool rs), lim rl, lim rd] false) ∧ e 24 = ivs ar ∧ e 25 = iv ar.length ∧ e 26 = iv k ∧ (∃ sv, e 11 = .own 37 sv ∧ m 37 = some (.row sv 72 2 (((ptsN cs ar).take k).map coA) 0)) ∧ Agr m σ) (fun k => ar.length - k) 0 (by rfl) ?_ ?_
  · rintro k e m ⟨hk, hA2, hA3, e4, m4, e8, m8, e9, m9, e10, m10, e24, e25, e26, ⟨sv, e11, m37⟩, hAg⟩
    have mV := Agr.at hAg hV
    have mC := Agr.at hAg hC
    simp only [Ent.sh, AV.shL, AV.sh] at mV mC
    by_cases hlt : k < ar.length
    · have h0 := hok.ai k hlt
      simp only at h0
      have hga : (ar.map iv).getD k .u = iv (gI ar k) := by rw [map_atB iv hlt, gI_at hlt]
      have hgc : (cs.map coA).getD (gI ar k).toNat .u = coA (cs.getD (gI ar k).toNat ([], [])) := getD_mapA (by omega)
      have htk := ptsN_take (cs := cs) hlt
      have har4 : ar.length ≤ 4 := by
        have h1 : (ar.length : Int) = arS k0 := hok.al
        have h2 := arS_le k0
        omega
      have hL : ((ptsN cs ar).take k).length ≤ 4 := by
        have h1 : (ar.length : Int) = arS k0 := hok.al
        have h2 := arS_le k0
        rw [List.length_take]
        omega
      generalize (ptsN cs ar).take k = L at *
      generalize cs.getD (gI ar k).toNat ([], []) = c at *
      generalize gI ar k = a at *
      obtain ⟨c1, c2⟩ := c
      (focus (refine wkad (w_a hA2 (w_a hA3 (w_a e4 (w_a m4 (w_a e8 (w_a m8 (w_a e9 (w_a m9 (w_a e10 (w_a m10 (w_a e11 (w_a e24 (w_a e25 (w_a e26 (w_a m37 (w_a mV (w_a mC (w_a hll (w_a hcl (w_a hga (w_a hgc w_t))))))))))))))))))))) w_t w_t ?_; (repeat' first | exact w_t | apply w_l); all_goals intros))
      rename_i sv2
      refine ⟨k + 1, ⟨by omega, by (simp (disch := omega) only [go_sem, hA2] <;> repeat' first | rfl | refine ⟨?_, ?_⟩), by (simp (disch := omega) only [go_sem, hA3] <;> repeat' first | rfl | refine ⟨?_, ?_⟩), by exact gW e4, by exact gW m4, by exact gW e8, by exact gW m8, by exact gW e9, by exact gW m9, by exact gW e10, by exact gW m10, by exact gW e24, by exact gW e25, by exact gS, ⟨_, by exact gC, by (rw [htk, List.map_append]; exact gC)⟩, ?_⟩, by omega⟩
      (repeat' (first | exact hAg | (refine Agr.own ?_ (by omega))))
    · have hkk : k = ar.length := by omega
      subst hkk
      rw [show (ptsN cs ar).take ar.length = ptsN cs ar from List.take_of_length_le (by rw [ptsN_len]; exact Nat.le_refl _)] at m37
      have hlp : ((ptsN cs ar).map coA).length = ar.length := by rw [List.length_map, ptsN_len]
      by_cases k1 : k0 = 1
      · subst k1
        have en : FS.nxt ⟨cs, vs, fr⟩ i ⟨1, nm, ar, ⟨rs, rl, rd⟩⟩ = (if fr = 0 then [] else if fr = 1 then [(1, (i : Int), 0)] else [(1, (i : Int), 0), (1, (i : Int), 1)], if fr = 0 then ([], []) else if fr = 1 then (varM vs.length, []) else (varM vs.length, varM (vs.length + 1))) := by
          unfold FS.nxt
          simp only [if_true]
          by_cases f0 : fr = 0
          · simp only [if_pos f0]
          · by_cases f1 : fr = 1
            · simp only [if_neg f0, if_pos f1]
            · simp only [if_neg f0, if_neg f1]
        rw [en]
        have cF := rcFree m (KC + 1000) (KV + 1000) svC svV vs i fr mV (by omega) (by omega)
        generalize (if fr = 0 then (([], []) : Po × Po) else if fr = 1 then (varM vs.length, []) else (varM vs.length, varM (vs.length + 1))) = x at *
        generalize (if fr = 0 then ([] : List Vt) else if fr = 1 then [(1, (i : Int), 0)] else [(1, (i : Int), 0), (1, (i : Int), 1)]) = nv at *
        obtain ⟨x1, x2⟩ := x
        (focus (refine wkad (w_a hA2 (w_a hA3 (w_a e4 (w_a m4 (w_a e8 (w_a m8 (w_a e9 (w_a m9 (w_a e10 (w_a m10 (w_a e11 (w_a e24 (w_a e25 (w_a e26 (w_a m37 (w_a mV (w_a mC (w_a hll (w_a hlp (w_a @lents_lt (w_a @lents_beq w_t))))))))))))))))))))) w_t w_t ?_; (repeat' first | exact w_t | apply w_l); all_goals intros))
        refine o_fresh cF ?_
        intro sv1
        (focus (refine wkad (w_a hA2 (w_a hA3 (w_a e4 (w_a m4 (w_a e8 (w_a m8 (w_a e9 (w_a m9 (w_a e10 (w_a m10 (w_a e11 (w_a e24 (w_a e25 (w_a e26 (w_a m37 (w_a mV (w_a mC (w_a hll (w_a hlp (w_a @lents_lt (w_a @lents_beq w_t))))))))))))))))))))) w_t w_t ?_; (repeat' first | exact w_t | apply w_l); all_goals intros))
        simp (disch := omega) only [go_sem, e8, e9]
        refine backS (Sub.tup2 (Sub.frame _ _ _ _ _ _) (Sub.refl _)) ⟨sv1, rfl, rfl⟩ ?_
        (repeat (refine Agr.own ?_ (by omega)))
        refine Agr.put ?_ rfl rfl
        (repeat' (first | exact hAg | (refine Agr.own ?_ (by omega))))
      · by_cases k2 : k0 = 2
        · subst k2
          have hal2 : ar.length = 2 := by have h1 : (ar.length : Int) = arS 2 := hok.al; have h2 : arS 2 = 2 := rfl; omega
          have h0 : 0 ≤ gI ar 0 ∧ gI ar 0 < (cs.length : Int) := hok.ai 0 (show 0 < ar.length by omega)
          obtain ⟨a1, a2⟩ : Co (cs.getD (gI ar 0).toNat ([], [])).1 ∧ Co (cs.getD (gI ar 0).toNat ([], [])).2 := hco _ (getD_mem (by omega))
          have p0 : ((ptsN cs ar).map coA).getD 0 .u = coA (cs.getD (gI ar 0).toNat ([], [])) := pts_at (by omega)
          generalize ha : cs.getD (gI ar 0).toNat ([], []) = a at *
          have h1 : 0 ≤ gI ar 1 ∧ gI ar 1 < (cs.length : Int) := hok.ai 1 (show 1 < ar.length by omega)
          obtain ⟨b1, b2⟩ : Co (cs.getD (gI ar 1).toNat ([], [])).1 ∧ Co (cs.getD (gI ar 1).toNat ([], [])).2 := hco _ (getD_mem (by omega))
          have p1 : ((ptsN cs ar).map coA).getD 1 .u = coA (cs.getD (gI ar 1).toNat ([], [])) := pts_at (by omega)
          generalize hb : cs.getD (gI ar 1).toNat ([], []) = b at *
          have ro := hok.r2 rfl
          have zr := (RQ.ok_av hok.rl ro).2
          have re := RQ.ok_eq hok.rl ro
          have en : FS.nxt ⟨cs, vs, fr⟩ i ⟨2, nm, ar, ⟨rs, rl, rd⟩⟩ = ([], (addM a.1 (sclM (RQ.q ⟨rs, rl, rd⟩) (subM b.1 a.1)), addM a.2 (sclM (RQ.q ⟨rs, rl, rd⟩) (subM b.2 a.2)))) := by
            rw [← ha, ← hb]; rfl
          rw [en]
          simp only at zr re
          generalize hq : RQ.q ⟨rs, rl, rd⟩ = q at *
          simp only [RQ.mk.injEq] at re
          obtain ⟨rfl, rfl, rfl⟩ := re
          have al := rcAlongS a b q zr a1 a2 b1 b2
          have cc := rpConst q zr (by omega)
          generalize addM a.1 (sclM q (subM b.1 a.1)) = x1 at *
          generalize addM a.2 (sclM q (subM b.2 a.2)) = x2 at *
          clear a1 a2 b1 b2 ha hb hok hco en
          obtain ⟨aa, ab⟩ := a
          obtain ⟨ba, bb⟩ := b
          (focus (refine wkad (w_a hA2 (w_a hA3 (w_a e4 (w_a m4 (w_a e8 (w_a m8 (w_a e9 (w_a m9 (w_a e10 (w_a m10 (w_a e11 (w_a e24 (w_a e25 (w_a e26 (w_a m37 (w_a mV (w_a mC (w_a hll (w_a hlp (w_a @lents_lt (w_a @lents_beq (w_a hal2 (w_a p0 (w_a p1 w_t)))))))))))))))))))))))) (w_a cc (w_a al w_t)) (w_a (w_d 12 [(9, poA (cstM q)), (10, coA (x1, x2))] [] [8, 9]) w_t) ?_; (repeat' first | exact w_t | apply w_l); all_goals intros))
          simp (disch := omega) only [go_sem, e8, e9]
          refine backS (Sub.tup2 (Sub.frame _ _ _ _ _ _) (Sub.refl _)) ⟨svV, rfl, rfl⟩ ?_
          simp only [List.append_nil, upd_same' hV]
          (repeat' (first | exact hAg | (refine Agr.own ?_ (by omega))))
        · by_cases k3 : k0 = 3
          · subst k3
            have hal2 : ar.length = 3 := by have h1 : (ar.length : Int) = arS 3 := hok.al; have h2 : arS 3 = 3 := rfl; omega
            have h0 : 0 ≤ gI ar 0 ∧ gI ar 0 < (cs.length : Int) := hok.ai 0 (show 0 < ar.length by omega)
            obtain ⟨a1, a2⟩ : Co (cs.getD (gI ar 0).toNat ([], [])).1 ∧ Co (cs.getD (gI ar 0).toNat ([], [])).2 := hco _ (getD_mem (by omega))
            have p0 : ((ptsN cs ar).map coA).getD 0 .u = coA (cs.getD (gI ar 0).toNat ([], [])) := pts_at (by omega)
            generalize ha : cs.getD (gI ar 0).toNat ([], []) = a at *
            have h1 : 0 ≤ gI ar 1 ∧ gI ar 1 < (cs.length : Int) := hok.ai 1 (show 1 < ar.length by omega)
            obtain ⟨b1, b2⟩ : Co (cs.getD (gI ar 1).toNat ([], [])).1 ∧ Co (cs.getD (gI ar 1).toNat ([], [])).2 := hco _ (getD_mem (by omega))
            have p1 : ((ptsN cs ar).map coA).getD 1 .u = coA (cs.getD (gI ar 1).toNat ([], [])) := pts_at (by omega)
            generalize hb : cs.getD (gI ar 1).toNat ([], []) = b at *
            have h2 : 0 ≤ gI ar 2 ∧ gI ar 2 < (cs.length : Int) := hok.ai 2 (show 2 < ar.length by omega)
            obtain ⟨c1, c2⟩ : Co (cs.getD (gI ar 2).toNat ([], [])).1 ∧ Co (cs.getD (gI ar 2).toNat ([], [])).2 := hco _ (getD_mem (by omega))
            have p2 : ((ptsN cs ar).map coA).getD 2 .u = coA (cs.getD (gI ar 2).toNat ([], [])) := pts_at (by omega)
            generalize hc : cs.getD (gI ar 2).toNat ([], []) = c at *
            have en : FS.nxt ⟨cs, vs, fr⟩ i ⟨3, nm, ar, ⟨rs, rl, rd⟩⟩ = ([], (addM a.1 (subM c.1 b.1), addM a.2 (subM c.2 b.2))) := by
              rw [← ha, ← hb, ← hc]; rfl
            rw [en]
            have q1 := rcPlusC a.1 c.1 b.1 a1 c1 b1
            have q2 := rcPlusC a.2 c.2 b.2 a2 c2 b2
            generalize addM a.1 (subM c.1 b.1) = x1 at *
            generalize addM a.2 (subM c.2 b.2) = x2 at *
            clear a1 a2 b1 b2 c1 c2 ha hb hc hok hco en
            obtain ⟨aa, ab⟩ := a
            obtain ⟨ba, bb⟩ := b
            obtain ⟨ca, cb⟩ := c
            (focus (refine wkad (w_a hA2 (w_a hA3 (w_a e4 (w_a m4 (w_a e8 (w_a m8 (w_a e9 (w_a m9 (w_a e10 (w_a m10 (w_a e11 (w_a e24 (w_a e25 (w_a e26 (w_a m37 (w_a mV (w_a mC (w_a hll (w_a hlp (w_a @lents_lt (w_a @lents_beq (w_a hal2 (w_a p0 (w_a p1 (w_a p2 w_t))))))))))))))))))))))))) (w_a q1 (w_a q2 w_t)) (w_a (w_d 14 [(13, poA x1), (26, poA x2)] [] [8, 9]) w_t) ?_; (repeat' first | exact w_t | apply w_l); all_goals intros))
            simp (disch := omega) only [go_sem, e8, e9]
            refine backS (Sub.tup2 (Sub.frame _ _ _ _ _ _) (Sub.refl _)) ⟨svV, rfl, rfl⟩ ?_
            simp only [List.append_nil, upd_same' hV]
            (repeat' (first | exact hAg | (refine Agr.own ?_ (by omega))))
          · by_cases k4 : k0 = 4
            · subst k4
              have hal2 : ar.length = 3 := by have h1 : (ar.length : Int) = arS 4 := hok.al; have h2 : arS 4 = 3 := rfl; omega
              have h0 : 0 ≤ gI ar 0 ∧ gI ar 0 < (cs.length : Int) := hok.ai 0 (show 0 < ar.length by omega)
              obtain ⟨a1, a2⟩ : Co (cs.getD (gI ar 0).toNat ([], [])).1 ∧ Co (cs.getD (gI ar 0).toNat ([], [])).2 := hco _ (getD_mem (by omega))
              have p0 : ((ptsN cs ar).map coA).getD 0 .u = coA (cs.getD (gI ar 0).toNat ([], [])) := pts_at (by omega)
              generalize ha : cs.getD (gI ar 0).toNat ([], []) = a at *
              have h1 : 0 ≤ gI ar 1 ∧ gI ar 1 < (cs.length : Int) := hok.ai 1 (show 1 < ar.length by omega)
              obtain ⟨b1, b2⟩ : Co (cs.getD (gI ar 1).toNat ([], [])).1 ∧ Co (cs.getD (gI ar 1).toNat ([], [])).2 := hco _ (getD_mem (by omega))
              have p1 : ((ptsN cs ar).map coA).getD 1 .u = coA (cs.getD (gI ar 1).toNat ([], [])) := pts_at (by omega)
              generalize hb : cs.getD (gI ar 1).toNat ([], []) = b at *
              have h2 : 0 ≤ gI ar 2 ∧ gI ar 2 < (cs.length : Int) := hok.ai 2 (show 2 < ar.length by omega)
              obtain ⟨c1, c2⟩ : Co (cs.getD (gI ar 2).toNat ([], [])).1 ∧ Co (cs.getD (gI ar 2).toNat ([], [])).2 := hco _ (getD_mem (by omega))
              have p2 : ((ptsN cs ar).map coA).getD 2 .u = coA (cs.getD (gI ar 2).toNat ([], [])) := pts_at (by omega)
              generalize hc : cs.getD (gI ar 2).toNat ([], []) = c at *
              have en : FS.nxt ⟨cs, vs, fr⟩ i ⟨4, nm, ar, ⟨rs, rl, rd⟩⟩ = ([], (addM a.1 (subM b.2 c.2), addM a.2 (subM c.1 b.1))) := by
                rw [← ha, ← hb, ← hc]; rfl
              rw [en]
              have q1 := rcPlusC a.1 b.2 c.2 a1 b2 c2
              have q2 := rcPlusC a.2 c.1 b.1 a2 c1 b1
              generalize addM a.1 (subM b.2 c.2) = x1 at *
              generalize addM a.2 (subM c.1 b.1) = x2 at *
              clear a1 a2 b1 b2 c1 c2 ha hb hc hok hco en
              obtain ⟨aa, ab⟩ := a
              obtain ⟨ba, bb⟩ := b
              obtain ⟨ca, cb⟩ := c
              (focus (refine wkad (w_a hA2 (w_a hA3 (w_a e4 (w_a m4 (w_a e8 (w_a m8 (w_a e9 (w_a m9 (w_a e10 (w_a m10 (w_a e11 (w_a e24 (w_a e25 (w_a e26 (w_a m37 (w_a mV (w_a mC (w_a hll (w_a hlp (w_a @lents_lt (w_a @lents_beq (w_a hal2 (w_a p0 (w_a p1 (w_a p2 w_t))))))))))))))))))))))))) (w_a q1 (w_a q2 w_t)) (w_a (w_d 16 [(13, poA x1), (26, poA x2)] [] [8, 9]) w_t) ?_; (repeat' first | exact w_t | apply w_l); all_goals intros))
              simp (disch := omega) only [go_sem, e8, e9]
              refine backS (Sub.tup2 (Sub.frame _ _ _ _ _ _) (Sub.refl _)) ⟨svV, rfl, rfl⟩ ?_
              simp only [List.append_nil, upd_same' hV]
              (repeat' (first | exact hAg | (refine Agr.own ?_ (by omega))))
            · by_cases k5 : k0 = 5
              · subst k5
                have hal2 : ar.length = 2 := by have h1 : (ar.length : Int) = arS 5 := hok.al; have h2 : arS 5 = 2 := rfl; omega
                have h0 : 0 ≤ gI ar 0 ∧ gI ar 0 < (cs.length : Int) := hok.ai 0 (show 0 < ar.length by omega)
                obtain ⟨a1, a2⟩ : Co (cs.getD (gI ar 0).toNat ([], [])).1 ∧ Co (cs.getD (gI ar 0).toNat ([], [])).2 := hco _ (getD_mem (by omega))
                have p0 : ((ptsN cs ar).map coA).getD 0 .u = coA (cs.getD (gI ar 0).toNat ([], [])) := pts_at (by omega)
                generalize ha : cs.getD (gI ar 0).toNat ([], []) = a at *
                have h1 : 0 ≤ gI ar 1 ∧ gI ar 1 < (cs.length : Int) := hok.ai 1 (show 1 < ar.length by omega)
                obtain ⟨b1, b2⟩ : Co (cs.getD (gI ar 1).toNat ([], [])).1 ∧ Co (cs.getD (gI ar 1).toNat ([], [])).2 := hco _ (getD_mem (by omega))
                have p1 : ((ptsN cs ar).map coA).getD 1 .u = coA (cs.getD (gI ar 1).toNat ([], [])) := pts_at (by omega)
                generalize hb : cs.getD (gI ar 1).toNat ([], []) = b at *
                have en : FS.nxt ⟨cs, vs, fr⟩ i ⟨5, nm, ar, ⟨rs, rl, rd⟩⟩ = ([(1, (i : Int), 0)], (addM a.1 (mlM (subM b.1 a.1) (varM vs.length)), addM a.2 (mlM (subM b.2 a.2) (varM vs.length)))) := by
                  rw [← ha, ← hb]; rfl
                rw [en]
                have al := rcAlongM a b vs.length a1 a2 b1 b2
                have cP := rcParam m (KC + 1000) (KV + 1000) svC svV vs 1 (i : Int) 0 mV (by omega)
                generalize addM a.1 (mlM (subM b.1 a.1) (varM vs.length)) = x1 at *
                generalize addM a.2 (mlM (subM b.2 a.2) (varM vs.length)) = x2 at *
                clear a1 a2 b1 b2 ha hb hok hco en
                obtain ⟨aa, ab⟩ := a
                obtain ⟨ba, bb⟩ := b
                generalize varM vs.length = vv at *
                (focus (refine wkad (w_a hA2 (w_a hA3 (w_a e4 (w_a m4 (w_a e8 (w_a m8 (w_a e9 (w_a m9 (w_a e10 (w_a m10 (w_a e11 (w_a e24 (w_a e25 (w_a e26 (w_a m37 (w_a mV (w_a mC (w_a hll (w_a hlp (w_a @lents_lt (w_a @lents_beq (w_a hal2 w_t)))))))))))))))))))))) w_t w_t ?_; (repeat' first | exact w_t | apply w_l); all_goals intros))
                refine o_fresh cP ?_
                intro sv1
                (focus (refine wkad (w_a hA2 (w_a hA3 (w_a e4 (w_a m4 (w_a e8 (w_a m8 (w_a e9 (w_a m9 (w_a e10 (w_a m10 (w_a e11 (w_a e24 (w_a e25 (w_a e26 (w_a m37 (w_a mV (w_a mC (w_a hll (w_a hlp (w_a @lents_lt (w_a @lents_beq (w_a hal2 (w_a p0 (w_a p1 w_t)))))))))))))))))))))))) (w_a al w_t) (w_a (w_d 19 [(8, coA (x1, x2))] [] [8, 9]) w_t) ?_; (repeat' first | exact w_t | apply w_l); all_goals intros))
                simp (disch := omega) only [go_sem, e8, e9]
                refine backS (Sub.tup2 (Sub.frame _ _ _ _ _ _) (Sub.refl _)) ⟨sv1, rfl, rfl⟩ ?_
                (repeat (refine Agr.own ?_ (by omega)))
                refine Agr.put ?_ rfl rfl
                (repeat' (first | exact hAg | (refine Agr.own ?_ (by omega))))
              · by_cases k6 : k0 = 6
                · subst k6
                  have en : FS.nxt ⟨cs, vs, fr⟩ i ⟨6, nm, ar, ⟨rs, rl, rd⟩⟩ = ([(1, (i : Int), 0), (2, (i : Int), 1), (2, (i : Int), 2)], (varM (vs.length + 1), varM (vs.length + 2))) := rfl
                  rw [en]
                  have hl1 : (vs ++ [((1 : Int), (i : Int), (0 : Int))]).length = vs.length + 1 := by simp
                  have cP := rcParam m (KC + 1000) (KV + 1000) svC svV vs 1 (i : Int) 0 mV (by omega)
                  (focus (refine wkad (w_a hA2 (w_a hA3 (w_a e4 (w_a m4 (w_a e8 (w_a m8 (w_a e9 (w_a m9 (w_a e10 (w_a m10 (w_a e11 (w_a e24 (w_a e25 (w_a e26 (w_a m37 (w_a mV (w_a mC (w_a hll (w_a hlp (w_a @lents_lt (w_a @lents_beq w_t))))))))))))))))))))) w_t w_t ?_; (repeat' first | exact w_t | apply w_l); all_goals intros))
                  refine o_fresh cP ?_
                  intro sv1
                  (focus (refine wkad (w_a hA2 (w_a hA3 (w_a e4 (w_a m4 (w_a e8 (w_a m8 (w_a e9 (w_a m9 (w_a e10 (w_a m10 (w_a e11 (w_a e24 (w_a e25 (w_a e26 (w_a m37 (w_a mV (w_a mC (w_a hll (w_a hlp (w_a @lents_lt (w_a @lents_beq w_t))))))))))))))))))))) w_t w_t ?_; (repeat' first | exact w_t | apply w_l); all_goals intros))
                  refine o_fresh (rcDep _ (KC + 1000) (KV + 1000) svC sv1 (vs ++ [(1, (i : Int), 0)]) i 1 (by (simp (disch := omega) only [go_sem, mV, if_neg, if_pos, List.map_append, List.map_cons, List.map_nil] <;> repeat' first | rfl | refine ⟨?_, ?_⟩)) (by first | omega | (simp; omega)) (by omega)) ?_
                  intro sv2
                  (focus (refine wkad (w_a hA2 (w_a hA3 (w_a e4 (w_a m4 (w_a e8 (w_a m8 (w_a e9 (w_a m9 (w_a e10 (w_a m10 (w_a e11 (w_a e24 (w_a e25 (w_a e26 (w_a m37 (w_a mV (w_a mC (w_a hll (w_a hlp (w_a @lents_lt (w_a @lents_beq (w_a hl1 w_t)))))))))))))))))))))) w_t w_t ?_; (repeat' first | exact w_t | apply w_l); all_goals intros))
                  simp (disch := omega) only [go_sem, hl1, e8, e9]
                  refine backS (Sub.tup2 (Sub.frame _ _ _ _ _ _) (Sub.refl _)) ⟨sv2, rfl, rfl⟩ ?_
                  simp only [List.append_assoc, List.cons_append, List.nil_append]
                  (repeat (refine Agr.own ?_ (by omega)))
                  refine Agr.re (e1 := .row sv1 56 3 ((vs ++ [(1, (i : Int), 0)]).map Vt.av) 0) ?_ rfl rfl
                  (repeat (refine Agr.own ?_ (by omega)))
                  refine Agr.put ?_ rfl rfl
                  (repeat' (first | exact hAg | (refine Agr.own ?_ (by omega))))
                · have en : FS.nxt ⟨cs, vs, fr⟩ i ⟨k0, nm, ar, ⟨rs, rl, rd⟩⟩ = ([(2, (i : Int), 0), (2, (i : Int), 1)], (varM vs.length, varM (vs.length + 1))) := by
                    unfold FS.nxt
                    simp only [if_neg k1, if_neg k2, if_neg k3, if_neg k4, if_neg k5, if_neg k6]
                  rw [en]
                  have cD := rcDep m (KC + 1000) (KV + 1000) svC svV vs i 0 mV (by omega) (by omega)
                  (focus (refine wkad (w_a hA2 (w_a hA3 (w_a e4 (w_a m4 (w_a e8 (w_a m8 (w_a e9 (w_a m9 (w_a e10 (w_a m10 (w_a e11 (w_a e24 (w_a e25 (w_a e26 (w_a m37 (w_a mV (w_a mC (w_a hll (w_a hlp (w_a @lents_lt (w_a @lents_beq w_t))))))))))))))))))))) w_t w_t ?_; (repeat' first | exact w_t | apply w_l); all_goals intros))
                  refine o_fresh cD ?_
                  intro sv1
                  (focus (refine wkad (w_a hA2 (w_a hA3 (w_a e4 (w_a m4 (w_a e8 (w_a m8 (w_a e9 (w_a m9 (w_a e10 (w_a m10 (w_a e11 (w_a e24 (w_a e25 (w_a e26 (w_a m37 (w_a mV (w_a mC (w_a hll (w_a hlp (w_a @lents_lt (w_a @lents_beq w_t))))))))))))))))))))) w_t w_t ?_; (repeat' first | exact w_t | apply w_l); all_goals intros))
                  simp (disch := omega) only [go_sem, e8, e9]
                  refine backS (Sub.tup2 (Sub.frame _ _ _ _ _ _) (Sub.refl _)) ⟨sv1, rfl, rfl⟩ ?_
                  (repeat (refine Agr.own ?_ (by omega)))
                  refine Agr.put ?_ rfl rfl
                  (repeat' (first | exact hAg | (refine Agr.own ?_ (by omega))))
  · refine ⟨Nat.zero_le _, by exact gC, by exact gC, by exact gC, by exact gC, by exact gC, by exact gC, by exact gC, by exact gC, by exact gC, by exact gC, by exact gC, by exact gW hll, by exact gC, ⟨_, by exact gC, by (simp (disch := omega) only [go_sem, List.take_zero, List.map_nil] <;> repeat' first | rfl | refine ⟨?_, ?_⟩)⟩, ?_⟩
    (repeat' (first | exact Agr.start _ | (refine Agr.own ?_ (by omega))))
end Go.Proofs.YtbgmnobnaplmlaaGreat
end

section
namespace Go.Proofs.YtbgmnobnaplmlaaGreat
open Go Go.RowKit Go.Pg Go.Pol
set_option linter.unusedSimpArgs false
set_option linter.unusedVariables false
set_option maxRecDepth 20000
attribute [local go_sem] Tryz.underlying3 Tryz.underlying4 Tryz.underlying178 Tryz.underlying9 Tryz.underlying48 Tryz.underlying31 Tryz.underlying43 Tryz.underlying41 Tryz.underlying39 Tryz.underlying50 Tryz.underlying22 Tryz.underlying25 Tryz.underlying56 Tryz.underlying28 Tryz.underlying72 Tryz.underlying27 Tryz.underlying30 Tryz.underlying105 Tryz.underlying107 Tryz.underlying70 Tryz.underlying63 Tryz.underlying103 Tryz.underlying154 sz3 by3 z3 szB zB szErr zErr szStr byStr zStr szRat zRat szInt zInt szNat zNat szStep byStep zStep szFig zFig szSlI zSlI szSlS zSlS szVar byVar zVar szSlV zSlV szCoord byCoord zCoord szSlC zSlC szFrame zFrame szCBld byCBld zCBld szCVec byCVec zCVec szPoly byPoly zPoly szTerm zTerm szPtrB zPtrB szFnC zFnC
attribute [-bool_to_prop] Bool.and_eq_decide Bool.or_eq_decide Bool.decide_beq_decide decide_eq_decide
set_option maxHeartbeats 8000000 in
theorem rcFrame0 (ss : List RS) (gs : List RG) (cR : Pure Tryz.prog 24 [figA ss gs] (iv (figE ss gs))) (h : figE ss gs ≠ 0) : Pure Tryz.prog 16 [figA ss gs] (.tup [frmA [] [], iv (figE ss gs)]) := by
  refine pure_vkR (r := .tup [.agg [.v (.slice none 0 0), .v (.slice none 0 0)], iv (figE ss gs)]) ?_ (Vk.tupL (.cons (Vk.aggL (.cons (.nil 2) (.cons (.nil 3) .nil))) (.cons (.refl _) .nil)))
  have cR : Pure Tryz.prog 24 [.agg [.sl 6 (ss.map RS.av), .sl 5 (gs.map RG.av)]] (iv (figE ss gs)) := cR
  show Pure _ _ [.agg [.sl 6 (ss.map RS.av), .sl 5 (gs.map RG.av)]] _
  generalize figE ss gs = z at *
  generalize ss.map RS.av = M at *
  generalize gs.map RG.av = N at *
  refine pure_intro (tok := 0) Tryz.func16 rfl Tryz.ntmps16 Tryz.results16 Tryz.call16 (by rfl) (by simp) ?_
  (focus (refine wklp w_t (w_a cR w_t) w_t (w_r 0) ?_; (repeat' first | exact w_t | apply w_l); all_goals intros))
set_option maxHeartbeats 16000000 in
theorem rcFrame1 (ss : List RS) (gs : List RG) (cR : Pure Tryz.prog 24 [figA ss gs] (iv 0)) (ho : FigOk ss) :
    Pure Tryz.prog 16 [figA ss gs] (if (List.range ss.length).any (bigN ss) = true then .tup [.agg [.v (.slice none 0 0), .v (.slice none 0 0)], iv 4] else .tup [frmA (frN ss ss.length).cs (frN ss ss.length).vs, iv 0]) := by
  have cR : Pure Tryz.prog 24 [.agg [.sl 6 (ss.map RS.av), .sl 5 (gs.map RG.av)]] (iv 0) := cR
  show Pure _ _ [.agg [.sl 6 (ss.map RS.av), .sl 5 (gs.map RG.av)]] _
  have hg : ∀ i (h : i < ss.length), (ss.map RS.av).getD i .u = ss[i].av := fun i h => map_atB RS.av h
  have hls : (ss.map RS.av).length = ss.length := List.length_map ..
  have hlen := ho.len
  have hN : ∀ (i : Nat) (hlt : i < ss.length) (svC svV : Value) (m' : Mem), m' 21 = some (.row svV 56 3 ((frN ss i).vs.map Vt.av) 0) → m' 20 = some (.row svC 72 2 ((frN ss i).cs.map coA) 0) → (frN ss i).vs.length ≤ 64 → StOk (frN ss i).cs ss[i] → (∀ c ∈ (frN ss i).cs, Co c.1 ∧ Co c.2) →
      ACall Tryz.prog 53 [.agg [.own 20 svC, .own 21 svV], .agg [.sl 6 (ss.map RS.av), .sl 5 (gs.map RG.av)], iv i, iv (frN ss i).fr] m' fun r σ' => ∃ sv, r = .tup [.agg [.own 20 svC, .own 21 sv], coA ((frN ss i).nxt i ss[i]).2] ∧ σ' = upd m' 21 (some (.row sv 56 3 (((frN ss i).vs ++ ((frN ss i).nxt i ss[i]).1).map Vt.av) 0)) :=
    fun i hlt svC svV m' hV hC h1 h2 h3 => rcNext m' 20 21 svC svV (frN ss i).cs (frN ss i).vs (frN ss i).fr i ss gs ss[i] hlt rfl hV hC (by omega) h1 (by have := frN_fr ss i; omega) (by omega) h2 h3
  generalize ss.map RS.av = M at *
  generalize gs.map RG.av = N at *
  refine pure_intro (tok := 0) Tryz.func16 rfl Tryz.ntmps16 Tryz.results16 Tryz.call16 (by rfl) (by simp) ?_
  (focus (refine wkap (w_a hls w_t) (w_a cR w_t) (w_r 0) ?_; (repeat' first | exact w_t | apply w_l); all_goals intros))
  rename_i g1 g2 g5
  refine r_frz (Frz.nilBox (k := 5) 0 20 2 72 (by exact gC) rfl (by omega)) ?_
  refine r_frz (Frz.nilBox (k := 5) 1 21 3 56 (by exact gC) rfl (by omega)) ?_
  refine r_loopE (ι := Nat) (fun i e m => i ≤ ss.length ∧ e 1 = .pbox 1 g1 0 ∧ m 1 = some (.box g1 25 [.sl 6 M, .sl 5 N] false) ∧ e 2 = .pbox 2 g2 0 ∧ m 2 = some (.box g2 30 [.v (.slice none 0 0), .v (.slice none 0 0)] false) ∧ e 5 = .pbox 5 g5 0 ∧ e 6 = iv (frN ss i).fr ∧ e 18 = .sl 6 M ∧ e 19 = iv ss.length ∧ e 20 = iv i ∧ (∃ svC svV, m 5 = some (.box g5 30 [.own 20 svC, .own 21 svV] false) ∧ m 20 = some (.row svC 72 2 ((frN ss i).cs.map coA) 0) ∧ m 21 = some (.row svV 56 3 ((frN ss i).vs.map Vt.av) 0)) ∧ ∀ j, j < i → bigN ss j = false) (fun i => ss.length - i) 0 (by rfl) ?_ ?_
  · rintro i e m ⟨hi, e1, m1, e2, m2, e5, e6, e18, e19, e20, ⟨svC, svV, m5, m20, m21⟩, hbig⟩
    by_cases hlt : i < ss.length
    · have hgi := hg i hlt
      obtain ⟨D, hD, hn⟩ := ho.fi hi hbig
      have hco := hD.co hn
      have hst := ho.st hlt
      have hfr := frN_fr ss i
      have hnv := hD.nv
      have hb := bigN_at hlt
      have hsu := frN_succ hlt
      have hn3 := nxt_vars (frN ss i) i ss[i]
      have hcl := frN_len ss i
      have hst2 := fun m' hV hC => hN i hlt svC svV m' hV hC hnv hst hco
      clear hD hco hst hN hg cR
      generalize hs : ss[i] = s at *
      generalize hf : frN ss i = f at *
      generalize hx : f.nxt i s = nx at *
      obtain ⟨nv, c1, c2⟩ := nx
      obtain ⟨k, nm, ar, ⟨rs, rl, rd⟩⟩ := s
      obtain ⟨cs, vs, fr⟩ := f
      simp only at *
      (focus (refine wkap (w_a e1 (w_a m1 (w_a e2 (w_a m2 (w_a e5 (w_a e6 (w_a e18 (w_a e19 (w_a e20 (w_a m5 (w_a m20 (w_a m21 (w_a hgi (w_a hls w_t)))))))))))))) w_t (w_r 0) ?_; (repeat' first | exact w_t | apply w_l); all_goals intros))
      refine o_fresh (hst2 _ (by exact gW m21) (by exact gW m20)) ?_
      intro sv
      have hvl : ((vs ++ nv).map Vt.av).length = (vs ++ nv).length := List.length_map ..
      have hvl2 : (vs ++ nv).length ≤ 67 := by rw [List.length_append]; omega
      have hnx : ∀ j, j < i + 1 → bigN ss i = false → bigN ss j = false := fun j hj h => by
        by_cases e : j = i
        · rw [e]; exact h
        · exact hbig j (by omega)
      have hany : bigN ss i = true → (List.range ss.length).any (bigN ss) = true := fun h => List.any_eq_true.2 ⟨i, List.mem_range.2 hlt, h⟩
      generalize vs ++ nv = vs2 at *
      have hc1 : (c1.map tmA).length = c1.length := List.length_map ..
      have hc2 : (c2.map tmA).length = c2.length := List.length_map ..
      have hcsl : (cs.map coA).length = cs.length := List.length_map ..
      by_cases b1 : 64 < vs2.length
      · rw [if_pos (hany (by rw [hb]; simp [b1]))]
        (focus (refine wklp (w_a e1 (w_a e2 (w_a m2 (w_a e5 (w_a e6 (w_a e18 (w_a e19 (w_a e20 (w_a m5 (w_a m20 (w_a hvl (w_a hls w_t)))))))))))) w_t (w_a e2 w_t) (w_r 0) ?_; (repeat' first | exact w_t | apply w_l); all_goals intros))
      · by_cases b2 : 4000 < c1.length
        · rw [if_pos (hany (by rw [hb]; simp [b2]))]
          (focus (refine wklp (w_a e1 (w_a e2 (w_a m2 (w_a e5 (w_a e6 (w_a e18 (w_a e19 (w_a e20 (w_a m5 (w_a m20 (w_a hvl (w_a hc1 (w_a hls w_t))))))))))))) w_t (w_a e2 w_t) (w_r 0) ?_; (repeat' first | exact w_t | apply w_l); all_goals intros))
        · by_cases b3 : 4000 < c2.length
          · rw [if_pos (hany (by rw [hb]; simp [b3]))]
            (focus (refine wklp (w_a e1 (w_a e2 (w_a m2 (w_a e5 (w_a e6 (w_a e18 (w_a e19 (w_a e20 (w_a m5 (w_a m20 (w_a hvl (w_a hc1 (w_a hc2 (w_a hls w_t)))))))))))))) w_t (w_a e2 w_t) (w_r 0) ?_; (repeat' first | exact w_t | apply w_l); all_goals intros))
          · have hbf : bigN ss i = false := by rw [hb]; simp [b1, b2, b3]
            clear hany
            by_cases k1 : k = 1
            · subst k1
              (focus (refine wkap (w_a e1 (w_a e2 (w_a m2 (w_a e5 (w_a e6 (w_a e18 (w_a e19 (w_a e20 (w_a m5 (w_a m20 (w_a hvl (w_a hc1 (w_a hc2 (w_a hcsl (w_a hls w_t))))))))))))))) w_t (w_r 0) ?_; (repeat' first | exact w_t | apply w_l); all_goals intros))
              rename_i svC2
              refine ⟨i + 1, ⟨by omega, by exact gW e1, by exact gW m1, by exact gW e2, by exact gW m2, by exact gW e5, by (rw [hsu]; exact gS), by exact gW e18, by exact gW e19, by exact gS, ⟨svC2, sv, ?_, ?_, ?_⟩, fun j hj => hnx j hj hbf⟩, by omega⟩
              · (simp (disch := omega) only [go_sem, List.set_cons_zero] <;> repeat' first | rfl | refine ⟨?_, ?_⟩)
              · rw [hsu, List.map_append]; exact gC
              · rw [hsu]; exact gC
            · (focus (refine wkap (w_a e1 (w_a e2 (w_a m2 (w_a e5 (w_a e6 (w_a e18 (w_a e19 (w_a e20 (w_a m5 (w_a m20 (w_a hvl (w_a hc1 (w_a hc2 (w_a hcsl (w_a hls w_t))))))))))))))) w_t (w_r 0) ?_; (repeat' first | exact w_t | apply w_l); all_goals intros))
              rename_i svC2
              refine ⟨i + 1, ⟨by omega, by exact gW e1, by exact gW m1, by exact gW e2, by exact gW m2, by exact gW e5, by (rw [hsu]; simp only [if_neg k1]; exact gW e6), by exact gW e18, by exact gW e19, by exact gS, ⟨svC2, sv, ?_, ?_, ?_⟩, fun j hj => hnx j hj hbf⟩, by omega⟩
              · (simp (disch := omega) only [go_sem, List.set_cons_zero] <;> repeat' first | rfl | refine ⟨?_, ?_⟩)
              · rw [hsu, List.map_append]; exact gC
              · rw [hsu]; exact gC
    · have hin : i = ss.length := by omega
      subst hin
      have hno : ¬ (List.range ss.length).any (bigN ss) = true := by
        rw [List.any_eq_true]
        rintro ⟨j, hj, hb⟩
        rw [hbig j (List.mem_range.1 hj)] at hb
        cases hb
      rw [if_neg hno]
      clear hN hg
      generalize (frN ss ss.length).fr = fr at *
      generalize (frN ss ss.length).cs = cs at *
      generalize (frN ss ss.length).vs = vs at *
      (focus (refine wklp (w_a e1 (w_a e2 (w_a m2 (w_a e5 (w_a e6 (w_a e18 (w_a e19 (w_a e20 (w_a m5 (w_a m20 (w_a m21 (w_a hls w_t)))))))))))) w_t (w_a e2 (w_a m2 (w_a m5 (w_a m20 (w_a m21 w_t))))) (w_r 0) ?_; (repeat' first | exact w_t | apply w_l); all_goals intros))
  · exact ⟨Nat.zero_le _, by exact gC, by exact gC, by exact gC, by exact gC, by exact gC, by (simp (disch := omega) only [go_sem, frN] <;> repeat' first | rfl | refine ⟨?_, ?_⟩), by exact gC, by exact gW hls, by exact gC, ⟨_, _, by (simp (disch := omega) only [go_sem, List.set_cons_zero, List.set_cons_succ, frN] <;> repeat' first | rfl | refine ⟨?_, ?_⟩), by (simp (disch := omega) only [go_sem, frN, List.map_nil] <;> repeat' first | rfl | refine ⟨?_, ?_⟩), by (simp (disch := omega) only [go_sem, frN, List.map_nil] <;> repeat' first | rfl | refine ⟨?_, ?_⟩)⟩, fun j hj => by omega⟩
end Go.Proofs.YtbgmnobnaplmlaaGreat
end

section
namespace Go.Proofs.YtbgmnobnaplmlaaGreat
open Go Go.RowKit Go.Pg Go.Pol
set_option linter.unusedSimpArgs false
set_option linter.unusedVariables false
set_option maxRecDepth 20000
attribute [local go_sem] Tryz.underlying3 Tryz.underlying4 Tryz.underlying178 Tryz.underlying9 Tryz.underlying48 Tryz.underlying31 Tryz.underlying43 Tryz.underlying41 Tryz.underlying39 Tryz.underlying50 Tryz.underlying22 Tryz.underlying124 Tryz.underlying23 Tryz.underlying25 sz3 by3 z3 szB zB szL byL zL szErr zErr szStr byStr zStr szRat zRat szInt zInt szNat zNat szStep byStep zStep szFact byFact zFact szFig zFig szSlI zSlI szSlS zSlS szSlF zSlF
attribute [-bool_to_prop] Bool.and_eq_decide Bool.or_eq_decide Bool.decide_beq_decide decide_eq_decide
/-! ### the sizes that the laws of figures take -/
def fitS (s : RS) : Bool := !(decide (2 < s.r.l.length) || decide (2 < s.r.d.length) || decide (8 < s.ar.length))
def fitsB (ss : List RS) (gs : List RG) : Bool := ss.all fitS && (decide (nfN ss ss.length ≤ 12) && (decide (ss.length ≤ 42) && decide (gs.length ≤ 10)))
theorem all_at {α : Type} {p : α → Bool} {l : List α} {i : Nat} (h : i < l.length) (hp : p l[i] = false) : l.all p = false := by
  rw [Bool.eq_false_iff]
  intro ha
  rw [List.all_eq_true] at ha
  rw [ha _ (List.getElem_mem h)] at hp
  cases hp
theorem all_of {α : Type} {p : α → Bool} {l : List α} (h : ∀ j (hj : j < l.length), p l[j] = true) : l.all p = true := by
  rw [List.all_eq_true]
  intro x hx
  obtain ⟨j, hj, rfl⟩ := List.mem_iff_getElem.1 hx
  exact h j hj
theorem nfN_le (ss : List RS) : ∀ i, nfN ss i ≤ i
  | 0 => Nat.le_refl _
  | i + 1 => by
    have := nfN_le ss i
    unfold nfN
    split <;> omega
theorem nfN_y {ss : List RS} {i : Nat} (hi : i < ss.length) (h : ss[i].k = 1) : nfN ss (i + 1) = nfN ss i := by
  show nfN ss i + _ = _
  rw [show ss.getD i ⟨0, .empty, [], ⟨false, [], []⟩⟩ = ss[i] from by rw [List.getD_eq_getElem?_getD, List.getElem?_eq_getElem hi]; rfl, if_pos h]; rfl
theorem nfN_n {ss : List RS} {i : Nat} (hi : i < ss.length) (h : ss[i].k ≠ 1) : nfN ss (i + 1) = nfN ss i + 1 := by
  show nfN ss i + _ = _
  rw [show ss.getD i ⟨0, .empty, [], ⟨false, [], []⟩⟩ = ss[i] from by rw [List.getD_eq_getElem?_getD, List.getElem?_eq_getElem hi]; rfl, if_neg h]
set_option maxHeartbeats 4000000 in
theorem lwFits (ss : List RS) (gs : List RG) (h1 : ss.length ≤ 1000000000) : Pure Tryz.prog 14 [figA ss gs] (.v (.bool (fitsB ss gs))) := by
  have hls : (ss.map RS.av).length = ss.length := List.length_map ..
  have hlg : (gs.map RG.av).length = gs.length := List.length_map ..
  have hg : ∀ i (h : i < ss.length), (ss.map RS.av).getD i .u = ss[i].av := fun i h => map_atB RS.av h
  show Pure _ _ [.agg [.sl 6 (ss.map RS.av), .sl 5 (gs.map RG.av)]] _
  generalize ss.map RS.av = M at *
  generalize gs.map RG.av = N at *
  refine pure_intro (tok := 0) Tryz.func14 rfl Tryz.ntmps14 Tryz.results14 Tryz.call14 (by rfl) (by simp) ?_
  (focus (refine wkap (w_a hls (w_a hlg w_t)) w_t (w_r 0) ?_; (repeat' first | exact w_t | apply w_l); all_goals intros))
  rename_i g1
  refine r_loopE (ι := Nat) (fun i e m => i ≤ ss.length ∧ e 1 = .pbox 1 g1 0 ∧ m 1 = some (.box g1 25 [.sl 6 M, .sl 5 N] false) ∧ e 3 = iv (nfN ss i) ∧ e 7 = .sl 6 M ∧ e 8 = iv ss.length ∧ e 9 = iv i ∧ ∀ j, (hj : j < ss.length) → j < i → fitS ss[j] = true) (fun i => ss.length - i) 0 (by rfl) ?_ ?_
  · rintro i e m ⟨hi, e1, m1, e3, e7, e8, e9, hz⟩
    have hnf := nfN_le ss i
    by_cases hlt : i < ss.length
    · have hgi := hg i hlt
      have hy := @nfN_y ss i hlt
      have hn := @nfN_n ss i hlt
      have hB : fitS ss[i] = false → fitsB ss gs = false := fun h => by unfold fitsB; rw [all_at hlt h]; rfl
      have hZ : fitS ss[i] = true → ∀ j, (hj : j < ss.length) → j < i + 1 → fitS ss[j] = true := fun h j hj hji => by
        by_cases e : j = i
        · subst e; exact h
        · exact hz j hj (by omega)
      clear hz
      have hf : fitS ss[i] = !(decide (2 < ss[i].r.l.length) || decide (2 < ss[i].r.d.length) || decide (8 < ss[i].ar.length)) := rfl
      generalize nfN ss i = n0 at *
      generalize fitS ss[i] = ft at *
      generalize fitsB ss gs = fb at *
      generalize ss[i] = s at *
      obtain ⟨k, nm, ar, ⟨rs, rl, rd⟩⟩ := s
      simp only at *
      have hal : (ar.map iv).length = ar.length := List.length_map ..
      by_cases b1 : 2 < rl.length
      · have := hB (by rw [hf]; simp [b1])
        subst this
        by_cases k1 : k = 1
        · subst k1
          (focus (refine wkap (w_a e1 (w_a m1 (w_a e3 (w_a e7 (w_a e8 (w_a e9 (w_a hls (w_a hlg (w_a hgi (w_a hal w_t)))))))))) w_t (w_r 0) ?_; (repeat' first | exact w_t | apply w_l); all_goals intros))
          all_goals (all_goals (try simp (disch := omega) only [go_sem, decide_eq_true, decide_eq_false, if_pos, if_neg, Int.reduceAdd, Int.reduceSub, Int.reduceToNat, Int.zero_add])); (all_goals first | done | rfl | (congr 2; first | done | omega | (rw [Bool.eq_iff_iff]; simp only [bool_to_prop, Bool.false_eq_true, iff_true, true_iff, iff_false, false_iff]; omega)) | skip)
        · (focus (refine wkap (w_a e1 (w_a m1 (w_a e3 (w_a e7 (w_a e8 (w_a e9 (w_a hls (w_a hlg (w_a hgi (w_a hal w_t)))))))))) w_t (w_r 0) ?_; (repeat' first | exact w_t | apply w_l); all_goals intros))
          all_goals (all_goals (try simp (disch := omega) only [go_sem, decide_eq_true, decide_eq_false, if_pos, if_neg, Int.reduceAdd, Int.reduceSub, Int.reduceToNat, Int.zero_add])); (all_goals first | done | rfl | (congr 2; first | done | omega | (rw [Bool.eq_iff_iff]; simp only [bool_to_prop, Bool.false_eq_true, iff_true, true_iff, iff_false, false_iff]; omega)) | skip)
      · by_cases b2 : 2 < rd.length
        · have := hB (by rw [hf]; simp [b2])
          subst this
          by_cases k1 : k = 1
          · subst k1
            (focus (refine wkap (w_a e1 (w_a m1 (w_a e3 (w_a e7 (w_a e8 (w_a e9 (w_a hls (w_a hlg (w_a hgi (w_a hal w_t)))))))))) w_t (w_r 0) ?_; (repeat' first | exact w_t | apply w_l); all_goals intros))
            all_goals (all_goals (try simp (disch := omega) only [go_sem, decide_eq_true, decide_eq_false, if_pos, if_neg, Int.reduceAdd, Int.reduceSub, Int.reduceToNat, Int.zero_add])); (all_goals first | done | rfl | (congr 2; first | done | omega | (rw [Bool.eq_iff_iff]; simp only [bool_to_prop, Bool.false_eq_true, iff_true, true_iff, iff_false, false_iff]; omega)) | skip)
          · (focus (refine wkap (w_a e1 (w_a m1 (w_a e3 (w_a e7 (w_a e8 (w_a e9 (w_a hls (w_a hlg (w_a hgi (w_a hal w_t)))))))))) w_t (w_r 0) ?_; (repeat' first | exact w_t | apply w_l); all_goals intros))
            all_goals (all_goals (try simp (disch := omega) only [go_sem, decide_eq_true, decide_eq_false, if_pos, if_neg, Int.reduceAdd, Int.reduceSub, Int.reduceToNat, Int.zero_add])); (all_goals first | done | rfl | (congr 2; first | done | omega | (rw [Bool.eq_iff_iff]; simp only [bool_to_prop, Bool.false_eq_true, iff_true, true_iff, iff_false, false_iff]; omega)) | skip)
        · by_cases b3 : 8 < ar.length
          · have := hB (by rw [hf]; simp [b3])
            subst this
            by_cases k1 : k = 1
            · subst k1
              (focus (refine wkap (w_a e1 (w_a m1 (w_a e3 (w_a e7 (w_a e8 (w_a e9 (w_a hls (w_a hlg (w_a hgi (w_a hal w_t)))))))))) w_t (w_r 0) ?_; (repeat' first | exact w_t | apply w_l); all_goals intros))
              all_goals (all_goals (try simp (disch := omega) only [go_sem, decide_eq_true, decide_eq_false, if_pos, if_neg, Int.reduceAdd, Int.reduceSub, Int.reduceToNat, Int.zero_add])); (all_goals first | done | rfl | (congr 2; first | done | omega | (rw [Bool.eq_iff_iff]; simp only [bool_to_prop, Bool.false_eq_true, iff_true, true_iff, iff_false, false_iff]; omega)) | skip)
            · (focus (refine wkap (w_a e1 (w_a m1 (w_a e3 (w_a e7 (w_a e8 (w_a e9 (w_a hls (w_a hlg (w_a hgi (w_a hal w_t)))))))))) w_t (w_r 0) ?_; (repeat' first | exact w_t | apply w_l); all_goals intros))
              all_goals (all_goals (try simp (disch := omega) only [go_sem, decide_eq_true, decide_eq_false, if_pos, if_neg, Int.reduceAdd, Int.reduceSub, Int.reduceToNat, Int.zero_add])); (all_goals first | done | rfl | (congr 2; first | done | omega | (rw [Bool.eq_iff_iff]; simp only [bool_to_prop, Bool.false_eq_true, iff_true, true_iff, iff_false, false_iff]; omega)) | skip)
          · have hZ := hZ (by rw [hf]; simp [b1, b2, b3])
            by_cases k1 : k = 1
            · subst k1
              have hy := hy rfl
              (focus (refine wkap (w_a e1 (w_a m1 (w_a e3 (w_a e7 (w_a e8 (w_a e9 (w_a hls (w_a hlg (w_a hgi (w_a hal w_t)))))))))) w_t (w_r 0) ?_; (repeat' first | exact w_t | apply w_l); all_goals intros))
              exact ⟨i + 1, ⟨by omega, by exact gW e1, by exact gW m1, (by rw [hy]; exact gW e3), by exact gW e7, by exact gW e8, by exact gS, hZ⟩, by omega⟩
            · have hn := hn k1
              (focus (refine wkap (w_a e1 (w_a m1 (w_a e3 (w_a e7 (w_a e8 (w_a e9 (w_a hls (w_a hlg (w_a hgi (w_a hal w_t)))))))))) w_t (w_r 0) ?_; (repeat' first | exact w_t | apply w_l); all_goals intros))
              exact ⟨i + 1, ⟨by omega, by exact gW e1, by exact gW m1, (by rw [hn]; exact gS), by exact gW e7, by exact gW e8, by exact gS, hZ⟩, by omega⟩
    · have hi2 : i = ss.length := by omega
      have hE : fitsB ss gs = (decide (nfN ss ss.length ≤ 12) && (decide (ss.length ≤ 42) && decide (gs.length ≤ 10))) := by
        unfold fitsB
        rw [all_of fun j hj => hz j hj (by omega), Bool.true_and]
      rw [hE]
      rw [hi2] at e3 e9 hnf
      clear hz hE hg
      generalize nfN ss ss.length = n1 at *
      (focus (refine wkap (w_a e1 (w_a m1 (w_a e3 (w_a e7 (w_a e8 (w_a e9 (w_a hls (w_a hlg w_t)))))))) w_t (w_r 0) ?_; (repeat' first | exact w_t | apply w_l); all_goals intros))
      all_goals (all_goals (try simp (disch := omega) only [go_sem, decide_eq_true, decide_eq_false, if_pos, if_neg, Int.reduceAdd, Int.reduceSub, Int.reduceToNat, Int.zero_add])); (all_goals first | done | rfl | (congr 2; first | done | omega | (rw [Bool.eq_iff_iff]; simp only [bool_to_prop, Bool.false_eq_true, iff_true, true_iff, iff_false, false_iff]; omega)) | skip)
  · exact ⟨Nat.zero_le _, by exact gC, by exact gC, by (simp (disch := omega) only [go_sem, nfN] <;> repeat' first | rfl | refine ⟨?_, ?_⟩), by exact gC, by exact gW hls, by exact gC, fun j _ hj => by omega⟩
end Go.Proofs.YtbgmnobnaplmlaaGreat
end

section
namespace Go.Proofs.YtbgmnobnaplmlaaGreat
open Go Go.RowKit Go.Pg Go.Pol
set_option linter.unusedSimpArgs false
set_option linter.unusedVariables false
set_option maxRecDepth 20000
attribute [local go_sem] Tryz.underlying3 Tryz.underlying4 Tryz.underlying178 Tryz.underlying9 Tryz.underlying48 Tryz.underlying31 Tryz.underlying43 Tryz.underlying41 Tryz.underlying39 Tryz.underlying50 Tryz.underlying22 Tryz.underlying25 Tryz.underlying56 Tryz.underlying28 Tryz.underlying72 Tryz.underlying27 Tryz.underlying30 Tryz.underlying105 Tryz.underlying107 Tryz.underlying70 Tryz.underlying63 Tryz.underlying103 Tryz.underlying154 sz3 by3 z3 szB zB szErr zErr szStr byStr zStr szRat zRat szInt zInt szNat zNat szStep byStep zStep szFig zFig szSlI zSlI szSlS zSlS szVar byVar zVar szSlV zSlV szCoord byCoord zCoord szSlC zSlC szFrame zFrame szCBld byCBld zCBld szCVec byCVec zCVec szPoly byPoly zPoly szTerm zTerm szPtrB zPtrB szFnC zFnC Tryz.underlying124 Tryz.underlying23 szL byL zL szFact byFact zFact szSlF zSlF
attribute [-bool_to_prop] Bool.and_eq_decide Bool.or_eq_decide Bool.decide_beq_decide decide_eq_decide
theorem figE_ok {ss : List RS} {gs : List RG} (h : figE ss gs = 0) : ss.length ≤ 40 ∧ ∀ i, i < ss.length → errS ss i = 0 := by
  unfold figE at h
  split at h
  · omega
  · rename_i h1
    split at h
    · rename_i h2; exact absurd h h2
    · rename_i h2
      refine ⟨by omega, fstE_all ?_⟩
      rcases Decidable.em (fstE (errS ss) ss.length = 0) with h3 | h3
      · exact h3
      · exact absurd h3 h2
theorem figOk_of {ss : List RS} {gs : List RG} (h : figE ss gs = 0) (hs : ∀ s ∈ ss, s.sm) (hf : fitsB ss gs = true) : FigOk ss := by
  obtain ⟨h1, h2⟩ := figE_ok h
  unfold fitsB at hf
  simp only [Bool.and_eq_true, decide_eq_true_eq, List.all_eq_true] at hf
  refine ⟨h1, h2, fun s hm => ?_, by omega⟩
  have := hf.1 s hm
  unfold fitS at this
  simp only [Bool.not_eq_true', Bool.or_eq_false_iff, decide_eq_false_iff_not, Nat.not_lt] at this
  obtain ⟨k1, k2, k3, k4⟩ := (hs s hm).1
  exact ⟨k1, k2, this.1.1, this.1.2⟩
theorem frN_small {ss : List RS} (h : (List.range ss.length).any (bigN ss) ≠ true) : (frN ss ss.length).vs.length ≤ 64 := by
  rcases Nat.eq_zero_or_pos ss.length with h0 | h0
  · rw [h0]; exact Nat.zero_le _
  · have hb : bigN ss (ss.length - 1) ≠ true := fun hb => h (List.any_eq_true.2 ⟨ss.length - 1, List.mem_range.2 (by omega), hb⟩)
    unfold bigN at hb
    simp only [ne_eq, Bool.or_eq_true, decide_eq_true_eq, not_or, Nat.not_lt] at hb
    have := hb.1.1
    rwa [show ss.length - 1 + 1 = ss.length by omega] at this
end Go.Proofs.YtbgmnobnaplmlaaGreat
end

section
namespace Go.Proofs.YtbgmnobnaplmlaaGreat
open Go Go.RowKit Go.Pg Go.Pol
set_option linter.unusedSimpArgs false
set_option linter.unusedVariables false
set_option maxRecDepth 20000
attribute [local go_sem] Tryz.underlying3 Tryz.underlying4 Tryz.underlying178 Tryz.underlying9 Tryz.underlying48 Tryz.underlying31 Tryz.underlying43 Tryz.underlying41 Tryz.underlying39 Tryz.underlying50 Tryz.underlying22 Tryz.underlying25 Tryz.underlying56 Tryz.underlying28 Tryz.underlying72 Tryz.underlying27 Tryz.underlying30 Tryz.underlying105 Tryz.underlying107 Tryz.underlying70 Tryz.underlying63 Tryz.underlying103 Tryz.underlying154 sz3 by3 z3 szB zB szErr zErr szStr byStr zStr szRat zRat szInt zInt szNat zNat szStep byStep zStep szFig zFig szSlI zSlI szSlS zSlS szVar byVar zVar szSlV zSlV szCoord byCoord zCoord szSlC zSlC szFrame zFrame szCBld byCBld zCBld szCVec byCVec zCVec szPoly byPoly zPoly szTerm zTerm szPtrB zPtrB szFnC zFnC
attribute [-bool_to_prop] Bool.and_eq_decide Bool.or_eq_decide Bool.decide_beq_decide decide_eq_decide
theorem eqVar : eqTy Tryz.prog 56 = true := by kernel_rfl
theorem vk_big {z : Int} : Vk (.tup [.agg [.v (.slice none 0 0), .v (.slice none 0 0)], iv z]) (.tup [frmA [] [], iv z]) := Vk.tupL (.cons (Vk.aggL (.cons (.nil 2) (.cons (.nil 3) .nil))) (.cons (.refl _) .nil))
end Go.Proofs.YtbgmnobnaplmlaaGreat
end

section
namespace Go.Proofs.YtbgmnobnaplmlaaGreat
open Go Go.RowKit Go.Pg
set_option linter.unusedSimpArgs false
set_option linter.unusedVariables false
set_option maxRecDepth 20000
attribute [local go_sem] Tryz.underlying3 Tryz.underlying4 Tryz.underlying31 Tryz.underlying43 Tryz.underlying39 Tryz.underlying41 Tryz.underlying52 Tryz.underlying205 sz3 by3 z3 szErr zErr szRat zRat szNat zNat szInt zInt szB zB szPt byPt zPt szVec zVec
attribute [-bool_to_prop] Bool.and_eq_decide Bool.or_eq_decide Bool.decide_beq_decide decide_eq_decide
/-- A point. -/
abbrev ptQ (x y : Rat) : AV := .agg [.v (.bool (decide (x.num < 0))), lim (toL x.num.natAbs), lim (toL x.den), .v (.bool (decide (y.num < 0))), lim (toL y.num.natAbs), lim (toL y.den)]
abbrev PQ := Rat × Rat
abbrev PQ.av (p : PQ) : AV := ptQ p.1 p.2
def PQ.sz (p : PQ) (j : Nat) : Prop := Sz p.1 j ∧ Sz p.2 j
def crossP (p q r s : PQ) : Rat := (q.1 - p.1) * (s.2 - r.2) - (q.2 - p.2) * (s.1 - r.1)
def dotP (p q r s : PQ) : Rat := (q.1 - p.1) * (s.1 - r.1) + (q.2 - p.2) * (s.2 - r.2)
end Go.Proofs.YtbgmnobnaplmlaaGreat
end

section
namespace Go.Proofs.YtbgmnobnaplmlaaGreat
open Go Go.RowKit Go.Pg
set_option linter.unusedSimpArgs false
set_option linter.unusedVariables false
set_option maxRecDepth 20000
attribute [local go_sem] Tryz.underlying3 Tryz.underlying2 Tryz.underlying178 Tryz.underlying115 Tryz.underlying4 Tryz.underlying31 Tryz.underlying43 Tryz.underlying39 Tryz.underlying41 Tryz.underlying52 sz3 by3 z3 szL byL zL szErr zErr szRat zRat szNat zNat szInt zInt szB zB szPt byPt zPt Bool.and_self
attribute [-bool_to_prop] Bool.and_eq_decide Bool.or_eq_decide Bool.decide_beq_decide decide_eq_decide
theorem ratEqual (a b : Rat) {j k : Nat} (ha : Sz a j) (hb : Sz b k) (hj : j ≤ 1000000) (hk : k ≤ 1000000) : Pure Tryz.prog 144 [ratQ a, ratQ b] (.v (.bool (decide (a = b)))) := by
  have c := ratCmp a b ha hb (by omega) (by omega)
  have e : (cmpQ a b == 0) = decide (a = b) := by
    rw [Bool.eq_iff_iff, beq_iff_eq, decide_eq_true_eq]
    unfold cmpQ
    constructor
    · intro h
      split at h
      · omega
      · split at h
        · omega
        · rename_i h1 h2
          exact Rat.le_antisymm (Rat.not_lt.1 h2) (Rat.not_lt.1 h1)
    · rintro rfl
      simp
  rw [← e]
  generalize cmpQ a b = s at *
  refine pure_intro (tok := 0) Tryz.func144 rfl Tryz.ntmps144 Tryz.results144 Tryz.call144 (by rfl) (by simp) ?_
  (focus (refine wkvp w_t (w_a c w_t) ?_; (repeat' first | exact w_t | apply w_l); all_goals intros))
  simp (disch := omega) only [go_sem]
end Go.Proofs.YtbgmnobnaplmlaaGreat
end

section
namespace Go.Proofs.YtbgmnobnaplmlaaGreat
open Go Go.RowKit Go.Pg Go.Pol
set_option linter.unusedSimpArgs false
set_option linter.unusedVariables false
set_option maxRecDepth 20000
attribute [local go_sem] Tryz.underlying3 Tryz.underlying4 Tryz.underlying178 Tryz.underlying9 Tryz.underlying48 Tryz.underlying31 Tryz.underlying43 Tryz.underlying41 Tryz.underlying39 Tryz.underlying50 Tryz.underlying22 Tryz.underlying25 Tryz.underlying56 Tryz.underlying28 Tryz.underlying72 Tryz.underlying27 Tryz.underlying30 Tryz.underlying105 Tryz.underlying107 Tryz.underlying70 Tryz.underlying63 Tryz.underlying103 Tryz.underlying154 sz3 by3 z3 szB zB szErr zErr szStr byStr zStr szRat zRat szInt zInt szNat zNat szStep byStep zStep szFig zFig szSlI zSlI szSlS zSlS szVar byVar zVar szSlV zSlV szCoord byCoord zCoord szSlC zSlC szFrame zFrame szCBld byCBld zCBld szCVec byCVec zCVec szPoly byPoly zPoly szTerm zTerm szPtrB zPtrB szFnC zFnC Tryz.underlying61 szMono
attribute [-bool_to_prop] Bool.and_eq_decide Bool.or_eq_decide Bool.decide_beq_decide decide_eq_decide
/-! ### which frames are right: the program's comparisons -/
set_option maxHeartbeats 4000000 in
theorem slEqMono (l : List Int) (hl : l.length ≤ 100000) : Pure Tryz.prog 142 [ivs l, ivs l] (.v (.bool true)) := by
  have hlm : (l.map iv).length = l.length := List.length_map ..
  have hg : ∀ i (h : i < l.length), (l.map iv).getD i .u = iv l[i] := fun i h => map_atB iv h
  show Pure _ _ [.sl 1 (l.map iv), .sl 1 (l.map iv)] _
  generalize l.map iv = L at *
  refine pure_intro (tok := 0) Tryz.func142 rfl Tryz.ntmps142 Tryz.results142 Tryz.call142 (by rfl) (by simp) ?_
  (focus (refine wkad (w_a hlm w_t) w_t w_t ?_; (repeat' first | exact w_t | apply w_l); all_goals intros))
  refine r_loopE (ι := Nat) (fun i e m => i ≤ l.length ∧ e 0 = .sl 1 L ∧ e 1 = .sl 1 L ∧ e 12 = iv l.length ∧ e 13 = iv i) (fun i => l.length - i) 0 (by rfl) ?_ ?_
  · rintro i e m ⟨hi, e0, e1, e12, e13⟩
    by_cases hlt : i < l.length
    · have hgi := hg i hlt
      generalize l[i] = v at *
      (focus (refine wkad (w_a e0 (w_a e1 (w_a e12 (w_a e13 (w_a hlm (w_a hgi w_t)))))) w_t w_t ?_; (repeat' first | exact w_t | apply w_l); all_goals intros))
      exact ⟨i + 1, ⟨by omega, by exact gW e0, by exact gW e1, by exact gW e12, by exact gS⟩, by omega⟩
    · (focus (refine wkld (w_a e0 (w_a e1 (w_a e12 (w_a e13 (w_a hlm w_t))))) w_t w_t w_t ?_; (repeat' first | exact w_t | apply w_l); all_goals intros))
  · exact ⟨Nat.zero_le _, by exact gC, by exact gC, by exact gW hlm, by exact gC⟩
set_option maxHeartbeats 4000000 in
theorem slEqVar (V vs : List Vt) (hl : V.length ≤ 100000) (hl2 : vs.length ≤ 100000) : Pure Tryz.prog 65 [.sl 3 (V.map Vt.av), .sl 3 (vs.map Vt.av)] (.v (.bool (decide (V = vs)))) := by
  have hlm : (V.map Vt.av).length = V.length := List.length_map ..
  have hlm2 : (vs.map Vt.av).length = vs.length := List.length_map ..
  have hg : ∀ i (h : i < V.length), (V.map Vt.av).getD i .u = Vt.av V[i] := fun i h => map_atB Vt.av h
  have hg2 : ∀ i (h : i < vs.length), (vs.map Vt.av).getD i .u = Vt.av vs[i] := fun i h => map_atB Vt.av h
  by_cases hll : V.length = vs.length
  · generalize V.map Vt.av = A at *
    generalize vs.map Vt.av = B at *
    refine pure_intro (tok := 0) Tryz.func65 rfl Tryz.ntmps65 Tryz.results65 Tryz.call65 (by rfl) (by simp) ?_
    (focus (refine wkad (w_a hlm (w_a hlm2 w_t)) w_t w_t ?_; (repeat' first | exact w_t | apply w_l); all_goals intros))
    refine r_loopE (ι := Nat) (fun i e m => i ≤ V.length ∧ e 0 = .sl 3 A ∧ e 1 = .sl 3 B ∧ e 12 = iv V.length ∧ e 13 = iv i ∧ V.take i = vs.take i) (fun i => V.length - i) 0 (by rfl) ?_ ?_
    · rintro i e m ⟨hi, e0, e1, e12, e13, ht⟩
      by_cases hlt : i < V.length
      · have hgi := hg i hlt
        have hgi2 := hg2 i (by omega)
        by_cases hv : V[i] = vs[i]
        · have ht2 : V.take (i + 1) = vs.take (i + 1) := by rw [List.take_succ_eq_append_getElem hlt, List.take_succ_eq_append_getElem (by omega), ht, hv]
          rw [hv] at hgi
          generalize vs[i] = v at *
          obtain ⟨v1, v2, v3⟩ := v
          (repeat' (first | (with_reducible first | refine stp ?_ | apply gx1 | apply gx2 | apply gx3 | apply gx4 | apply gx5 | apply gx6 | apply gx7 | apply gy8 | apply gz2 | apply gz3) | (with_reducible refine all_v ?_; intro _) | ((with_reducible refine gE ?_); (try simp (disch := omega) only [go_sem, e0, e1, e12, e13, hlm, hlm2, hgi, hgi2, eqVar, decide_eq_true, decide_eq_false, if_pos, if_neg, Int.reduceAdd, Int.reduceSub, Int.reduceToNat, Int.zero_add]) <;> first | rfl | omega) | with_reducible refine t_in_other (by decide) ?_ | ((with_reducible apply gy1); iterate 3 focus rfl) | ((with_reducible apply gy2); iterate 3 focus rfl) | ((with_reducible apply gy3); iterate 2 focus rfl) | ((with_reducible apply gy4); iterate 1 focus rfl) | ((with_reducible apply gy5); iterate 4 focus rfl) | ((with_reducible apply gy5c); iterate 4 focus rfl) | ((with_reducible apply gy6); iterate 4 focus rfl) | ((with_reducible apply d_bar); iterate 3 focus rfl) | ((with_reducible apply q_pub); iterate 1 focus rfl) | ((with_reducible apply gy7); iterate 1 focus rfl) | ((with_reducible apply gy9); (focus ((with_reducible refine gE ?_); (try simp (disch := omega) only [go_sem, e0, e1, e12, e13, hlm, hlm2, hgi, hgi2, eqVar, decide_eq_true, decide_eq_false, if_pos, if_neg, Int.reduceAdd, Int.reduceSub, Int.reduceToNat, Int.zero_add]) <;> rfl))) | ((with_reducible apply gz1); (focus first | rfl | (simp (disch := omega) only [go_sem, e0, e1, e12, e13, hlm, hlm2, hgi, hgi2, eqVar, decide_eq_true, decide_eq_false, if_pos, if_neg, Int.reduceAdd, Int.reduceSub, Int.reduceToNat, Int.zero_add]; done))) | ((with_reducible apply r_drawD (pickR []) [] []); (focus kernel_rfl); (focus rfl); (focus kernel_rfl); (focus (simp only [List.length_cons, List.length_nil, Nat.reduceAdd]; rfl))) | ((with_reducible first | apply og_split | apply dg_split | apply cg_split); all_goals (intro hc; (try simp only [bool_to_prop] at hc); try (exfalso; omega)))))
          all_goals exact ⟨i + 1, ⟨by omega, by exact gW e0, by exact gW e1, by exact gW e12, by exact gS, ht2⟩, by omega⟩
        · rw [decide_eq_false (fun h => hv (by subst h; rfl))]
          generalize V[i] = v at *
          generalize vs[i] = w at *
          obtain ⟨v1, v2, v3⟩ := v
          obtain ⟨w1, w2, w3⟩ := w
          have hv3 : ¬ (v1 = w1 ∧ v2 = w2 ∧ v3 = w3) := fun h => hv (by obtain ⟨rfl, rfl, rfl⟩ := h; rfl)
          (repeat' (first | (with_reducible first | refine stp ?_ | apply gx1 | apply gx2 | apply gx3 | apply gx4 | apply gx5 | apply gx6 | apply gx7 | apply gy8 | apply gz2 | apply gz3) | (with_reducible refine all_v ?_; intro _) | ((with_reducible refine gE ?_); (try simp (disch := omega) only [go_sem, e0, e1, e12, e13, hlm, hlm2, hgi, hgi2, eqVar, decide_eq_true, decide_eq_false, if_pos, if_neg, Int.reduceAdd, Int.reduceSub, Int.reduceToNat, Int.zero_add]) <;> first | rfl | omega) | with_reducible refine t_in_other (by decide) ?_ | ((with_reducible apply gy1); iterate 3 focus rfl) | ((with_reducible apply gy2); iterate 3 focus rfl) | ((with_reducible apply gy3); iterate 2 focus rfl) | ((with_reducible apply gy4); iterate 1 focus rfl) | ((with_reducible apply gy5); iterate 4 focus rfl) | ((with_reducible apply gy5c); iterate 4 focus rfl) | ((with_reducible apply gy6); iterate 4 focus rfl) | ((with_reducible apply d_bar); iterate 3 focus rfl) | ((with_reducible apply q_pub); iterate 1 focus rfl) | ((with_reducible apply gy7); iterate 1 focus rfl) | ((with_reducible apply gy9); (focus ((with_reducible refine gE ?_); (try simp (disch := omega) only [go_sem, e0, e1, e12, e13, hlm, hlm2, hgi, hgi2, eqVar, decide_eq_true, decide_eq_false, if_pos, if_neg, Int.reduceAdd, Int.reduceSub, Int.reduceToNat, Int.zero_add]) <;> rfl))) | ((with_reducible apply gz1); (focus first | rfl | (simp (disch := omega) only [go_sem, e0, e1, e12, e13, hlm, hlm2, hgi, hgi2, eqVar, decide_eq_true, decide_eq_false, if_pos, if_neg, Int.reduceAdd, Int.reduceSub, Int.reduceToNat, Int.zero_add]; done))) | ((with_reducible apply r_drawD (pickR []) [] []); (focus kernel_rfl); (focus rfl); (focus kernel_rfl); (focus (simp only [List.length_cons, List.length_nil, Nat.reduceAdd]; rfl))) | ((with_reducible first | apply og_split | apply dg_split | apply cg_split); all_goals (intro hc; (try simp only [bool_to_prop] at hc); try (exfalso; omega)))))
          all_goals (all_goals (try simp (disch := omega) only [go_sem, decide_eq_true, decide_eq_false, if_pos, if_neg, Int.reduceAdd, Int.reduceSub, Int.reduceToNat, Int.zero_add])); (all_goals first | done | rfl | (congr 2; first | done | omega | (rw [Bool.eq_iff_iff]; simp only [bool_to_prop, Bool.false_eq_true, iff_true, true_iff, iff_false, false_iff]; omega)) | skip)
      · rw [decide_eq_true (by rw [← List.take_of_length_le (show V.length ≤ i by omega), ht, List.take_of_length_le (by omega)])]
        (focus (refine wkld (w_a e0 (w_a e1 (w_a e12 (w_a e13 (w_a hlm (w_a hlm2 w_t)))))) w_t w_t w_t ?_; (repeat' first | exact w_t | apply w_l); all_goals intros))
    · exact ⟨Nat.zero_le _, by exact gC, by exact gC, by exact gW hlm, by exact gC, rfl⟩
  · rw [decide_eq_false (fun h => hll (by rw [h]))]
    generalize V.map Vt.av = A at *
    generalize vs.map Vt.av = B at *
    refine pure_intro (tok := 0) Tryz.func65 rfl Tryz.ntmps65 Tryz.results65 Tryz.call65 (by rfl) (by simp) ?_
    (focus (refine wkld (w_a hlm (w_a hlm2 (w_a hll w_t))) w_t w_t w_t ?_; (repeat' first | exact w_t | apply w_l); all_goals intros))
/-- A term and itself. -/
theorem idTerm (t : Tm) {j : Nat} (h : Sz t.1 j) (hj : j ≤ 1000000) (hl : t.2.length ≤ 100000) : Pure Tryz.prog 141 [tmA t, tmA t] (.v (.bool true)) := by
  have c1 := slEqMono t.2 hl
  have c2 := rtRight ⟨decide (t.1.num < 0), toL t.1.num.natAbs, toL t.1.den⟩ ⟨lm_toL _, lm_toL _, by have := h.1; show (toL t.1.num.natAbs).length ≤ _; omega, by have := h.2; show (toL t.1.den).length ≤ _; omega⟩
  rw [rq_ok] at c2
  have c3 := ratEqual t.1 t.1 h h hj hj
  rw [decide_eq_true rfl] at c3
  obtain ⟨q, m⟩ := t
  have c1 : Pure Tryz.prog 142 [ivs m, ivs m] (.v (.bool true)) := c1
  have c2 : Pure Tryz.prog 143 [.agg [.v (.bool (decide (q.num < 0))), lim (toL q.num.natAbs), lim (toL q.den)]] (.v (.bool true)) := c2
  have c3 : Pure Tryz.prog 144 [.agg [.v (.bool (decide (q.num < 0))), lim (toL q.num.natAbs), lim (toL q.den)], .agg [.v (.bool (decide (q.num < 0))), lim (toL q.num.natAbs), lim (toL q.den)]] (.v (.bool true)) := c3
  show Pure _ _ [.agg [.v (.bool (decide (q.num < 0))), lim (toL q.num.natAbs), lim (toL q.den), ivs m], .agg [.v (.bool (decide (q.num < 0))), lim (toL q.num.natAbs), lim (toL q.den), ivs m]] _
  generalize toL q.num.natAbs = q2 at *
  generalize decide (q.num < 0) = q1 at *
  generalize toL q.den = q3 at *
  refine pure_intro (tok := 0) Tryz.func141 rfl Tryz.ntmps141 Tryz.results141 Tryz.call141 (by rfl) (by simp) ?_
  (focus (refine wklp w_t (w_a c1 (w_a c2 (w_a c3 w_t))) w_t (w_r 0) ?_; (repeat' first | exact w_t | apply w_l); all_goals intros))
set_option maxHeartbeats 4000000 in
theorem idPoly (p : Po) {j e : Nat} (hp : PK p j e) (hj : j ≤ 1000000) (hl : p.length ≤ 100000) : Pure Tryz.prog 68 [poA p, poA p] (.v (.bool true)) := by
  have c : Pure Tryz.prog 140 [poA p, poA p, .fn 141 []] (.v (.bool true)) := by
    have hlm : (p.map tmA).length = p.length := List.length_map ..
    have hg : ∀ i (h : i < p.length), (p.map tmA).getD i .u = tmA p[i] := fun i h => map_atB tmA h
    have ht : ∀ i (h : i < p.length), Pure Tryz.prog 141 [tmA p[i], tmA p[i]] (.v (.bool true)) := fun i h => idTerm p[i] (hp _ (List.getElem_mem h)).1 hj (by have := (hp _ (List.getElem_mem h)).2.1; omega)
    show Pure _ _ [.sl 4 (p.map tmA), .sl 4 (p.map tmA), _] _
    generalize p.map tmA = L at *
    refine pure_intro (tok := 0) Tryz.func140 rfl Tryz.ntmps140 Tryz.results140 Tryz.call140 (by rfl) (by simp) ?_
    (focus (refine wkap (w_a hlm w_t) w_t (w_r 0) ?_; (repeat' first | exact w_t | apply w_l); all_goals intros))
    refine r_loopE (ι := Nat) (fun i e m => i ≤ p.length ∧ e 1 = .sl 4 L ∧ e 2 = .fn 141 [] ∧ e 15 = .sl 4 L ∧ e 16 = iv p.length ∧ e 17 = iv i) (fun i => p.length - i) 0 (by rfl) ?_ ?_
    · rintro i e m ⟨hi, e1, e2, e15, e16, e17⟩
      by_cases hlt : i < p.length
      · have hgi := hg i hlt
        have cc := ht i hlt
        generalize p[i] = t at *
        obtain ⟨q, mn⟩ := t
        have cc : Pure Tryz.prog 141 [.agg [.v (.bool (decide (q.num < 0))), lim (toL q.num.natAbs), lim (toL q.den), ivs mn], .agg [.v (.bool (decide (q.num < 0))), lim (toL q.num.natAbs), lim (toL q.den), ivs mn]] (.v (.bool true)) := cc
        have hgi : L.getD i .u = .agg [.v (.bool (decide (q.num < 0))), lim (toL q.num.natAbs), lim (toL q.den), ivs mn] := hgi
        (focus (refine wkap (w_a e1 (w_a e2 (w_a e15 (w_a e16 (w_a e17 (w_a hlm (w_a hgi w_t))))))) (w_a cc w_t) (w_r 0) ?_; (repeat' first | exact w_t | apply w_l); all_goals intros))
        exact ⟨i + 1, ⟨by omega, by exact gW e1, by exact gW e2, by exact gW e15, by exact gW e16, by exact gS⟩, by omega⟩
      · (focus (refine wklp (w_a e1 (w_a e2 (w_a e15 (w_a e16 (w_a e17 (w_a hlm w_t)))))) w_t w_t (w_r 0) ?_; (repeat' first | exact w_t | apply w_l); all_goals intros))
    · exact ⟨Nat.zero_le _, by exact gC, by exact gC, by exact gC, by exact gW hlm, by exact gC⟩
  have c : Pure Tryz.prog 140 [.sl 4 (p.map tmA), .sl 4 (p.map tmA), .fn 141 []] (.v (.bool true)) := c
  show Pure _ _ [.sl 4 (p.map tmA), .sl 4 (p.map tmA)] _
  generalize p.map tmA = A at *
  refine pure_intro (tok := 0) Tryz.func68 rfl Tryz.ntmps68 Tryz.results68 Tryz.call68 (by rfl) (by simp) ?_
  (focus (refine wklp w_t (w_a c w_t) w_t (w_r 0) ?_; (repeat' first | exact w_t | apply w_l); all_goals intros))
theorem idLen (p : Po) (L : List AV) (h : p.length ≠ L.length) (hl : p.length ≤ 100000) (hl2 : L.length ≤ 1000000000) : Pure Tryz.prog 68 [poA p, .sl 4 L] (.v (.bool false)) := by
  have c : Pure Tryz.prog 140 [poA p, .sl 4 L, .fn 141 []] (.v (.bool false)) := by
    have hlm : (p.map tmA).length = p.length := List.length_map ..
    show Pure _ _ [.sl 4 (p.map tmA), .sl 4 L, _] _
    generalize p.map tmA = M at *
    refine pure_intro (tok := 0) Tryz.func140 rfl Tryz.ntmps140 Tryz.results140 Tryz.call140 (by rfl) (by simp) ?_
    (focus (refine wklp (w_a hlm (w_a h w_t)) w_t w_t (w_r 0) ?_; (repeat' first | exact w_t | apply w_l); all_goals intros))
  show Pure _ _ [.sl 4 (p.map tmA), .sl 4 L] _
  have c : Pure Tryz.prog 140 [.sl 4 (p.map tmA), .sl 4 L, .fn 141 []] (.v (.bool false)) := c
  generalize p.map tmA = M at *
  refine pure_intro (tok := 0) Tryz.func68 rfl Tryz.ntmps68 Tryz.results68 Tryz.call68 (by rfl) (by simp) ?_
  (focus (refine wklp w_t (w_a c w_t) w_t (w_r 0) ?_; (repeat' first | exact w_t | apply w_l); all_goals intros))
theorem idPt {b : Bool} {u v z : List AV} (c1 : Pure Tryz.prog 68 [.sl 4 u, .sl 4 v] (.v (.bool b))) (c2 : Pure Tryz.prog 68 [.sl 4 z, .sl 4 z] (.v (.bool true))) :
    Pure Tryz.prog 67 [.agg [.sl 4 u, .sl 4 z], .agg [.sl 4 v, .sl 4 z]] (.v (.bool b)) := by
  cases b
  · refine pure_intro (tok := 0) Tryz.func67 rfl Tryz.ntmps67 Tryz.results67 Tryz.call67 (by rfl) (by simp) ?_
    (focus (refine wklp w_t (w_a c1 (w_a c2 w_t)) w_t (w_r 0) ?_; (repeat' first | exact w_t | apply w_l); all_goals intros))
  · by_cases huv : u = v ∧ v = z
    · obtain ⟨rfl, rfl⟩ := huv
      refine pure_intro (tok := 0) Tryz.func67 rfl Tryz.ntmps67 Tryz.results67 Tryz.call67 (by rfl) (by simp) ?_
      (focus (refine wklp w_t (w_a c1 w_t) w_t (w_r 0) ?_; (repeat' first | exact w_t | apply w_l); all_goals intros))
    · refine pure_intro (tok := 0) Tryz.func67 rfl Tryz.ntmps67 Tryz.results67 Tryz.call67 (by rfl) (by simp) ?_
      (focus (refine wklp w_t (w_a c1 (w_a c2 w_t)) w_t (w_r 0) ?_; (repeat' first | exact w_t | apply w_l); all_goals intros))
theorem szChg : szOf Tryz.prog 65 = some 8 := by kernel_rfl
theorem byChg : bytOf Tryz.prog 65 = some 112 := by kernel_rfl
end Go.Proofs.YtbgmnobnaplmlaaGreat
end

section
namespace Go.Proofs.YtbgmnobnaplmlaaGreat
open Go Go.RowKit Go.Pg Go.Pol
set_option linter.unusedSimpArgs false
set_option linter.unusedVariables false
set_option maxRecDepth 20000
attribute [local go_sem] Tryz.underlying3 Tryz.underlying4 Tryz.underlying43 Tryz.underlying41 Tryz.underlying39 Tryz.underlying63 Tryz.underlying69 Tryz.underlying61 Tryz.underlying70 Tryz.underlying78 sz3 by3 z3 szRat zRat szInt zInt szNat zNat szTerm byTerm zTerm szMono byMono zMono szPoly byPoly zPoly
attribute [-bool_to_prop] Bool.and_eq_decide Bool.or_eq_decide Bool.decide_beq_decide decide_eq_decide
/-! ### polynomials as they come in -/
structure RT where
  r : RQ
  m : List Int
abbrev RT.av (t : RT) : AV := .agg [.v (.bool t.r.s), lim t.r.l, lim t.r.d, ivs t.m]
abbrev RT.tm (t : RT) : Tm := (t.r.q, t.m)
abbrev RT.zero : RT := ⟨⟨false, [], []⟩, []⟩
def RT.ok (t : RT) : Bool := t.r.ok && (decide (t.r.q ≠ 0) && rightB t.m)
def trmOk (l : List RT) (i : Nat) : Bool := (l.getD i RT.zero).ok && (decide (i = 0) || decide (ltM (l.getD i RT.zero).m (l.getD (i - 1) RT.zero).m))
def polOk (l : List RT) : Bool := (List.range l.length).all (trmOk l)
theorem rawAt {l : List RT} {i : Nat} (h : i < l.length) : l.getD i RT.zero = l[i] := by rw [List.getD_eq_getElem?_getD, List.getElem?_eq_getElem h]; rfl
theorem right_in {m : List Int} (h : rightB m = true) : Can m ∧ m.length ≤ 64 ∧ ∀ j, gI m j ≤ 1048576 := by
  unfold rightB at h
  simp only [Bool.and_eq_true, decide_eq_true_eq, Bool.not_eq_true', List.all_eq_true] at h
  obtain ⟨⟨h1, h2⟩, h3⟩ := h
  have hj : ∀ j, 0 ≤ gI m j ∧ gI m j ≤ 1048576 := fun j => by
    by_cases hl : j < m.length
    · have := h3 m[j] (List.getElem_mem hl)
      rw [gI_at hl]
      unfold expOk at this
      simp at this; omega
    · rw [gI_out (by omega)]; omega
  refine ⟨⟨fun j => (hj j).1, ?_⟩, h1, fun j => (hj j).2⟩
  by_cases h0 : m.length = 0
  · exact .inl h0
  · rw [getLast_at (by omega)] at h2
    exact .inr (by simpa using h2)
theorem pol_no {l : List RT} {i : Nat} (hi : i < l.length) (h : trmOk l i = false) : polOk l = false := by
  unfold polOk
  rw [List.all_eq_false]
  exact ⟨i, List.mem_range.2 hi, by rw [h]; simp⟩
theorem pol_in {l : List RT} {k : Nat} (h : polOk l = true) (hs : ∀ t ∈ l, t.r.lm k) :
    .sl 4 (l.map RT.av) = poA (l.map RT.tm) ∧ SrtM (l.map RT.tm) ∧ PK (l.map RT.tm) k 1048576 ∧ ∀ t ∈ l, t.m.length ≤ 64 := by
  have hall : ∀ i (hi : i < l.length), l[i].ok = true ∧ (i = 0 ∨ ltM l[i].m (l.getD (i - 1) RT.zero).m) := fun i hi => by
    have := List.all_eq_true.1 h i (List.mem_range.2 hi)
    unfold trmOk at this
    rw [rawAt hi] at this
    simpa using this
  have hok : ∀ t ∈ l, t.r.ok = true ∧ t.r.q ≠ 0 ∧ rightB t.m = true := fun t ht => by
    obtain ⟨i, hi, rfl⟩ := List.mem_iff_getElem.1 ht
    have := (hall i hi).1
    unfold RT.ok at this
    simp only [Bool.and_eq_true, decide_eq_true_eq] at this
    exact this
  refine ⟨?_, ⟨fun u hu => ?_, ?_⟩, fun u hu => ?_, fun t ht => (right_in (hok t ht).2.2).2.1⟩
  · rw [poA, List.map_map]
    congr 1
    refine List.map_congr_left fun t ht => ?_
    have := (RQ.ok_av (hs t ht) (hok t ht).1).1
    simp only [AV.agg.injEq, List.cons.injEq] at this
    show AV.agg [_, _, _, _] = AV.agg [_, _, _, _]
    rw [this.1, this.2.1, this.2.2.1]
  · obtain ⟨t, ht, rfl⟩ := List.mem_map.1 hu
    exact ⟨(hok t ht).2.1, (right_in (hok t ht).2.2).1⟩
  · have key : ∀ d i, i + d + 1 < l.length → ltM (l.getD (i + d + 1) RT.zero).m (l.getD i RT.zero).m := by
      intro d
      induction d with
      | zero =>
        intro i hi
        have := (hall (i + 1) hi).2
        rw [rawAt hi]
        rcases this with h0 | h0
        · omega
        · exact h0
      | succ d ih =>
        intro i hi
        have h1 := ih i (by omega)
        have h2 := (hall (i + (d + 1) + 1) hi).2
        rw [rawAt hi]
        rcases h2 with h0 | h0
        · omega
        · exact ordM.tr _ _ _ h0 h1
    rw [List.pairwise_map, List.pairwise_iff_getElem]
    intro i j hi hj hij
    have := key (j - i - 1) i (by omega)
    rw [show i + (j - i - 1) + 1 = j by omega, rawAt hi, rawAt hj] at this
    exact this
  · obtain ⟨t, ht, rfl⟩ := List.mem_map.1 hu
    obtain ⟨h1, h2, h3⟩ := right_in (hok t ht).2.2
    exact ⟨(RQ.ok_av (hs t ht) (hok t ht).1).2, by show t.m.length ≤ 1000; omega, fun j => ⟨h1.1 j, h3 j⟩⟩
set_option maxHeartbeats 4000000 in
/-- Which polynomials are valid. -/
theorem rawRight (l : List RT) (ll : l.length ≤ 1000000000) (hs : ∀ t ∈ l, t.r.lm 2000000) : Pure Tryz.prog 54 [.sl 4 (l.map RT.av)] (.v (.bool (polOk l))) := by
  have hlen : (l.map RT.av).length = l.length := List.length_map ..
  have hgl : ∀ i (h : i < l.length), (l.map RT.av).getD i .u = l[i].av := fun i h => map_atB RT.av h
  generalize hL : l.map RT.av = L at *
  refine pure_intro (tok := 0) Tryz.func54 rfl Tryz.ntmps54 Tryz.results54 Tryz.call54 (by rfl) (by simp) ?_
  (focus (refine wkad (w_a hlen w_t) w_t w_t ?_; (repeat' first | exact w_t | apply w_l); all_goals intros))
  refine r_loopE (ι := Nat) (fun i e m => i ≤ l.length ∧ e 0 = .sl 4 L ∧ e 3 = iv i ∧ ∀ j, j < i → trmOk l j = true) (fun i => l.length - i) 0 (by rfl) ?_ ?_
  · rintro i e m ⟨hi, e0, e3, hj⟩
    by_cases hi2 : i < l.length
    · have hg : L.getD i .u = .agg [.v (.bool l[i].r.s), lim l[i].r.l, lim l[i].r.d, ivs l[i].m] := hgl i hi2
      have hm := hs _ (List.getElem_mem hi2)
      have hti := rawAt hi2
      have cr := qRight l[i].r.s l[i].r.l l[i].r.d hm.1 hm.2.1 (by have := hm.2.2.1; omega) (by have := hm.2.2.2; omega)
      have cm : Pure Tryz.prog 121 [ivs l[i].m] (.v (.bool (rightB l[i].m))) := refRight l[i].m
      have hno : trmOk l i = false → polOk l = false := pol_no hi2
      have htr : trmOk l i = (l[i].ok && (decide (i = 0) || decide (ltM l[i].m (l.getD (i - 1) RT.zero).m))) := by unfold trmOk; rw [hti]
      have hnx : trmOk l i = true → ∀ j, j < i + 1 → trmOk l j = true := fun h j hjj => by
        by_cases e : j = i
        · rw [e]; exact h
        · exact hj j (by omega)
      have hsg : l[i].r.ok = true → Pure Tryz.prog 120 [.agg [.v (.bool l[i].r.s), lim l[i].r.l, lim l[i].r.d]] (.v (.int .i64 l[i].r.q.num.sign)) := fun o => by
        obtain ⟨av, sz⟩ := RQ.ok_av hm o
        have := qSign l[i].r.q sz (by omega)
        rwa [← av] at this
      have hcl : rightB l[i].m = true → i ≠ 0 → (l.getD (i - 1) RT.zero).ok = true → Pure Tryz.prog 122 [ivs (l.getD (i - 1) RT.zero).m, ivs l[i].m, iv 0] (iv (lexC (l.getD (i - 1) RT.zero).m l[i].m (max (l.getD (i - 1) RT.zero).m.length l[i].m.length))) := fun h1 h2 h3 => by
        obtain ⟨a1, a2, a3⟩ := right_in h1
        have h4 : rightB (l.getD (i - 1) RT.zero).m = true := by unfold RT.ok at h3; simp only [Bool.and_eq_true] at h3; exact h3.2.2
        obtain ⟨b1, b2, b3⟩ := right_in h4
        exact rpLex _ _ ⟨by omega, fun j => by have := b1.1 j; have := b3 j; omega⟩ ⟨by omega, fun j => by have := a1.1 j; have := a3 j; omega⟩
      have hpr : i ≠ 0 → (l.getD (i - 1) RT.zero).ok = true := fun h0 => by
        have := hj (i - 1) (by omega)
        unfold trmOk at this
        simp only [Bool.and_eq_true] at this
        exact this.1
      have hgp : i ≠ 0 → L.getD (i - 1) .u = (l.getD (i - 1) RT.zero).av := fun h0 => by rw [hgl (i - 1) (by omega), rawAt (show i - 1 < l.length by omega)]
      have hlt : ∀ a b : List Int, ltM a b ↔ lexC b a (max b.length a.length) = 1 := fun a b => by
        rw [lexC_neg, Nat.max_comm]
        show lexC a b (max a.length b.length) = -1 ↔ _
        omega
      have h3 : ∀ a b : List Int, lexC a b (max a.length b.length) = 0 ∨ lexC a b (max a.length b.length) = -1 ∨ lexC a b (max a.length b.length) = 1 := fun a b => by
        rcases lexC_three (a := a) (b := b) (max a.length b.length) with h | h | h
        · exact .inl h.1
        · exact .inr (.inl h)
        · exact .inr (.inr h)
      simp only [hlt] at htr
      unfold RT.ok at htr
      have hsz : (l[i].r.q = 0) ↔ l[i].r.q.num.sign = 0 := by rw [sgn_ne]
      clear hs hj hti hm hgl hlt
      generalize l[i].r.ok = ok at *
      generalize l[i].r.q = q at *
      generalize hsn : q.num.sign = z at *
      generalize l[i].m = mm at *
      generalize l[i].r.s = rs at *
      generalize l[i].r.l = rl at *
      generalize l[i].r.d = rd at *
      cases ok with
      | false =>
        rw [hno (by rw [htr]; rfl)]
        (focus (refine wkld (w_a e0 (w_a e3 (w_a hg (w_a hlen w_t)))) (w_a cr w_t) w_t w_t ?_; (repeat' first | exact w_t | apply w_l); all_goals intros))
      | true =>
        have cs := hsg rfl
        by_cases hz : z = 0
        · have hq := hsz.2 hz
          rw [hno (by rw [htr]; simp [hq])]
          subst hz
          (focus (refine wkld (w_a e0 (w_a e3 (w_a hg (w_a hlen w_t)))) (w_a cr (w_a cs w_t)) w_t w_t ?_; (repeat' first | exact w_t | apply w_l); all_goals intros))
        · have hq : ¬ q = 0 := fun e => hz (hsz.1 e)
          cases hr : rightB mm with
          | false =>
            rw [hr] at cm htr
            rw [hno (by rw [htr]; simp)]
            (focus (refine wkld (w_a e0 (w_a e3 (w_a hg (w_a hlen (w_a hz w_t))))) (w_a cr (w_a cs (w_a cm w_t))) w_t w_t ?_; (repeat' first | exact w_t | apply w_l); all_goals intros))
          | true =>
            rw [hr] at cm htr
            by_cases h0 : i = 0
            · subst h0
              have := hnx (by rw [htr]; simp [hq])
              (focus (refine wkad (w_a e0 (w_a e3 (w_a hg (w_a hlen (w_a hz w_t))))) (w_a cr (w_a cs (w_a cm w_t))) (w_a (w_d 6 [] [] []) w_t) ?_; (repeat' first | exact w_t | apply w_l); all_goals intros))
              exact ⟨1, ⟨by omega, by exact gW e0, by exact gC, this⟩, by omega⟩
            · have cl := hcl hr h0 (hpr h0)
              have hh := hgp h0
              obtain ⟨k, rfl⟩ : ∃ k, i = k + 1 := ⟨i - 1, by omega⟩
              have hi1 : ((k + 1 : Nat) : Int) - 1 = (k : Int) := by omega
              rw [show k + 1 - 1 = k from rfl] at *
              generalize l.getD k RT.zero = t at *
              obtain ⟨⟨ts, tl, td⟩, tm⟩ := t
              simp only at *
              have hx := h3 tm mm
              generalize lexC tm mm (max tm.length mm.length) = x at *
              rcases hx with rfl | rfl | rfl
              · rw [hno (by rw [htr]; simp)]
                (focus (refine wkld (w_a e0 (w_a e3 (w_a hg (w_a hh (w_a hi1 (w_a hlen (w_a hz w_t))))))) (w_a cr (w_a cs (w_a cm (w_a cl w_t)))) w_t (w_a (w_d 6 [(14, iv 0)] [] []) w_t) ?_; (repeat' first | exact w_t | apply w_l); all_goals intros))
              · rw [hno (by rw [htr]; simp)]
                (focus (refine wkld (w_a e0 (w_a e3 (w_a hg (w_a hh (w_a hi1 (w_a hlen (w_a hz w_t))))))) (w_a cr (w_a cs (w_a cm (w_a cl w_t)))) w_t (w_a (w_d 6 [(14, iv (-1))] [] []) w_t) ?_; (repeat' first | exact w_t | apply w_l); all_goals intros))
              · have := hnx (by rw [htr]; simp [hq])
                (focus (refine wkad (w_a e0 (w_a e3 (w_a hg (w_a hh (w_a hi1 (w_a hlen (w_a hz w_t))))))) (w_a cr (w_a cs (w_a cm (w_a cl w_t)))) (w_a (w_d 6 [(14, iv 1)] [] []) w_t) ?_; (repeat' first | exact w_t | apply w_l); all_goals intros))
                exact ⟨k + 1 + 1, ⟨by omega, by exact gW e0, by exact gS, this⟩, by omega⟩
    · have hi3 : i = l.length := by omega
      subst hi3
      have : polOk l = true := List.all_eq_true.2 fun j hjj => hj j (List.mem_range.1 hjj)
      rw [this]
      (focus (refine wkld (w_a e0 (w_a e3 (w_a hlen w_t))) w_t w_t w_t ?_; (repeat' first | exact w_t | apply w_l); all_goals intros))
  · exact ⟨Nat.zero_le _, by exact gC, by exact gC, fun j h => by omega⟩
end Go.Proofs.YtbgmnobnaplmlaaGreat
end

section
namespace Go.Proofs.YtbgmnobnaplmlaaGreat
open Go Go.RowKit Go.Pg Go.Pol
set_option linter.unusedSimpArgs false
set_option linter.unusedVariables false
set_option maxRecDepth 20000
attribute [local go_sem] Tryz.underlying3 Tryz.underlying4 Tryz.underlying178 Tryz.underlying9 Tryz.underlying48 Tryz.underlying31 Tryz.underlying43 Tryz.underlying41 Tryz.underlying39 Tryz.underlying50 Tryz.underlying22 Tryz.underlying25 Tryz.underlying56 Tryz.underlying28 Tryz.underlying72 Tryz.underlying27 Tryz.underlying30 Tryz.underlying105 Tryz.underlying107 Tryz.underlying70 Tryz.underlying63 Tryz.underlying103 Tryz.underlying154 sz3 by3 z3 szB zB szErr zErr szStr byStr zStr szRat zRat szInt zInt szNat zNat szStep byStep zStep szFig zFig szSlI zSlI szSlS zSlS szVar byVar zVar szSlV zSlV szCoord byCoord zCoord szSlC zSlC szFrame zFrame szCBld byCBld zCBld szCVec byCVec zCVec szPoly byPoly zPoly szTerm zTerm szPtrB zPtrB szFnC zFnC Tryz.underlying61 szMono Tryz.underlying5 Tryz.underlying65 szChg byChg
attribute [-bool_to_prop] Bool.and_eq_decide Bool.or_eq_decide Bool.decide_beq_decide decide_eq_decide
/-! ### which frames are right: changed frames -/
set_option maxHeartbeats 4000000 in
theorem rcSameL (C D V W : List AV) (h : C.length ≠ D.length ∨ V.length ≠ W.length) : Pure Tryz.prog 17 [.agg [.sl 2 C, .sl 3 V], .agg [.sl 2 D, .sl 3 W]] (.v (.bool false)) := by
  by_cases hc : C.length = D.length
  · have hv : V.length ≠ W.length := h.resolve_left fun k => k hc
    refine pure_intro (tok := 0) Tryz.func17 rfl Tryz.ntmps17 Tryz.results17 Tryz.call17 (by rfl) (by simp) ?_
    (focus (refine wkad (w_a hc (w_a hv w_t)) w_t w_t ?_; (repeat' first | exact w_t | apply w_l); all_goals intros))
    all_goals (all_goals (try simp (disch := omega) only [go_sem, decide_eq_true, decide_eq_false, if_pos, if_neg, Int.reduceAdd, Int.reduceSub, Int.reduceToNat, Int.zero_add])); (all_goals first | done | rfl | (congr 2; first | done | omega | (rw [Bool.eq_iff_iff]; simp only [bool_to_prop, Bool.false_eq_true, iff_true, true_iff, iff_false, false_iff]; omega)) | skip)
  · refine pure_intro (tok := 0) Tryz.func17 rfl Tryz.ntmps17 Tryz.results17 Tryz.call17 (by rfl) (by simp) ?_
    (focus (refine wkad (w_a hc w_t) w_t w_t ?_; (repeat' first | exact w_t | apply w_l); all_goals intros))
    all_goals (all_goals (try simp (disch := omega) only [go_sem, decide_eq_true, decide_eq_false, if_pos, if_neg, Int.reduceAdd, Int.reduceSub, Int.reduceToNat, Int.zero_add])); (all_goals first | done | rfl | (congr 2; first | done | omega | (rw [Bool.eq_iff_iff]; simp only [bool_to_prop, Bool.false_eq_true, iff_true, true_iff, iff_false, false_iff]; omega)) | skip)
set_option maxHeartbeats 8000000 in
theorem rcSameV (C : List AV) (V vs : List Vt) (hl : V.length = vs.length) (hb : vs.length ≤ 1000) (h : V ≠ vs) : Pure Tryz.prog 17 [.agg [.sl 2 C, .sl 3 (V.map Vt.av)], .agg [.sl 2 C, .sl 3 (vs.map Vt.av)]] (.v (.bool false)) := by
  have hlm : (V.map Vt.av).length = vs.length := by rw [List.length_map, hl]
  have hlm2 : (vs.map Vt.av).length = vs.length := List.length_map ..
  have hg : ∀ i (h : i < V.length), (V.map Vt.av).getD i .u = Vt.av V[i] := fun i h => map_atB Vt.av h
  have hg2 : ∀ i (h : i < vs.length), (vs.map Vt.av).getD i .u = Vt.av vs[i] := fun i h => map_atB Vt.av h
  generalize V.map Vt.av = A at *
  generalize vs.map Vt.av = B at *
  refine pure_intro (tok := 0) Tryz.func17 rfl Tryz.ntmps17 Tryz.results17 Tryz.call17 (by rfl) (by simp) ?_
  (focus (refine wkad (w_a hlm (w_a hlm2 w_t)) w_t w_t ?_; (repeat' first | exact w_t | apply w_l); all_goals intros))
  rename_i g2 g3
  refine r_loopE (ι := Nat) (fun i e m => i ≤ V.length ∧ e 2 = .pbox 2 g2 0 ∧ m 2 = some (.box g2 30 [.sl 2 C, .sl 3 A] false) ∧ e 3 = .pbox 3 g3 0 ∧ m 3 = some (.box g3 30 [.sl 2 C, .sl 3 B] false) ∧ e 27 = iv vs.length ∧ e 28 = iv i ∧ V.take i = vs.take i) (fun i => V.length - i) 0 (by rfl) ?_ ?_
  · rintro i e m ⟨hi, e2, m2, e3, m3, e27, e28, ht⟩
    by_cases hlt : i < V.length
    · have hgi := hg i hlt
      have hgi2 := hg2 i (by omega)
      by_cases hv : V[i] = vs[i]
      · have ht2 : V.take (i + 1) = vs.take (i + 1) := by rw [List.take_succ_eq_append_getElem hlt, List.take_succ_eq_append_getElem (by omega), ht, hv]
        rw [hv] at hgi
        generalize vs[i] = v at *
        obtain ⟨v1, v2, v3⟩ := v
        (repeat' (first | (with_reducible first | refine stp ?_ | apply gx1 | apply gx2 | apply gx3 | apply gx4 | apply gx5 | apply gx6 | apply gx7 | apply gy8 | apply gz2 | apply gz3) | (with_reducible refine all_v ?_; intro _) | ((with_reducible refine gE ?_); (try simp (disch := omega) only [go_sem, e2, m2, e3, m3, e27, e28, hlm, hlm2, hl, hgi, hgi2, eqVar, decide_eq_true, decide_eq_false, if_pos, if_neg, Int.reduceAdd, Int.reduceSub, Int.reduceToNat, Int.zero_add]) <;> first | rfl | omega) | with_reducible refine t_in_other (by decide) ?_ | ((with_reducible apply gy1); iterate 3 focus rfl) | ((with_reducible apply gy2); iterate 3 focus rfl) | ((with_reducible apply gy3); iterate 2 focus rfl) | ((with_reducible apply gy4); iterate 1 focus rfl) | ((with_reducible apply gy5); iterate 4 focus rfl) | ((with_reducible apply gy5c); iterate 4 focus rfl) | ((with_reducible apply gy6); iterate 4 focus rfl) | ((with_reducible apply d_bar); iterate 3 focus rfl) | ((with_reducible apply q_pub); iterate 1 focus rfl) | ((with_reducible apply gy7); iterate 1 focus rfl) | ((with_reducible apply gy9); (focus ((with_reducible refine gE ?_); (try simp (disch := omega) only [go_sem, e2, m2, e3, m3, e27, e28, hlm, hlm2, hl, hgi, hgi2, eqVar, decide_eq_true, decide_eq_false, if_pos, if_neg, Int.reduceAdd, Int.reduceSub, Int.reduceToNat, Int.zero_add]) <;> rfl))) | ((with_reducible apply gz1); (focus first | rfl | (simp (disch := omega) only [go_sem, e2, m2, e3, m3, e27, e28, hlm, hlm2, hl, hgi, hgi2, eqVar, decide_eq_true, decide_eq_false, if_pos, if_neg, Int.reduceAdd, Int.reduceSub, Int.reduceToNat, Int.zero_add]; done))) | ((with_reducible apply r_drawD (pickR []) [] []); (focus kernel_rfl); (focus rfl); (focus kernel_rfl); (focus (simp only [List.length_cons, List.length_nil, Nat.reduceAdd]; rfl))) | ((with_reducible first | apply og_split | apply dg_split | apply cg_split); all_goals (intro hc; (try simp only [bool_to_prop] at hc); try (exfalso; omega)))))
        all_goals exact ⟨i + 1, ⟨by omega, by exact gW e2, by exact gW m2, by exact gW e3, by exact gW m3, by exact gW e27, by exact gS, ht2⟩, by omega⟩
      · generalize V[i] = v at *
        generalize vs[i] = w at *
        obtain ⟨v1, v2, v3⟩ := v
        obtain ⟨w1, w2, w3⟩ := w
        have hv3 : ¬ (v1 = w1 ∧ v2 = w2 ∧ v3 = w3) := fun h => hv (by obtain ⟨rfl, rfl, rfl⟩ := h; rfl)
        (repeat' (first | (with_reducible first | refine stp ?_ | apply gx1 | apply gx2 | apply gx3 | apply gx4 | apply gx5 | apply gx6 | apply gx7 | apply gy8 | apply gz2 | apply gz3) | (with_reducible refine all_v ?_; intro _) | ((with_reducible refine gE ?_); (try simp (disch := omega) only [go_sem, e2, m2, e3, m3, e27, e28, hlm, hlm2, hl, hgi, hgi2, eqVar, decide_eq_true, decide_eq_false, if_pos, if_neg, Int.reduceAdd, Int.reduceSub, Int.reduceToNat, Int.zero_add]) <;> first | rfl | omega) | with_reducible refine t_in_other (by decide) ?_ | ((with_reducible apply gy1); iterate 3 focus rfl) | ((with_reducible apply gy2); iterate 3 focus rfl) | ((with_reducible apply gy3); iterate 2 focus rfl) | ((with_reducible apply gy4); iterate 1 focus rfl) | ((with_reducible apply gy5); iterate 4 focus rfl) | ((with_reducible apply gy5c); iterate 4 focus rfl) | ((with_reducible apply gy6); iterate 4 focus rfl) | ((with_reducible apply d_bar); iterate 3 focus rfl) | ((with_reducible apply q_pub); iterate 1 focus rfl) | ((with_reducible apply gy7); iterate 1 focus rfl) | ((with_reducible apply gy9); (focus ((with_reducible refine gE ?_); (try simp (disch := omega) only [go_sem, e2, m2, e3, m3, e27, e28, hlm, hlm2, hl, hgi, hgi2, eqVar, decide_eq_true, decide_eq_false, if_pos, if_neg, Int.reduceAdd, Int.reduceSub, Int.reduceToNat, Int.zero_add]) <;> rfl))) | ((with_reducible apply gz1); (focus first | rfl | (simp (disch := omega) only [go_sem, e2, m2, e3, m3, e27, e28, hlm, hlm2, hl, hgi, hgi2, eqVar, decide_eq_true, decide_eq_false, if_pos, if_neg, Int.reduceAdd, Int.reduceSub, Int.reduceToNat, Int.zero_add]; done))) | ((with_reducible apply r_drawD (pickR []) [] []); (focus kernel_rfl); (focus rfl); (focus kernel_rfl); (focus (simp only [List.length_cons, List.length_nil, Nat.reduceAdd]; rfl))) | ((with_reducible first | apply og_split | apply dg_split | apply cg_split); all_goals (intro hc; (try simp only [bool_to_prop] at hc); try (exfalso; omega)))))
        all_goals (all_goals (try simp (disch := omega) only [go_sem, decide_eq_true, decide_eq_false, if_pos, if_neg, Int.reduceAdd, Int.reduceSub, Int.reduceToNat, Int.zero_add])); (all_goals first | done | rfl | (congr 2; first | done | omega | (rw [Bool.eq_iff_iff]; simp only [bool_to_prop, Bool.false_eq_true, iff_true, true_iff, iff_false, false_iff]; omega)) | skip)
    · exact absurd (by rw [← List.take_of_length_le (show V.length ≤ i by omega), ht, List.take_of_length_le (by omega)]) h
  · exact ⟨Nat.zero_le _, by exact gC, by exact gC, by exact gC, by exact gC, by exact gW hlm, by exact gC, rfl⟩
set_option maxHeartbeats 8000000 in
theorem rcSameG (C D : List AV) (vs : List Vt) (hv : vs.length ≤ 1000) (hCD : C.length = D.length) (hc : D.length ≤ 1000) (k : Nat) (hk : k ≤ D.length)
    (hgood : ∀ j, j < k → ∃ u v u' v', C.getD j .u = .agg [.sl 4 u, .sl 4 v] ∧ D.getD j .u = .agg [.sl 4 u', .sl 4 v'] ∧ Pure Tryz.prog 54 [.sl 4 u] (.v (.bool true)) ∧ Pure Tryz.prog 54 [.sl 4 v] (.v (.bool true)) ∧ Pure Tryz.prog 29 [.sl 4 u, .sl 4 u'] (.v (.bool true)) ∧ Pure Tryz.prog 29 [.sl 4 v, .sl 4 v'] (.v (.bool true)))
    (hbad : k < D.length → ∃ u v u' v' b, C.getD k .u = .agg [.sl 4 u, .sl 4 v] ∧ D.getD k .u = .agg [.sl 4 u', .sl 4 v'] ∧ Pure Tryz.prog 54 [.sl 4 u] (.v (.bool b)) ∧ (b = true → Pure Tryz.prog 54 [.sl 4 v] (.v (.bool true)) ∧ Pure Tryz.prog 29 [.sl 4 u, .sl 4 u'] (.v (.bool false)))) :
    Pure Tryz.prog 17 [.agg [.sl 2 C, .sl 3 (vs.map Vt.av)], .agg [.sl 2 D, .sl 3 (vs.map Vt.av)]] (.v (.bool (decide (k = D.length)))) := by
  have hlV : (vs.map Vt.av).length = vs.length := List.length_map ..
  have hgV : ∀ i (h : i < vs.length), (vs.map Vt.av).getD i .u = vs[i].av := fun i h => map_atB Vt.av h
  generalize vs.map Vt.av = V at *
  refine pure_intro (tok := 0) Tryz.func17 rfl Tryz.ntmps17 Tryz.results17 Tryz.call17 (by rfl) (by simp) ?_
  (focus (refine wkad (w_a hCD (w_a hlV w_t)) w_t w_t ?_; (repeat' first | exact w_t | apply w_l); all_goals intros))
  rename_i g2 g3
  refine r_loopE (ι := Nat) (fun i e m => i ≤ vs.length ∧ e 2 = .pbox 2 g2 0 ∧ m 2 = some (.box g2 30 [.sl 2 C, .sl 3 V] false) ∧ e 3 = .pbox 3 g3 0 ∧ m 3 = some (.box g3 30 [.sl 2 D, .sl 3 V] false) ∧ e 27 = iv vs.length ∧ e 28 = iv i) (fun i => vs.length - i) 0 (by rfl) ?_ ?_
  · rintro i e m ⟨hi, e2, m2, e3, m3, e27, e28⟩
    by_cases hlt : i < vs.length
    · have hg := hgV i hlt
      generalize vs[i] = v at *
      obtain ⟨v1, v2, v3⟩ := v
      (repeat' (first | (with_reducible first | refine stp ?_ | apply gx1 | apply gx2 | apply gx3 | apply gx4 | apply gx5 | apply gx6 | apply gx7 | apply gy8 | apply gz2 | apply gz3) | (with_reducible refine all_v ?_; intro _) | ((with_reducible refine gE ?_); (try simp (disch := omega) only [go_sem, e2, m2, e3, m3, e27, e28, hlV, hg, eqVar, decide_eq_true, decide_eq_false, if_pos, if_neg, Int.reduceAdd, Int.reduceSub, Int.reduceToNat, Int.zero_add]) <;> first | rfl | omega) | with_reducible refine t_in_other (by decide) ?_ | ((with_reducible apply gy1); iterate 3 focus rfl) | ((with_reducible apply gy2); iterate 3 focus rfl) | ((with_reducible apply gy3); iterate 2 focus rfl) | ((with_reducible apply gy4); iterate 1 focus rfl) | ((with_reducible apply gy5); iterate 4 focus rfl) | ((with_reducible apply gy5c); iterate 4 focus rfl) | ((with_reducible apply gy6); iterate 4 focus rfl) | ((with_reducible apply d_bar); iterate 3 focus rfl) | ((with_reducible apply q_pub); iterate 1 focus rfl) | ((with_reducible apply gy7); iterate 1 focus rfl) | ((with_reducible apply gy9); (focus ((with_reducible refine gE ?_); (try simp (disch := omega) only [go_sem, e2, m2, e3, m3, e27, e28, hlV, hg, eqVar, decide_eq_true, decide_eq_false, if_pos, if_neg, Int.reduceAdd, Int.reduceSub, Int.reduceToNat, Int.zero_add]) <;> rfl))) | ((with_reducible apply gz1); (focus first | rfl | (simp (disch := omega) only [go_sem, e2, m2, e3, m3, e27, e28, hlV, hg, eqVar, decide_eq_true, decide_eq_false, if_pos, if_neg, Int.reduceAdd, Int.reduceSub, Int.reduceToNat, Int.zero_add]; done))) | ((with_reducible apply r_drawD (pickR []) [] []); (focus kernel_rfl); (focus rfl); (focus kernel_rfl); (focus (simp only [List.length_cons, List.length_nil, Nat.reduceAdd]; rfl))) | ((with_reducible first | apply og_split | apply dg_split | apply cg_split); all_goals (intro hc; (try simp only [bool_to_prop] at hc); try (exfalso; omega)))))
      all_goals exact ⟨i + 1, ⟨by omega, by exact gW e2, by exact gW m2, by exact gW e3, by exact gW m3, by exact gW e27, by exact gS⟩, by omega⟩
    · (focus (refine wkad (w_a e2 (w_a m2 (w_a e3 (w_a m3 (w_a e27 (w_a e28 (w_a hCD (w_a hlV w_t)))))))) w_t w_t ?_; (repeat' first | exact w_t | apply w_l); all_goals intros))
      refine r_loopE (ι := Nat) (fun i e m => i ≤ k ∧ e 2 = .pbox 2 g2 0 ∧ m 2 = some (.box g2 30 [.sl 2 C, .sl 3 V] false) ∧ e 3 = .pbox 3 g3 0 ∧ m 3 = some (.box g3 30 [.sl 2 D, .sl 3 V] false) ∧ e 44 = .sl 2 C ∧ e 45 = iv D.length ∧ e 46 = iv i) (fun i => D.length - i) 0 (by rfl) ?_ ?_
      · rintro i e m ⟨hi, e2, m2, e3, m3, e44, e45, e46⟩
        by_cases hlt : i < k
        · obtain ⟨u, v, u', v', h1, h2, r1, r2, q1, q2⟩ := hgood i hlt
          have hlt2 : i < D.length := by omega
          (focus (refine wkad (w_a e2 (w_a m2 (w_a e3 (w_a m3 (w_a e44 (w_a e45 (w_a e46 (w_a hCD (w_a h1 (w_a h2 w_t)))))))))) (w_a r1 (w_a r2 (w_a q1 (w_a q2 w_t)))) w_t ?_; (repeat' first | exact w_t | apply w_l); all_goals intros))
          all_goals exact ⟨i + 1, ⟨by omega, by exact gW e2, by exact gW m2, by exact gW e3, by exact gW m3, by exact gW e44, by exact gW e45, by exact gS⟩, by omega⟩
        · by_cases hlt2 : i < D.length
          · obtain rfl : i = k := by omega
            rw [decide_eq_false (by omega)]
            obtain ⟨u, v, u', v', b, h1, h2, r1, hb⟩ := hbad hlt2
            cases b with
            | false =>
              clear hb
              (focus (refine wkad (w_a e2 (w_a m2 (w_a e3 (w_a m3 (w_a e44 (w_a e45 (w_a e46 (w_a hCD (w_a h1 (w_a h2 w_t)))))))))) (w_a r1 w_t) w_t ?_; (repeat' first | exact w_t | apply w_l); all_goals intros))
              all_goals (all_goals (try simp (disch := omega) only [go_sem, decide_eq_true, decide_eq_false, if_pos, if_neg, Int.reduceAdd, Int.reduceSub, Int.reduceToNat, Int.zero_add])); (all_goals first | done | rfl | (congr 2; first | done | omega | (rw [Bool.eq_iff_iff]; simp only [bool_to_prop, Bool.false_eq_true, iff_true, true_iff, iff_false, false_iff]; omega)) | skip)
            | true =>
              obtain ⟨r2, q1⟩ := hb rfl
              (focus (refine wkad (w_a e2 (w_a m2 (w_a e3 (w_a m3 (w_a e44 (w_a e45 (w_a e46 (w_a hCD (w_a h1 (w_a h2 w_t)))))))))) (w_a r1 (w_a r2 (w_a q1 w_t))) w_t ?_; (repeat' first | exact w_t | apply w_l); all_goals intros))
              all_goals (all_goals (try simp (disch := omega) only [go_sem, decide_eq_true, decide_eq_false, if_pos, if_neg, Int.reduceAdd, Int.reduceSub, Int.reduceToNat, Int.zero_add])); (all_goals first | done | rfl | (congr 2; first | done | omega | (rw [Bool.eq_iff_iff]; simp only [bool_to_prop, Bool.false_eq_true, iff_true, true_iff, iff_false, false_iff]; omega)) | skip)
          · rw [decide_eq_true (by omega)]
            (focus (refine wkad (w_a e2 (w_a m2 (w_a e3 (w_a m3 (w_a e44 (w_a e45 (w_a e46 (w_a hCD w_t)))))))) w_t w_t ?_; (repeat' first | exact w_t | apply w_l); all_goals intros))
            all_goals (all_goals (try simp (disch := omega) only [go_sem, decide_eq_true, decide_eq_false, if_pos, if_neg, Int.reduceAdd, Int.reduceSub, Int.reduceToNat, Int.zero_add])); (all_goals first | done | rfl | (congr 2; first | done | omega | (rw [Bool.eq_iff_iff]; simp only [bool_to_prop, Bool.false_eq_true, iff_true, true_iff, iff_false, false_iff]; omega)) | skip)
      · exact ⟨Nat.zero_le _, by exact gW e2, by exact gW m2, by exact gW e3, by exact gW m3, by exact gC, by (simp (disch := omega) only [go_sem, hCD] <;> repeat' first | rfl | refine ⟨?_, ?_⟩), by exact gC⟩
  · exact ⟨Nat.zero_le _, by exact gC, by exact gC, by exact gC, by exact gC, by (simp (disch := omega) only [go_sem, hlV] <;> repeat' first | rfl | refine ⟨?_, ?_⟩), by exact gC⟩
set_option maxHeartbeats 4000000 in
theorem efLen (C D : List AV) (h : C.length ≠ D.length) : Pure Tryz.prog 66 [.sl 2 C, .sl 2 D, .fn 67 []] (.v (.bool false)) := by
  refine pure_intro (tok := 0) Tryz.func66 rfl Tryz.ntmps66 Tryz.results66 Tryz.call66 (by rfl) (by simp) ?_
  (focus (refine wklp (w_a h w_t) w_t w_t (w_r 0) ?_; (repeat' first | exact w_t | apply w_l); all_goals intros))
set_option maxHeartbeats 4000000 in
theorem efG (C D : List AV) (hCD : C.length = D.length) (hc : D.length ≤ 1000) (k : Nat) (hk : k ≤ D.length)
    (hgood : ∀ j, j < k → ∃ u v u' v', C.getD j .u = .agg [.sl 4 u, .sl 4 v] ∧ D.getD j .u = .agg [.sl 4 u', .sl 4 v'] ∧ Pure Tryz.prog 67 [.agg [.sl 4 u, .sl 4 v], .agg [.sl 4 u', .sl 4 v']] (.v (.bool true)))
    (hbad : k < D.length → ∃ u v u' v', C.getD k .u = .agg [.sl 4 u, .sl 4 v] ∧ D.getD k .u = .agg [.sl 4 u', .sl 4 v'] ∧ Pure Tryz.prog 67 [.agg [.sl 4 u, .sl 4 v], .agg [.sl 4 u', .sl 4 v']] (.v (.bool false))) :
    Pure Tryz.prog 66 [.sl 2 C, .sl 2 D, .fn 67 []] (.v (.bool (decide (k = D.length)))) := by
  refine pure_intro (tok := 0) Tryz.func66 rfl Tryz.ntmps66 Tryz.results66 Tryz.call66 (by rfl) (by simp) ?_
  (focus (refine wkap (w_a hCD w_t) w_t (w_r 0) ?_; (repeat' first | exact w_t | apply w_l); all_goals intros))
  refine r_loopE (ι := Nat) (fun i e m => i ≤ k ∧ e 1 = .sl 2 D ∧ e 2 = .fn 67 [] ∧ e 15 = .sl 2 C ∧ e 16 = iv D.length ∧ e 17 = iv i) (fun i => D.length - i) 0 (by rfl) ?_ ?_
  · rintro i e m ⟨hi, e1, e2, e15, e16, e17⟩
    by_cases hlt : i < k
    · obtain ⟨u, v, u', v', h1, h2, c⟩ := hgood i hlt
      have hlt2 : i < D.length := by omega
      (focus (refine wkap (w_a e1 (w_a e2 (w_a e15 (w_a e16 (w_a e17 (w_a hCD (w_a h1 (w_a h2 w_t)))))))) (w_a c w_t) (w_r 0) ?_; (repeat' first | exact w_t | apply w_l); all_goals intros))
      exact ⟨i + 1, ⟨by omega, by exact gW e1, by exact gW e2, by exact gW e15, by exact gW e16, by exact gS⟩, by omega⟩
    · by_cases hlt2 : i < D.length
      · obtain rfl : i = k := by omega
        rw [decide_eq_false (by omega)]
        obtain ⟨u, v, u', v', h1, h2, c⟩ := hbad hlt2
        (focus (refine wklp (w_a e1 (w_a e2 (w_a e15 (w_a e16 (w_a e17 (w_a hCD (w_a h1 (w_a h2 w_t)))))))) (w_a c w_t) w_t (w_r 0) ?_; (repeat' first | exact w_t | apply w_l); all_goals intros))
      · rw [decide_eq_true (by omega)]
        (focus (refine wklp (w_a e1 (w_a e2 (w_a e15 (w_a e16 (w_a e17 (w_a hCD w_t)))))) w_t w_t (w_r 0) ?_; (repeat' first | exact w_t | apply w_l); all_goals intros))
  · exact ⟨Nat.zero_le _, by exact gC, by exact gC, by exact gC, by (simp (disch := omega) only [go_sem, hCD] <;> repeat' first | rfl | refine ⟨?_, ?_⟩), by exact gC⟩
set_option maxHeartbeats 4000000 in
theorem coRightG {F : AV} (c v C V : List AV) (b1 b2 : Bool) (co : Pure Tryz.prog 15 [F] (.tup [.agg [.sl 2 c, .sl 3 v], iv 0])) (c1 : Pure Tryz.prog 65 [.sl 3 V, .sl 3 v] (.v (.bool b1)))
    (c2 : b1 = true → Pure Tryz.prog 66 [.sl 2 c, .sl 2 C, .fn 67 []] (.v (.bool b2))) (hF : ∃ a b, F = .agg [.sl 6 a, .sl 5 b]) :
    Pure Tryz.prog 25 [F, .agg [.sl 2 C, .sl 3 V]] (.v (.bool (b1 && b2))) := by
  obtain ⟨a, b, rfl⟩ := hF
  cases b1 with
  | false =>
    clear c2
    refine pure_intro (tok := 0) Tryz.func25 rfl Tryz.ntmps25 Tryz.results25 Tryz.call25 (by rfl) (by simp) ?_
    (focus (refine wklp w_t (w_a co (w_a c1 w_t)) w_t (w_r 0) ?_; (repeat' first | exact w_t | apply w_l); all_goals intros))
  | true =>
    have c2 := c2 rfl
    refine pure_intro (tok := 0) Tryz.func25 rfl Tryz.ntmps25 Tryz.results25 Tryz.call25 (by rfl) (by simp) ?_
    (focus (refine wklp w_t (w_a co (w_a c1 (w_a c2 w_t))) w_t (w_r 0) ?_; (repeat' first | exact w_t | apply w_l); all_goals intros))
set_option maxHeartbeats 4000000 in
theorem coRightE {F : AV} (c v C V : List AV) (z : Int) (hz : z ≠ 0) (co : Pure Tryz.prog 15 [F] (.tup [.agg [.sl 2 c, .sl 3 v], iv z])) (hF : ∃ a b, F = .agg [.sl 6 a, .sl 5 b]) :
    Pure Tryz.prog 25 [F, .agg [.sl 2 C, .sl 3 V]] (.v (.bool false)) := by
  obtain ⟨a, b, rfl⟩ := hF
  refine pure_intro (tok := 0) Tryz.func25 rfl Tryz.ntmps25 Tryz.results25 Tryz.call25 (by rfl) (by simp) ?_
  (focus (refine wklp (w_a hz w_t) (w_a co w_t) w_t (w_r 0) ?_; (repeat' first | exact w_t | apply w_l); all_goals intros))
end Go.Proofs.YtbgmnobnaplmlaaGreat
end

section
namespace Go.Proofs.YtbgmnobnaplmlaaGreat
open Go Go.RowKit Go.Pg Go.Pol
set_option linter.unusedSimpArgs false
set_option linter.unusedVariables false
set_option maxRecDepth 20000
attribute [local go_sem] Tryz.underlying3 Tryz.underlying4 Tryz.underlying178 Tryz.underlying9 Tryz.underlying48 Tryz.underlying31 Tryz.underlying43 Tryz.underlying41 Tryz.underlying39 Tryz.underlying50 Tryz.underlying22 Tryz.underlying25 Tryz.underlying56 Tryz.underlying28 Tryz.underlying72 Tryz.underlying27 Tryz.underlying30 Tryz.underlying105 Tryz.underlying107 Tryz.underlying70 Tryz.underlying63 Tryz.underlying103 Tryz.underlying154 sz3 by3 z3 szB zB szErr zErr szStr byStr zStr szRat zRat szInt zInt szNat zNat szStep byStep zStep szFig zFig szSlI zSlI szSlS zSlS szVar byVar zVar szSlV zSlV szCoord byCoord zCoord szSlC zSlC szFrame zFrame szCBld byCBld zCBld szCVec byCVec zCVec szPoly byPoly zPoly szTerm zTerm szPtrB zPtrB szFnC zFnC Tryz.underlying61 szMono Tryz.underlying5 Tryz.underlying65 szChg byChg szU8 byTerm byPoly
attribute [-bool_to_prop] Bool.and_eq_decide Bool.or_eq_decide Bool.decide_beq_decide decide_eq_decide
/-! ### which frames are right: the law -/
abbrev chgA (a : Nat) (v : Vt) (t : RT) : AV := .agg [.v (.int .u8 (a : Int)), iv v.1, iv v.2.1, iv v.2.2, .v (.bool t.r.s), lim t.r.l, lim t.r.d, ivs t.m]
set_option maxHeartbeats 4000000 in
theorem chg0 (C V : List AV) (a : Nat) (v1 v2 v3 : Int) (s : Bool) (l d m : List AV) (h : (a : Int).tmod 5 = 0) (hC : C.length ≤ 1000) (hV : V.length ≤ 1000) : Pure Tryz.prog 26 [.agg [.sl 2 C, .sl 3 V], .agg [.v (.int .u8 (a : Int)), iv v1, iv v2, iv v3, .v (.bool s), .sl 1 l, .sl 1 d, .sl 1 m]] (.agg [.sl 2 C, .sl 3 (V ++ [.agg [iv v1, iv v2, iv v3]])]) := by
  refine pure_intro (tok := 0) Tryz.func26 rfl Tryz.ntmps26 Tryz.results26 Tryz.call26 (by rfl) (by simp) ?_
  (focus (refine wkad (w_a h w_t) w_t (w_a (w_d 1 [] [3, 1003, 3003, 7, 1007, 3007] []) w_t) ?_; (repeat' first | exact w_t | apply w_l); all_goals intros))
  all_goals (all_goals (try simp (disch := omega) only [go_sem, decide_eq_true, decide_eq_false, if_pos, if_neg, Int.reduceAdd, Int.reduceSub, Int.reduceToNat, Int.zero_add])); (all_goals first | done | rfl | (congr 2; first | done | omega | (rw [Bool.eq_iff_iff]; simp only [bool_to_prop, Bool.false_eq_true, iff_true, true_iff, iff_false, false_iff]; omega)) | skip)
set_option maxHeartbeats 4000000 in
theorem chg1 (C V : List AV) (a i : Nat) (v1 v2 v3 : Int) (s : Bool) (l d m : List AV) (ha : a < 256) (h : (a : Int).tmod 5 = 1) (hC : C.length ≤ 1000) (hV : V.length ≤ 1000) (hi : i < V.length) (hm : (a : Int).tmod (V.length : Int) = (i : Int)) (x1 x2 x3 : AV) (hg : V.getD i .u = .agg [x1, x2, x3]) : Pure Tryz.prog 26 [.agg [.sl 2 C, .sl 3 V], .agg [.v (.int .u8 (a : Int)), iv v1, iv v2, iv v3, .v (.bool s), .sl 1 l, .sl 1 d, .sl 1 m]] (.agg [.sl 2 C, .sl 3 (V.set i (.agg [iv v1, iv v2, iv v3]))]) := by
  refine pure_intro (tok := 0) Tryz.func26 rfl Tryz.ntmps26 Tryz.results26 Tryz.call26 (by rfl) (by simp) ?_
  (focus (refine wkax (w_a h (w_a ha (w_a hm (w_a hi (w_a hg w_t))))) w_t (w_a (w_d 1 [] [3, 1003, 3003, 7, 1007, 3007] []) (w_a (w_d 7 [] [12] []) (w_a (w_d 11 [] [10, 1010, 3010, 14, 1014, 17] []) w_t))) w_t w_t w_t (w_r 0) ?_; (repeat' first | exact w_t | apply w_l); all_goals intros))
  all_goals (all_goals (try simp (disch := omega) only [go_sem, decide_eq_true, decide_eq_false, if_pos, if_neg, Int.reduceAdd, Int.reduceSub, Int.reduceToNat, Int.zero_add])); (all_goals first | done | rfl | (congr 2; first | done | omega | (rw [Bool.eq_iff_iff]; simp only [bool_to_prop, Bool.false_eq_true, iff_true, true_iff, iff_false, false_iff]; omega)) | skip)
set_option maxHeartbeats 4000000 in
theorem chg2 (C V : List AV) (a i : Nat) (v1 v2 v3 : Int) (s : Bool) (l d m : List AV) (ha : a < 256) (h : (a : Int).tmod 5 = 2) (hC : C.length ≤ 1000) (hV : V.length ≤ 1000) (hi : i < C.length) (hm : (a : Int).tmod (C.length : Int) = (i : Int)) (u w : List AV) (hu : u.length ≤ 100000) (hg : C.getD i .u = .agg [.sl 4 u, .sl 4 w]) : Pure Tryz.prog 26 [.agg [.sl 2 C, .sl 3 V], .agg [.v (.int .u8 (a : Int)), iv v1, iv v2, iv v3, .v (.bool s), .sl 1 l, .sl 1 d, .sl 1 m]] (.agg [.sl 2 (C.set i (.agg [.sl 4 (u ++ [.agg [.v (.bool s), .sl 1 l, .sl 1 d, .sl 1 m]]), .sl 4 w])), .sl 3 V]) := by
  refine pure_intro (tok := 0) Tryz.func26 rfl Tryz.ntmps26 Tryz.results26 Tryz.call26 (by rfl) (by simp) ?_
  (focus (refine wkax (w_a h (w_a ha (w_a hm (w_a hi (w_a hg w_t))))) w_t (w_a (w_d 1 [] [3, 1003, 3003, 7, 1007, 3007] []) (w_a (w_d 7 [] [12] []) (w_a (w_d 11 [] [10, 1010, 3010, 14, 1014, 17] []) w_t))) w_t w_t w_t (w_r 0) ?_; (repeat' first | exact w_t | apply w_l); all_goals intros))
  all_goals (all_goals (try simp (disch := omega) only [go_sem, decide_eq_true, decide_eq_false, if_pos, if_neg, Int.reduceAdd, Int.reduceSub, Int.reduceToNat, Int.zero_add])); (all_goals first | done | rfl | (congr 2; first | done | omega | (rw [Bool.eq_iff_iff]; simp only [bool_to_prop, Bool.false_eq_true, iff_true, true_iff, iff_false, false_iff]; omega)) | skip)
set_option maxHeartbeats 4000000 in
theorem chg3 (C V : List AV) (a : Nat) (v1 v2 v3 : Int) (s : Bool) (l d m : List AV) (h : (a : Int).tmod 5 = 3) (hC : C.length ≤ 1000) (hV : V.length ≤ 1000) (hi : 0 < C.length) : Pure Tryz.prog 26 [.agg [.sl 2 C, .sl 3 V], .agg [.v (.int .u8 (a : Int)), iv v1, iv v2, iv v3, .v (.bool s), .sl 1 l, .sl 1 d, .sl 1 m]] (.agg [.sl 2 (C.drop 1), .sl 3 V]) := by
  refine pure_intro (tok := 0) Tryz.func26 rfl Tryz.ntmps26 Tryz.results26 Tryz.call26 (by rfl) (by simp) ?_
  (focus (refine wkad (w_a h (w_a hi w_t)) w_t (w_a (w_d 1 [] [3, 1003, 3003, 7, 1007, 3007] []) w_t) ?_; (repeat' first | exact w_t | apply w_l); all_goals intros))
  all_goals (all_goals (try simp (disch := omega) only [go_sem, decide_eq_true, decide_eq_false, if_pos, if_neg, Int.reduceAdd, Int.reduceSub, Int.reduceToNat, Int.zero_add])); (all_goals first | done | rfl | (congr 2; first | done | omega | (rw [Bool.eq_iff_iff]; simp only [bool_to_prop, Bool.false_eq_true, iff_true, true_iff, iff_false, false_iff]; omega)) | skip)
  all_goals (try rw [show 1 + (C.length - 1) = C.length by omega, List.take_length])
set_option maxHeartbeats 4000000 in
theorem chg4 (C V : List AV) (a : Nat) (v1 v2 v3 : Int) (s : Bool) (l d m : List AV) (z : Int) (h : (a : Int).tmod 5 = z) (hz : z = 4 ∨ (z = 1 ∧ V.length = 0) ∨ (z = 2 ∧ C.length = 0) ∨ (z = 3 ∧ C.length = 0)) (hC : C.length ≤ 1000) (hV : V.length ≤ 1000) : Pure Tryz.prog 26 [.agg [.sl 2 C, .sl 3 V], .agg [.v (.int .u8 (a : Int)), iv v1, iv v2, iv v3, .v (.bool s), .sl 1 l, .sl 1 d, .sl 1 m]] (.agg [.sl 2 C, .sl 3 V]) := by
  refine pure_intro (tok := 0) Tryz.func26 rfl Tryz.ntmps26 Tryz.results26 Tryz.call26 (by rfl) (by simp) ?_
  rcases hz with rfl | ⟨rfl, h0⟩ | ⟨rfl, h0⟩ | ⟨rfl, h0⟩
  · (focus (refine wkad (w_a h w_t) w_t (w_a (w_d 1 [] [3, 1003, 3003, 7, 1007, 3007] []) w_t) ?_; (repeat' first | exact w_t | apply w_l); all_goals intros))
    all_goals (all_goals (try simp (disch := omega) only [go_sem, decide_eq_true, decide_eq_false, if_pos, if_neg, Int.reduceAdd, Int.reduceSub, Int.reduceToNat, Int.zero_add])); (all_goals first | done | rfl | (congr 2; first | done | omega | (rw [Bool.eq_iff_iff]; simp only [bool_to_prop, Bool.false_eq_true, iff_true, true_iff, iff_false, false_iff]; omega)) | skip)
  · (focus (refine wkad (w_a h (w_a h0 w_t)) w_t (w_a (w_d 1 [] [3, 1003, 3003, 7, 1007, 3007] []) w_t) ?_; (repeat' first | exact w_t | apply w_l); all_goals intros))
    all_goals (all_goals (try simp (disch := omega) only [go_sem, decide_eq_true, decide_eq_false, if_pos, if_neg, Int.reduceAdd, Int.reduceSub, Int.reduceToNat, Int.zero_add])); (all_goals first | done | rfl | (congr 2; first | done | omega | (rw [Bool.eq_iff_iff]; simp only [bool_to_prop, Bool.false_eq_true, iff_true, true_iff, iff_false, false_iff]; omega)) | skip)
  · (focus (refine wkad (w_a h (w_a h0 w_t)) w_t (w_a (w_d 1 [] [3, 1003, 3003, 7, 1007, 3007] []) w_t) ?_; (repeat' first | exact w_t | apply w_l); all_goals intros))
    all_goals (all_goals (try simp (disch := omega) only [go_sem, decide_eq_true, decide_eq_false, if_pos, if_neg, Int.reduceAdd, Int.reduceSub, Int.reduceToNat, Int.zero_add])); (all_goals first | done | rfl | (congr 2; first | done | omega | (rw [Bool.eq_iff_iff]; simp only [bool_to_prop, Bool.false_eq_true, iff_true, true_iff, iff_false, false_iff]; omega)) | skip)
  · (focus (refine wkad (w_a h (w_a h0 w_t)) w_t (w_a (w_d 1 [] [3, 1003, 3003, 7, 1007, 3007] []) w_t) ?_; (repeat' first | exact w_t | apply w_l); all_goals intros))
    all_goals (all_goals (try simp (disch := omega) only [go_sem, decide_eq_true, decide_eq_false, if_pos, if_neg, Int.reduceAdd, Int.reduceSub, Int.reduceToNat, Int.zero_add])); (all_goals first | done | rfl | (congr 2; first | done | omega | (rw [Bool.eq_iff_iff]; simp only [bool_to_prop, Bool.false_eq_true, iff_true, true_iff, iff_false, false_iff]; omega)) | skip)
set_option maxHeartbeats 4000000 in
theorem lawRights1 (M N c v C V : List AV) (a : Nat) (v1 v2 v3 : Int) (s : Bool) (l d m : List AV) (b : Bool) (hm : m.length ≤ 70) (hl : l.length ≤ 4) (hd : d.length ≤ 4)
    (cf : Pure Tryz.prog 14 [.agg [.sl 6 M, .sl 5 N]] (.v (.bool true)))
    (c1 : Pure Tryz.prog 16 [.agg [.sl 6 M, .sl 5 N]] (.tup [.agg [.sl 2 c, .sl 3 v], iv 0]))
    (c2 : Pure Tryz.prog 26 [.agg [.sl 2 c, .sl 3 v], .agg [.v (.int .u8 (a : Int)), iv v1, iv v2, iv v3, .v (.bool s), .sl 1 l, .sl 1 d, .sl 1 m]] (.agg [.sl 2 C, .sl 3 V]))
    (c3 : Pure Tryz.prog 25 [.agg [.sl 6 M, .sl 5 N], .agg [.sl 2 c, .sl 3 v]] (.v (.bool true)))
    (c4 : Pure Tryz.prog 25 [.agg [.sl 6 M, .sl 5 N], .agg [.sl 2 C, .sl 3 V]] (.v (.bool b)))
    (c5 : Pure Tryz.prog 17 [.agg [.sl 2 C, .sl 3 V], .agg [.sl 2 c, .sl 3 v]] (.v (.bool b))) :
    Pure Tryz.prog 6 [.agg [.sl 6 M, .sl 5 N], .agg [.v (.int .u8 (a : Int)), iv v1, iv v2, iv v3, .v (.bool s), .sl 1 l, .sl 1 d, .sl 1 m]] (.v (.bool true)) := by
  refine pure_intro (tok := 0) Tryz.func6 rfl Tryz.ntmps6 Tryz.results6 Tryz.call6 (by rfl) (by simp) ?_
  (focus (refine wkad (w_a hm (w_a hl (w_a hd w_t))) (w_a cf (w_a c1 (w_a c2 (w_a c3 (w_a c4 (w_a c5 w_t)))))) (w_a (w_d 7 [(2, .v (.bool true)), (6, .v (.bool b)), (9, .v (.bool b))] [] []) w_t) ?_; (repeat' first | exact w_t | apply w_l); all_goals intros))
  all_goals (all_goals (try simp (disch := omega) only [go_sem, decide_eq_true, decide_eq_false, if_pos, if_neg, Int.reduceAdd, Int.reduceSub, Int.reduceToNat, Int.zero_add])); (all_goals first | done | rfl | (congr 2; first | done | omega | (rw [Bool.eq_iff_iff]; simp only [bool_to_prop, Bool.false_eq_true, iff_true, true_iff, iff_false, false_iff]; omega)) | skip)
set_option maxHeartbeats 4000000 in
theorem lawRightsN (M N : List AV) (a : Nat) (v1 v2 v3 : Int) (s : Bool) (l d m : List AV) (b : Bool) (h : b = true → 70 < m.length ∨ 4 < l.length ∨ 4 < d.length)
    (cf : Pure Tryz.prog 14 [.agg [.sl 6 M, .sl 5 N]] (.v (.bool b))) :
    Pure Tryz.prog 6 [.agg [.sl 6 M, .sl 5 N], .agg [.v (.int .u8 (a : Int)), iv v1, iv v2, iv v3, .v (.bool s), .sl 1 l, .sl 1 d, .sl 1 m]] (.v (.bool true)) := by
  cases b with
  | false =>
    clear h
    refine pure_intro (tok := 0) Tryz.func6 rfl Tryz.ntmps6 Tryz.results6 Tryz.call6 (by rfl) (by simp) ?_
    (focus (refine wkad w_t (w_a cf w_t) w_t ?_; (repeat' first | exact w_t | apply w_l); all_goals intros))
    all_goals (all_goals (try simp (disch := omega) only [go_sem, decide_eq_true, decide_eq_false, if_pos, if_neg, Int.reduceAdd, Int.reduceSub, Int.reduceToNat, Int.zero_add])); (all_goals first | done | rfl | (congr 2; first | done | omega | (rw [Bool.eq_iff_iff]; simp only [bool_to_prop, Bool.false_eq_true, iff_true, true_iff, iff_false, false_iff]; omega)) | skip)
  | true =>
    have h := h rfl
    by_cases k1 : 70 < m.length
    · refine pure_intro (tok := 0) Tryz.func6 rfl Tryz.ntmps6 Tryz.results6 Tryz.call6 (by rfl) (by simp) ?_
      (focus (refine wkad (w_a k1 w_t) (w_a cf w_t) w_t ?_; (repeat' first | exact w_t | apply w_l); all_goals intros))
      all_goals (all_goals (try simp (disch := omega) only [go_sem, decide_eq_true, decide_eq_false, if_pos, if_neg, Int.reduceAdd, Int.reduceSub, Int.reduceToNat, Int.zero_add])); (all_goals first | done | rfl | (congr 2; first | done | omega | (rw [Bool.eq_iff_iff]; simp only [bool_to_prop, Bool.false_eq_true, iff_true, true_iff, iff_false, false_iff]; omega)) | skip)
    · by_cases k2 : 4 < l.length
      · refine pure_intro (tok := 0) Tryz.func6 rfl Tryz.ntmps6 Tryz.results6 Tryz.call6 (by rfl) (by simp) ?_
        (focus (refine wkad (w_a k1 (w_a k2 w_t)) (w_a cf w_t) w_t ?_; (repeat' first | exact w_t | apply w_l); all_goals intros))
        all_goals (all_goals (try simp (disch := omega) only [go_sem, decide_eq_true, decide_eq_false, if_pos, if_neg, Int.reduceAdd, Int.reduceSub, Int.reduceToNat, Int.zero_add])); (all_goals first | done | rfl | (congr 2; first | done | omega | (rw [Bool.eq_iff_iff]; simp only [bool_to_prop, Bool.false_eq_true, iff_true, true_iff, iff_false, false_iff]; omega)) | skip)
      · have k3 : 4 < d.length := by omega
        refine pure_intro (tok := 0) Tryz.func6 rfl Tryz.ntmps6 Tryz.results6 Tryz.call6 (by rfl) (by simp) ?_
        (focus (refine wkad (w_a k1 (w_a k2 (w_a k3 w_t))) (w_a cf w_t) w_t ?_; (repeat' first | exact w_t | apply w_l); all_goals intros))
        all_goals (all_goals (try simp (disch := omega) only [go_sem, decide_eq_true, decide_eq_false, if_pos, if_neg, Int.reduceAdd, Int.reduceSub, Int.reduceToNat, Int.zero_add])); (all_goals first | done | rfl | (congr 2; first | done | omega | (rw [Bool.eq_iff_iff]; simp only [bool_to_prop, Bool.false_eq_true, iff_true, true_iff, iff_false, false_iff]; omega)) | skip)
set_option maxHeartbeats 4000000 in
theorem lawRightsE (M N c v : List AV) (a : Nat) (v1 v2 v3 : Int) (s : Bool) (l d m : List AV) (z : Int) (hz : z ≠ 0) (hm : m.length ≤ 70) (hl : l.length ≤ 4) (hd : d.length ≤ 4)
    (cf : Pure Tryz.prog 14 [.agg [.sl 6 M, .sl 5 N]] (.v (.bool true)))
    (c1 : Pure Tryz.prog 16 [.agg [.sl 6 M, .sl 5 N]] (.tup [.agg [.sl 2 c, .sl 3 v], iv z]))
    (c3 : Pure Tryz.prog 25 [.agg [.sl 6 M, .sl 5 N], .agg [.sl 2 c, .sl 3 v]] (.v (.bool false))) :
    Pure Tryz.prog 6 [.agg [.sl 6 M, .sl 5 N], .agg [.v (.int .u8 (a : Int)), iv v1, iv v2, iv v3, .v (.bool s), .sl 1 l, .sl 1 d, .sl 1 m]] (.v (.bool true)) := by
  refine pure_intro (tok := 0) Tryz.func6 rfl Tryz.ntmps6 Tryz.results6 Tryz.call6 (by rfl) (by simp) ?_
  (focus (refine wkad (w_a hm (w_a hl (w_a hd (w_a hz w_t)))) (w_a cf (w_a c1 (w_a c3 w_t))) w_t ?_; (repeat' first | exact w_t | apply w_l); all_goals intros))
  all_goals (all_goals (try simp (disch := omega) only [go_sem, decide_eq_true, decide_eq_false, if_pos, if_neg, Int.reduceAdd, Int.reduceSub, Int.reduceToNat, Int.zero_add])); (all_goals first | done | rfl | (congr 2; first | done | omega | (rw [Bool.eq_iff_iff]; simp only [bool_to_prop, Bool.false_eq_true, iff_true, true_iff, iff_false, false_iff]; omega)) | skip)
end Go.Proofs.YtbgmnobnaplmlaaGreat
end

section
namespace Go.Proofs.YtbgmnobnaplmlaaGreat
open Go Go.RowKit Go.Pg Go.Pol
set_option linter.unusedSimpArgs false
set_option linter.unusedVariables false
set_option maxRecDepth 20000
attribute [-bool_to_prop] Bool.and_eq_decide Bool.or_eq_decide Bool.decide_beq_decide decide_eq_decide
section
variable {N n : Nat} {cs : List AV}
theorem agInt : aggTy Tryz.prog 3 = false := by kernel_rfl
theorem csInt : Tryz.prog.cellsOf 3 = 1 := by kernel_rfl
theorem shIvs (h : Shape Tryz.prog N n 48 cs) : ∃ l : List Int, cs = [ivs l] ∧ l.length ≤ N := by
  obtain ⟨bs, rfl, hl, _⟩ := shape_sliceOf (g := fun k : Int => [iv k]) (Q := fun _ => True) Tryz.underlying48 h fun m x hx => by
    obtain ⟨i, rfl, _⟩ := shape_int Tryz.underlying3 hx
    exact ⟨i, rfl, trivial⟩
  refine ⟨bs, ?_, hl⟩
  rw [csInt]
  have : (bs.map fun b : Int => wrapA Tryz.prog 3 [iv b]) = bs.map iv := List.map_congr_left fun b _ => wrapA_one agInt _
  rw [this]
theorem shStep (h : Shape Tryz.prog N n 50 cs) : ∃ s : RS, cs = [iv s.k, strA s.nm, ivs s.ar, .v (.bool s.r.s), lim s.r.l, lim s.r.d] ∧ s.r.lm N ∧ s.nm.size ≤ N ∧ s.ar.length ≤ N := by
  obtain ⟨m, rfl, hs⟩ := shape_struct Tryz.underlying50 (by kernel_rfl) h
  obtain ⟨x, y, rfl, h1, hs⟩ := hs.inv
  obtain ⟨x2, y, rfl, h2, hs⟩ := hs.inv
  obtain ⟨x3, y, rfl, h3, hs⟩ := hs.inv
  obtain ⟨x4, y, rfl, h4, hs⟩ := hs.inv
  obtain rfl := hs.inv0
  obtain ⟨k, rfl, _⟩ := shape_int Tryz.underlying3 h1
  obtain ⟨nm, rfl, hn⟩ := shape_string Tryz.underlying9 h2
  obtain ⟨ar, rfl, ha⟩ := shIvs h3
  obtain ⟨r, rfl, hr⟩ := shRat h4
  exact ⟨⟨k, nm, ar, r⟩, rfl, hr, hn, ha⟩
theorem shFact (h : Shape Tryz.prog N n 124 cs) : ∃ g : RG, cs = [iv g.k, ivs g.ar, .v (.bool g.r.s), lim g.r.l, lim g.r.d] ∧ g.r.lm N ∧ g.ar.length ≤ N := by
  obtain ⟨m, rfl, hs⟩ := shape_struct Tryz.underlying124 (by kernel_rfl) h
  obtain ⟨x, y, rfl, h1, hs⟩ := hs.inv
  obtain ⟨x3, y, rfl, h3, hs⟩ := hs.inv
  obtain ⟨x4, y, rfl, h4, hs⟩ := hs.inv
  obtain rfl := hs.inv0
  obtain ⟨k, rfl, _⟩ := shape_int Tryz.underlying3 h1
  obtain ⟨ar, rfl, ha⟩ := shIvs h3
  obtain ⟨r, rfl, hr⟩ := shRat h4
  exact ⟨⟨k, ar, r⟩, rfl, hr, ha⟩
theorem shSteps (h : Shape Tryz.prog N n 22 cs) : ∃ l : List RS, cs = [.sl 6 (l.map RS.av)] ∧ l.length ≤ N ∧ ∀ s ∈ l, s.r.lm N ∧ s.nm.size ≤ N ∧ s.ar.length ≤ N := by
  obtain ⟨bs, rfl, hl, hq⟩ := shape_sliceOf (g := fun s : RS => [iv s.k, strA s.nm, ivs s.ar, .v (.bool s.r.s), lim s.r.l, lim s.r.d]) (Q := fun s => s.r.lm N ∧ s.nm.size ≤ N ∧ s.ar.length ≤ N) Tryz.underlying22 h fun m x hx => shStep hx
  refine ⟨bs, ?_, hl, hq⟩
  rw [show Tryz.prog.cellsOf 50 = 6 from by kernel_rfl]
  have : (bs.map fun s : RS => wrapA Tryz.prog 50 [iv s.k, strA s.nm, ivs s.ar, .v (.bool s.r.s), lim s.r.l, lim s.r.d]) = bs.map RS.av := List.map_congr_left fun b _ => wrapA_agg Tryz.underlying50 _
  rw [this]
theorem shFacts (h : Shape Tryz.prog N n 23 cs) : ∃ l : List RG, cs = [.sl 5 (l.map RG.av)] ∧ l.length ≤ N ∧ ∀ s ∈ l, s.r.lm N ∧ s.ar.length ≤ N := by
  obtain ⟨bs, rfl, hl, hq⟩ := shape_sliceOf (g := fun s : RG => [iv s.k, ivs s.ar, .v (.bool s.r.s), lim s.r.l, lim s.r.d]) (Q := fun s => s.r.lm N ∧ s.ar.length ≤ N) Tryz.underlying23 h fun m x hx => shFact hx
  refine ⟨bs, ?_, hl, hq⟩
  rw [show Tryz.prog.cellsOf 124 = 5 from by kernel_rfl]
  have : (bs.map fun s : RG => wrapA Tryz.prog 124 [iv s.k, ivs s.ar, .v (.bool s.r.s), lim s.r.l, lim s.r.d]) = bs.map RG.av := List.map_congr_left fun b _ => wrapA_agg Tryz.underlying124 _
  rw [this]
theorem shFigure (h : Shape Tryz.prog N n 25 cs) : ∃ (ss : List RS) (gs : List RG), wrapA Tryz.prog 25 cs = figA ss gs ∧ ss.length ≤ N ∧ gs.length ≤ N ∧ (∀ s ∈ ss, s.r.lm N ∧ s.nm.size ≤ N ∧ s.ar.length ≤ N) ∧ ∀ s ∈ gs, s.r.lm N ∧ s.ar.length ≤ N := by
  obtain ⟨m, rfl, hs⟩ := shape_struct Tryz.underlying25 (by kernel_rfl) h
  obtain ⟨x, y, rfl, h1, hs⟩ := hs.inv
  obtain ⟨x3, y, rfl, h3, hs⟩ := hs.inv
  obtain rfl := hs.inv0
  obtain ⟨ss, rfl, hl, hq⟩ := shSteps h1
  obtain ⟨gs, rfl, kl, kq⟩ := shFacts h3
  exact ⟨ss, gs, wrapA_agg Tryz.underlying25 _, hl, kl, hq, kq⟩
end
theorem lm_mono {r : RQ} {a b : Nat} (h : r.lm a) (hab : a ≤ b) : r.lm b := ⟨h.1, h.2.1, Nat.le_trans h.2.2.1 hab, Nat.le_trans h.2.2.2 hab⟩
end Go.Proofs.YtbgmnobnaplmlaaGreat
end

section
namespace Go.Proofs.YtbgmnobnaplmlaaGreat
open Go Go.RowKit Go.Pg Go.Pol
set_option linter.unusedSimpArgs false
set_option linter.unusedVariables false
set_option maxRecDepth 20000
attribute [local go_sem] Tryz.underlying3 Tryz.underlying4 Tryz.underlying178 Tryz.underlying9 Tryz.underlying48 Tryz.underlying31 Tryz.underlying43 Tryz.underlying41 Tryz.underlying39 Tryz.underlying50 Tryz.underlying22 Tryz.underlying25 Tryz.underlying56 Tryz.underlying28 Tryz.underlying72 Tryz.underlying27 Tryz.underlying30 Tryz.underlying105 Tryz.underlying107 Tryz.underlying70 Tryz.underlying63 Tryz.underlying103 Tryz.underlying154 sz3 by3 z3 szB zB szErr zErr szStr byStr zStr szRat zRat szInt zInt szNat zNat szStep byStep zStep szFig zFig szSlI zSlI szSlS zSlS szVar byVar zVar szSlV zSlV szCoord byCoord zCoord szSlC zSlC szFrame zFrame szCBld byCBld zCBld szCVec byCVec zCVec szPoly byPoly zPoly szTerm zTerm szPtrB zPtrB szFnC zFnC Tryz.underlying61 szMono Tryz.underlying5 Tryz.underlying65 szChg byChg szU8 byTerm byPoly
attribute [-bool_to_prop] Bool.and_eq_decide Bool.or_eq_decide Bool.decide_beq_decide decide_eq_decide
/-! ### which frames are right: put together -/
def RT.of (t : Tm) : RT := ⟨⟨decide (t.1.num < 0), toL t.1.num.natAbs, toL t.1.den⟩, t.2⟩
theorem RT.of_av (p : Po) : (p.map RT.of).map RT.av = p.map tmA := by rw [List.map_map]; rfl
theorem getD_setB {α : Type} {l : List α} {i j : Nat} {x d : α} (hi : i < l.length) : (l.set i x).getD j d = if j = i then x else l.getD j d := by
  rw [List.getD_eq_getElem?_getD, List.getD_eq_getElem?_getD, List.getElem?_set]
  by_cases h : i = j
  · subst h
    rw [if_pos rfl, if_pos rfl, if_pos hi]; rfl
  · rw [if_neg h, if_neg (Ne.symm h)]
/-- A frame's polynomial with one term more. -/
theorem rawMore (p : Po) (hp : Co p) (h64 : ∀ t ∈ p, t.2.length ≤ 64) (t : RT) (ht : t.r.lm 110) (R E : AV → AV → Prop)
    (hR : ∀ l : List RT, l.length ≤ 1000000000 → (∀ t ∈ l, t.r.lm 2000000) → R (.sl 4 (l.map RT.av)) (.v (.bool (polOk l))))
    (hE : ∀ q : Po, PK q 110 1048576 → SrtM q → q.length ≤ 1000000 → E (poA q) (.v (.bool (decide (q = p))))) :
    ∃ b, R (.sl 4 (p.map tmA ++ [t.av])) (.v (.bool b)) ∧ (b = true → E (.sl 4 (p.map tmA ++ [t.av])) (.v (.bool false))) := by
  have e : (p.map RT.of ++ [t]).map RT.av = p.map tmA ++ [t.av] := by rw [List.map_append, RT.of_av]; rfl
  have hl : ∀ s ∈ p.map RT.of ++ [t], s.r.lm 110 := fun s hs => by
    rcases List.mem_append.1 hs with h | h
    · obtain ⟨u, hu, rfl⟩ := List.mem_map.1 h
      have := (hp.pk u hu).1
      exact ⟨lm_toL _, lm_toL _, by have := this.1; show (toL u.1.num.natAbs).length ≤ _; omega, by have := this.2; show (toL u.1.den).length ≤ _; omega⟩
    · rw [List.mem_singleton] at h; subst h; exact ht
  have hn := hp.ln
  have h1 := hR (p.map RT.of ++ [t]) (by simp; omega) fun s hs => by obtain ⟨k1, k2, k3, k4⟩ := hl s hs; exact ⟨k1, k2, by omega, by omega⟩
  rw [e] at h1
  refine ⟨_, h1, fun hb => ?_⟩
  obtain ⟨h2, h3, h4, -⟩ := pol_in hb hl
  rw [← e, h2]
  have := hE _ h4 h3 (by simp; omega)
  rwa [decide_eq_false (fun he => by have := congrArg List.length he; simp at this)] at this
set_option maxHeartbeats 4000000 in
theorem lawRights (ss : List RS) (gs : List RG) (a : Nat) (v : Vt) (t : RT) (ha : a < 256) (h1 : ss.length ≤ 1000000000) (h2 : gs.length ≤ 1000000000) (hs : ∀ s ∈ ss, s.sm) (hg : ∀ g ∈ gs, g.sm) (ht : t.r.lm 2000000) : Pure Tryz.prog 6 [figA ss gs, chgA a v t] (.v (.bool true)) := by
  have cf := lwFits ss gs h1
  have cr := lwRight ss gs h1 h2 hs hg
  have ce := rlRight ss gs h1 h2 hs hg
  obtain ⟨v1, v2, v3⟩ := v
  by_cases hc : fitsB ss gs = true → 70 < (t.m.map iv).length ∨ 4 < (u16s t.r.l).length ∨ 4 < (u16s t.r.d).length
  · exact lawRightsN _ _ a v1 v2 v3 t.r.s _ _ _ _ hc cf
  have hf : fitsB ss gs = true := by
    cases h : fitsB ss gs with
    | true => rfl
    | false => exact absurd (fun h' => by rw [h] at h'; cases h') hc
  have hm : (t.m.map iv).length ≤ 70 ∧ (u16s t.r.l).length ≤ 4 ∧ (u16s t.r.d).length ≤ 4 := by
    refine Decidable.byContradiction fun h => hc fun _ => by omega
  obtain ⟨m1, m2, m3⟩ := hm
  rw [hf] at cf
  by_cases he : figE ss gs = 0
  · have ok := figOk_of he hs hf
    rw [he] at cr ce
    have co := coFrame1 ss gs cr ok
    have cq := rcFrame1 ss gs ce ok
    by_cases hb : (List.range ss.length).any (bigN ss) = true
    · rw [if_pos hb] at co cq
      have co := pure_vkR co vk_big
      have cq := pure_vkR cq vk_big
      exact lawRightsE _ _ _ _ a v1 v2 v3 t.r.s _ _ _ 4 (by decide) m1 m2 m3 cf cq (coRightE _ _ _ _ 4 (by decide) co ⟨_, _, rfl⟩)
    · rw [if_neg hb] at co cq
      obtain ⟨D, hD, hn⟩ := ok.fi (i := ss.length) (Nat.le_refl _) fun j hj => by
        cases h : bigN ss j with
        | false => rfl
        | true => exact absurd (List.any_eq_true.2 ⟨j, List.mem_range.2 hj, h⟩) hb
      have hco := hD.co hn
      have hv := frN_small hb
      have hcl := frN_len ss ss.length
      have hll := ok.len
      have h64 : ∀ c ∈ (frN ss ss.length).cs, (∀ t ∈ c.1, t.2.length ≤ 64) ∧ (∀ t ∈ c.2, t.2.length ≤ 64) := fun c hc => by
        obtain ⟨g1, g2⟩ := hD.cs c hc
        exact ⟨fun t ht => Nat.le_trans (g1.2 t ht).2.1 hv, fun t ht => Nat.le_trans (g2.2 t ht).2.1 hv⟩
      clear hD cr ce hc hb he
      generalize frN ss ss.length = f at *
      obtain ⟨cs, vs, fr⟩ := f
      simp only at *
      have hcL : (cs.map coA).length = cs.length := List.length_map ..
      have hvL : (vs.map Vt.av).length = vs.length := List.length_map ..
      have hgC : ∀ i (h : i < cs.length), (cs.map coA).getD i .u = coA cs[i] := fun i h => map_atB coA h
      have hgV : ∀ i (h : i < vs.length), (vs.map Vt.av).getD i .u = vs[i].av := fun i h => map_atB Vt.av h
      -- the comparisons of good polynomials
      have pE : ∀ c ∈ cs, (Pure Tryz.prog 54 [poA c.1] (.v (.bool true)) ∧ Pure Tryz.prog 54 [poA c.2] (.v (.bool true))) ∧ Pure Tryz.prog 29 [poA c.1, poA c.1] (.v (.bool true)) ∧ Pure Tryz.prog 29 [poA c.2, poA c.2] (.v (.bool true)) := fun c hc => by
        obtain ⟨k1, k2⟩ := hco c hc
        have n1 := k1.ln
        have n2 := k2.ln
        have q1 := rpEqual c.1 c.1 k1.pk k1.pk (fun t ht => k1.st.1 t ht |>.2) (fun t ht => k1.st.1 t ht |>.2) (by omega) (by omega) (by omega) (by omega) (by omega) (by omega)
        have q2 := rpEqual c.2 c.2 k2.pk k2.pk (fun t ht => k2.st.1 t ht |>.2) (fun t ht => k2.st.1 t ht |>.2) (by omega) (by omega) (by omega) (by omega) (by omega) (by omega)
        rw [decide_eq_true rfl] at q1 q2
        exact ⟨⟨rpRight c.1 k1.pk k1.st (by omega) (by omega) (by omega) (h64 c hc).1, rpRight c.2 k2.pk k2.st (by omega) (by omega) (by omega) (h64 c hc).2⟩, q1, q2⟩
      have pI : ∀ c ∈ cs, Pure Tryz.prog 68 [poA c.1, poA c.1] (.v (.bool true)) ∧ Pure Tryz.prog 68 [poA c.2, poA c.2] (.v (.bool true)) := fun c hc => by
        obtain ⟨k1, k2⟩ := hco c hc
        have n1 := k1.ln
        have n2 := k2.ln
        exact ⟨idPoly c.1 k1.pk (by omega) (by omega), idPoly c.2 k2.pk (by omega) (by omega)⟩
      have eqG : ∀ j, j < cs.length → ∃ u v u' v', (cs.map coA).getD j .u = .agg [.sl 4 u, .sl 4 v] ∧ (cs.map coA).getD j .u = .agg [.sl 4 u', .sl 4 v'] ∧ Pure Tryz.prog 67 [.agg [.sl 4 u, .sl 4 v], .agg [.sl 4 u', .sl 4 v']] (.v (.bool true)) := fun j hj => by
        obtain ⟨i1, i2⟩ := pI _ (List.getElem_mem hj)
        exact ⟨_, _, _, _, hgC j hj, hgC j hj, idPt i1 i2⟩
      have smG : ∀ j, j < cs.length → ∃ u v u' v', (cs.map coA).getD j .u = .agg [.sl 4 u, .sl 4 v] ∧ (cs.map coA).getD j .u = .agg [.sl 4 u', .sl 4 v'] ∧ Pure Tryz.prog 54 [.sl 4 u] (.v (.bool true)) ∧ Pure Tryz.prog 54 [.sl 4 v] (.v (.bool true)) ∧ Pure Tryz.prog 29 [.sl 4 u, .sl 4 u'] (.v (.bool true)) ∧ Pure Tryz.prog 29 [.sl 4 v, .sl 4 v'] (.v (.bool true)) := fun j hj => by
        obtain ⟨⟨r1, r2⟩, q1, q2⟩ := pE _ (List.getElem_mem hj)
        exact ⟨_, _, _, _, hgC j hj, hgC j hj, r1, r2, q1, q2⟩
      have vE := slEqVar vs vs (by omega) (by omega)
      rw [decide_eq_true rfl] at vE
      have cE := efG (cs.map coA) (cs.map coA) rfl (by omega) cs.length (by omega) eqG (fun h => by omega)
      rw [decide_eq_true hcL.symm] at cE
      have sE := rcSameG (cs.map coA) (cs.map coA) vs (by omega) rfl (by omega) cs.length (by omega) smG (fun h => by omega)
      rw [decide_eq_true hcL.symm] at sE
      have c3 := coRightG (F := .agg [.sl 6 (ss.map RS.av), .sl 5 (gs.map RG.av)]) (cs.map coA) (vs.map Vt.av) (cs.map coA) (vs.map Vt.av) true true co vE (fun _ => cE) ⟨_, _, rfl⟩
      have fin : ∀ (C V : List AV) (b : Bool), Pure Tryz.prog 26 [.agg [.sl 2 (cs.map coA), .sl 3 (vs.map Vt.av)], .agg [.v (.int .u8 (a : Int)), iv v1, iv v2, iv v3, .v (.bool t.r.s), lim t.r.l, lim t.r.d, ivs t.m]] (.agg [.sl 2 C, .sl 3 V]) →
          Pure Tryz.prog 25 [figA ss gs, .agg [.sl 2 C, .sl 3 V]] (.v (.bool b)) → Pure Tryz.prog 17 [.agg [.sl 2 C, .sl 3 V], .agg [.sl 2 (cs.map coA), .sl 3 (vs.map Vt.av)]] (.v (.bool b)) →
          Pure Tryz.prog 6 [figA ss gs, chgA a (v1, v2, v3) t] (.v (.bool true)) := fun C V b k1 k2 k3 => lawRights1 _ _ _ _ _ _ a v1 v2 v3 t.r.s _ _ _ b m1 m2 m3 cf cq k1 c3 k2 k3
      have same4 : ∀ z : Int, (a : Int).tmod 5 = z → (z = 4 ∨ (z = 1 ∧ (vs.map Vt.av).length = 0) ∨ (z = 2 ∧ (cs.map coA).length = 0) ∨ (z = 3 ∧ (cs.map coA).length = 0)) → Pure Tryz.prog 6 [figA ss gs, chgA a (v1, v2, v3) t] (.v (.bool true)) := fun z hz h =>
        fin _ _ true (chg4 _ _ a v1 v2 v3 _ _ _ _ z hz h (by omega) (by omega)) c3 sE
      have rem : ∀ n : Nat, (a : Int).tmod (n : Int) = ((a % n : Nat) : Int) := fun n => rem_nat a n
      have r5 : (a : Int).tmod 5 = ((a % 5 : Nat) : Int) := rem 5
      have h5 : a % 5 = 0 ∨ a % 5 = 1 ∨ a % 5 = 2 ∨ a % 5 = 3 ∨ a % 5 = 4 := by omega
      rcases h5 with h5 | h5 | h5 | h5 | h5
      · rw [h5] at r5
        have q := slEqVar (vs ++ [(v1, v2, v3)]) vs (by simp; omega) (by omega)
        rw [decide_eq_false (fun e => by have := congrArg List.length e; simp at this), List.map_append] at q
        exact fin _ _ false (chg0 _ _ a v1 v2 v3 _ _ _ _ r5 (by omega) (by omega)) (coRightG _ _ _ _ false true co q (fun h => by cases h) ⟨_, _, rfl⟩) (rcSameL _ _ _ _ (.inr (by simp)))
      · rw [h5] at r5
        by_cases h0 : vs.length = 0
        · exact same4 1 r5 (.inr (.inl ⟨rfl, by omega⟩))
        · have hi : a % vs.length < vs.length := Nat.mod_lt _ (by omega)
          have hr := rem vs.length
          generalize a % vs.length = i at *
          have es : (vs.map Vt.av).set i (.agg [iv v1, iv v2, iv v3]) = (vs.set i (v1, v2, v3)).map Vt.av := by rw [List.map_set]
          have k1 := chg1 (cs.map coA) (vs.map Vt.av) a i v1 v2 v3 t.r.s (u16s t.r.l) (u16s t.r.d) (t.m.map iv) ha r5 (by omega) (by omega) (by omega) (by rw [hvL]; exact hr) _ _ _ (hgV i hi)
          rw [es] at k1
          have q := slEqVar (vs.set i (v1, v2, v3)) vs (by simp; omega) (by omega)
          by_cases e : vs.set i (v1, v2, v3) = vs
          · rw [e] at k1
            exact fin _ _ true k1 c3 sE
          · rw [decide_eq_false e] at q
            exact fin _ _ false k1 (coRightG _ _ _ _ false true co q (fun h => by cases h) ⟨_, _, rfl⟩) (rcSameV _ _ _ (by simp) (by omega) e)
      · rw [h5] at r5
        by_cases h0 : cs.length = 0
        · exact same4 2 r5 (.inr (.inr (.inl ⟨rfl, by omega⟩)))
        · have hi : a % cs.length < cs.length := Nat.mod_lt _ (by omega)
          have hr := rem cs.length
          generalize a % cs.length = i at *
          have hmem := List.getElem_mem hi
          obtain ⟨k1, k2⟩ := hco _ hmem
          obtain ⟨⟨r1, r2⟩, q1, q2⟩ := pE _ hmem
          obtain ⟨i1, i2⟩ := pI _ hmem
          have hgi := hgC i hi
          have n1 := k1.ln
          have tl : t.r.lm 110 := ⟨ht.1, ht.2.1, by rw [u16s_len] at m2; omega, by rw [u16s_len] at m3; omega⟩
          obtain ⟨b, rb, eb⟩ := rawMore cs[i].1 k1 (h64 _ hmem).1 t tl (fun x y => Pure Tryz.prog 54 [x] y) (fun x y => Pure Tryz.prog 29 [x, poA cs[i].1] y)
            (fun l ll hl => rawRight l ll hl) (fun q hq sq lq => rpEqual q cs[i].1 hq k1.pk (fun t ht => (sq.1 t ht).2) (fun t ht => (k1.st.1 t ht).2) lq (by omega) (by omega) (by omega) (by omega) (by omega))
          have iN := idLen cs[i].1 (cs[i].1.map tmA ++ [t.av]) (by simp) (by omega) (by simp; omega)
          generalize cs[i] = c at *
          obtain ⟨p, q⟩ := c
          simp only at *
          have hset : ∀ j, ((cs.map coA).set i (.agg [.sl 4 (p.map tmA ++ [t.av]), poA q])).getD j .u = if j = i then .agg [.sl 4 (p.map tmA ++ [t.av]), poA q] else (cs.map coA).getD j .u := fun j => getD_setB (by omega)
          have e1 := efG (cs.map coA) ((cs.map coA).set i (.agg [.sl 4 (p.map tmA ++ [t.av]), poA q])) (by simp) (by simp; omega) i (by simp; omega)
            (fun j hj => by
              obtain ⟨u, v, u', v', g1, g2, g3⟩ := eqG j (by omega)
              exact ⟨u, v, u', v', g1, by rw [hset, if_neg (by omega)]; exact g2, g3⟩)
            (fun _ => ⟨_, _, _, _, hgi, by rw [hset, if_pos rfl], idPt iN i2⟩)
          rw [decide_eq_false (by simp; omega)] at e1
          have e2 := rcSameG ((cs.map coA).set i (.agg [.sl 4 (p.map tmA ++ [t.av]), poA q])) (cs.map coA) vs (by omega) (by simp) (by omega) i (by omega)
            (fun j hj => by
              obtain ⟨u, v, u', v', g1, g2, g3⟩ := smG j (by omega)
              exact ⟨u, v, u', v', by rw [hset, if_neg (by omega)]; exact g1, g2, g3⟩)
            (fun _ => ⟨_, _, _, _, b, by rw [hset, if_pos rfl], hgi, rb, fun hb => ⟨r2, eb hb⟩⟩)
          rw [decide_eq_false (by omega)] at e2
          exact fin _ _ false (chg2 _ _ a i v1 v2 v3 _ _ _ _ ha r5 (by omega) (by omega) (by omega) (by rw [hcL]; exact hr) _ _ (by simp; omega) hgi) (coRightG _ _ _ _ true false co vE (fun _ => e1) ⟨_, _, rfl⟩) e2
      · rw [h5] at r5
        by_cases h0 : cs.length = 0
        · exact same4 3 r5 (.inr (.inr (.inr ⟨rfl, by omega⟩)))
        · exact fin _ _ false (chg3 _ _ a v1 v2 v3 _ _ _ _ r5 (by omega) (by omega) (by omega)) (coRightG _ _ _ _ true false co vE (fun _ => efLen _ _ (by simp; omega)) ⟨_, _, rfl⟩) (rcSameL _ _ _ _ (.inl (by simp; omega)))
      · rw [h5] at r5
        exact same4 4 r5 (.inl rfl)
  · exact lawRightsE _ _ _ _ a v1 v2 v3 t.r.s _ _ _ (figE ss gs) he m1 m2 m3 cf (rcFrame0 ss gs ce he) (coRightE _ _ _ _ (figE ss gs) he (coFrame0 ss gs cr he) ⟨_, _, rfl⟩)
/-! ### whatever comes in -/
theorem wf_u8' {i : Int} (h : (Lit.int .u8 i).wf = true) : 0 ≤ i ∧ i < 256 := by
  have h : (decide ((0 : Int) ≤ i) && decide (i ≤ 255)) = true := h
  simp only [Bool.and_eq_true, decide_eq_true_eq] at h
  omega
section
variable {N n : Nat} {cs : List AV}
theorem shMonoC (h : Shape Tryz.prog N n 61 cs) : ∃ l : List Int, cs = [ivs l] := by
  obtain ⟨bs, rfl, hl, _⟩ := shape_sliceOf (g := fun k : Int => [iv k]) (Q := fun _ => True) Tryz.underlying61 h fun m x hx => by
    obtain ⟨i, rfl, _⟩ := shape_int Tryz.underlying3 hx
    exact ⟨i, rfl, trivial⟩
  refine ⟨bs, ?_⟩
  rw [csInt]
  have : (bs.map fun b : Int => wrapA Tryz.prog 3 [iv b]) = bs.map iv := List.map_congr_left fun b _ => wrapA_one agInt _
  rw [this]
theorem shChg (h : Shape Tryz.prog N n 65 cs) : ∃ (a : Nat) (v : Vt) (t : RT), wrapA Tryz.prog 65 cs = chgA a v t ∧ a < 256 ∧ t.r.lm N := by
  obtain ⟨m, rfl, hs⟩ := shape_struct Tryz.underlying65 (by kernel_rfl) h
  obtain ⟨x, y, rfl, h1, hs⟩ := hs.inv
  obtain ⟨x2, y, rfl, h2, hs⟩ := hs.inv
  obtain ⟨x3, y, rfl, h3, hs⟩ := hs.inv
  obtain rfl := hs.inv0
  obtain ⟨a, rfl, hw⟩ := shape_int Tryz.underlying5 h1
  obtain ⟨m2, rfl, hs2⟩ := shape_struct Tryz.underlying56 (by kernel_rfl) h2
  obtain ⟨y1, y, rfl, k1, hs2⟩ := hs2.inv
  obtain ⟨y2, y, rfl, k2, hs2⟩ := hs2.inv
  obtain ⟨y3, y, rfl, k3, hs2⟩ := hs2.inv
  obtain rfl := hs2.inv0
  obtain ⟨v1, rfl, _⟩ := shape_int Tryz.underlying3 k1
  obtain ⟨v2, rfl, _⟩ := shape_int Tryz.underlying3 k2
  obtain ⟨v3, rfl, _⟩ := shape_int Tryz.underlying3 k3
  obtain ⟨m3, hm3, hs3⟩ := shape_struct Tryz.underlying63 (by kernel_rfl) h3
  obtain rfl : m2 = m3 := by omega
  obtain ⟨z1, y, rfl, q1, hs3⟩ := hs3.inv
  obtain ⟨z2, y, rfl, q2, hs3⟩ := hs3.inv
  obtain rfl := hs3.inv0
  obtain ⟨r, rfl, hr⟩ := shRat q1
  obtain ⟨l, rfl⟩ := shMonoC q2
  have hk := wf_u8' hw
  refine ⟨a.toNat, (v1, v2, v3), ⟨r, l⟩, ?_, by omega, hr⟩
  rw [show a = ((a.toNat : Nat) : Int) by omega]
  exact wrapA_agg Tryz.underlying65 _
end
theorem saidRights (xs : List AV) (h : ShapeL Tryz.prog 1048576 9 [25, 65] xs) : Pure Tryz.prog 6 xs (.v (.bool true)) := by
  obtain ⟨x, bs, rfl, h1, h⟩ := h.inv
  obtain ⟨y, bs, rfl, h2, h⟩ := h.inv
  obtain rfl := h.inv0
  obtain ⟨ss, gs, e, hl, kl, hq, kq⟩ := shFigure h1
  obtain ⟨a, v, t, e2, ha, ht⟩ := shChg h2
  rw [e, e2]
  exact lawRights ss gs a v t ha (by omega) (by omega) (fun s hs => ⟨lm_mono (hq s hs).1 (by decide), Nat.le_trans (hq s hs).2.1 (by decide), Nat.le_trans (hq s hs).2.2 (by decide)⟩) (fun g hg => ⟨lm_mono (kq g hg).1 (by decide), Nat.le_trans (kq g hg).2 (by decide)⟩) (lm_mono ht (by decide))
end Go.Proofs.YtbgmnobnaplmlaaGreat
end
