/- Contracts of the functions that the law reaches, and the rules by which they are walked. They say what a call hands back for every input within the bounds that each names; no other condition. -/
import Derived.Test.YtbgmnobnaplmlaaGreatBb5
section
namespace Go.Proofs.YtbgmnobnaplmlaaGreat
open Go Go.RowKit Go.Pg Go.Pol
set_option linter.unusedSimpArgs false
set_option linter.unusedVariables false
set_option maxRecDepth 20000
attribute [local go_sem] Tryz.underlying3 Tryz.underlying4 Tryz.underlying178 Tryz.underlying9 Tryz.underlying48 Tryz.underlying31 Tryz.underlying43 Tryz.underlying41 Tryz.underlying39 Tryz.underlying50 Tryz.underlying22 Tryz.underlying25 Tryz.underlying56 Tryz.underlying28 Tryz.underlying72 Tryz.underlying27 Tryz.underlying30 Tryz.underlying105 Tryz.underlying107 Tryz.underlying70 Tryz.underlying63 Tryz.underlying103 Tryz.underlying154 sz3 by3 z3 szB zB szErr zErr szStr byStr zStr szRat zRat szInt zInt szNat zNat szStep byStep zStep szFig zFig szSlI zSlI szSlS zSlS szVar byVar zVar szSlV zSlV szCoord byCoord zCoord szSlC zSlC szFrame zFrame szCBld byCBld zCBld szCVec byCVec zCVec szPoly byPoly zPoly szTerm zTerm szPtrB zPtrB szFnC zFnC
attribute [-bool_to_prop] Bool.and_eq_decide Bool.or_eq_decide Bool.decide_beq_decide decide_eq_decide
theorem eqVar : eqTy Tryz.prog 56 = true := by kernel_rfl
set_option maxHeartbeats 8000000 in
/-- The reference's comparison of a frame with itself. -/
theorem rcSame (cs : List (Po × Po)) (vs : List Vt) (hv : vs.length ≤ 1000) (hc : cs.length ≤ 1000)
    (hr : ∀ c ∈ cs, (Pure Tryz.prog 54 [poA c.1] (.v (.bool true)) ∧ Pure Tryz.prog 54 [poA c.2] (.v (.bool true))) ∧ Pure Tryz.prog 29 [poA c.1, poA c.1] (.v (.bool true)) ∧ Pure Tryz.prog 29 [poA c.2, poA c.2] (.v (.bool true))) :
    Pure Tryz.prog 17 [frmA cs vs, frmA cs vs] (.v (.bool true)) := by
  have hlC : (cs.map coA).length = cs.length := List.length_map ..
  have hlV : (vs.map Vt.av).length = vs.length := List.length_map ..
  have hgV : ∀ i (h : i < vs.length), (vs.map Vt.av).getD i .u = vs[i].av := fun i h => map_atB Vt.av h
  have hgC : ∀ i (h : i < cs.length), (cs.map coA).getD i .u = coA cs[i] := fun i h => map_atB coA h
  show Pure _ _ [.agg [.sl 2 (cs.map coA), .sl 3 (vs.map Vt.av)], .agg [.sl 2 (cs.map coA), .sl 3 (vs.map Vt.av)]] _
  generalize cs.map coA = C at *
  generalize vs.map Vt.av = V at *
  refine pure_intro (tok := 0) Tryz.func17 rfl Tryz.ntmps17 Tryz.results17 Tryz.call17 (by rfl) (by simp) ?_
  (focus (refine wkad (w_a hlC (w_a hlV w_t)) w_t w_t ?_; (repeat' first | exact w_t | apply w_l); all_goals intros))
  rename_i g2 g3
  refine r_loopE (ι := Nat) (fun i e m => i ≤ vs.length ∧ e 2 = .pbox 2 g2 0 ∧ m 2 = some (.box g2 30 [.sl 2 C, .sl 3 V] false) ∧ e 3 = .pbox 3 g3 0 ∧ m 3 = some (.box g3 30 [.sl 2 C, .sl 3 V] false) ∧ e 27 = iv vs.length ∧ e 28 = iv i) (fun i => vs.length - i) 0 (by rfl) ?_ ?_
  · rintro i e m ⟨hi, e2, m2, e3, m3, e27, e28⟩
    by_cases hlt : i < vs.length
    · have hg := hgV i hlt
      generalize vs[i] = v at *
      obtain ⟨v1, v2, v3⟩ := v
      (repeat' (first | (with_reducible first | refine stp ?_ | apply gx1 | apply gx2 | apply gx3 | apply gx4 | apply gx5 | apply gx6 | apply gx7 | apply gy8 | apply gz2 | apply gz3) | (with_reducible refine all_v ?_; intro _) | ((with_reducible refine gE ?_); (try simp (disch := omega) only [go_sem, e2, m2, e3, m3, e27, e28, hlV, hg, eqVar, decide_eq_true, decide_eq_false, if_pos, if_neg, Int.reduceAdd, Int.reduceSub, Int.reduceToNat, Int.zero_add]) <;> first | rfl | omega) | with_reducible refine t_in_other (by decide) ?_ | ((with_reducible apply gy1); iterate 3 focus rfl) | ((with_reducible apply gy2); iterate 3 focus rfl) | ((with_reducible apply gy3); iterate 2 focus rfl) | ((with_reducible apply gy4); iterate 1 focus rfl) | ((with_reducible apply gy5); iterate 4 focus rfl) | ((with_reducible apply gy6); iterate 4 focus rfl) | ((with_reducible apply d_bar); iterate 3 focus rfl) | ((with_reducible apply q_pub); iterate 1 focus rfl) | ((with_reducible apply gy7); iterate 1 focus rfl) | ((with_reducible apply gy9); (focus ((with_reducible refine gE ?_); (try simp (disch := omega) only [go_sem, e2, m2, e3, m3, e27, e28, hlV, hg, eqVar, decide_eq_true, decide_eq_false, if_pos, if_neg, Int.reduceAdd, Int.reduceSub, Int.reduceToNat, Int.zero_add]) <;> rfl))) | ((with_reducible apply gz1); (focus first | rfl | (simp (disch := omega) only [go_sem, e2, m2, e3, m3, e27, e28, hlV, hg, eqVar, decide_eq_true, decide_eq_false, if_pos, if_neg, Int.reduceAdd, Int.reduceSub, Int.reduceToNat, Int.zero_add]; done))) | ((with_reducible apply r_drawD (pickR []) [] []); (focus kernel_rfl); (focus rfl); (focus kernel_rfl); (focus (simp only [List.length_cons, List.length_nil, Nat.reduceAdd]; rfl))) | ((with_reducible first | apply og_split | apply dg_split | apply cg_split); all_goals (intro hc; (try simp only [bool_to_prop] at hc); try (exfalso; omega)))))
      all_goals exact ⟨i + 1, ⟨by omega, by exact gW e2, by exact gW m2, by exact gW e3, by exact gW m3, by exact gW e27, by exact gS⟩, by omega⟩
    · (focus (refine wkad (w_a e2 (w_a m2 (w_a e3 (w_a m3 (w_a e27 (w_a e28 (w_a hlC (w_a hlV w_t)))))))) w_t w_t ?_; (repeat' first | exact w_t | apply w_l); all_goals intros))
      refine r_loopE (ι := Nat) (fun i e m => i ≤ cs.length ∧ e 2 = .pbox 2 g2 0 ∧ m 2 = some (.box g2 30 [.sl 2 C, .sl 3 V] false) ∧ e 3 = .pbox 3 g3 0 ∧ m 3 = some (.box g3 30 [.sl 2 C, .sl 3 V] false) ∧ e 44 = .sl 2 C ∧ e 45 = iv cs.length ∧ e 46 = iv i) (fun i => cs.length - i) 0 (by rfl) ?_ ?_
      · rintro i e m ⟨hi, e2, m2, e3, m3, e44, e45, e46⟩
        by_cases hlt : i < cs.length
        · have hg := hgC i hlt
          obtain ⟨⟨r1, r2⟩, q1, q2⟩ := hr _ (List.getElem_mem hlt)
          generalize cs[i] = c at *
          obtain ⟨c1, c2⟩ := c
          simp only at r1 r2 q1 q2
          (focus (refine wkad (w_a e2 (w_a m2 (w_a e3 (w_a m3 (w_a e44 (w_a e45 (w_a e46 (w_a hlC (w_a hg w_t))))))))) (w_a r1 (w_a r2 (w_a q1 (w_a q2 w_t)))) w_t ?_; (repeat' first | exact w_t | apply w_l); all_goals intros))
          all_goals exact ⟨i + 1, ⟨by omega, by exact gW e2, by exact gW m2, by exact gW e3, by exact gW m3, by exact gW e44, by exact gW e45, by exact gS⟩, by omega⟩
        · (focus (refine wkad (w_a e2 (w_a m2 (w_a e3 (w_a m3 (w_a e44 (w_a e45 (w_a e46 (w_a hlC w_t)))))))) w_t w_t ?_; (repeat' first | exact w_t | apply w_l); all_goals intros))
          all_goals (all_goals (try simp (disch := omega) only [go_sem, decide_eq_true, decide_eq_false, if_pos, if_neg, Int.reduceAdd, Int.reduceSub, Int.reduceToNat, Int.zero_add])); (all_goals first | done | rfl | (congr 2; first | done | omega | (rw [Bool.eq_iff_iff]; simp only [bool_to_prop, Bool.false_eq_true, iff_true, true_iff, iff_false, false_iff]; omega)) | skip)
      · exact ⟨Nat.zero_le _, by exact gW e2, by exact gW m2, by exact gW e3, by exact gW m3, by exact gC, by (simp (disch := omega) only [go_sem, hlC] <;> repeat' first | rfl | refine ⟨?_, ?_⟩), by exact gC⟩
  · exact ⟨Nat.zero_le _, by exact gC, by exact gC, by exact gC, by exact gC, by (simp (disch := omega) only [go_sem, hlV] <;> repeat' first | rfl | refine ⟨?_, ?_⟩), by exact gC⟩
set_option maxHeartbeats 4000000 in
theorem lawFrames1 (ss : List RS) (gs : List RG) (cs : List (Po × Po)) (vs : List Vt) (z : Int)
    (cf : Pure Tryz.prog 14 [figA ss gs] (.v (.bool true)))
    (c1 : Pure Tryz.prog 15 [figA ss gs] (.tup [frmA cs vs, iv z])) (c2 : Pure Tryz.prog 16 [figA ss gs] (.tup [frmA cs vs, iv z]))
    (c3 : Pure Tryz.prog 17 [frmA cs vs, frmA cs vs] (.v (.bool true))) : Pure Tryz.prog 3 [figA ss gs] (.v (.bool true)) := by
  have cf : Pure Tryz.prog 14 [.agg [.sl 6 (ss.map RS.av), .sl 5 (gs.map RG.av)]] (.v (.bool true)) := cf
  have c1 : Pure Tryz.prog 15 [.agg [.sl 6 (ss.map RS.av), .sl 5 (gs.map RG.av)]] (.tup [.agg [.sl 2 (cs.map coA), .sl 3 (vs.map Vt.av)], iv z]) := c1
  have c2 : Pure Tryz.prog 16 [.agg [.sl 6 (ss.map RS.av), .sl 5 (gs.map RG.av)]] (.tup [.agg [.sl 2 (cs.map coA), .sl 3 (vs.map Vt.av)], iv z]) := c2
  have c3 : Pure Tryz.prog 17 [.agg [.sl 2 (cs.map coA), .sl 3 (vs.map Vt.av)], .agg [.sl 2 (cs.map coA), .sl 3 (vs.map Vt.av)]] (.v (.bool true)) := c3
  show Pure _ _ [.agg [.sl 6 (ss.map RS.av), .sl 5 (gs.map RG.av)]] _
  generalize ss.map RS.av = M at *
  generalize gs.map RG.av = N at *
  generalize cs.map coA = C at *
  generalize vs.map Vt.av = V at *
  refine pure_intro (tok := 0) Tryz.func3 rfl Tryz.ntmps3 Tryz.results3 Tryz.call3 (by rfl) (by simp) ?_
  (focus (refine wkap w_t (w_a cf (w_a c1 (w_a c2 (w_a c3 w_t)))) (w_r 0) ?_; (repeat' first | exact w_t | apply w_l); all_goals intros))
  all_goals (all_goals (try simp (disch := omega) only [go_sem, decide_eq_true, decide_eq_false, if_pos, if_neg, Int.reduceAdd, Int.reduceSub, Int.reduceToNat, Int.zero_add])); (all_goals first | done | rfl | (congr 2; first | done | omega | (rw [Bool.eq_iff_iff]; simp only [bool_to_prop, Bool.false_eq_true, iff_true, true_iff, iff_false, false_iff]; omega)) | skip)
theorem vk_big {z : Int} : Vk (.tup [.agg [.v (.slice none 0 0), .v (.slice none 0 0)], iv z]) (.tup [frmA [] [], iv z]) := Vk.tupL (.cons (Vk.aggL (.cons (.nil 2) (.cons (.nil 3) .nil))) (.cons (.refl _) .nil))
set_option maxHeartbeats 2000000 in
theorem lawFrames (ss : List RS) (gs : List RG) (h1 : ss.length ≤ 1000000000) (h2 : gs.length ≤ 1000000000) (hs : ∀ s ∈ ss, s.sm) (hg : ∀ g ∈ gs, g.sm) : Pure Tryz.prog 3 [figA ss gs] (.v (.bool true)) := by
  have cf := lwFits ss gs h1
  have cr := lwRight ss gs h1 h2 hs hg
  have ce := rlRight ss gs h1 h2 hs hg
  have c0 := rcSame [] [] (by simp) (by simp) (by simp)
  cases hf : fitsB ss gs with
  | false =>
    rw [hf] at cf
    have cf : Pure Tryz.prog 14 [.agg [.sl 6 (ss.map RS.av), .sl 5 (gs.map RG.av)]] (.v (.bool false)) := cf
    clear hs hg cr ce c0
    show Pure _ _ [.agg [.sl 6 (ss.map RS.av), .sl 5 (gs.map RG.av)]] _
    generalize ss.map RS.av = M at *
    generalize gs.map RG.av = N at *
    refine pure_intro (tok := 0) Tryz.func3 rfl Tryz.ntmps3 Tryz.results3 Tryz.call3 (by rfl) (by simp) ?_
    (focus (refine wkap w_t (w_a cf w_t) (w_r 0) ?_; (repeat' first | exact w_t | apply w_l); all_goals intros))
    all_goals (all_goals (try simp (disch := omega) only [go_sem, decide_eq_true, decide_eq_false, if_pos, if_neg, Int.reduceAdd, Int.reduceSub, Int.reduceToNat, Int.zero_add])); (all_goals first | done | rfl | (congr 2; first | done | omega | (rw [Bool.eq_iff_iff]; simp only [bool_to_prop, Bool.false_eq_true, iff_true, true_iff, iff_false, false_iff]; omega)) | skip)
  | true =>
    rw [hf] at cf
    by_cases he : figE ss gs = 0
    · have ok := figOk_of he hs hf
      rw [he] at cr ce
      have co := coFrame1 ss gs cr ok
      have cq := rcFrame1 ss gs ce ok
      by_cases hb : (List.range ss.length).any (bigN ss) = true
      · rw [if_pos hb] at co cq
        exact lawFrames1 ss gs [] [] 4 cf (pure_vkR co vk_big) (pure_vkR cq vk_big) c0
      · rw [if_neg hb] at co cq
        obtain ⟨D, hD, hn⟩ := ok.fi (i := ss.length) (Nat.le_refl _) fun j hj => by
          cases h : bigN ss j with
          | false => rfl
          | true => exact absurd (List.any_eq_true.2 ⟨j, List.mem_range.2 hj, h⟩) hb
        have hco := hD.co hn
        have hv := frN_small hb
        refine lawFrames1 ss gs _ _ 0 cf co cq (rcSame _ _ (by omega) (by rw [frN_len]; have := ok.len; omega) fun c hc => ?_)
        obtain ⟨k1, k2⟩ := hco c hc
        obtain ⟨g1, g2⟩ := hD.cs c hc
        have n1 := k1.ln
        have n2 := k2.ln
        have q1 := rpEqual c.1 c.1 k1.pk k1.pk (fun t ht => k1.st.1 t ht |>.2) (fun t ht => k1.st.1 t ht |>.2) (by omega) (by omega) (by omega) (by omega) (by omega) (by omega)
        have q2 := rpEqual c.2 c.2 k2.pk k2.pk (fun t ht => k2.st.1 t ht |>.2) (fun t ht => k2.st.1 t ht |>.2) (by omega) (by omega) (by omega) (by omega) (by omega) (by omega)
        rw [decide_eq_true rfl] at q1 q2
        exact ⟨⟨rpRight c.1 k1.pk k1.st (by omega) (by omega) (by omega) fun t ht => Nat.le_trans (g1.2 t ht).2.1 hv, rpRight c.2 k2.pk k2.st (by omega) (by omega) (by omega) fun t ht => Nat.le_trans (g2.2 t ht).2.1 hv⟩, q1, q2⟩
    · exact lawFrames1 ss gs [] [] (figE ss gs) cf (coFrame0 ss gs cr he) (rcFrame0 ss gs ce he) c0
end Go.Proofs.YtbgmnobnaplmlaaGreat
end

section
namespace Go.Proofs.YtbgmnobnaplmlaaGreat
open Go Go.RowKit Go.Pg Go.Pol
set_option linter.unusedSimpArgs false
set_option linter.unusedVariables false
set_option maxRecDepth 20000
attribute [-bool_to_prop] Bool.and_eq_decide Bool.or_eq_decide Bool.decide_beq_decide decide_eq_decide
section
variable {N n : Nat} {cs : List AV}
theorem agInt : aggTy Tryz.prog 3 = false := by kernel_rfl
theorem csInt : Tryz.prog.cellsOf 3 = 1 := by kernel_rfl
theorem shIvs (h : Shape Tryz.prog N n 48 cs) : ∃ l : List Int, cs = [ivs l] ∧ l.length ≤ N := by
  obtain ⟨bs, rfl, hl, _⟩ := shape_sliceOf (g := fun k : Int => [iv k]) (Q := fun _ => True) Tryz.underlying48 h fun m x hx => by
    obtain ⟨i, rfl, _⟩ := shape_int Tryz.underlying3 hx
    exact ⟨i, rfl, trivial⟩
  refine ⟨bs, ?_, hl⟩
  rw [csInt]
  have : (bs.map fun b : Int => wrapA Tryz.prog 3 [iv b]) = bs.map iv := List.map_congr_left fun b _ => wrapA_one agInt _
  rw [this]
theorem shStep (h : Shape Tryz.prog N n 50 cs) : ∃ s : RS, cs = [iv s.k, strA s.nm, ivs s.ar, .v (.bool s.r.s), lim s.r.l, lim s.r.d] ∧ s.r.lm N ∧ s.nm.size ≤ N ∧ s.ar.length ≤ N := by
  obtain ⟨m, rfl, hs⟩ := shape_struct Tryz.underlying50 (by kernel_rfl) h
  obtain ⟨x, y, rfl, h1, hs⟩ := hs.inv
  obtain ⟨x2, y, rfl, h2, hs⟩ := hs.inv
  obtain ⟨x3, y, rfl, h3, hs⟩ := hs.inv
  obtain ⟨x4, y, rfl, h4, hs⟩ := hs.inv
  obtain rfl := hs.inv0
  obtain ⟨k, rfl, _⟩ := shape_int Tryz.underlying3 h1
  obtain ⟨nm, rfl, hn⟩ := shape_string Tryz.underlying9 h2
  obtain ⟨ar, rfl, ha⟩ := shIvs h3
  obtain ⟨r, rfl, hr⟩ := shRat h4
  exact ⟨⟨k, nm, ar, r⟩, rfl, hr, hn, ha⟩
theorem shFact (h : Shape Tryz.prog N n 124 cs) : ∃ g : RG, cs = [iv g.k, ivs g.ar, .v (.bool g.r.s), lim g.r.l, lim g.r.d] ∧ g.r.lm N ∧ g.ar.length ≤ N := by
  obtain ⟨m, rfl, hs⟩ := shape_struct Tryz.underlying124 (by kernel_rfl) h
  obtain ⟨x, y, rfl, h1, hs⟩ := hs.inv
  obtain ⟨x3, y, rfl, h3, hs⟩ := hs.inv
  obtain ⟨x4, y, rfl, h4, hs⟩ := hs.inv
  obtain rfl := hs.inv0
  obtain ⟨k, rfl, _⟩ := shape_int Tryz.underlying3 h1
  obtain ⟨ar, rfl, ha⟩ := shIvs h3
  obtain ⟨r, rfl, hr⟩ := shRat h4
  exact ⟨⟨k, ar, r⟩, rfl, hr, ha⟩
theorem shSteps (h : Shape Tryz.prog N n 22 cs) : ∃ l : List RS, cs = [.sl 6 (l.map RS.av)] ∧ l.length ≤ N ∧ ∀ s ∈ l, s.r.lm N ∧ s.nm.size ≤ N ∧ s.ar.length ≤ N := by
  obtain ⟨bs, rfl, hl, hq⟩ := shape_sliceOf (g := fun s : RS => [iv s.k, strA s.nm, ivs s.ar, .v (.bool s.r.s), lim s.r.l, lim s.r.d]) (Q := fun s => s.r.lm N ∧ s.nm.size ≤ N ∧ s.ar.length ≤ N) Tryz.underlying22 h fun m x hx => shStep hx
  refine ⟨bs, ?_, hl, hq⟩
  rw [show Tryz.prog.cellsOf 50 = 6 from by kernel_rfl]
  have : (bs.map fun s : RS => wrapA Tryz.prog 50 [iv s.k, strA s.nm, ivs s.ar, .v (.bool s.r.s), lim s.r.l, lim s.r.d]) = bs.map RS.av := List.map_congr_left fun b _ => wrapA_agg Tryz.underlying50 _
  rw [this]
theorem shFacts (h : Shape Tryz.prog N n 23 cs) : ∃ l : List RG, cs = [.sl 5 (l.map RG.av)] ∧ l.length ≤ N ∧ ∀ s ∈ l, s.r.lm N ∧ s.ar.length ≤ N := by
  obtain ⟨bs, rfl, hl, hq⟩ := shape_sliceOf (g := fun s : RG => [iv s.k, ivs s.ar, .v (.bool s.r.s), lim s.r.l, lim s.r.d]) (Q := fun s => s.r.lm N ∧ s.ar.length ≤ N) Tryz.underlying23 h fun m x hx => shFact hx
  refine ⟨bs, ?_, hl, hq⟩
  rw [show Tryz.prog.cellsOf 124 = 5 from by kernel_rfl]
  have : (bs.map fun s : RG => wrapA Tryz.prog 124 [iv s.k, ivs s.ar, .v (.bool s.r.s), lim s.r.l, lim s.r.d]) = bs.map RG.av := List.map_congr_left fun b _ => wrapA_agg Tryz.underlying124 _
  rw [this]
theorem shFigure (h : Shape Tryz.prog N n 25 cs) : ∃ (ss : List RS) (gs : List RG), wrapA Tryz.prog 25 cs = figA ss gs ∧ ss.length ≤ N ∧ gs.length ≤ N ∧ (∀ s ∈ ss, s.r.lm N ∧ s.nm.size ≤ N ∧ s.ar.length ≤ N) ∧ ∀ s ∈ gs, s.r.lm N ∧ s.ar.length ≤ N := by
  obtain ⟨m, rfl, hs⟩ := shape_struct Tryz.underlying25 (by kernel_rfl) h
  obtain ⟨x, y, rfl, h1, hs⟩ := hs.inv
  obtain ⟨x3, y, rfl, h3, hs⟩ := hs.inv
  obtain rfl := hs.inv0
  obtain ⟨ss, rfl, hl, hq⟩ := shSteps h1
  obtain ⟨gs, rfl, kl, kq⟩ := shFacts h3
  exact ⟨ss, gs, wrapA_agg Tryz.underlying25 _, hl, kl, hq, kq⟩
end
theorem lm_mono {r : RQ} {a b : Nat} (h : r.lm a) (hab : a ≤ b) : r.lm b := ⟨h.1, h.2.1, Nat.le_trans h.2.2.1 hab, Nat.le_trans h.2.2.2 hab⟩
end Go.Proofs.YtbgmnobnaplmlaaGreat
end

section
namespace Go.Proofs.YtbgmnobnaplmlaaGreat
open Go Go.RowKit Go.Pg Go.Pol
set_option linter.unusedSimpArgs false
set_option linter.unusedVariables false
set_option maxRecDepth 20000
attribute [-bool_to_prop] Bool.and_eq_decide Bool.or_eq_decide Bool.decide_beq_decide decide_eq_decide
theorem saidFrames (xs : List AV) (h : ShapeL Tryz.prog 1048576 9 [25] xs) : Pure Tryz.prog 3 xs (.v (.bool true)) := by
  obtain ⟨x, bs, rfl, h1, h⟩ := h.inv
  obtain rfl := h.inv0
  obtain ⟨ss, gs, e, hl, kl, hq, kq⟩ := shFigure h1
  rw [e]
  exact lawFrames ss gs (by omega) (by omega) (fun s hs => ⟨lm_mono (hq s hs).1 (by decide), Nat.le_trans (hq s hs).2.1 (by decide), Nat.le_trans (hq s hs).2.2 (by decide)⟩) (fun g hg => ⟨lm_mono (kq g hg).1 (by decide), Nat.le_trans (kq g hg).2 (by decide)⟩)
end Go.Proofs.YtbgmnobnaplmlaaGreat
end

section
namespace Go.Proofs.YtbgmnobnaplmlaaGreat
open Go Go.RowKit Go.Pg Go.Pol
set_option linter.unusedSimpArgs false
set_option linter.unusedVariables false
set_option maxRecDepth 20000
attribute [local go_sem] Tryz.underlying3 Tryz.underlying4 Tryz.underlying178 Tryz.underlying9 Tryz.underlying48 Tryz.underlying31 Tryz.underlying43 Tryz.underlying41 Tryz.underlying39 Tryz.underlying50 Tryz.underlying22 Tryz.underlying25 Tryz.underlying56 Tryz.underlying28 Tryz.underlying72 Tryz.underlying27 Tryz.underlying30 Tryz.underlying105 Tryz.underlying107 Tryz.underlying70 Tryz.underlying63 Tryz.underlying103 Tryz.underlying154 sz3 by3 z3 szB zB szErr zErr szStr byStr zStr szRat zRat szInt zInt szNat zNat szStep byStep zStep szFig zFig szSlI zSlI szSlS zSlS szVar byVar zVar szSlV zSlV szCoord byCoord zCoord szSlC zSlC szFrame zFrame szCBld byCBld zCBld szCVec byCVec zCVec szPoly byPoly zPoly szTerm zTerm szPtrB zPtrB szFnC zFnC Tryz.underlying5
attribute [-bool_to_prop] Bool.and_eq_decide Bool.or_eq_decide Bool.decide_beq_decide decide_eq_decide
/-! ### a figure's first steps -/
theorem getD_takeL {α : Type} {l : List α} {n i : Nat} {d : α} (h : i < n) : (l.take n).getD i d = l.getD i d := by
  rw [List.getD_eq_getElem?_getD, List.getElem?_take, if_pos h, ← List.getD_eq_getElem?_getD]
theorem frN_take (ss : List RS) (n : Nat) : ∀ i, i ≤ n → frN (ss.take n) i = frN ss i
  | 0, _ => rfl
  | i + 1, h => by
    show (frN (ss.take n) i).push i ((ss.take n).getD i RS.zero) = (frN ss i).push i (ss.getD i RS.zero)
    rw [frN_take ss n i (by omega), getD_takeL (by omega)]
theorem nfN_take (ss : List RS) (n : Nat) : ∀ i, i ≤ n → nfN (ss.take n) i = nfN ss i
  | 0, _ => rfl
  | i + 1, h => by
    show nfN (ss.take n) i + (if ((ss.take n).getD i RS.zero).k = 1 then 0 else 1) = nfN ss i + (if (ss.getD i RS.zero).k = 1 then 0 else 1)
    rw [nfN_take ss n i (by omega), getD_takeL (by omega)]
theorem bigN_take {ss : List RS} {n i : Nat} (h : i < n) : bigN (ss.take n) i = bigN ss i := by
  unfold bigN
  rw [frN_take ss n (i + 1) (by omega), frN_take ss n i (by omega), getD_takeL h]
theorem errS_take {ss : List RS} {n i : Nat} (h : i < n) : errS (ss.take n) i = errS ss i := by
  unfold errS
  rw [getD_takeL h, List.take_take, Nat.min_eq_left (by omega)]
theorem figE_take {ss : List RS} {gs : List RG} {n : Nat} (h : figE ss gs = 0) (hn : n ≤ ss.length) : figE (ss.take n) [] = 0 := by
  obtain ⟨h1, h2⟩ := figE_ok h
  have hl : (ss.take n).length = n := by rw [List.length_take]; omega
  have hz : fstE (errS (ss.take n)) n = 0 := fstE_zero fun j hj => by rw [errS_take hj]; exact h2 j (by omega)
  unfold figE
  rw [hl, if_neg (by simp only [List.length_nil]; omega), hz, if_neg (by simp)]
  rfl
theorem FigOk.take {ss : List RS} (h : FigOk ss) {n : Nat} (hn : n ≤ ss.length) : FigOk (ss.take n) := by
  have hl : (ss.take n).length = n := by rw [List.length_take]; omega
  have hlen := h.len
  refine ⟨by omega, fun i hi => by rw [errS_take (by omega)]; exact h.er i (by omega), fun s hs => h.lm s (List.mem_of_mem_take hs), ?_⟩
  rw [hl, nfN_take ss n n (Nat.le_refl _)]
  have := nfN_mono ss n (ss.length - n)
  rw [show n + (ss.length - n) = ss.length by omega] at this
  exact Nat.le_trans this h.nf
theorem frN_cs_pre (ss : List RS) (i : Nat) : ∀ j, (frN ss (i + j)).cs.take i = (frN ss i).cs
  | 0 => by rw [Nat.add_zero, List.take_of_length_le (by rw [frN_len]; exact Nat.le_refl _)]
  | j + 1 => by
    show ((frN ss (i + j)).cs ++ [_]).take i = _
    rw [List.take_append_of_le_length (by rw [frN_len]; omega)]
    exact frN_cs_pre ss i j
theorem frN_vs_pre (ss : List RS) (i : Nat) : ∀ j, (frN ss i).vs.length ≤ (frN ss (i + j)).vs.length ∧ (frN ss (i + j)).vs.take (frN ss i).vs.length = (frN ss i).vs
  | 0 => by rw [Nat.add_zero, List.take_length]; exact ⟨Nat.le_refl _, rfl⟩
  | j + 1 => by
    obtain ⟨h1, h2⟩ := frN_vs_pre ss i j
    have e : (frN ss (i + (j + 1))).vs = (frN ss (i + j)).vs ++ ((frN ss (i + j)).nxt (i + j) (ss.getD (i + j) RS.zero)).1 := rfl
    rw [e, List.take_append_of_le_length h1, List.length_append]
    exact ⟨by omega, h2⟩
set_option maxHeartbeats 4000000 in
theorem lawBeg1 (ss : List RS) (gs : List RG) (k n : Nat) (hk : k < 256) (hn : n = k % (ss.length + 1)) (hlen : ss.length ≤ 42) (cs cs' : List (Po × Po)) (vs vs' : List Vt)
    (cf : Pure Tryz.prog 14 [figA ss gs] (.v (.bool true))) (ce : Pure Tryz.prog 24 [figA ss gs] (iv 0))
    (c1 : Pure Tryz.prog 15 [figA ss gs] (.tup [frmA cs vs, iv 0])) (c2 : Pure Tryz.prog 15 [figA (ss.take n) []] (.tup [frmA cs' vs', iv 0]))
    (hcs : cs' = cs.take n) (hvs : vs' = vs.take vs'.length) (hvl : vs'.length ≤ vs.length) (hv : vs.length ≤ 1000) (hcl : cs.length = ss.length)
    (c3 : Pure Tryz.prog 17 [frmA cs' vs', frmA cs' vs'] (.v (.bool true))) : Pure Tryz.prog 5 [figA ss gs, .v (.int .u8 (k : Int))] (.v (.bool true)) := by
  have hnl : n ≤ ss.length := by have := Nat.mod_lt k (show 0 < ss.length + 1 by omega); omega
  have hm : (k : Int).tmod ((ss.length : Int) + 1) = (n : Int) := by rw [hn]; exact rem_nat k (ss.length + 1)
  have c2 : Pure Tryz.prog 15 [.agg [.sl 6 ((ss.map RS.av).take n), .v (.slice none 0 0)]] (.tup [.agg [.sl 2 (cs'.map coA), .sl 3 (vs'.map Vt.av)], iv 0]) := by
    refine pure_vkA (args' := [figA (ss.take n) []]) c2 (.cons (Vk.aggL (.cons ?_ (.cons (.nil 5) .nil))) .nil)
    rw [← List.map_take]
    exact .refl _
  have cf : Pure Tryz.prog 14 [.agg [.sl 6 (ss.map RS.av), .sl 5 (gs.map RG.av)]] (.v (.bool true)) := cf
  have ce : Pure Tryz.prog 24 [.agg [.sl 6 (ss.map RS.av), .sl 5 (gs.map RG.av)]] (iv 0) := ce
  have c1 : Pure Tryz.prog 15 [.agg [.sl 6 (ss.map RS.av), .sl 5 (gs.map RG.av)]] (.tup [.agg [.sl 2 (cs.map coA), .sl 3 (vs.map Vt.av)], iv 0]) := c1
  have c3 : Pure Tryz.prog 17 [.agg [.sl 2 (cs'.map coA), .sl 3 (vs'.map Vt.av)], .agg [.sl 2 (cs'.map coA), .sl 3 (vs'.map Vt.av)]] (.v (.bool true)) := c3
  have hC : (cs.map coA).take n = cs'.map coA := by rw [hcs, List.map_take]
  have hV : (vs.map Vt.av).take vs'.length = vs'.map Vt.av := by rw [← List.map_take, ← hvs]
  have hls : (ss.map RS.av).length = ss.length := List.length_map ..
  have hlC : (cs.map coA).length = ss.length := by rw [List.length_map, hcl]
  have hlV : (vs.map Vt.av).length = vs.length := List.length_map ..
  have hlW : (vs'.map Vt.av).length = vs'.length := List.length_map ..
  show Pure _ _ [.agg [.sl 6 (ss.map RS.av), .sl 5 (gs.map RG.av)], .v (.int .u8 (k : Int))] _
  clear hcs hvs hcl
  generalize vs'.length = lw at *
  generalize ss.map RS.av = M at *
  generalize gs.map RG.av = N at *
  generalize cs.map coA = C at *
  generalize vs.map Vt.av = V at *
  generalize cs'.map coA = C' at *
  generalize vs'.map Vt.av = V' at *
  refine pure_intro (tok := 0) Tryz.func5 rfl Tryz.ntmps5 Tryz.results5 Tryz.call5 (by rfl) (by simp) ?_
  (focus (refine wkad (w_a hls (w_a hlC (w_a hlV (w_a hlW (w_a hm (w_a hC (w_a hV w_t))))))) (w_a cf (w_a ce (w_a c1 (w_a c2 (w_a c3 w_t))))) (w_a (w_d 10 [(12, .v (.bool true))] [] []) w_t) ?_; (repeat' first | exact w_t | apply w_l); all_goals intros))
  all_goals (all_goals (try simp (disch := omega) only [go_sem, decide_eq_true, decide_eq_false, if_pos, if_neg, Int.reduceAdd, Int.reduceSub, Int.reduceToNat, Int.zero_add])); (all_goals first | done | rfl | (congr 2; first | done | omega | (rw [Bool.eq_iff_iff]; simp only [bool_to_prop, Bool.false_eq_true, iff_true, true_iff, iff_false, false_iff]; omega)) | skip)
set_option maxHeartbeats 4000000 in
theorem lawBeg (ss : List RS) (gs : List RG) (k : Nat) (hk : k < 256) (h1 : ss.length ≤ 1000000000) (h2 : gs.length ≤ 1000000000) (hs : ∀ s ∈ ss, s.sm) (hg : ∀ g ∈ gs, g.sm) : Pure Tryz.prog 5 [figA ss gs, .v (.int .u8 (k : Int))] (.v (.bool true)) := by
  have cf := lwFits ss gs h1
  have cr := lwRight ss gs h1 h2 hs hg
  have ce := rlRight ss gs h1 h2 hs hg
  cases hf : fitsB ss gs with
  | false =>
    rw [hf] at cf
    have cf : Pure Tryz.prog 14 [.agg [.sl 6 (ss.map RS.av), .sl 5 (gs.map RG.av)]] (.v (.bool false)) := cf
    clear hs hg cr ce
    show Pure _ _ [.agg [.sl 6 (ss.map RS.av), .sl 5 (gs.map RG.av)], .v (.int .u8 (k : Int))] _
    generalize ss.map RS.av = M at *
    generalize gs.map RG.av = N at *
    refine pure_intro (tok := 0) Tryz.func5 rfl Tryz.ntmps5 Tryz.results5 Tryz.call5 (by rfl) (by simp) ?_
    (focus (refine wkad w_t (w_a cf w_t) w_t ?_; (repeat' first | exact w_t | apply w_l); all_goals intros))
    all_goals (all_goals (try simp (disch := omega) only [go_sem, decide_eq_true, decide_eq_false, if_pos, if_neg, Int.reduceAdd, Int.reduceSub, Int.reduceToNat, Int.zero_add])); (all_goals first | done | rfl | (congr 2; first | done | omega | (rw [Bool.eq_iff_iff]; simp only [bool_to_prop, Bool.false_eq_true, iff_true, true_iff, iff_false, false_iff]; omega)) | skip)
  | true =>
    rw [hf] at cf
    by_cases he : figE ss gs = 0
    · have ok := figOk_of he hs hf
      rw [he] at cr ce
      have co := coFrame1 ss gs cr ok
      by_cases hb : (List.range ss.length).any (bigN ss) = true
      · rw [if_pos hb] at co
        have cf : Pure Tryz.prog 14 [.agg [.sl 6 (ss.map RS.av), .sl 5 (gs.map RG.av)]] (.v (.bool true)) := cf
        have ce : Pure Tryz.prog 24 [.agg [.sl 6 (ss.map RS.av), .sl 5 (gs.map RG.av)]] (iv 0) := ce
        have co : Pure Tryz.prog 15 [.agg [.sl 6 (ss.map RS.av), .sl 5 (gs.map RG.av)]] (.tup [.agg [.v (.slice none 0 0), .v (.slice none 0 0)], iv 4]) := co
        clear hs hg cr ok hb
        show Pure _ _ [.agg [.sl 6 (ss.map RS.av), .sl 5 (gs.map RG.av)], .v (.int .u8 (k : Int))] _
        generalize ss.map RS.av = M at *
        generalize gs.map RG.av = N at *
        refine pure_intro (tok := 0) Tryz.func5 rfl Tryz.ntmps5 Tryz.results5 Tryz.call5 (by rfl) (by simp) ?_
        (focus (refine wkad w_t (w_a cf (w_a ce (w_a co w_t))) w_t ?_; (repeat' first | exact w_t | apply w_l); all_goals intros))
        all_goals (all_goals (try simp (disch := omega) only [go_sem, decide_eq_true, decide_eq_false, if_pos, if_neg, Int.reduceAdd, Int.reduceSub, Int.reduceToNat, Int.zero_add])); (all_goals first | done | rfl | (congr 2; first | done | omega | (rw [Bool.eq_iff_iff]; simp only [bool_to_prop, Bool.false_eq_true, iff_true, true_iff, iff_false, false_iff]; omega)) | skip)
      · rw [if_neg hb] at co
        have hnl : k % (ss.length + 1) ≤ ss.length := by have := Nat.mod_lt k (show 0 < ss.length + 1 by omega); omega
        generalize hn : k % (ss.length + 1) = n at *
        have hl : (ss.take n).length = n := by rw [List.length_take]; omega
        have hnb : ∀ j, j < ss.length → bigN ss j = false := fun j hj => by
          cases h : bigN ss j with
          | false => rfl
          | true => exact absurd (List.any_eq_true.2 ⟨j, List.mem_range.2 hj, h⟩) hb
        have ok2 := ok.take hnl
        have cr2 := lwRight (ss.take n) [] (by omega) (by simp) (fun s h => hs s (List.mem_of_mem_take h)) (by simp)
        rw [figE_take he hnl] at cr2
        have c2 := coFrame1 (ss.take n) [] cr2 ok2
        have hb2 : ¬ (List.range (ss.take n).length).any (bigN (ss.take n)) = true := by
          rw [List.any_eq_true]
          rintro ⟨j, hj, h⟩
          rw [List.mem_range, hl] at hj
          rw [bigN_take hj, hnb j (by omega)] at h
          cases h
        rw [if_neg hb2, hl, frN_take ss n n (Nat.le_refl _)] at c2
        obtain ⟨D, hD, hn2⟩ := ok.fi (i := n) hnl fun j hj => hnb j (by omega)
        have hco := hD.co hn2
        have hv := hD.nv
        have p1 := frN_cs_pre ss n (ss.length - n)
        obtain ⟨p2, p3⟩ := frN_vs_pre ss n (ss.length - n)
        rw [show n + (ss.length - n) = ss.length by omega] at p1 p2 p3
        have hvb := frN_small hb
        refine lawBeg1 ss gs k n hk hn.symm (Nat.le_trans ok.len (by decide)) _ _ _ _ cf ce co c2 p1.symm p3.symm p2 (by omega) (frN_len ss _) (rcSame _ _ (by omega) (by rw [frN_len]; have := ok.len; omega) fun c hc => ?_)
        obtain ⟨k1, k2⟩ := hco c hc
        obtain ⟨g1, g2⟩ := hD.cs c hc
        have n1 := k1.ln
        have n2 := k2.ln
        have q1 := rpEqual c.1 c.1 k1.pk k1.pk (fun t ht => k1.st.1 t ht |>.2) (fun t ht => k1.st.1 t ht |>.2) (by omega) (by omega) (by omega) (by omega) (by omega) (by omega)
        have q2 := rpEqual c.2 c.2 k2.pk k2.pk (fun t ht => k2.st.1 t ht |>.2) (fun t ht => k2.st.1 t ht |>.2) (by omega) (by omega) (by omega) (by omega) (by omega) (by omega)
        rw [decide_eq_true rfl] at q1 q2
        exact ⟨⟨rpRight c.1 k1.pk k1.st (by omega) (by omega) (by omega) fun t ht => Nat.le_trans (g1.2 t ht).2.1 hv, rpRight c.2 k2.pk k2.st (by omega) (by omega) (by omega) fun t ht => Nat.le_trans (g2.2 t ht).2.1 hv⟩, q1, q2⟩
    · have ce : Pure Tryz.prog 24 [.agg [.sl 6 (ss.map RS.av), .sl 5 (gs.map RG.av)]] (iv (figE ss gs)) := ce
      have cf : Pure Tryz.prog 14 [.agg [.sl 6 (ss.map RS.av), .sl 5 (gs.map RG.av)]] (.v (.bool true)) := cf
      clear hs hg cr
      show Pure _ _ [.agg [.sl 6 (ss.map RS.av), .sl 5 (gs.map RG.av)], .v (.int .u8 (k : Int))] _
      generalize figE ss gs = z at *
      generalize ss.map RS.av = M at *
      generalize gs.map RG.av = N at *
      refine pure_intro (tok := 0) Tryz.func5 rfl Tryz.ntmps5 Tryz.results5 Tryz.call5 (by rfl) (by simp) ?_
      (focus (refine wkad w_t (w_a cf (w_a ce w_t)) w_t ?_; (repeat' first | exact w_t | apply w_l); all_goals intros))
      all_goals (all_goals (try simp (disch := omega) only [go_sem, decide_eq_true, decide_eq_false, if_pos, if_neg, Int.reduceAdd, Int.reduceSub, Int.reduceToNat, Int.zero_add])); (all_goals first | done | rfl | (congr 2; first | done | omega | (rw [Bool.eq_iff_iff]; simp only [bool_to_prop, Bool.false_eq_true, iff_true, true_iff, iff_false, false_iff]; omega)) | skip)
end Go.Proofs.YtbgmnobnaplmlaaGreat
end

section
namespace Go.Proofs.YtbgmnobnaplmlaaGreat
open Go Go.RowKit Go.Pg Go.Pol
set_option linter.unusedSimpArgs false
set_option linter.unusedVariables false
set_option maxRecDepth 20000
attribute [-bool_to_prop] Bool.and_eq_decide Bool.or_eq_decide Bool.decide_beq_decide decide_eq_decide
theorem wf_u8 {i : Int} (h : (Lit.int .u8 i).wf = true) : 0 ≤ i ∧ i < 256 := by
  have h : (decide ((0 : Int) ≤ i) && decide (i ≤ 255)) = true := h
  simp only [Bool.and_eq_true, decide_eq_true_eq] at h
  omega
theorem saidBeg (xs : List AV) (h : ShapeL Tryz.prog 1048576 9 [25, 5] xs) : Pure Tryz.prog 5 xs (.v (.bool true)) := by
  obtain ⟨x, bs, rfl, h1, h⟩ := h.inv
  obtain ⟨y, bs, rfl, h2, h⟩ := h.inv
  obtain rfl := h.inv0
  obtain ⟨ss, gs, e, hl, kl, hq, kq⟩ := shFigure h1
  obtain ⟨k, rfl, hw⟩ := shape_int Tryz.underlying5 h2
  have hk := wf_u8 hw
  rw [e, wrapA_one (by kernel_rfl), show k = ((k.toNat : Nat) : Int) by omega]
  exact lawBeg ss gs k.toNat (by omega) (by omega) (by omega) (fun s hs => ⟨lm_mono (hq s hs).1 (by decide), Nat.le_trans (hq s hs).2.1 (by decide), Nat.le_trans (hq s hs).2.2 (by decide)⟩) (fun g hg => ⟨lm_mono (kq g hg).1 (by decide), Nat.le_trans (kq g hg).2 (by decide)⟩)
end Go.Proofs.YtbgmnobnaplmlaaGreat
end
