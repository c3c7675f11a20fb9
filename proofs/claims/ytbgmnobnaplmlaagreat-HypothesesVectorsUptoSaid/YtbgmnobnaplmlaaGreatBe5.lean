/- Contracts of the functions that the law reaches, and the rules by which they are walked. They say what a call hands back for every input within the bounds that each names; no other condition. -/
import Derived.Test.YtbgmnobnaplmlaaGreatBe4
section
namespace Go.Proofs.YtbgmnobnaplmlaaGreat
open Go Go.RowKit Go.Pg Go.Pol
set_option linter.unusedSimpArgs false
set_option linter.unusedVariables false
set_option maxRecDepth 20000
attribute [local go_sem] Tryz.underlying3 Tryz.underlying4 Tryz.underlying178 Tryz.underlying9 Tryz.underlying48 Tryz.underlying31 Tryz.underlying43 Tryz.underlying41 Tryz.underlying39 Tryz.underlying50 Tryz.underlying22 Tryz.underlying25 Tryz.underlying56 Tryz.underlying28 Tryz.underlying72 Tryz.underlying27 Tryz.underlying30 Tryz.underlying105 Tryz.underlying107 Tryz.underlying70 Tryz.underlying63 Tryz.underlying103 Tryz.underlying154 sz3 by3 z3 szB zB szErr zErr szStr byStr zStr szRat zRat szInt zInt szNat zNat szStep byStep zStep szFig zFig szSlI zSlI szSlS zSlS szVar byVar zVar szSlV zSlV szCoord byCoord zCoord szSlC zSlC szFrame zFrame szCBld byCBld zCBld szCVec byCVec zCVec szPoly byPoly zPoly szTerm zTerm szPtrB zPtrB szFnC zFnC
attribute [-bool_to_prop] Bool.and_eq_decide Bool.or_eq_decide Bool.decide_beq_decide decide_eq_decide
set_option maxHeartbeats 8000000 in
theorem cbStep2 (σ : Mem) (KB KC KV g : Nat) (svC svV : Value) (cs : List (Po × Po)) (vs : List Vt) (fr : Nat) (i : Nat) (s : RS) (hB : σ KB = some (.box g 105 [.own KC svC, .own KV svV, iv fr] false)) (hV : σ KV = some (.row svV 56 3 (vs.map Vt.av) 0)) (hC : σ KC = some (.row svC 72 2 (cs.map coA) 0)) (hBV : KB ≠ KV) (hBC : KB ≠ KC) (hVC : KV ≠ KC) (hl : vs.length ≤ 64) (hf : fr ≤ 100) (hok : StOk cs s) (hco : ∀ c ∈ cs, Co c.1 ∧ Co c.2) (hk : s.k = 2) : ACall Tryz.prog 52 [.pbox KB g 0, s.av, iv i] σ fun r σ' => ∃ sv, r = coA (FS.nxt ⟨cs, vs, fr⟩ i s).2 ∧
      σ' = upd (upd σ KV (some (.row sv 56 3 ((vs ++ (FS.nxt ⟨cs, vs, fr⟩ i s).1).map Vt.av) 0))) KB (some (.box g 105 [.own KC svC, .own KV sv, iv (if s.k = 1 then fr + 1 else fr : Nat)] false)) := by
  have mB := lents_at hB
  have mV := lents_at hV
  have mC := lents_at hC
  simp only [Ent.sh, AV.shL, AV.sh] at mB mV mC
  have har : arS s.k = 2 := by rw [hk]; rfl
  have hal := hok.al
  have h0 := hok.ai 0 (by omega)
  obtain ⟨a1, a2⟩ : Co (cs.getD (gI s.ar 0).toNat ([], [])).1 ∧ Co (cs.getD (gI s.ar 0).toNat ([], [])).2 := hco _ (getD_mem (by omega))
  have h1 := hok.ai 1 (by omega)
  obtain ⟨b1, b2⟩ : Co (cs.getD (gI s.ar 1).toNat ([], [])).1 ∧ Co (cs.getD (gI s.ar 1).toNat ([], [])).2 := hco _ (getD_mem (by omega))
  have en : FS.nxt ⟨cs, vs, fr⟩ i s = ([], (addM (cs.getD (gI s.ar 0).toNat ([], [])).1 (sclM s.r.q (subM (cs.getD (gI s.ar 1).toNat ([], [])).1 (cs.getD (gI s.ar 0).toNat ([], [])).1)), addM (cs.getD (gI s.ar 0).toNat ([], [])).2 (sclM s.r.q (subM (cs.getD (gI s.ar 1).toNat ([], [])).2 (cs.getD (gI s.ar 0).toNat ([], [])).2)))) := by
    unfold FS.nxt; simp only [hk]; rfl
  rw [en]
  simp only [if_neg (show ¬ s.k = 1 by omega)]
  clear en
  generalize ha : cs.getD (gI s.ar 0).toNat ([], []) = a at *
  generalize hb : cs.getD (gI s.ar 1).toNat ([], []) = b at *
  have ro := hok.r2 hk
  have zr := (RQ.ok_av hok.rl ro).2
  have s1 := poSub b.1 a.1 b1.pk a1.pk b1.st a1.st (by have := b1.ln; omega) (by have := a1.ln; omega) (by omega) (by omega) (by omega)
  have s2 := poSub b.2 a.2 b2.pk a2.pk b2.st a2.st (by have := b2.ln; omega) (by have := a2.ln; omega) (by omega) (by omega) (by omega)
  have d1 := b1.pk.sub a1.pk
  have d2 := b2.pk.sub a2.pk
  have t1 := sub_srt ordM b1.st a1.st
  have t2 := sub_srt ordM b2.st a2.st
  have l1 := sub_len b.1 a.1
  have l2 := sub_len b.2 a.2
  have n1 := a1.ln
  have n2 := a2.ln
  have n3 := b1.ln
  have n4 := b2.ln
  have c1 := poScale (subM b.1 a.1) s.r.q d1 zr t1 (by omega) (by omega) (by omega) (by omega)
  have c2 := poScale (subM b.2 a.2) s.r.q d2 zr t2 (by omega) (by omega) (by omega) (by omega)
  have e1 := poAdd a.1 (sclM s.r.q (subM b.1 a.1)) a1.pk (d1.scl zr) a1.st (scl_srt t1) (by omega) (by have := scl_len s.r.q (subM b.1 a.1); omega) (by omega) (by omega) (by omega)
  have e2 := poAdd a.2 (sclM s.r.q (subM b.2 a.2)) a2.pk (d2.scl zr) a2.st (scl_srt t2) (by omega) (by have := scl_len s.r.q (subM b.2 a.2); omega) (by omega) (by omega) (by omega)
  have re := RQ.ok_eq hok.rl ro
  obtain ⟨k, nm, ar, r⟩ := s
  simp only at *
  subst hk
  generalize hq : r.q = q at *
  rw [re]
  have al := fun g3 g4 g7 => cbAlongS 3 4 7 (KB + 1000) (KC + 1000) (KV + 1000) g3 g4 g7 g svC svV fr 2 nm ar q cs a b (sclM q (subM b.1 a.1), sclM q (subM b.2 a.2)) (addM a.1 (sclM q (subM b.1 a.1)), addM a.2 (sclM q (subM b.2 a.2))) (by omega) h0 h1 ha hb s1 s2 c1 c2 e1 e2
  clear s1 s2 c1 c2 e1 e2 d1 d2 t1 t2 l1 l2 a1 a2 b1 b2 hco hok re ro zr hq n1 n2 n3 n4
  generalize addM a.1 (sclM q (subM b.1 a.1)) = x1 at *
  generalize addM a.2 (sclM q (subM b.2 a.2)) = x2 at *
  refine acall_lents Tryz.func52 rfl Tryz.ntmps52 Tryz.results52 Tryz.call52 (by rfl) (by simp) ?_
  (focus (refine wkad (w_a mB (w_a mV (w_a mC (w_a @lents_lt w_t)))) w_t w_t ?_; (repeat' first | exact w_t | apply w_l); all_goals intros))
  rename_i g3 g4 g6 g7
  have al := al g3 g4 g7
  (focus (refine wkax (w_a mB (w_a mV (w_a mC (w_a @lents_lt (w_a @atL_def w_t))))) w_t w_t w_t w_t (w_a al w_t) (w_r 0) ?_; (repeat' first | exact w_t | apply w_l); all_goals intros))
  simp (disch := omega) only [go_sem]
  refine backS (Sub.refl _) ⟨svV, rfl, rfl⟩ ?_
  rw [upd_same' hV, upd_same' hB]
  (repeat' (first | exact Agr.start _ | (refine Agr.own ?_ (by omega))))
set_option maxHeartbeats 8000000 in
theorem cbStep3 (σ : Mem) (KB KC KV g : Nat) (svC svV : Value) (cs : List (Po × Po)) (vs : List Vt) (fr : Nat) (i : Nat) (s : RS) (hB : σ KB = some (.box g 105 [.own KC svC, .own KV svV, iv fr] false)) (hV : σ KV = some (.row svV 56 3 (vs.map Vt.av) 0)) (hC : σ KC = some (.row svC 72 2 (cs.map coA) 0)) (hBV : KB ≠ KV) (hBC : KB ≠ KC) (hVC : KV ≠ KC) (hl : vs.length ≤ 64) (hf : fr ≤ 100) (hok : StOk cs s) (hco : ∀ c ∈ cs, Co c.1 ∧ Co c.2) (hk : s.k = 3) : ACall Tryz.prog 52 [.pbox KB g 0, s.av, iv i] σ fun r σ' => ∃ sv, r = coA (FS.nxt ⟨cs, vs, fr⟩ i s).2 ∧
      σ' = upd (upd σ KV (some (.row sv 56 3 ((vs ++ (FS.nxt ⟨cs, vs, fr⟩ i s).1).map Vt.av) 0))) KB (some (.box g 105 [.own KC svC, .own KV sv, iv (if s.k = 1 then fr + 1 else fr : Nat)] false)) := by
  have mB := lents_at hB
  have mV := lents_at hV
  have mC := lents_at hC
  simp only [Ent.sh, AV.shL, AV.sh] at mB mV mC
  have har : arS s.k = 3 := by rw [hk]; rfl
  have hal := hok.al
  have h0 := hok.ai 0 (by omega)
  obtain ⟨a1, a2⟩ : Co (cs.getD (gI s.ar 0).toNat ([], [])).1 ∧ Co (cs.getD (gI s.ar 0).toNat ([], [])).2 := hco _ (getD_mem (by omega))
  have h1 := hok.ai 1 (by omega)
  obtain ⟨b1, b2⟩ : Co (cs.getD (gI s.ar 1).toNat ([], [])).1 ∧ Co (cs.getD (gI s.ar 1).toNat ([], [])).2 := hco _ (getD_mem (by omega))
  have h2 := hok.ai 2 (by omega)
  obtain ⟨c1, c2⟩ : Co (cs.getD (gI s.ar 2).toNat ([], [])).1 ∧ Co (cs.getD (gI s.ar 2).toNat ([], [])).2 := hco _ (getD_mem (by omega))
  have en : FS.nxt ⟨cs, vs, fr⟩ i s = ([], (addM (cs.getD (gI s.ar 0).toNat ([], [])).1 (subM (cs.getD (gI s.ar 2).toNat ([], [])).1 (cs.getD (gI s.ar 1).toNat ([], [])).1), addM (cs.getD (gI s.ar 0).toNat ([], [])).2 (subM (cs.getD (gI s.ar 2).toNat ([], [])).2 (cs.getD (gI s.ar 1).toNat ([], [])).2))) := by
    unfold FS.nxt; simp only [hk]; rfl
  rw [en]
  simp only [if_neg (show ¬ s.k = 1 by omega)]
  clear en
  generalize ha : cs.getD (gI s.ar 0).toNat ([], []) = a at *
  generalize hb : cs.getD (gI s.ar 1).toNat ([], []) = b at *
  generalize hc : cs.getD (gI s.ar 2).toNat ([], []) = c at *
  have n1 := a1.ln
  have n2 := a2.ln
  have n3 := b1.ln
  have n4 := b2.ln
  have n5 := c1.ln
  have n6 := c2.ln
  have s1 := poSub c.1 b.1 c1.pk b1.pk c1.st b1.st (by omega) (by omega) (by omega) (by omega) (by omega)
  have s2 := poSub c.2 b.2 c2.pk b2.pk c2.st b2.st (by omega) (by omega) (by omega) (by omega) (by omega)
  have l1 := sub_len c.1 b.1
  have l2 := sub_len c.2 b.2
  have e1 := poAdd a.1 (subM c.1 b.1) a1.pk (c1.pk.sub b1.pk) a1.st (sub_srt ordM c1.st b1.st) (by omega) (by omega) (by omega) (by omega) (by omega)
  have e2 := poAdd a.2 (subM c.2 b.2) a2.pk (c2.pk.sub b2.pk) a2.st (sub_srt ordM c2.st b2.st) (by omega) (by omega) (by omega) (by omega) (by omega)
  have cB := coBetween b c s1 s2
  have oa := coOf a
  have cC := coCombine 106 a (subM c.1 b.1, subM c.2 b.2) (addM a.1 (subM c.1 b.1), addM a.2 (subM c.2 b.2)) e1 e2
  obtain ⟨k, nm, ar, ⟨rs, rl, rd⟩⟩ := s
  simp only at *
  subst hk
  have t0 := fun g3 g4 => cbAt 3 4 (KB + 1000) (KC + 1000) (KV + 1000) g3 g4 g svC svV fr 3 nm ar (.v (.bool rs)) (lim rl) (lim rd) cs 0 ⟨rfl, rfl, rfl⟩ (by omega) h0
  have t1 := fun g3 g4 => cbAt 3 4 (KB + 1000) (KC + 1000) (KV + 1000) g3 g4 g svC svV fr 3 nm ar (.v (.bool rs)) (lim rl) (lim rd) cs 1 ⟨rfl, rfl, rfl⟩ (by omega) h1
  have t2 := fun g3 g4 => cbAt 3 4 (KB + 1000) (KC + 1000) (KV + 1000) g3 g4 g svC svV fr 3 nm ar (.v (.bool rs)) (lim rl) (lim rd) cs 2 ⟨rfl, rfl, rfl⟩ (by omega) h2
  rw [ha] at t0
  rw [hb] at t1
  rw [hc] at t2
  clear s1 s2 e1 e2 l1 l2 a1 a2 b1 b2 c1 c2 hco hok n1 n2 n3 n4 n5 n6 ha hb hc
  generalize addM a.1 (subM c.1 b.1) = x1 at *
  generalize addM a.2 (subM c.2 b.2) = x2 at *
  generalize subM c.1 b.1 = y1 at *
  generalize subM c.2 b.2 = y2 at *
  obtain ⟨aa, ab⟩ := a
  obtain ⟨ba, bb⟩ := b
  obtain ⟨ca, cb⟩ := c
  refine acall_lents Tryz.func52 rfl Tryz.ntmps52 Tryz.results52 Tryz.call52 (by rfl) (by simp) ?_
  (repeat' (first | (with_reducible first | refine stp ?_ | apply gx1 | apply gx2 | apply gx3 | apply gx4 | apply gx5 | apply gx6 | apply gx7 | apply gy8 | apply gz2 | apply gz3 | refine gwr (t0 _ _) ?_ ?_ | refine gwr (t1 _ _) ?_ ?_ | refine gwr (t2 _ _) ?_ ?_ | refine gw0 (oa) ?_ ?_ | refine gw3 (oa) ?_ ?_ ?_ | refine gw0 (cB) ?_ ?_ | refine gw3 (cB) ?_ ?_ ?_ | refine gw0 (cC) ?_ ?_ | refine gw3 (cC) ?_ ?_ ?_) | ((with_reducible apply gyr (t2 _ _)); (focus rfl); (focus rfl); iterate 3 focus ((with_reducible refine gE ?_); (try simp (disch := omega) only [go_sem, mB, mV, mC, lents_lt, lents_beq, atL_def, decide_eq_true, decide_eq_false, if_pos, if_neg, Int.reduceAdd, Int.reduceSub, Int.reduceToNat, Int.zero_add]) <;> first | rfl | done)) | ((with_reducible apply gyr (t1 _ _)); (focus rfl); (focus rfl); iterate 3 focus ((with_reducible refine gE ?_); (try simp (disch := omega) only [go_sem, mB, mV, mC, lents_lt, lents_beq, atL_def, decide_eq_true, decide_eq_false, if_pos, if_neg, Int.reduceAdd, Int.reduceSub, Int.reduceToNat, Int.zero_add]) <;> first | rfl | done)) | ((with_reducible apply gyr (t0 _ _)); (focus rfl); (focus rfl); iterate 3 focus ((with_reducible refine gE ?_); (try simp (disch := omega) only [go_sem, mB, mV, mC, lents_lt, lents_beq, atL_def, decide_eq_true, decide_eq_false, if_pos, if_neg, Int.reduceAdd, Int.reduceSub, Int.reduceToNat, Int.zero_add]) <;> first | rfl | done)) | (with_reducible refine all_v ?_; intro _) | ((with_reducible refine gE ?_); (try simp (disch := omega) only [go_sem, mB, mV, mC, lents_lt, lents_beq, atL_def, decide_eq_true, decide_eq_false, if_pos, if_neg, Int.reduceAdd, Int.reduceSub, Int.reduceToNat, Int.zero_add]) <;> first | rfl | omega) | with_reducible refine t_in_other (by decide) ?_ | ((with_reducible apply gy1); iterate 3 focus rfl) | ((with_reducible apply gy2); iterate 3 focus rfl) | ((with_reducible apply gy3); iterate 2 focus rfl) | ((with_reducible apply gy4); iterate 1 focus rfl) | ((with_reducible apply gy5); iterate 4 focus rfl) | ((with_reducible apply gy6); iterate 4 focus rfl) | ((with_reducible apply d_bar); iterate 3 focus rfl) | ((with_reducible apply q_pub); iterate 1 focus rfl) | ((with_reducible apply gy7); iterate 1 focus rfl) | ((with_reducible apply gy9); (focus ((with_reducible refine gE ?_); (try simp (disch := omega) only [go_sem, mB, mV, mC, lents_lt, lents_beq, atL_def, decide_eq_true, decide_eq_false, if_pos, if_neg, Int.reduceAdd, Int.reduceSub, Int.reduceToNat, Int.zero_add]) <;> rfl))) | ((with_reducible apply gz1); (focus first | rfl | (simp (disch := omega) only [go_sem, mB, mV, mC, lents_lt, lents_beq, atL_def, decide_eq_true, decide_eq_false, if_pos, if_neg, Int.reduceAdd, Int.reduceSub, Int.reduceToNat, Int.zero_add]; done))) | ((with_reducible apply r_drawD (id := 9) (pickR [(1, coA (aa, ab)), (2, coA (aa, ab)), (4, coA (ba, bb)), (6, coA (ca, cb)), (7, coA (y1, y2)), (8, coA (x1, x2))]) [] [6]); (focus kernel_rfl); (focus rfl); (focus kernel_rfl); (focus (simp only [List.length_cons, List.length_nil, Nat.reduceAdd]; rfl))) | ((with_reducible first | apply og_split | apply dg_split | apply cg_split); all_goals (intro hc; (try simp only [bool_to_prop] at hc); try (exfalso; omega)))))
  simp (disch := omega) only [go_sem]
  refine backS (Sub.refl _) ⟨svV, rfl, rfl⟩ ?_
  rw [upd_same' hV, upd_same' hB]
  (repeat' (first | exact Agr.start _ | (refine Agr.own ?_ (by omega))))
set_option maxHeartbeats 8000000 in
theorem cbStep4 (σ : Mem) (KB KC KV g : Nat) (svC svV : Value) (cs : List (Po × Po)) (vs : List Vt) (fr : Nat) (i : Nat) (s : RS) (hB : σ KB = some (.box g 105 [.own KC svC, .own KV svV, iv fr] false)) (hV : σ KV = some (.row svV 56 3 (vs.map Vt.av) 0)) (hC : σ KC = some (.row svC 72 2 (cs.map coA) 0)) (hBV : KB ≠ KV) (hBC : KB ≠ KC) (hVC : KV ≠ KC) (hl : vs.length ≤ 64) (hf : fr ≤ 100) (hok : StOk cs s) (hco : ∀ c ∈ cs, Co c.1 ∧ Co c.2) (hk : s.k = 4) : ACall Tryz.prog 52 [.pbox KB g 0, s.av, iv i] σ fun r σ' => ∃ sv, r = coA (FS.nxt ⟨cs, vs, fr⟩ i s).2 ∧
      σ' = upd (upd σ KV (some (.row sv 56 3 ((vs ++ (FS.nxt ⟨cs, vs, fr⟩ i s).1).map Vt.av) 0))) KB (some (.box g 105 [.own KC svC, .own KV sv, iv (if s.k = 1 then fr + 1 else fr : Nat)] false)) := by
  have mB := lents_at hB
  have mV := lents_at hV
  have mC := lents_at hC
  simp only [Ent.sh, AV.shL, AV.sh] at mB mV mC
  have har : arS s.k = 3 := by rw [hk]; rfl
  have hal := hok.al
  have h0 := hok.ai 0 (by omega)
  obtain ⟨a1, a2⟩ : Co (cs.getD (gI s.ar 0).toNat ([], [])).1 ∧ Co (cs.getD (gI s.ar 0).toNat ([], [])).2 := hco _ (getD_mem (by omega))
  have h1 := hok.ai 1 (by omega)
  obtain ⟨b1, b2⟩ : Co (cs.getD (gI s.ar 1).toNat ([], [])).1 ∧ Co (cs.getD (gI s.ar 1).toNat ([], [])).2 := hco _ (getD_mem (by omega))
  have h2 := hok.ai 2 (by omega)
  obtain ⟨c1, c2⟩ : Co (cs.getD (gI s.ar 2).toNat ([], [])).1 ∧ Co (cs.getD (gI s.ar 2).toNat ([], [])).2 := hco _ (getD_mem (by omega))
  have en : FS.nxt ⟨cs, vs, fr⟩ i s = ([], (addM (cs.getD (gI s.ar 0).toNat ([], [])).1 (subM (cs.getD (gI s.ar 1).toNat ([], [])).2 (cs.getD (gI s.ar 2).toNat ([], [])).2), addM (cs.getD (gI s.ar 0).toNat ([], [])).2 (subM (cs.getD (gI s.ar 2).toNat ([], [])).1 (cs.getD (gI s.ar 1).toNat ([], [])).1))) := by
    unfold FS.nxt; simp only [hk]; rfl
  rw [en]
  simp only [if_neg (show ¬ s.k = 1 by omega)]
  clear en
  generalize ha : cs.getD (gI s.ar 0).toNat ([], []) = a at *
  generalize hb : cs.getD (gI s.ar 1).toNat ([], []) = b at *
  generalize hc : cs.getD (gI s.ar 2).toNat ([], []) = c at *
  have n1 := a1.ln
  have n2 := a2.ln
  have n3 := b1.ln
  have n4 := b2.ln
  have n5 := c1.ln
  have n6 := c2.ln
  have s1 := poSub c.1 b.1 c1.pk b1.pk c1.st b1.st (by omega) (by omega) (by omega) (by omega) (by omega)
  have s2 := poSub c.2 b.2 c2.pk b2.pk c2.st b2.st (by omega) (by omega) (by omega) (by omega) (by omega)
  have l1 := sub_len c.1 b.1
  have l2 := sub_len c.2 b.2
  have l3 := sub_len b.2 c.2
  have hn := poNeg (subM c.2 b.2) (c2.pk.sub b2.pk) (sub_srt ordM c2.st b2.st) (by omega) (by omega) (by omega)
  rw [show scaleP (-1) (subM c.2 b.2) = subM b.2 c.2 from neg_sub ordM c2.st b2.st] at hn
  have e1 := poAdd a.1 (subM b.2 c.2) a1.pk (b2.pk.sub c2.pk) a1.st (sub_srt ordM b2.st c2.st) (by omega) (by omega) (by omega) (by omega) (by omega)
  have e2 := poAdd a.2 (subM c.1 b.1) a2.pk (c1.pk.sub b1.pk) a2.st (sub_srt ordM c1.st b1.st) (by omega) (by omega) (by omega) (by omega) (by omega)
  have cB := coBetween b c s1 s2
  have oa := coOf a
  have cC := coCombine 106 a (subM b.2 c.2, subM c.1 b.1) (addM a.1 (subM b.2 c.2), addM a.2 (subM c.1 b.1)) e1 e2
  obtain ⟨k, nm, ar, ⟨rs, rl, rd⟩⟩ := s
  simp only at *
  subst hk
  have t0 := fun g3 g4 => cbAt 3 4 (KB + 1000) (KC + 1000) (KV + 1000) g3 g4 g svC svV fr 4 nm ar (.v (.bool rs)) (lim rl) (lim rd) cs 0 ⟨rfl, rfl, rfl⟩ (by omega) h0
  have t1 := fun g3 g4 => cbAt 3 4 (KB + 1000) (KC + 1000) (KV + 1000) g3 g4 g svC svV fr 4 nm ar (.v (.bool rs)) (lim rl) (lim rd) cs 1 ⟨rfl, rfl, rfl⟩ (by omega) h1
  have t2 := fun g3 g4 => cbAt 3 4 (KB + 1000) (KC + 1000) (KV + 1000) g3 g4 g svC svV fr 4 nm ar (.v (.bool rs)) (lim rl) (lim rd) cs 2 ⟨rfl, rfl, rfl⟩ (by omega) h2
  rw [ha] at t0
  rw [hb] at t1
  rw [hc] at t2
  clear s1 s2 e1 e2 l1 l2 l3 a1 a2 b1 b2 c1 c2 hco hok n1 n2 n3 n4 n5 n6 ha hb hc
  generalize addM a.1 (subM b.2 c.2) = x1 at *
  generalize addM a.2 (subM c.1 b.1) = x2 at *
  generalize subM c.1 b.1 = y1 at *
  generalize subM c.2 b.2 = y2 at *
  generalize subM b.2 c.2 = y3 at *
  obtain ⟨aa, ab⟩ := a
  obtain ⟨ba, bb⟩ := b
  obtain ⟨ca, cb⟩ := c
  refine acall_lents Tryz.func52 rfl Tryz.ntmps52 Tryz.results52 Tryz.call52 (by rfl) (by simp) ?_
  (repeat' (first | (with_reducible first | refine stp ?_ | apply gx1 | apply gx2 | apply gx3 | apply gx4 | apply gx5 | apply gx6 | apply gx7 | apply gy8 | apply gz2 | apply gz3 | refine gwr (t0 _ _) ?_ ?_ | refine gwr (t1 _ _) ?_ ?_ | refine gwr (t2 _ _) ?_ ?_ | refine gw0 (oa) ?_ ?_ | refine gw3 (oa) ?_ ?_ ?_ | refine gw0 (cB) ?_ ?_ | refine gw3 (cB) ?_ ?_ ?_ | refine gw0 (cC) ?_ ?_ | refine gw3 (cC) ?_ ?_ ?_ | refine gw0 (hn) ?_ ?_ | refine gw3 (hn) ?_ ?_ ?_) | ((with_reducible apply gyr (t2 _ _)); (focus rfl); (focus rfl); iterate 3 focus ((with_reducible refine gE ?_); (try simp (disch := omega) only [go_sem, mB, mV, mC, lents_lt, lents_beq, atL_def, decide_eq_true, decide_eq_false, if_pos, if_neg, Int.reduceAdd, Int.reduceSub, Int.reduceToNat, Int.zero_add]) <;> first | rfl | done)) | ((with_reducible apply gyr (t1 _ _)); (focus rfl); (focus rfl); iterate 3 focus ((with_reducible refine gE ?_); (try simp (disch := omega) only [go_sem, mB, mV, mC, lents_lt, lents_beq, atL_def, decide_eq_true, decide_eq_false, if_pos, if_neg, Int.reduceAdd, Int.reduceSub, Int.reduceToNat, Int.zero_add]) <;> first | rfl | done)) | ((with_reducible apply gyr (t0 _ _)); (focus rfl); (focus rfl); iterate 3 focus ((with_reducible refine gE ?_); (try simp (disch := omega) only [go_sem, mB, mV, mC, lents_lt, lents_beq, atL_def, decide_eq_true, decide_eq_false, if_pos, if_neg, Int.reduceAdd, Int.reduceSub, Int.reduceToNat, Int.zero_add]) <;> first | rfl | done)) | (with_reducible refine all_v ?_; intro _) | ((with_reducible refine gE ?_); (try simp (disch := omega) only [go_sem, mB, mV, mC, lents_lt, lents_beq, atL_def, decide_eq_true, decide_eq_false, if_pos, if_neg, Int.reduceAdd, Int.reduceSub, Int.reduceToNat, Int.zero_add]) <;> first | rfl | omega) | with_reducible refine t_in_other (by decide) ?_ | ((with_reducible apply gy1); iterate 3 focus rfl) | ((with_reducible apply gy2); iterate 3 focus rfl) | ((with_reducible apply gy3); iterate 2 focus rfl) | ((with_reducible apply gy4); iterate 1 focus rfl) | ((with_reducible apply gy5); iterate 4 focus rfl) | ((with_reducible apply gy6); iterate 4 focus rfl) | ((with_reducible apply d_bar); iterate 3 focus rfl) | ((with_reducible apply q_pub); iterate 1 focus rfl) | ((with_reducible apply gy7); iterate 1 focus rfl) | ((with_reducible apply gy9); (focus ((with_reducible refine gE ?_); (try simp (disch := omega) only [go_sem, mB, mV, mC, lents_lt, lents_beq, atL_def, decide_eq_true, decide_eq_false, if_pos, if_neg, Int.reduceAdd, Int.reduceSub, Int.reduceToNat, Int.zero_add]) <;> rfl))) | ((with_reducible apply gz1); (focus first | rfl | (simp (disch := omega) only [go_sem, mB, mV, mC, lents_lt, lents_beq, atL_def, decide_eq_true, decide_eq_false, if_pos, if_neg, Int.reduceAdd, Int.reduceSub, Int.reduceToNat, Int.zero_add]; done))) | ((with_reducible apply r_drawD (id := 11) (pickR [(1, coA (ba, bb)), (3, coA (ca, cb)), (4, coA (y1, y2))]) [] []); (focus kernel_rfl); (focus rfl); (focus kernel_rfl); (focus (simp only [List.length_cons, List.length_nil, Nat.reduceAdd]; rfl))) | ((with_reducible apply r_drawD (id := 12) (pickR [(1, coA (aa, ab)), (2, coA (aa, ab)), (5, poA y3), (9, coA (x1, x2))]) [] [6]); (focus kernel_rfl); (focus rfl); (focus kernel_rfl); (focus (simp only [List.length_cons, List.length_nil, Nat.reduceAdd]; rfl))) | ((with_reducible first | apply og_split | apply dg_split | apply cg_split); all_goals (intro hc; (try simp only [bool_to_prop] at hc); try (exfalso; omega)))))
  simp (disch := omega) only [go_sem]
  refine backS (Sub.refl _) ⟨svV, rfl, rfl⟩ ?_
  rw [upd_same' hV, upd_same' hB]
  (repeat' (first | exact Agr.start _ | (refine Agr.own ?_ (by omega))))
set_option maxHeartbeats 8000000 in
theorem cbStep5 (σ : Mem) (KB KC KV g : Nat) (svC svV : Value) (cs : List (Po × Po)) (vs : List Vt) (fr : Nat) (i : Nat) (s : RS) (hB : σ KB = some (.box g 105 [.own KC svC, .own KV svV, iv fr] false)) (hV : σ KV = some (.row svV 56 3 (vs.map Vt.av) 0)) (hC : σ KC = some (.row svC 72 2 (cs.map coA) 0)) (hBV : KB ≠ KV) (hBC : KB ≠ KC) (hVC : KV ≠ KC) (hl : vs.length ≤ 64) (hf : fr ≤ 100) (hok : StOk cs s) (hco : ∀ c ∈ cs, Co c.1 ∧ Co c.2) (hk : s.k = 5) : ACall Tryz.prog 52 [.pbox KB g 0, s.av, iv i] σ fun r σ' => ∃ sv, r = coA (FS.nxt ⟨cs, vs, fr⟩ i s).2 ∧
      σ' = upd (upd σ KV (some (.row sv 56 3 ((vs ++ (FS.nxt ⟨cs, vs, fr⟩ i s).1).map Vt.av) 0))) KB (some (.box g 105 [.own KC svC, .own KV sv, iv (if s.k = 1 then fr + 1 else fr : Nat)] false)) := by
  have mB := lents_at hB
  have mV := lents_at hV
  have mC := lents_at hC
  simp only [Ent.sh, AV.shL, AV.sh] at mB mV mC
  have har : arS s.k = 2 := by rw [hk]; rfl
  have hal := hok.al
  have h0 := hok.ai 0 (by omega)
  obtain ⟨a1, a2⟩ : Co (cs.getD (gI s.ar 0).toNat ([], [])).1 ∧ Co (cs.getD (gI s.ar 0).toNat ([], [])).2 := hco _ (getD_mem (by omega))
  have h1 := hok.ai 1 (by omega)
  obtain ⟨b1, b2⟩ : Co (cs.getD (gI s.ar 1).toNat ([], [])).1 ∧ Co (cs.getD (gI s.ar 1).toNat ([], [])).2 := hco _ (getD_mem (by omega))
  have en : FS.nxt ⟨cs, vs, fr⟩ i s = ([(1, (i : Int), 0)], (addM (cs.getD (gI s.ar 0).toNat ([], [])).1 (mlM (subM (cs.getD (gI s.ar 1).toNat ([], [])).1 (cs.getD (gI s.ar 0).toNat ([], [])).1) (varM vs.length)), addM (cs.getD (gI s.ar 0).toNat ([], [])).2 (mlM (subM (cs.getD (gI s.ar 1).toNat ([], [])).2 (cs.getD (gI s.ar 0).toNat ([], [])).2) (varM vs.length)))) := by
    unfold FS.nxt; simp only [hk]; rfl
  rw [en]
  simp only [if_neg (show ¬ s.k = 1 by omega)]
  clear en
  generalize ha : cs.getD (gI s.ar 0).toNat ([], []) = a at *
  generalize hb : cs.getD (gI s.ar 1).toNat ([], []) = b at *
  have s1 := poSub b.1 a.1 b1.pk a1.pk b1.st a1.st (by have := b1.ln; omega) (by have := a1.ln; omega) (by omega) (by omega) (by omega)
  have s2 := poSub b.2 a.2 b2.pk a2.pk b2.st a2.st (by have := b2.ln; omega) (by have := a2.ln; omega) (by omega) (by omega) (by omega)
  have d1 := b1.pk.sub a1.pk
  have d2 := b2.pk.sub a2.pk
  have t1 := sub_srt ordM b1.st a1.st
  have t2 := sub_srt ordM b2.st a2.st
  have l1 := sub_len b.1 a.1
  have l2 := sub_len b.2 a.2
  have n1 := a1.ln
  have n2 := a2.ln
  have n3 := b1.ln
  have n4 := b2.ln
  have c1 := poMulVar (subM b.1 a.1) vs.length d1 t1 (by omega) (by omega) (by omega)
  have c2 := poMulVar (subM b.2 a.2) vs.length d2 t2 (by omega) (by omega) (by omega)
  have e1 := poAdd a.1 (mlM (subM b.1 a.1) (varM vs.length)) (a1.pk.mono (Nat.le_refl _) (show 1 ≤ 2 by omega)) d1.mulV a1.st (mulR_srt ordM mulK t1 (varM_srt _)) (by omega) (by have := mulV_len (subM b.1 a.1) vs.length; omega) (by omega) (by omega) (by omega)
  have e2 := poAdd a.2 (mlM (subM b.2 a.2) (varM vs.length)) (a2.pk.mono (Nat.le_refl _) (show 1 ≤ 2 by omega)) d2.mulV a2.st (mulR_srt ordM mulK t2 (varM_srt _)) (by omega) (by have := mulV_len (subM b.2 a.2) vs.length; omega) (by omega) (by omega) (by omega)
  obtain ⟨k, nm, ar, ⟨rs, rl, rd⟩⟩ := s
  simp only at *
  subst hk
  have al := fun sv1 g3 g4 g7 g10 => cbAlongM 3 4 7 (KB + 1000) (KC + 1000) (KV + 1000) g3 g4 g7 g svC sv1 fr 5 nm ar rs rl rd 10 g10 (varM vs.length) cs a b (mlM (subM b.1 a.1) (varM vs.length), mlM (subM b.2 a.2) (varM vs.length)) (addM a.1 (mlM (subM b.1 a.1) (varM vs.length)), addM a.2 (mlM (subM b.2 a.2) (varM vs.length))) (by omega) h0 h1 ha hb s1 s2 c1 c2 e1 e2
  clear s1 s2 c1 c2 e1 e2 d1 d2 t1 t2 l1 l2 a1 a2 b1 b2 hco hok n1 n2 n3 n4
  generalize addM a.1 (mlM (subM b.1 a.1) (varM vs.length)) = x1 at *
  generalize addM a.2 (mlM (subM b.2 a.2) (varM vs.length)) = x2 at *
  refine acall_lents Tryz.func52 rfl Tryz.ntmps52 Tryz.results52 Tryz.call52 (by rfl) (by simp) ?_
  (focus (refine wkad (w_a mB (w_a mV (w_a mC (w_a @lents_lt w_t)))) w_t w_t ?_; (repeat' first | exact w_t | apply w_l); all_goals intros))
  refine o_fresh ((cbVariable _ (KB + 1000) (KC + 1000) (KV + 1000) g svC svV vs fr 1 (i : Int) 0 (by (simp (disch := omega) only [go_sem, mB, mV, if_neg, if_pos] <;> repeat' first | rfl | refine ⟨?_, ?_⟩)) (by (simp (disch := omega) only [go_sem, mB, mV, if_neg, if_pos] <;> repeat' first | rfl | refine ⟨?_, ?_⟩)) (by omega) (by omega))) ?_
  intro sv1
  generalize varM vs.length = t at *
  (focus (refine wkad (w_a mB (w_a mV (w_a mC (w_a @lents_lt w_t)))) w_t w_t ?_; (repeat' first | exact w_t | apply w_l); all_goals intros))
  rename_i g3 g4 g6 g7 g10
  have al := al sv1 g3 g4 g7 g10
  (focus (refine wkax (w_a mB (w_a mV (w_a mC (w_a @lents_lt (w_a @atL_def w_t))))) w_t w_t w_t w_t (w_a al w_t) (w_r 0) ?_; (repeat' first | exact w_t | apply w_l); all_goals intros))
  simp (disch := omega) only [go_sem]
  refine backS (Sub.refl _) ⟨sv1, rfl, rfl⟩ ?_
  intro k
  by_cases hk1 : k = KB
  · rw [hk1]
    simp (disch := omega) only [upd_at, if_pos, if_neg, Option.map_some, Ent.sh, AV.shL, AV.sh]
    try rfl
  · by_cases hk2 : k = KV
    · rw [hk2]
      simp (disch := omega) only [upd_at, if_pos, if_neg, Option.map_some, Ent.sh, AV.shL, AV.sh]
      try rfl
    · simp (disch := omega) only [upd_at, if_neg]
      exact Agr.start σ k

theorem cbStep (σ : Mem) (KB KC KV g : Nat) (svC svV : Value) (cs : List (Po × Po)) (vs : List Vt) (fr : Nat) (i : Nat) (s : RS) (hB : σ KB = some (.box g 105 [.own KC svC, .own KV svV, iv fr] false)) (hV : σ KV = some (.row svV 56 3 (vs.map Vt.av) 0)) (hC : σ KC = some (.row svC 72 2 (cs.map coA) 0)) (hBV : KB ≠ KV) (hBC : KB ≠ KC) (hVC : KV ≠ KC) (hl : vs.length ≤ 64) (hf : fr ≤ 100) (hok : StOk cs s) (hco : ∀ c ∈ cs, Co c.1 ∧ Co c.2) : ACall Tryz.prog 52 [.pbox KB g 0, s.av, iv i] σ fun r σ' => ∃ sv, r = coA (FS.nxt ⟨cs, vs, fr⟩ i s).2 ∧
      σ' = upd (upd σ KV (some (.row sv 56 3 ((vs ++ (FS.nxt ⟨cs, vs, fr⟩ i s).1).map Vt.av) 0))) KB (some (.box g 105 [.own KC svC, .own KV sv, iv (if s.k = 1 then fr + 1 else fr : Nat)] false)) := by
  by_cases k1 : s.k = 1
  · exact cbStep1 σ KB KC KV g svC svV cs vs fr i s hB hV hC hBV hBC hVC hl hf k1
  · by_cases k2 : s.k = 2
    · exact cbStep2 σ KB KC KV g svC svV cs vs fr i s hB hV hC hBV hBC hVC hl hf hok hco k2
    · by_cases k3 : s.k = 3
      · exact cbStep3 σ KB KC KV g svC svV cs vs fr i s hB hV hC hBV hBC hVC hl hf hok hco k3
      · by_cases k4 : s.k = 4
        · exact cbStep4 σ KB KC KV g svC svV cs vs fr i s hB hV hC hBV hBC hVC hl hf hok hco k4
        · by_cases k5 : s.k = 5
          · exact cbStep5 σ KB KC KV g svC svV cs vs fr i s hB hV hC hBV hBC hVC hl hf hok hco k5
          · by_cases k6 : s.k = 6
            · exact cbStep6 σ KB KC KV g svC svV cs vs fr i s hB hV hC hBV hBC hVC hl hf k6
            · exact cbStep7 σ KB KC KV g svC svV cs vs fr i s hB hV hC hBV hBC hVC hl hf ⟨k1, k2, k3, k4, k5, k6⟩
end Go.Proofs.YtbgmnobnaplmlaaGreat
end

section
namespace Go.Pg
open Go Go.RowKit
set_option linter.unusedSimpArgs false
set_option linter.unusedVariables false
section
variable {P : Program} {all rest : List Oper} {K : St → Prop} {e : Nat → AV} {m : Mem} {dst : Option Nat} {d t j : Nat} {op : Op} {ty : TypeId} {pos : String} {af : Array Edge} {r : Res} {rs : Nat → AV} {bar : List Nat} {fu k : Nat} {σs : Mem}
/-- An append that steps that look at no memory may pass. -/
theorem gy5d (hb : bar.contains k = true) (hs : bar.contains (k + 1000) = false) (h2 : bar.contains (k + 2000) = true) (ho : all[k]? = some ⟨some d, op, ty, pos, af, none⟩) (h : Ev (opRes P ⟨e, m⟩ op = r)) (hkp : Ev (resKeep noMem r)) (hk : aRes P d (some d) r (dList P 0 all rs bar noMem fu (k + 1) K) ⟨e, m⟩) : dList P 0 all rs bar σs (fu + 1) k K ⟨e, m⟩ := by
  rw [dList_succ]
  unfold xStep
  rw [ho]
  simp only [nextS, hb, hs, h2, if_true, Bool.false_eq_true, if_false]
  have h : opRes P ⟨e, m⟩ op = r := h
  refine ⟨?_, fun _ => ⟨rfl, by rw [h]; exact hkp⟩⟩
  unfold fStep
  rw [aList_none, h, Option.getD_some, Nat.zero_add]
  exact hk
end
end Go.Pg
end

section
namespace Go.Proofs.YtbgmnobnaplmlaaGreat
open Go Go.RowKit Go.Pg Go.Pol
set_option linter.unusedSimpArgs false
set_option linter.unusedVariables false
set_option maxRecDepth 20000
attribute [local go_sem] Tryz.underlying3 Tryz.underlying4 Tryz.underlying178 Tryz.underlying9 Tryz.underlying48 Tryz.underlying31 Tryz.underlying43 Tryz.underlying41 Tryz.underlying39 Tryz.underlying50 Tryz.underlying22 Tryz.underlying25 Tryz.underlying56 Tryz.underlying28 Tryz.underlying72 Tryz.underlying27 Tryz.underlying30 Tryz.underlying105 Tryz.underlying107 Tryz.underlying70 Tryz.underlying63 Tryz.underlying103 Tryz.underlying154 sz3 by3 z3 szB zB szErr zErr szStr byStr zStr szRat zRat szInt zInt szNat zNat szStep byStep zStep szFig zFig szSlI zSlI szSlS zSlS szVar byVar zVar szSlV zSlV szCoord byCoord zCoord szSlC zSlC szFrame zFrame szCBld byCBld zCBld szCVec byCVec zCVec szPoly byPoly zPoly szTerm zTerm szPtrB zPtrB szFnC zFnC
attribute [-bool_to_prop] Bool.and_eq_decide Bool.or_eq_decide Bool.decide_beq_decide decide_eq_decide
theorem frN_fr (ss : List RS) : ∀ i, (frN ss i).fr ≤ i
  | 0 => Nat.le_refl _
  | i + 1 => by
    have := frN_fr ss i
    unfold frN
    simp only [FS.push]
    split <;> omega
theorem nfN_mono (ss : List RS) : ∀ i k, nfN ss i ≤ nfN ss (i + k)
  | i, 0 => Nat.le_refl _
  | i, k + 1 => Nat.le_trans (nfN_mono ss i k) (by show _ ≤ nfN ss (i + k) + _; omega)
/-- What is known of a figure in order. -/
structure FigOk (ss : List RS) : Prop where
  len : ss.length ≤ 40
  er : ∀ i, i < ss.length → errS ss i = 0
  lm : ∀ s ∈ ss, s.r.lm 2
  nf : nfN ss ss.length ≤ 20
theorem FigOk.fi {ss : List RS} (h : FigOk ss) {i : Nat} (hi : i ≤ ss.length) (hj : ∀ j, j < i → bigN ss j = false) : ∃ D, FI (frN ss i) (nfN ss i) D ∧ nfN ss i ≤ 20 := by
  have hr : ∀ s ∈ ss, s.k = 2 → s.r.ok = true := fun s hs => by
    obtain ⟨j, hj, rfl⟩ := List.mem_iff_getElem.1 hs
    exact (errS_ok hj (h.er j hj)).2.2.2
  obtain ⟨D, hD⟩ := frN_ok ss hr (fun s hs => lm_bd (h.lm s hs)) i hi hj
  refine ⟨D, hD, Nat.le_trans ?_ h.nf⟩
  have := nfN_mono ss i (ss.length - i)
  rwa [show i + (ss.length - i) = ss.length by omega] at this
theorem FI.co {f : FS} {n D : Nat} (h : FI f n D) (hn : n ≤ 20) : ∀ c ∈ f.cs, Co c.1 ∧ Co c.2 := fun c hc => by
  obtain ⟨h1, h2⟩ := h.cs c hc
  obtain ⟨l1, l2⟩ := h.ln c hc
  have hv := h.nv
  exact ⟨⟨h1.pk (by omega) h.D0 h.Dl hn, h1.1, l1⟩, ⟨h2.pk (by omega) h.D0 h.Dl hn, h2.1, l2⟩⟩
theorem FigOk.st {ss : List RS} (h : FigOk ss) {i : Nat} (hi : i < ss.length) : StOk (frN ss i).cs ss[i] := by
  obtain ⟨h1, h2, h3, h4⟩ := errS_ok hi (h.er i hi)
  exact ⟨h1, h2, fun k hk => by rw [frN_len]; exact h3 k hk, h4, h.lm _ (List.getElem_mem hi)⟩
/-- What the next frame is. -/
theorem frN_succ {ss : List RS} {i : Nat} (hi : i < ss.length) : frN ss (i + 1) = ⟨(frN ss i).cs ++ [((frN ss i).nxt i ss[i]).2], (frN ss i).vs ++ ((frN ss i).nxt i ss[i]).1, if ss[i].k = 1 then (frN ss i).fr + 1 else (frN ss i).fr⟩ := by
  show (frN ss i).push i (ss.getD i RS.zero) = _
  rw [show ss.getD i RS.zero = ss[i] from by rw [List.getD_eq_getElem?_getD, List.getElem?_eq_getElem hi]; rfl]; rfl
theorem bigN_at {ss : List RS} {i : Nat} (hi : i < ss.length) : bigN ss i = (decide (64 < ((frN ss i).vs ++ ((frN ss i).nxt i ss[i]).1).length) || decide (4000 < ((frN ss i).nxt i ss[i]).2.1.length) || decide (4000 < ((frN ss i).nxt i ss[i]).2.2.length)) := by
  unfold bigN
  rw [frN_succ hi, show ss.getD i ⟨0, .empty, [], ⟨false, [], []⟩⟩ = ss[i] from by rw [List.getD_eq_getElem?_getD, List.getElem?_eq_getElem hi]; rfl]
theorem nxt_vars (f : FS) (i : Nat) (s : RS) : (f.nxt i s).1.length ≤ 3 := by
  unfold FS.nxt; simp only
  repeat' split
  all_goals simp
set_option maxHeartbeats 8000000 in
theorem coFrame1 (ss : List RS) (gs : List RG) (cR : Pure Tryz.prog 51 [figA ss gs] (iv 0)) (ho : FigOk ss) :
    Pure Tryz.prog 15 [figA ss gs] (if (List.range ss.length).any (bigN ss) = true then .tup [.agg [.v (.slice none 0 0), .v (.slice none 0 0)], iv 4] else .tup [frmA (frN ss ss.length).cs (frN ss ss.length).vs, iv 0]) := by
  have cR : Pure Tryz.prog 51 [.agg [.sl 6 (ss.map RS.av), .sl 5 (gs.map RG.av)]] (iv 0) := cR
  show Pure _ _ [.agg [.sl 6 (ss.map RS.av), .sl 5 (gs.map RG.av)]] _
  have hg : ∀ i (h : i < ss.length), (ss.map RS.av).getD i .u = ss[i].av := fun i h => map_atB RS.av h
  have hls : (ss.map RS.av).length = ss.length := List.length_map ..
  have hlen := ho.len
  generalize ss.map RS.av = M at *
  generalize gs.map RG.av = N at *
  refine pure_intro (tok := 0) Tryz.func15 rfl Tryz.ntmps15 Tryz.results15 Tryz.call15 (by rfl) (by simp) ?_
  (focus (refine wkad (w_a hls w_t) (w_a cR w_t) w_t ?_; (repeat' first | exact w_t | apply w_l); all_goals intros))
  rename_i g1 g2 gb
  refine r_frz (Frz.nilBox (k := 16) 0 20 2 72 (by exact gC) rfl (by omega)) ?_
  refine r_frz (Frz.nilBox (k := 16) 1 21 3 56 (by exact gC) rfl (by omega)) ?_
  refine r_loopE (ι := Nat) (fun i e m => i ≤ ss.length ∧ e 2 = .pbox 2 g2 0 ∧ m 2 = some (.box g2 30 [.v (.slice none 0 0), .v (.slice none 0 0)] false) ∧ e 5 = .pbox 16 gb 0 ∧ e 18 = .sl 6 M ∧ e 19 = iv ss.length ∧ e 20 = iv i ∧ (∃ svC svV, m 16 = some (.box gb 105 [.own 20 svC, .own 21 svV, iv (frN ss i).fr] false) ∧ m 20 = some (.row svC 72 2 ((frN ss i).cs.map coA) 0) ∧ m 21 = some (.row svV 56 3 ((frN ss i).vs.map Vt.av) 0)) ∧ ∀ j, j < i → bigN ss j = false) (fun i => ss.length - i) 0 (by rfl) ?_ ?_
  · rintro i e m ⟨hi, e2, m2, e5, e18, e19, e20, ⟨svC, svV, m16, m20, m21⟩, hbig⟩
    by_cases hlt : i < ss.length
    · have hgi := hg i hlt
      obtain ⟨D, hD, hn⟩ := ho.fi hi hbig
      have hco := hD.co hn
      have hst := ho.st hlt
      have hfr := frN_fr ss i
      have hnv := hD.nv
      have hb := bigN_at hlt
      have hsu := frN_succ hlt
      have hn3 := nxt_vars (frN ss i) i ss[i]
      have hcl := frN_len ss i
      have hst2 := fun m' hB hV hC => cbStep m' 16 20 21 gb svC svV (frN ss i).cs (frN ss i).vs (frN ss i).fr i ss[i] hB hV hC (by omega) (by omega) (by omega) hnv (by omega) hst hco
      rw [show (FS.mk (frN ss i).cs (frN ss i).vs (frN ss i).fr) = frN ss i from rfl] at hst2
      clear hD hco hst
      generalize hs : ss[i] = s at *
      generalize hf : frN ss i = f at *
      generalize hx : f.nxt i s = nx at *
      obtain ⟨nv, c1, c2⟩ := nx
      obtain ⟨k, nm, ar, ⟨rs, rl, rd⟩⟩ := s
      obtain ⟨cs, vs, fr⟩ := f
      simp only at *
      (focus (refine wkad (w_a e2 (w_a m2 (w_a e5 (w_a e18 (w_a e19 (w_a e20 (w_a m16 (w_a m20 (w_a m21 (w_a hgi (w_a hls w_t))))))))))) w_t w_t ?_; (repeat' first | exact w_t | apply w_l); all_goals intros))
      refine o_fresh (hst2 _ (by exact gW m16) (by exact gW m21) (by exact gW m20)) ?_
      intro sv
      generalize hfr2 : (if k = 1 then fr + 1 else fr) = fr2 at *
      have hvl : ((vs ++ nv).map Vt.av).length = (vs ++ nv).length := List.length_map ..
      have hvl2 : (vs ++ nv).length ≤ 67 := by rw [List.length_append]; omega
      have hnx : ∀ j, j < i + 1 → bigN ss i = false → bigN ss j = false := fun j hj h => by
        by_cases e : j = i
        · rw [e]; exact h
        · exact hbig j (by omega)
      have hany : bigN ss i = true → (List.range ss.length).any (bigN ss) = true := fun h => List.any_eq_true.2 ⟨i, List.mem_range.2 hlt, h⟩
      generalize vs ++ nv = vs2 at *
      have hc1 : (c1.map tmA).length = c1.length := List.length_map ..
      have hc2 : (c2.map tmA).length = c2.length := List.length_map ..
      have hcsl : (cs.map coA).length = cs.length := List.length_map ..
      by_cases b1 : 64 < vs2.length
      · rw [if_pos (hany (by rw [hb]; simp [b1]))]
        (focus (refine wkld (w_a e2 (w_a m2 (w_a e5 (w_a e18 (w_a e19 (w_a e20 (w_a hvl (w_a hls w_t)))))))) w_t (w_a e2 w_t) w_t ?_; (repeat' first | exact w_t | apply w_l); all_goals intros))
      · by_cases b2 : 4000 < c1.length
        · rw [if_pos (hany (by rw [hb]; simp [b2]))]
          (focus (refine wkld (w_a e2 (w_a m2 (w_a e5 (w_a e18 (w_a e19 (w_a e20 (w_a hvl (w_a hc1 (w_a hls w_t))))))))) w_t (w_a e2 w_t) w_t ?_; (repeat' first | exact w_t | apply w_l); all_goals intros))
        · by_cases b3 : 4000 < c2.length
          · rw [if_pos (hany (by rw [hb]; simp [b3]))]
            (focus (refine wkld (w_a e2 (w_a m2 (w_a e5 (w_a e18 (w_a e19 (w_a e20 (w_a hvl (w_a hc1 (w_a hc2 (w_a hls w_t)))))))))) w_t (w_a e2 w_t) w_t ?_; (repeat' first | exact w_t | apply w_l); all_goals intros))
          · have hbf : bigN ss i = false := by rw [hb]; simp [b1, b2, b3]
            clear hany
            (repeat' (first | ((with_reducible apply gy5d); iterate 4 focus rfl) | (with_reducible first | refine stp ?_ | apply gx1 | apply gx2 | apply gx3 | apply gx4 | apply gx5 | apply gx6 | apply gx7 | apply gy8 | apply gz2 | apply gz3) | (with_reducible refine all_v ?_; intro _) | ((with_reducible refine gE ?_); (try simp (disch := omega) only [go_sem, e2, m2, e5, e18, e19, e20, m20, hvl, hc1, hc2, hcsl, hls, decide_eq_true, decide_eq_false, if_pos, if_neg, Int.reduceAdd, Int.reduceSub, Int.reduceToNat, Int.zero_add]) <;> first | rfl | omega) | with_reducible refine t_in_other (by decide) ?_ | ((with_reducible apply gy1); iterate 3 focus rfl) | ((with_reducible apply gy2); iterate 3 focus rfl) | ((with_reducible apply gy3); iterate 2 focus rfl) | ((with_reducible apply gy4); iterate 1 focus rfl) | ((with_reducible apply gy5); iterate 4 focus rfl) | ((with_reducible apply gy6); iterate 4 focus rfl) | ((with_reducible apply d_bar); iterate 3 focus rfl) | ((with_reducible apply q_pub); iterate 1 focus rfl) | ((with_reducible apply gy7); iterate 1 focus rfl) | ((with_reducible apply gy9); (focus ((with_reducible refine gE ?_); (try simp (disch := omega) only [go_sem, e2, m2, e5, e18, e19, e20, m20, hvl, hc1, hc2, hcsl, hls, decide_eq_true, decide_eq_false, if_pos, if_neg, Int.reduceAdd, Int.reduceSub, Int.reduceToNat, Int.zero_add]) <;> rfl))) | ((with_reducible apply gz1); (focus first | rfl | (simp (disch := omega) only [go_sem, e2, m2, e5, e18, e19, e20, m20, hvl, hc1, hc2, hcsl, hls, decide_eq_true, decide_eq_false, if_pos, if_neg, Int.reduceAdd, Int.reduceSub, Int.reduceToNat, Int.zero_add]; done))) | ((with_reducible apply r_drawD (id := 11) (pickR []) [12, 2012, 16] [20, 60]); (focus kernel_rfl); (focus rfl); (focus kernel_rfl); (focus (simp only [List.length_cons, List.length_nil, Nat.reduceAdd]; rfl))) | ((with_reducible first | apply og_split | apply dg_split | apply cg_split); all_goals (intro hc; (try simp only [bool_to_prop] at hc); try (exfalso; omega)))))
            rename_i svC2
            refine ⟨i + 1, ⟨by omega, by exact gW e2, by exact gW m2, by exact gW e5, by exact gW e18, by exact gW e19, by exact gS, ⟨svC2, sv, ?_, ?_, ?_⟩, fun j hj => hnx j hj hbf⟩, by omega⟩
            · rw [hsu]; exact gW hfr2
            · rw [hsu, List.map_append]; exact gC
            · rw [hsu]; exact gC
    · have hin : i = ss.length := by omega
      subst hin
      have hno : ¬ (List.range ss.length).any (bigN ss) = true := by
        rw [List.any_eq_true]
        rintro ⟨j, hj, hb⟩
        rw [hbig j (List.mem_range.1 hj)] at hb
        cases hb
      rw [if_neg hno]
      generalize (frN ss ss.length).fr = fr at *
      generalize (frN ss ss.length).cs = cs at *
      generalize (frN ss ss.length).vs = vs at *
      (focus (refine wkld (w_a e2 (w_a m2 (w_a e5 (w_a e18 (w_a e19 (w_a e20 (w_a m16 (w_a m20 (w_a m21 (w_a hls w_t)))))))))) w_t (w_a e2 (w_a m2 (w_a m16 (w_a m20 (w_a m21 w_t))))) w_t ?_; (repeat' first | exact w_t | apply w_l); all_goals intros))
  · exact ⟨Nat.zero_le _, by exact gC, by exact gC, by exact gC, by exact gC, by exact gW hls, by exact gC, ⟨_, _, by (simp (disch := omega) only [go_sem, List.set_cons_zero, List.set_cons_succ, frN] <;> repeat' first | rfl | refine ⟨?_, ?_⟩), by (simp (disch := omega) only [go_sem, frN, List.map_nil] <;> repeat' first | rfl | refine ⟨?_, ?_⟩), by (simp (disch := omega) only [go_sem, frN, List.map_nil] <;> repeat' first | rfl | refine ⟨?_, ?_⟩)⟩, fun j hj => by omega⟩
end Go.Proofs.YtbgmnobnaplmlaaGreat
end

section
namespace Go.Proofs.YtbgmnobnaplmlaaGreat
open Go Go.RowKit Go.Pg Go.Pol
set_option linter.unusedSimpArgs false
set_option linter.unusedVariables false
set_option maxRecDepth 20000
attribute [-bool_to_prop] Bool.and_eq_decide Bool.or_eq_decide Bool.decide_beq_decide decide_eq_decide
abbrev cstM (q : Rat) : Po := if q = 0 then [] else [(q, [])]
theorem PK.take {p : Po} {k e : Nat} (h : PK p k e) (i : Nat) : PK (p.take i) k e := fun t ht => h t (List.mem_of_mem_take ht)
end Go.Proofs.YtbgmnobnaplmlaaGreat
end

section
namespace Go.Proofs.YtbgmnobnaplmlaaGreat
open Go Go.RowKit Go.Pg Go.Pol
set_option linter.unusedSimpArgs false
set_option linter.unusedVariables false
set_option maxRecDepth 20000
attribute [local go_sem] Tryz.underlying3 Tryz.underlying4 Tryz.underlying178 Tryz.underlying9 Tryz.underlying48 Tryz.underlying31 Tryz.underlying43 Tryz.underlying41 Tryz.underlying39 Tryz.underlying50 Tryz.underlying22 Tryz.underlying25 Tryz.underlying56 Tryz.underlying28 Tryz.underlying72 Tryz.underlying27 Tryz.underlying30 Tryz.underlying105 Tryz.underlying107 Tryz.underlying70 Tryz.underlying63 Tryz.underlying103 Tryz.underlying154 sz3 by3 z3 szB zB szErr zErr szStr byStr zStr szRat zRat szInt zInt szNat zNat szStep byStep zStep szFig zFig szSlI zSlI szSlS zSlS szVar byVar zVar szSlV zSlV szCoord byCoord zCoord szSlC zSlC szFrame zFrame szCBld byCBld zCBld szCVec byCVec zCVec szPoly byPoly zPoly szTerm zTerm szPtrB zPtrB szFnC zFnC
attribute [-bool_to_prop] Bool.and_eq_decide Bool.or_eq_decide Bool.decide_beq_decide decide_eq_decide
theorem Agr.at {m σ : Mem} (h : Agr m σ) {k : Nat} {e : Ent} (hk : σ k = some e) : m (k + 1000) = some e.sh := by rw [h k, hk]; rfl
def ptsN (cs : List (Po × Po)) (ar : List Int) : List (Po × Po) := ar.map fun a => cs.getD a.toNat ([], [])
theorem ptsN_len (cs : List (Po × Po)) (ar : List Int) : (ptsN cs ar).length = ar.length := by unfold ptsN; simp
theorem ptsN_get {cs : List (Po × Po)} {ar : List Int} {k : Nat} (h : k < ar.length) : (ptsN cs ar)[k]'(by rw [ptsN_len]; exact h) = cs.getD (gI ar k).toNat ([], []) := by
  unfold ptsN
  rw [List.getElem_map, gI_at h]
theorem ptsN_take {cs : List (Po × Po)} {ar : List Int} {k : Nat} (h : k < ar.length) : (ptsN cs ar).take (k + 1) = (ptsN cs ar).take k ++ [cs.getD (gI ar k).toNat ([], [])] := by
  rw [List.take_add_one, List.getElem?_eq_getElem (by rw [ptsN_len]; exact h), ptsN_get h]; rfl
theorem arS_le (k : Int) : arS k ≤ 4 := by
  unfold arS
  repeat' split
  all_goals omega
end Go.Proofs.YtbgmnobnaplmlaaGreat
end

section
namespace Go.Proofs.YtbgmnobnaplmlaaGreat
open Go Go.RowKit Go.Pg Go.Pol
set_option linter.unusedSimpArgs false
set_option linter.unusedVariables false
set_option maxRecDepth 20000
attribute [local go_sem] Tryz.underlying3 Tryz.underlying4 Tryz.underlying178 Tryz.underlying9 Tryz.underlying48 Tryz.underlying31 Tryz.underlying43 Tryz.underlying41 Tryz.underlying39 Tryz.underlying50 Tryz.underlying22 Tryz.underlying25 Tryz.underlying56 Tryz.underlying28 Tryz.underlying72 Tryz.underlying27 Tryz.underlying30 Tryz.underlying105 Tryz.underlying107 Tryz.underlying70 Tryz.underlying63 Tryz.underlying103 Tryz.underlying154 sz3 by3 z3 szB zB szErr zErr szStr byStr zStr szRat zRat szInt zInt szNat zNat szStep byStep zStep szFig zFig szSlI zSlI szSlS zSlS szVar byVar zVar szSlV zSlV szCoord byCoord zCoord szSlC zSlC szFrame zFrame szCBld byCBld zCBld szCVec byCVec zCVec szPoly byPoly zPoly szTerm zTerm szPtrB zPtrB szFnC zFnC Tryz.underlying135 szHVec byHVec zHVec Tryz.underlying78 szSlP zSlP Tryz.underlying124 Tryz.underlying23 szL byL zL szFact byFact zFact szSlF zSlF szFnN zFnN
attribute [-bool_to_prop] Bool.and_eq_decide Bool.or_eq_decide Bool.decide_beq_decide decide_eq_decide
/-! ### the first variable of a step -/
def fstN (vs : List Vt) (i : Int) : Nat → Option Nat
  | 0 => none
  | y + 1 => match fstN vs i y with
    | some v => some v
    | none => if (vs.getD y (0, 0, 0)).2.1 = i then some y else none
theorem fstN_none {vs : List Vt} {i : Int} : ∀ {n : Nat}, (∀ j, j < n → (vs.getD j (0, 0, 0)).2.1 ≠ i) → fstN vs i n = none
  | 0, _ => rfl
  | n + 1, h => by
    unfold fstN
    rw [fstN_none fun j hj => h j (by omega)]
    simp only
    rw [if_neg (h n (by omega))]
theorem fstN_at {vs : List Vt} {i : Int} {y : Nat} (h : ∀ j, j < y → (vs.getD j (0, 0, 0)).2.1 ≠ i) (hy : (vs.getD y (0, 0, 0)).2.1 = i) : ∀ {n : Nat}, y < n → fstN vs i n = some y
  | 0, hn => by omega
  | n + 1, hn => by
    unfold fstN
    by_cases e : y = n
    · subst e
      rw [fstN_none h]
      simp only
      rw [if_pos hy]
    · rw [fstN_at h hy (n := n) (by omega)]
def parM (vs : List Vt) (i : Int) : Po := match fstN vs i vs.length with
  | some v => varM v
  | none => []
set_option maxHeartbeats 4000000 in
theorem hyParam (cs : List Pt) (vs : List Vt) (i : Int) (hv : vs.length ≤ 900) : Pure Tryz.prog 83 [frmA cs vs, iv i] (poA (parM vs i)) := by
  have hlm : (vs.map Vt.av).length = vs.length := List.length_map ..
  have hg : ∀ j (h : j < vs.length), (vs.map Vt.av).getD j .u = Vt.av (vs.getD j (0, 0, 0)) := fun j h => by rw [map_atB Vt.av h, List.getD_eq_getElem?_getD, List.getElem?_eq_getElem h]; rfl
  show Pure _ _ [.agg [.sl 2 (cs.map coA), .sl 3 (vs.map Vt.av)], iv i] _
  generalize cs.map coA = C at *
  generalize vs.map Vt.av = V at *
  cases hf : fstN vs i vs.length with
  | none =>
    rw [show parM vs i = [] from by unfold parM; rw [hf]]
    refine pure_vkR (r := .v (.slice none 0 0)) ?_ (.nil 4)
    refine pure_intro (tok := 0) Tryz.func83 rfl Tryz.ntmps83 Tryz.results83 Tryz.call83 (by rfl) (by simp) ?_
    (focus (refine wkap (w_a hlm w_t) w_t (w_r 0) ?_; (repeat' first | exact w_t | apply w_l); all_goals intros))
    refine r_loopE (ι := Nat) (fun y e m => y ≤ vs.length ∧ e 1 = iv i ∧ e 8 = .sl 3 V ∧ e 9 = iv vs.length ∧ e 10 = iv y ∧ ∀ j, j < y → (vs.getD j (0, 0, 0)).2.1 ≠ i) (fun y => vs.length - y) 0 (by rfl) ?_ ?_
    · rintro y e m ⟨hy, e1, e8, e9, e10, hj⟩
      by_cases hlt : y < vs.length
      · have hgy := hg y hlt
        by_cases hx : (vs.getD y (0, 0, 0)).2.1 = i
        · rw [fstN_at hj hx hlt] at hf
          cases hf
        · have hnx : ∀ j, j < y + 1 → (vs.getD j (0, 0, 0)).2.1 ≠ i := fun j hjj => by
            by_cases e : j = y
            · rw [e]; exact hx
            · exact hj j (by omega)
          clear hj hg hf
          generalize vs.getD y (0, 0, 0) = v at *
          obtain ⟨v1, v2, v3⟩ := v
          simp only at hx
          (focus (refine wkap (w_a e1 (w_a e8 (w_a e9 (w_a e10 (w_a hlm (w_a hgy (w_a hx w_t))))))) w_t (w_r 0) ?_; (repeat' first | exact w_t | apply w_l); all_goals intros))
          exact ⟨y + 1, ⟨by omega, by exact gW e1, by exact gW e8, by exact gW e9, by exact gS, hnx⟩, by omega⟩
      · have hin : y = vs.length := by omega
        subst hin
        clear hj hg hf
        (focus (refine wklp (w_a e1 (w_a e8 (w_a e9 (w_a e10 (w_a hlm w_t))))) w_t w_t (w_r 0) ?_; (repeat' first | exact w_t | apply w_l); all_goals intros))
    · exact ⟨Nat.zero_le _, by exact gC, by exact gC, by exact gW hlm, by exact gC, fun j h => by omega⟩
  | some w =>
    rw [show parM vs i = varM w from by unfold parM; rw [hf]]
    refine pure_intro (tok := 0) Tryz.func83 rfl Tryz.ntmps83 Tryz.results83 Tryz.call83 (by rfl) (by simp) ?_
    (focus (refine wkap (w_a hlm w_t) w_t (w_r 0) ?_; (repeat' first | exact w_t | apply w_l); all_goals intros))
    refine r_loopE (ι := Nat) (fun y e m => y ≤ vs.length ∧ e 1 = iv i ∧ e 8 = .sl 3 V ∧ e 9 = iv vs.length ∧ e 10 = iv y ∧ ∀ j, j < y → (vs.getD j (0, 0, 0)).2.1 ≠ i) (fun y => vs.length - y) 0 (by rfl) ?_ ?_
    · rintro y e m ⟨hy, e1, e8, e9, e10, hj⟩
      by_cases hlt : y < vs.length
      · have hgy := hg y hlt
        by_cases hx : (vs.getD y (0, 0, 0)).2.1 = i
        · rw [fstN_at hj hx hlt] at hf
          obtain rfl : y = w := by simpa using hf
          have cv := poVar y (by omega)
          clear hj hg hf
          generalize vs.getD y (0, 0, 0) = v at *
          obtain ⟨v1, v2, v3⟩ := v
          simp only at hx
          subst hx
          generalize varM y = r at *
          (focus (refine wklp (w_a e1 (w_a e8 (w_a e9 (w_a e10 (w_a hlm (w_a hgy w_t)))))) (w_a cv w_t) w_t (w_r 0) ?_; (repeat' first | exact w_t | apply w_l); all_goals intros))
        · have hnx : ∀ j, j < y + 1 → (vs.getD j (0, 0, 0)).2.1 ≠ i := fun j hjj => by
            by_cases e : j = y
            · rw [e]; exact hx
            · exact hj j (by omega)
          clear hj hg hf
          generalize vs.getD y (0, 0, 0) = v at *
          obtain ⟨v1, v2, v3⟩ := v
          simp only at hx
          (focus (refine wkap (w_a e1 (w_a e8 (w_a e9 (w_a e10 (w_a hlm (w_a hgy (w_a hx w_t))))))) w_t (w_r 0) ?_; (repeat' first | exact w_t | apply w_l); all_goals intros))
          exact ⟨y + 1, ⟨by omega, by exact gW e1, by exact gW e8, by exact gW e9, by exact gS, hnx⟩, by omega⟩
      · rw [fstN_none fun j h => hj j (by omega)] at hf
        cases hf
    · exact ⟨Nat.zero_le _, by exact gC, by exact gC, by exact gW hlm, by exact gC, fun j h => by omega⟩
set_option maxHeartbeats 8000000 in
theorem hyStepC (ss : List RS) (gs : List RG) (cs : List Pt) (vs : List Vt) (i : Nat) (s : RS) (x : Pt) (t : Po) (L : List Po) (hi : i < ss.length) (hs : ss[i] = s) (hcl : cs.length = ss.length) (hx : cs.getD i ([], []) = x) (har : ∀ k, k < s.ar.length → 0 ≤ gI s.ar k ∧ gI s.ar k < (cs.length : Int)) (h4 : s.ar.length ≤ 4)
    (cp : Pure Tryz.prog 83 [frmA cs vs, iv i] (poA t)) (ce : Pure Tryz.prog 82 [iv s.k, .sl 2 ((ptsN cs s.ar).map coA), coA x, poA t] (.sl 1 (L.map poA))) :
    Pure Tryz.prog 35 [figA ss gs, frmA cs vs, iv i] (.tup [.sl 1 (L.map poA), iv 0]) := by
  have cp : Pure Tryz.prog 83 [.agg [.sl 2 (cs.map coA), .sl 3 (vs.map Vt.av)], iv i] (poA t) := cp
  have hgi : (ss.map RS.av).getD i .u = s.av := by rw [map_atB RS.av hi, hs]
  have hgx : (cs.map coA).getD i .u = coA x := by rw [← hx, map_atB coA (by omega), List.getD_eq_getElem?_getD, List.getElem?_eq_getElem (by omega)]; rfl
  have hls : (ss.map RS.av).length = ss.length := List.length_map ..
  have hlC : (cs.map coA).length = ss.length := by rw [List.length_map, hcl]
  have hgc : ∀ j, j < ss.length → (cs.map coA).getD j .u = coA (cs.getD j ([], [])) := fun j h => by rw [map_atB coA (by omega), List.getD_eq_getElem?_getD, List.getElem?_eq_getElem (by omega)]; rfl
  have hpt := fun y (h : y < s.ar.length) => ptsN_take (cs := cs) h
  have hpl : (ptsN cs s.ar).length = s.ar.length := ptsN_len cs s.ar
  have hga : ∀ y (h : y < s.ar.length), (s.ar.map iv).getD y .u = iv (gI s.ar y) := fun y h => by rw [map_atB iv h, gI_at h]
  have hla : (s.ar.map iv).length = s.ar.length := List.length_map ..
  rw [hcl] at har
  show Pure _ _ [.agg [.sl 6 (ss.map RS.av), .sl 5 (gs.map RG.av)], .agg [.sl 2 (cs.map coA), .sl 3 (vs.map Vt.av)], iv i] _
  clear hs hx hcl
  obtain ⟨k, nm, ar, ⟨rs, rl, rd⟩⟩ := s
  obtain ⟨x1, x2⟩ := x
  simp only at *
  generalize ss.map RS.av = M at *
  generalize gs.map RG.av = N at *
  generalize cs.map coA = C at *
  generalize vs.map Vt.av = V at *
  generalize L.map poA = LA at *
  generalize hp : ptsN cs ar = pts at *
  refine pure_intro (tok := 0) Tryz.func35 rfl Tryz.ntmps35 Tryz.results35 Tryz.call35 (by rfl) (by simp) ?_
  (focus (refine wkad (w_a hls (w_a hlC (w_a hgi w_t))) w_t w_t ?_; (repeat' first | exact w_t | apply w_l); all_goals intros))
  rename_i g3 g4 g8
  refine r_frz (Frz.nilOwn (d := 9) 47 2 72 (by exact gC)) ?_
  refine r_loopE (ι := Nat) (fun y e m => y ≤ ar.length ∧ e 2 = iv i ∧ e 4 = .pbox 4 g4 0 ∧ m 4 = some (.box g4 30 [.sl 2 C, .sl 3 V] false) ∧ e 8 = .pbox 8 g8 0 ∧ m 8 = some (.box g8 50 [iv k, strA nm, ivs ar, .v (.bool rs), lim rl, lim rd] false) ∧ e 34 = ivs ar ∧ e 35 = iv ar.length ∧ e 36 = iv y ∧ ∃ sv, e 9 = .own 47 sv ∧ m 47 = some (.row sv 72 2 ((pts.take y).map coA) 0)) (fun y => ar.length - y) 0 (by rfl) ?_ ?_
  · rintro y e m ⟨hy, e2, e4, m4, e8, m8, e34, e35, e36, sv, e9, m47⟩
    by_cases hlt : y < ar.length
    · have hgy := hga y hlt
      obtain ⟨h0, h1⟩ := har y hlt
      obtain ⟨n, hn⟩ : ∃ n : Nat, gI ar y = n := ⟨(gI ar y).toNat, by omega⟩
      rw [hn] at hgy h1
      have hgn := hgc n (by omega)
      have hp1 := hpt y hlt
      rw [hn, Int.toNat_natCast] at hp1
      have hl : ((pts.take y).map coA).length = y := by rw [List.length_map, List.length_take]; omega
      have hrow : (pts.take (y + 1)).map coA = (pts.take y).map coA ++ [coA (cs.getD n ([], []))] := by rw [hp1, List.map_append]; rfl
      clear hga har hgc hpt hp1 cp ce
      generalize cs.getD n ([], []) = c at *
      obtain ⟨c1, c2⟩ := c
      generalize (pts.take y).map coA = R at *
      (focus (refine wkad (w_a e2 (w_a e4 (w_a m4 (w_a e8 (w_a m8 (w_a e34 (w_a e35 (w_a e36 (w_a e9 (w_a m47 (w_a hla (w_a hlC (w_a hgy (w_a hgn (w_a hl w_t))))))))))))))) w_t w_t ?_; (repeat' first | exact w_t | apply w_l); all_goals intros))
      exact ⟨y + 1, ⟨by omega, by exact gW e2, by exact gW e4, by exact gW m4, by exact gW e8, by exact gW m8, by exact gW e34, by exact gW e35, by exact gS, _, by exact gC, by rw [hrow]; exact gC⟩, by omega⟩
    · rw [List.take_of_length_le (by omega)] at m47
      clear hga har hgc hpt
      generalize pts.map coA = R at *
      (focus (refine wkud (w_a e2 (w_a e4 (w_a m4 (w_a e8 (w_a m8 (w_a e34 (w_a e35 (w_a e36 (w_a e9 (w_a m47 (w_a hla w_t))))))))))) w_t ?_; (repeat' first | exact w_t | apply w_l); all_goals intros))
      refine r_frzD (Frz.own (d := 9) (by exact gW e9) (by exact gW m47)) ?_
      (focus (refine wkld (w_a e2 (w_a e4 (w_a m4 (w_a e8 (w_a m8 (w_a hlC (w_a hgx w_t))))))) (w_a cp (w_a ce w_t)) w_t (w_a (w_d 10 [(10, poA t), (11, .sl 1 LA)] [] []) w_t) ?_; (repeat' first | exact w_t | apply w_l); all_goals intros))
  · exact ⟨Nat.zero_le _, by exact gC, by exact gC, by exact gC, by exact gC, by exact gC, by exact gC, by exact gW hla, by exact gC, _, by exact gC, by (simp (disch := omega) only [go_sem, List.take_zero, List.map_nil] <;> repeat' first | rfl | refine ⟨?_, ?_⟩)⟩
set_option maxHeartbeats 4000000 in
theorem hyE7 {a b c x : Pt} (t : Po) (ha : CB a) (hb : CB b) (hc : CB c) (hx : CB x) : Pure Tryz.prog 82 [iv 7, .sl 2 [coA a, coA b, coA c], coA x, poA t] (.sl 1 [poA (crossM b c b x), poA (dotM b c a x)]) := by
  have c1 := hyCross hb hc hb hx
  have c2 := hyDot hb hc ha hx
  generalize crossM b c b x = r1 at *
  generalize dotM b c a x = r2 at *
  clear ha hb hc hx
  obtain ⟨a1, a2⟩ := a
  obtain ⟨b1, b2⟩ := b
  obtain ⟨d1, d2⟩ := c
  obtain ⟨x1, x2⟩ := x
  refine pure_intro (tok := 0) Tryz.func82 rfl Tryz.ntmps82 Tryz.results82 Tryz.call82 (by rfl) (by simp) ?_
  (focus (refine wkld w_t (w_a c1 (w_a c2 w_t)) w_t (w_a (w_d 7 [(10, poA r1), (21, poA r2)] [] []) w_t) ?_; (repeat' first | exact w_t | apply w_l); all_goals intros))
set_option maxHeartbeats 4000000 in
theorem hyE0 (k : Int) (R : List AV) (x : Pt) (t : Po) (hk : k < 6 ∨ 14 < k) : Pure Tryz.prog 82 [iv k, .sl 2 R, coA x, poA t] (.sl 1 []) := by
  refine pure_vkR (r := .v (.slice none 0 0)) ?_ (.nil 1)
  obtain ⟨x1, x2⟩ := x
  have k6 : ¬ k = 6 := by omega
  have k7 : ¬ k = 7 := by omega
  have k8 : ¬ k = 8 := by omega
  have k9 : ¬ k = 9 := by omega
  have k10 : ¬ k = 10 := by omega
  have k11 : ¬ k = 11 := by omega
  have k12 : ¬ k = 12 := by omega
  have k13 : ¬ k = 13 := by omega
  have k14 : ¬ k = 14 := by omega
  refine pure_intro (tok := 0) Tryz.func82 rfl Tryz.ntmps82 Tryz.results82 Tryz.call82 (by rfl) (by simp) ?_
  (focus (refine wkld (w_a k6 (w_a k7 (w_a k8 (w_a k9 (w_a k10 (w_a k11 (w_a k12 (w_a k13 (w_a k14 w_t))))))))) w_t w_t w_t ?_; (repeat' first | exact w_t | apply w_l); all_goals intros))
end Go.Proofs.YtbgmnobnaplmlaaGreat
end

section
namespace Go.Proofs.YtbgmnobnaplmlaaGreat
open Go Go.RowKit Go.Pg Go.Pol
set_option linter.unusedSimpArgs false
set_option linter.unusedVariables false
set_option maxRecDepth 20000
attribute [local go_sem] Tryz.underlying3 Tryz.underlying4 Tryz.underlying178 Tryz.underlying9 Tryz.underlying48 Tryz.underlying31 Tryz.underlying43 Tryz.underlying41 Tryz.underlying39 Tryz.underlying50 Tryz.underlying22 Tryz.underlying25 Tryz.underlying56 Tryz.underlying28 Tryz.underlying72 Tryz.underlying27 Tryz.underlying30 Tryz.underlying105 Tryz.underlying107 Tryz.underlying70 Tryz.underlying63 Tryz.underlying103 Tryz.underlying154 sz3 by3 z3 szB zB szErr zErr szStr byStr zStr szRat zRat szInt zInt szNat zNat szStep byStep zStep szFig zFig szSlI zSlI szSlS zSlS szVar byVar zVar szSlV zSlV szCoord byCoord zCoord szSlC zSlC szFrame zFrame szCBld byCBld zCBld szCVec byCVec zCVec szPoly byPoly zPoly szTerm zTerm szPtrB zPtrB szFnC zFnC Tryz.underlying135 szHVec byHVec zHVec Tryz.underlying78 szSlP zSlP Tryz.underlying124 Tryz.underlying23 szL byL zL szFact byFact zFact szSlF zSlF
attribute [-bool_to_prop] Bool.and_eq_decide Bool.or_eq_decide Bool.decide_beq_decide decide_eq_decide
/-! ### the hypotheses of all steps -/
def bigE (E : Nat → List Po) (i : Nat) : Bool := (E i).any fun p => decide (4000 < p.length)
def hypL (E : Nat → List Po) : Nat → List Po
  | 0 => []
  | i + 1 => hypL E i ++ E i
theorem any_yes {E : Nat → List Po} {i n : Nat} (hi : i < n) (h : bigE E i = true) : (List.range n).any (bigE E) = true := List.any_eq_true.2 ⟨i, List.mem_range.2 hi, h⟩
theorem any_no {E : Nat → List Po} {n : Nat} (h : ∀ j, j < n → bigE E j = false) : (List.range n).any (bigE E) = false := by
  rw [List.any_eq_false]
  intro j hj
  rw [h j (List.mem_range.1 hj)]; simp
set_option maxHeartbeats 8000000 in
theorem hyOf (ss : List RS) (gs : List RG) (cs : List Pt) (vs : List Vt) (E : Nat → List Po) (hE : ∀ i, (E i).length ≤ 10) (hl : ss.length ≤ 1000)
    (co : Pure Tryz.prog 15 [figA ss gs] (.tup [frmA cs vs, iv 0]))
    (hst : ∀ i, i < ss.length → Pure Tryz.prog 35 [figA ss gs, frmA cs vs, iv i] (.tup [.sl 1 ((E i).map poA), iv 0])) :
    Pure Tryz.prog 38 [figA ss gs] (if (List.range ss.length).any (bigE E) = true then .tup [.v (.slice none 0 0), iv 4] else .tup [.sl 1 ((hypL E ss.length).map poA), iv 0]) := by
  have co : Pure Tryz.prog 15 [.agg [.sl 6 (ss.map RS.av), .sl 5 (gs.map RG.av)]] (.tup [.agg [.sl 2 (cs.map coA), .sl 3 (vs.map Vt.av)], iv 0]) := co
  have hst : ∀ i, i < ss.length → Pure Tryz.prog 35 [.agg [.sl 6 (ss.map RS.av), .sl 5 (gs.map RG.av)], .agg [.sl 2 (cs.map coA), .sl 3 (vs.map Vt.av)], iv i] (.tup [.sl 1 ((E i).map poA), iv 0]) := hst
  have hls : (ss.map RS.av).length = ss.length := List.length_map ..
  have hhl : ∀ i, i ≤ ss.length → (hypL E i).length ≤ 10 * i := fun i => by
    induction i with
    | zero => intro _; simp [hypL]
    | succ i ih =>
      intro h
      have h1 := ih (by omega)
      have h2 := hE i
      have h3 : hypL E (i + 1) = hypL E i ++ E i := rfl
      rw [h3, List.length_append]; omega
  show Pure _ _ [.agg [.sl 6 (ss.map RS.av), .sl 5 (gs.map RG.av)]] _
  generalize ss.map RS.av = M at *
  generalize gs.map RG.av = N at *
  generalize cs.map coA = C at *
  generalize vs.map Vt.av = V at *
  refine pure_intro (tok := 0) Tryz.func38 rfl Tryz.ntmps38 Tryz.results38 Tryz.call38 (by rfl) (by simp) ?_
  (focus (refine wkap (w_a hls w_t) (w_a co w_t) (w_r 0) ?_; (repeat' first | exact w_t | apply w_l); all_goals intros))
  rename_i g1 g4
  refine r_frz (Frz.nilOwn (d := 6) 48 1 70 (by exact gC)) ?_
  refine r_loopE (ι := Nat) (fun i e m => i ≤ ss.length ∧ e 1 = .pbox 1 g1 0 ∧ m 1 = some (.box g1 25 [.sl 6 M, .sl 5 N] false) ∧ e 4 = .pbox 4 g4 0 ∧ m 4 = some (.box g4 30 [.sl 2 C, .sl 3 V] false) ∧ e 21 = .sl 6 M ∧ e 22 = iv ss.length ∧ e 23 = iv i ∧ (∃ sv, e 6 = .own 48 sv ∧ m 48 = some (.row sv 70 1 ((hypL E i).map poA) 0)) ∧ ∀ j, j < i → bigE E j = false) (fun i => ss.length - i) 0 (by rfl) ?_ ?_
  · rintro i e m ⟨hi, e1, m1, e4, m4, e21, e22, e23, ⟨sv, e6, m6⟩, hj⟩
    by_cases hlt : i < ss.length
    · have cst := hst i hlt
      have hyes : bigE E i = true → (List.range ss.length).any (bigE E) = true := any_yes hlt
      have hnx : bigE E i = false → ∀ j, j < i + 1 → bigE E j = false := fun h j hjj => by
        by_cases e : j = i
        · rw [e]; exact h
        · exact hj j (by omega)
      have hrow : (hypL E (i + 1)).map poA = (hypL E i).map poA ++ (E i).map poA := by show (hypL E i ++ E i).map poA = _; rw [List.map_append]
      have hll : ((hypL E i).map poA).length ≤ 10000 := by rw [List.length_map]; have := hhl i hi; omega
      have hbig : bigE E i = (E i).any fun p => decide (4000 < p.length) := rfl
      have hle := hE i
      have hgE : ∀ y (h : y < (E i).length), ((E i).map poA).getD y .u = .sl 4 ((E i)[y].map tmA) := fun y h => map_atB poA h
      have hlE : ((E i).map poA).length = (E i).length := List.length_map ..
      clear hst hhl hj co
      generalize bigE E i = b at *
      generalize (hypL E i).map poA = R at *
      generalize (E i).map poA = LA at *
      generalize hL : E i = L at *
      (focus (refine wkap (w_a e1 (w_a m1 (w_a e4 (w_a m4 (w_a e21 (w_a e22 (w_a e23 (w_a e6 (w_a m6 (w_a hls (w_a hlE w_t))))))))))) (w_a cst w_t) (w_r 0) ?_; (repeat' first | exact w_t | apply w_l); all_goals intros))
      refine r_loopE (ι := Nat) (fun y e m => y ≤ L.length ∧ e 1 = .pbox 1 g1 0 ∧ m 1 = some (.box g1 25 [.sl 6 M, .sl 5 N] false) ∧ e 4 = .pbox 4 g4 0 ∧ m 4 = some (.box g4 30 [.sl 2 C, .sl 3 V] false) ∧ e 21 = .sl 6 M ∧ e 22 = iv ss.length ∧ e 23 = iv i ∧ e 6 = .own 48 sv ∧ m 48 = some (.row sv 70 1 R 0) ∧ e 8 = .sl 1 LA ∧ e 36 = .sl 1 LA ∧ e 37 = iv L.length ∧ e 38 = iv y ∧ ∀ j (h : j < L.length), j < y → ¬ 4000 < L[j].length) (fun y => L.length - y) 0 (by rfl) ?_ ?_
      · rintro y e m ⟨hy, e1, m1, e4, m4, e21, e22, e23, e6, m6, e8, e36, e37, e38, hq⟩
        by_cases hly : y < L.length
        · have hgy := hgE y hly
          have hpl : (L[y].map tmA).length = L[y].length := List.length_map ..
          have hby : 4000 < L[y].length → b = true := fun h => by rw [hbig, List.any_eq_true]; exact ⟨L[y], List.getElem_mem hly, by simpa using h⟩
          have hqx : ¬ 4000 < L[y].length → ∀ j (h : j < L.length), j < y + 1 → ¬ 4000 < L[j].length := fun h j hjj h2 => by
            by_cases e : j = y
            · subst e; exact h
            · exact hq j hjj (by omega)
          clear hq hbig hgE hrow
          generalize L[y].map tmA = P at *
          by_cases h4 : 4000 < L[y].length
          · rw [if_pos (hyes (hby h4))]
            clear hqx hby hnx hyes
            (focus (refine wklp (w_a e1 (w_a m1 (w_a e4 (w_a m4 (w_a e21 (w_a e22 (w_a e23 (w_a e6 (w_a m6 (w_a e8 (w_a e36 (w_a e37 (w_a e38 (w_a hls (w_a hlE (w_a hgy (w_a hpl w_t))))))))))))))))) w_t w_t (w_r 0) ?_; (repeat' first | exact w_t | apply w_l); all_goals intros))
          · have := hqx h4
            clear hqx hby hnx hyes
            (focus (refine wkap (w_a e1 (w_a m1 (w_a e4 (w_a m4 (w_a e21 (w_a e22 (w_a e23 (w_a e6 (w_a m6 (w_a e8 (w_a e36 (w_a e37 (w_a e38 (w_a hls (w_a hlE (w_a hgy (w_a hpl w_t))))))))))))))))) w_t (w_r 0) ?_; (repeat' first | exact w_t | apply w_l); all_goals intros))
            exact ⟨y + 1, ⟨by omega, by exact gW e1, by exact gW m1, by exact gW e4, by exact gW m4, by exact gW e21, by exact gW e22, by exact gW e23, by exact gW e6, by exact gW m6, by exact gW e8, by exact gW e36, by exact gW e37, by exact gS, this⟩, by omega⟩
        · have hb : b = false := by
            rw [hbig, List.any_eq_false]
            intro x hx
            obtain ⟨j, hjl, rfl⟩ := List.mem_iff_getElem.1 hx
            have := hq j hjl (by omega)
            simpa using this
          have := hnx hb
          clear hq hbig hgE hnx hyes hb
          (focus (refine wkap (w_a e1 (w_a m1 (w_a e4 (w_a m4 (w_a e21 (w_a e22 (w_a e23 (w_a e6 (w_a m6 (w_a e8 (w_a e36 (w_a e37 (w_a e38 (w_a hls (w_a hlE w_t))))))))))))))) w_t (w_r 0) ?_; (repeat' first | exact w_t | apply w_l); all_goals intros))
          exact ⟨i + 1, ⟨by omega, by exact gW e1, by exact gW m1, by exact gW e4, by exact gW m4, by exact gW e21, by exact gW e22, by exact gS, ⟨_, by exact gC, by rw [hrow]; exact gC⟩, this⟩, by omega⟩
      · exact ⟨Nat.zero_le _, by exact gW e1, by exact gW m1, by exact gW e4, by exact gW m4, by exact gW e21, by exact gW e22, by exact gW e23, by exact gW e6, by exact gW m6, by exact gC, by exact gC, by (simp (disch := omega) only [go_sem, hlE] <;> repeat' first | rfl | refine ⟨?_, ?_⟩), by exact gC, fun j h h2 => by omega⟩
    · have hin : i = ss.length := by omega
      subst hin
      rw [if_neg (by rw [any_no hj]; simp)]
      clear hst hhl hj co
      generalize (hypL E ss.length).map poA = R at *
      (focus (refine wklp (w_a e1 (w_a m1 (w_a e4 (w_a m4 (w_a e21 (w_a e22 (w_a e23 (w_a e6 (w_a m6 (w_a hls w_t)))))))))) w_t (w_a m6 w_t) (w_r 0) ?_; (repeat' first | exact w_t | apply w_l); all_goals intros))
  · exact ⟨Nat.zero_le _, by exact gC, by exact gC, by exact gC, by exact gC, by exact gC, by exact gW hls, by exact gC, ⟨_, by exact gC, by (simp (disch := omega) only [go_sem, hypL, List.map_nil] <;> repeat' first | rfl | refine ⟨?_, ?_⟩)⟩, fun j h => by omega⟩
set_option maxHeartbeats 4000000 in
theorem lwSame (L : List Po) (hl : L.length ≤ 100000) (he : ∀ p ∈ L, Pure Tryz.prog 29 [poA p, poA p] (.v (.bool true))) : Pure Tryz.prog 37 [.sl 1 (L.map poA), .sl 1 (L.map poA)] (.v (.bool true)) := by
  have hlL : (L.map poA).length = L.length := List.length_map ..
  have hg : ∀ y (h : y < L.length), (L.map poA).getD y .u = poA L[y] := fun y h => map_atB poA h
  generalize L.map poA = LA at *
  refine pure_intro (tok := 0) Tryz.func37 rfl Tryz.ntmps37 Tryz.results37 Tryz.call37 (by rfl) (by simp) ?_
  (focus (refine wkad (w_a hlL w_t) w_t w_t ?_; (repeat' first | exact w_t | apply w_l); all_goals intros))
  refine r_loopE (ι := Nat) (fun i e m => i ≤ L.length ∧ e 0 = .sl 1 LA ∧ e 1 = .sl 1 LA ∧ e 5 = iv i) (fun i => L.length - i) 0 (by rfl) ?_ ?_
  · rintro i e m ⟨hi, e0, e1, e5⟩
    by_cases hlt : i < L.length
    · have hgi := hg i hlt
      have ce := he _ (List.getElem_mem hlt)
      clear he hg
      generalize L[i] = p at *
      (focus (refine wkad (w_a e0 (w_a e1 (w_a e5 (w_a hlL (w_a hgi w_t))))) (w_a ce w_t) (w_a (w_d 4 [(8, .v (.bool true))] [] []) w_t) ?_; (repeat' first | exact w_t | apply w_l); all_goals intros))
      exact ⟨i + 1, ⟨by omega, by exact gW e0, by exact gW e1, by exact gS⟩, by omega⟩
    · clear he hg
      (focus (refine wkld (w_a e0 (w_a e1 (w_a e5 (w_a hlL w_t)))) w_t w_t w_t ?_; (repeat' first | exact w_t | apply w_l); all_goals intros))
  · exact ⟨Nat.zero_le _, by exact gC, by exact gC, by exact gC⟩
end Go.Proofs.YtbgmnobnaplmlaaGreat
end

section
namespace Go.Proofs.YtbgmnobnaplmlaaGreat
open Go Go.RowKit Go.Pg Go.Pol
set_option linter.unusedSimpArgs false
set_option linter.unusedVariables false
set_option maxRecDepth 20000
attribute [local go_sem] Tryz.underlying3 Tryz.underlying4 Tryz.underlying43 Tryz.underlying41 Tryz.underlying39 Tryz.underlying63 Tryz.underlying69 Tryz.underlying61 Tryz.underlying70 Tryz.underlying78 sz3 by3 z3 szRat zRat szInt zInt szNat zNat szTerm byTerm zTerm szMono byMono zMono szPoly byPoly zPoly
attribute [-bool_to_prop] Bool.and_eq_decide Bool.or_eq_decide Bool.decide_beq_decide decide_eq_decide
/-! ### polynomials as they come in -/
structure RT where
  r : RQ
  m : List Int
abbrev RT.av (t : RT) : AV := .agg [.v (.bool t.r.s), lim t.r.l, lim t.r.d, ivs t.m]
abbrev RT.tm (t : RT) : Tm := (t.r.q, t.m)
abbrev RT.zero : RT := ⟨⟨false, [], []⟩, []⟩
def RT.ok (t : RT) : Bool := t.r.ok && (decide (t.r.q ≠ 0) && rightB t.m)
def trmOk (l : List RT) (i : Nat) : Bool := (l.getD i RT.zero).ok && (decide (i = 0) || decide (ltM (l.getD i RT.zero).m (l.getD (i - 1) RT.zero).m))
def polOk (l : List RT) : Bool := (List.range l.length).all (trmOk l)
theorem rawAt {l : List RT} {i : Nat} (h : i < l.length) : l.getD i RT.zero = l[i] := by rw [List.getD_eq_getElem?_getD, List.getElem?_eq_getElem h]; rfl
theorem right_in {m : List Int} (h : rightB m = true) : Can m ∧ m.length ≤ 64 ∧ ∀ j, gI m j ≤ 1048576 := by
  unfold rightB at h
  simp only [Bool.and_eq_true, decide_eq_true_eq, Bool.not_eq_true', List.all_eq_true] at h
  obtain ⟨⟨h1, h2⟩, h3⟩ := h
  have hj : ∀ j, 0 ≤ gI m j ∧ gI m j ≤ 1048576 := fun j => by
    by_cases hl : j < m.length
    · have := h3 m[j] (List.getElem_mem hl)
      rw [gI_at hl]
      unfold expOk at this
      simp at this; omega
    · rw [gI_out (by omega)]; omega
  refine ⟨⟨fun j => (hj j).1, ?_⟩, h1, fun j => (hj j).2⟩
  by_cases h0 : m.length = 0
  · exact .inl h0
  · rw [getLast_at (by omega)] at h2
    exact .inr (by simpa using h2)
theorem pol_no {l : List RT} {i : Nat} (hi : i < l.length) (h : trmOk l i = false) : polOk l = false := by
  unfold polOk
  rw [List.all_eq_false]
  exact ⟨i, List.mem_range.2 hi, by rw [h]; simp⟩
theorem pol_in {l : List RT} {k : Nat} (h : polOk l = true) (hs : ∀ t ∈ l, t.r.lm k) :
    .sl 4 (l.map RT.av) = poA (l.map RT.tm) ∧ SrtM (l.map RT.tm) ∧ PK (l.map RT.tm) k 1048576 ∧ ∀ t ∈ l, t.m.length ≤ 64 := by
  have hall : ∀ i (hi : i < l.length), l[i].ok = true ∧ (i = 0 ∨ ltM l[i].m (l.getD (i - 1) RT.zero).m) := fun i hi => by
    have := List.all_eq_true.1 h i (List.mem_range.2 hi)
    unfold trmOk at this
    rw [rawAt hi] at this
    simpa using this
  have hok : ∀ t ∈ l, t.r.ok = true ∧ t.r.q ≠ 0 ∧ rightB t.m = true := fun t ht => by
    obtain ⟨i, hi, rfl⟩ := List.mem_iff_getElem.1 ht
    have := (hall i hi).1
    unfold RT.ok at this
    simp only [Bool.and_eq_true, decide_eq_true_eq] at this
    exact this
  refine ⟨?_, ⟨fun u hu => ?_, ?_⟩, fun u hu => ?_, fun t ht => (right_in (hok t ht).2.2).2.1⟩
  · rw [poA, List.map_map]
    congr 1
    refine List.map_congr_left fun t ht => ?_
    have := (RQ.ok_av (hs t ht) (hok t ht).1).1
    simp only [AV.agg.injEq, List.cons.injEq] at this
    show AV.agg [_, _, _, _] = AV.agg [_, _, _, _]
    rw [this.1, this.2.1, this.2.2.1]
  · obtain ⟨t, ht, rfl⟩ := List.mem_map.1 hu
    exact ⟨(hok t ht).2.1, (right_in (hok t ht).2.2).1⟩
  · have key : ∀ d i, i + d + 1 < l.length → ltM (l.getD (i + d + 1) RT.zero).m (l.getD i RT.zero).m := by
      intro d
      induction d with
      | zero =>
        intro i hi
        have := (hall (i + 1) hi).2
        rw [rawAt hi]
        rcases this with h0 | h0
        · omega
        · exact h0
      | succ d ih =>
        intro i hi
        have h1 := ih i (by omega)
        have h2 := (hall (i + (d + 1) + 1) hi).2
        rw [rawAt hi]
        rcases h2 with h0 | h0
        · omega
        · exact ordM.tr _ _ _ h0 h1
    rw [List.pairwise_map, List.pairwise_iff_getElem]
    intro i j hi hj hij
    have := key (j - i - 1) i (by omega)
    rw [show i + (j - i - 1) + 1 = j by omega, rawAt hi, rawAt hj] at this
    exact this
  · obtain ⟨t, ht, rfl⟩ := List.mem_map.1 hu
    obtain ⟨h1, h2, h3⟩ := right_in (hok t ht).2.2
    exact ⟨(RQ.ok_av (hs t ht) (hok t ht).1).2, by show t.m.length ≤ 1000; omega, fun j => ⟨h1.1 j, h3 j⟩⟩
set_option maxHeartbeats 4000000 in
/-- Which polynomials are valid. -/
theorem rawRight (l : List RT) (ll : l.length ≤ 1000000000) (hs : ∀ t ∈ l, t.r.lm 2000000) : Pure Tryz.prog 54 [.sl 4 (l.map RT.av)] (.v (.bool (polOk l))) := by
  have hlen : (l.map RT.av).length = l.length := List.length_map ..
  have hgl : ∀ i (h : i < l.length), (l.map RT.av).getD i .u = l[i].av := fun i h => map_atB RT.av h
  generalize hL : l.map RT.av = L at *
  refine pure_intro (tok := 0) Tryz.func54 rfl Tryz.ntmps54 Tryz.results54 Tryz.call54 (by rfl) (by simp) ?_
  (focus (refine wkad (w_a hlen w_t) w_t w_t ?_; (repeat' first | exact w_t | apply w_l); all_goals intros))
  refine r_loopE (ι := Nat) (fun i e m => i ≤ l.length ∧ e 0 = .sl 4 L ∧ e 3 = iv i ∧ ∀ j, j < i → trmOk l j = true) (fun i => l.length - i) 0 (by rfl) ?_ ?_
  · rintro i e m ⟨hi, e0, e3, hj⟩
    by_cases hi2 : i < l.length
    · have hg : L.getD i .u = .agg [.v (.bool l[i].r.s), lim l[i].r.l, lim l[i].r.d, ivs l[i].m] := hgl i hi2
      have hm := hs _ (List.getElem_mem hi2)
      have hti := rawAt hi2
      have cr := qRight l[i].r.s l[i].r.l l[i].r.d hm.1 hm.2.1 (by have := hm.2.2.1; omega) (by have := hm.2.2.2; omega)
      have cm : Pure Tryz.prog 121 [ivs l[i].m] (.v (.bool (rightB l[i].m))) := refRight l[i].m
      have hno : trmOk l i = false → polOk l = false := pol_no hi2
      have htr : trmOk l i = (l[i].ok && (decide (i = 0) || decide (ltM l[i].m (l.getD (i - 1) RT.zero).m))) := by unfold trmOk; rw [hti]
      have hnx : trmOk l i = true → ∀ j, j < i + 1 → trmOk l j = true := fun h j hjj => by
        by_cases e : j = i
        · rw [e]; exact h
        · exact hj j (by omega)
      have hsg : l[i].r.ok = true → Pure Tryz.prog 120 [.agg [.v (.bool l[i].r.s), lim l[i].r.l, lim l[i].r.d]] (.v (.int .i64 l[i].r.q.num.sign)) := fun o => by
        obtain ⟨av, sz⟩ := RQ.ok_av hm o
        have := qSign l[i].r.q sz (by omega)
        rwa [← av] at this
      have hcl : rightB l[i].m = true → i ≠ 0 → (l.getD (i - 1) RT.zero).ok = true → Pure Tryz.prog 122 [ivs (l.getD (i - 1) RT.zero).m, ivs l[i].m, iv 0] (iv (lexC (l.getD (i - 1) RT.zero).m l[i].m (max (l.getD (i - 1) RT.zero).m.length l[i].m.length))) := fun h1 h2 h3 => by
        obtain ⟨a1, a2, a3⟩ := right_in h1
        have h4 : rightB (l.getD (i - 1) RT.zero).m = true := by unfold RT.ok at h3; simp only [Bool.and_eq_true] at h3; exact h3.2.2
        obtain ⟨b1, b2, b3⟩ := right_in h4
        exact rpLex _ _ ⟨by omega, fun j => by have := b1.1 j; have := b3 j; omega⟩ ⟨by omega, fun j => by have := a1.1 j; have := a3 j; omega⟩
      have hpr : i ≠ 0 → (l.getD (i - 1) RT.zero).ok = true := fun h0 => by
        have := hj (i - 1) (by omega)
        unfold trmOk at this
        simp only [Bool.and_eq_true] at this
        exact this.1
      have hgp : i ≠ 0 → L.getD (i - 1) .u = (l.getD (i - 1) RT.zero).av := fun h0 => by rw [hgl (i - 1) (by omega), rawAt (show i - 1 < l.length by omega)]
      have hlt : ∀ a b : List Int, ltM a b ↔ lexC b a (max b.length a.length) = 1 := fun a b => by
        rw [lexC_neg, Nat.max_comm]
        show lexC a b (max a.length b.length) = -1 ↔ _
        omega
      have h3 : ∀ a b : List Int, lexC a b (max a.length b.length) = 0 ∨ lexC a b (max a.length b.length) = -1 ∨ lexC a b (max a.length b.length) = 1 := fun a b => by
        rcases lexC_three (a := a) (b := b) (max a.length b.length) with h | h | h
        · exact .inl h.1
        · exact .inr (.inl h)
        · exact .inr (.inr h)
      simp only [hlt] at htr
      unfold RT.ok at htr
      have hsz : (l[i].r.q = 0) ↔ l[i].r.q.num.sign = 0 := by rw [sgn_ne]
      clear hs hj hti hm hgl hlt
      generalize l[i].r.ok = ok at *
      generalize l[i].r.q = q at *
      generalize hsn : q.num.sign = z at *
      generalize l[i].m = mm at *
      generalize l[i].r.s = rs at *
      generalize l[i].r.l = rl at *
      generalize l[i].r.d = rd at *
      cases ok with
      | false =>
        rw [hno (by rw [htr]; rfl)]
        (focus (refine wkld (w_a e0 (w_a e3 (w_a hg (w_a hlen w_t)))) (w_a cr w_t) w_t w_t ?_; (repeat' first | exact w_t | apply w_l); all_goals intros))
      | true =>
        have cs := hsg rfl
        by_cases hz : z = 0
        · have hq := hsz.2 hz
          rw [hno (by rw [htr]; simp [hq])]
          subst hz
          (focus (refine wkld (w_a e0 (w_a e3 (w_a hg (w_a hlen w_t)))) (w_a cr (w_a cs w_t)) w_t w_t ?_; (repeat' first | exact w_t | apply w_l); all_goals intros))
        · have hq : ¬ q = 0 := fun e => hz (hsz.1 e)
          cases hr : rightB mm with
          | false =>
            rw [hr] at cm htr
            rw [hno (by rw [htr]; simp)]
            (focus (refine wkld (w_a e0 (w_a e3 (w_a hg (w_a hlen (w_a hz w_t))))) (w_a cr (w_a cs (w_a cm w_t))) w_t w_t ?_; (repeat' first | exact w_t | apply w_l); all_goals intros))
          | true =>
            rw [hr] at cm htr
            by_cases h0 : i = 0
            · subst h0
              have := hnx (by rw [htr]; simp [hq])
              (focus (refine wkad (w_a e0 (w_a e3 (w_a hg (w_a hlen (w_a hz w_t))))) (w_a cr (w_a cs (w_a cm w_t))) (w_a (w_d 6 [] [] []) w_t) ?_; (repeat' first | exact w_t | apply w_l); all_goals intros))
              exact ⟨1, ⟨by omega, by exact gW e0, by exact gC, this⟩, by omega⟩
            · have cl := hcl hr h0 (hpr h0)
              have hh := hgp h0
              obtain ⟨k, rfl⟩ : ∃ k, i = k + 1 := ⟨i - 1, by omega⟩
              have hi1 : ((k + 1 : Nat) : Int) - 1 = (k : Int) := by omega
              rw [show k + 1 - 1 = k from rfl] at *
              generalize l.getD k RT.zero = t at *
              obtain ⟨⟨ts, tl, td⟩, tm⟩ := t
              simp only at *
              have hx := h3 tm mm
              generalize lexC tm mm (max tm.length mm.length) = x at *
              rcases hx with rfl | rfl | rfl
              · rw [hno (by rw [htr]; simp)]
                (focus (refine wkld (w_a e0 (w_a e3 (w_a hg (w_a hh (w_a hi1 (w_a hlen (w_a hz w_t))))))) (w_a cr (w_a cs (w_a cm (w_a cl w_t)))) w_t (w_a (w_d 6 [(14, iv 0)] [] []) w_t) ?_; (repeat' first | exact w_t | apply w_l); all_goals intros))
              · rw [hno (by rw [htr]; simp)]
                (focus (refine wkld (w_a e0 (w_a e3 (w_a hg (w_a hh (w_a hi1 (w_a hlen (w_a hz w_t))))))) (w_a cr (w_a cs (w_a cm (w_a cl w_t)))) w_t (w_a (w_d 6 [(14, iv (-1))] [] []) w_t) ?_; (repeat' first | exact w_t | apply w_l); all_goals intros))
              · have := hnx (by rw [htr]; simp [hq])
                (focus (refine wkad (w_a e0 (w_a e3 (w_a hg (w_a hh (w_a hi1 (w_a hlen (w_a hz w_t))))))) (w_a cr (w_a cs (w_a cm (w_a cl w_t)))) (w_a (w_d 6 [(14, iv 1)] [] []) w_t) ?_; (repeat' first | exact w_t | apply w_l); all_goals intros))
                exact ⟨k + 1 + 1, ⟨by omega, by exact gW e0, by exact gS, this⟩, by omega⟩
    · have hi3 : i = l.length := by omega
      subst hi3
      have : polOk l = true := List.all_eq_true.2 fun j hjj => hj j (List.mem_range.1 hjj)
      rw [this]
      (focus (refine wkld (w_a e0 (w_a e3 (w_a hlen w_t))) w_t w_t w_t ?_; (repeat' first | exact w_t | apply w_l); all_goals intros))
  · exact ⟨Nat.zero_le _, by exact gC, by exact gC, fun j h => by omega⟩
end Go.Proofs.YtbgmnobnaplmlaaGreat
end

section
namespace Go.Proofs.YtbgmnobnaplmlaaGreat
open Go Go.RowKit Go.Pg Go.Pol
set_option linter.unusedSimpArgs false
set_option linter.unusedVariables false
set_option maxRecDepth 20000
attribute [local go_sem] Tryz.underlying3 Tryz.underlying4 Tryz.underlying178 Tryz.underlying9 Tryz.underlying48 Tryz.underlying31 Tryz.underlying43 Tryz.underlying41 Tryz.underlying39 Tryz.underlying50 Tryz.underlying22 Tryz.underlying25 Tryz.underlying56 Tryz.underlying28 Tryz.underlying72 Tryz.underlying27 Tryz.underlying30 Tryz.underlying105 Tryz.underlying107 Tryz.underlying70 Tryz.underlying63 Tryz.underlying103 Tryz.underlying154 sz3 by3 z3 szB zB szErr zErr szStr byStr zStr szRat zRat szInt zInt szNat zNat szStep byStep zStep szFig zFig szSlI zSlI szSlS zSlS szVar byVar zVar szSlV zSlV szCoord byCoord zCoord szSlC zSlC szFrame zFrame szCBld byCBld zCBld szCVec byCVec zCVec szPoly byPoly zPoly szTerm zTerm szPtrB zPtrB szFnC zFnC Tryz.underlying135 szHVec byHVec zHVec Tryz.underlying78 szSlP zSlP Tryz.underlying61 szMono zMono szL byL zL
attribute [-bool_to_prop] Bool.and_eq_decide Bool.or_eq_decide Bool.decide_beq_decide decide_eq_decide
/-! ### small coordinates as they come in -/
def degM (p : Po) : Int := p.foldl (fun n t => max n (sumT t.2 t.2.length)) (-1)
theorem degM_take {p : Po} {i : Nat} (hi : i < p.length) : degM (p.take (i + 1)) = max (degM (p.take i)) (sumT p[i].2 p[i].2.length) := by
  unfold degM
  rw [List.take_succ_eq_append_getElem hi, List.foldl_append]; rfl
theorem sumT_b2 {l : List Int} {e : Nat} (h : ∀ j, 0 ≤ gI l j ∧ gI l j ≤ (e : Int)) : ∀ n, 0 ≤ sumT l n ∧ sumT l n ≤ ((n * e : Nat) : Int)
  | 0 => by simp [sumT]
  | n + 1 => by
    have := sumT_b2 h n
    have h1 := h n
    have h2 : sumT l (n + 1) = sumT l n + gI l n := rfl
    rw [h2, Nat.succ_mul]; omega
theorem degM_bd {p : Po} {k e : Nat} (hp : PK p k e) (he : e ≤ 16777216) : ∀ i, i ≤ p.length → -1 ≤ degM (p.take i) ∧ degM (p.take i) ≤ 16777216000
  | 0, _ => by simp [degM]
  | i + 1, h => by
    have ih := degM_bd hp he i (by omega)
    rw [degM_take (by omega)]
    have h1 := hp _ (List.getElem_mem (show i < p.length by omega))
    have h2 := sumT_b2 h1.2.2 p[i].2.length
    have h3 : p[i].2.length * e ≤ 1000 * 16777216 := Nat.mul_le_mul h1.2.1 he
    omega
set_option maxHeartbeats 4000000 in
theorem rpDeg (p : Po) {k e : Nat} (hp : PK p k e) (he : e ≤ 16777216) (lp : p.length ≤ 1000000) : Pure Tryz.prog 69 [poA p] (iv (degM p)) := by
  have hlm : (p.map tmA).length = p.length := List.length_map ..
  have hgl : ∀ i (h : i < p.length), (p.map tmA).getD i .u = tmA p[i] := fun i h => map_atB tmA h
  have hbd := degM_bd hp he
  show Pure _ _ [.sl 4 (p.map tmA)] _
  generalize p.map tmA = M at *
  refine pure_intro (tok := 0) Tryz.func69 rfl Tryz.ntmps69 Tryz.results69 Tryz.call69 (by rfl) (by simp) ?_
  (focus (refine wkap (w_a hlm w_t) w_t (w_r 0) ?_; (repeat' first | exact w_t | apply w_l); all_goals intros))
  refine r_loopE (ι := Nat) (fun i e m => i ≤ p.length ∧ e 0 = .sl 4 M ∧ e 3 = iv (degM (p.take i)) ∧ e 4 = iv i) (fun i => p.length - i) 0 (by rfl) ?_ ?_
  · rintro i e' m ⟨hi, e0, e3, e4⟩
    by_cases hlt : i < p.length
    · have hg := hgl i hlt
      have hd := degM_take hlt
      have h1 := hp _ (List.getElem_mem hlt)
      have h2 := sumT_b2 h1.2.2 p[i].2.length
      have h3 : p[i].2.length * e ≤ 1000 * 16777216 := Nat.mul_le_mul h1.2.1 he
      have cd : Pure Tryz.prog 145 [ivs p[i].2] (iv (sumT p[i].2 p[i].2.length)) := refDegree p[i].2 (hp.sm he (List.getElem_mem hlt))
      have hb := hbd i hi
      have h4 : sumT p[i].2 p[i].2.length ≤ 16777216000 := by omega
      have h5 := h2.1
      clear hbd h1 h2 h3 hgl
      generalize sumT p[i].2 p[i].2.length = s at *
      generalize degM (p.take i) = d at *
      generalize p[i] = t at *
      obtain ⟨q, mm⟩ := t
      simp only at *
      by_cases hm : d ≤ s
      · rw [Int.max_eq_right hm] at hd
        (focus (refine wkap (w_a e0 (w_a e3 (w_a e4 (w_a hlm (w_a hg w_t))))) (w_a cd w_t) (w_r 0) ?_; (repeat' first | exact w_t | apply w_l); all_goals intros))
        all_goals first | exact ⟨i + 1, ⟨by omega, by exact gW e0, by (rw [hd]; (simp (disch := omega) only [go_sem, Int.max_eq_right hm] <;> repeat' first | rfl | refine ⟨?_, ?_⟩)), by exact gS⟩, by omega⟩ | omega
      · rw [Int.max_eq_left (by omega)] at hd
        (focus (refine wkap (w_a e0 (w_a e3 (w_a e4 (w_a hlm (w_a hg w_t))))) (w_a cd w_t) (w_r 0) ?_; (repeat' first | exact w_t | apply w_l); all_goals intros))
        all_goals first | exact ⟨i + 1, ⟨by omega, by exact gW e0, by (rw [hd]; (simp (disch := omega) only [go_sem, Int.max_eq_left (show s ≤ d by omega)] <;> repeat' first | rfl | refine ⟨?_, ?_⟩)), by exact gS⟩, by omega⟩ | omega
    · have hin : i = p.length := by omega
      subst hin
      rw [List.take_length] at e3
      (focus (refine wklp (w_a e0 (w_a e3 (w_a e4 (w_a hlm w_t)))) w_t w_t (w_r 0) ?_; (repeat' first | exact w_t | apply w_l); all_goals intros))
  · exact ⟨Nat.zero_le _, by exact gC, by (simp (disch := omega) only [go_sem, degM, List.take_zero, List.foldl_nil] <;> repeat' first | rfl | refine ⟨?_, ?_⟩), by exact gC⟩
def RT.two (t : RT) : Bool := decide (t.m.length ≤ 4) && (decide (t.r.l.length ≤ 2) && decide (t.r.d.length ≤ 2))
def cooP (l : List RT) : Bool := decide (l.length ≤ 6) && (polOk l && l.all fun t => t.two && decide (degM (l.map RT.tm) ≤ 8))
set_option maxHeartbeats 8000000 in
theorem lwCoord (px py : List RT) (h1 : ∀ t ∈ px, t.r.lm 2000000) (h2 : ∀ t ∈ py, t.r.lm 2000000) : Pure Tryz.prog 27 [.agg [.sl 4 (px.map RT.av), .sl 4 (py.map RT.av)]] (.v (.bool (cooP px && cooP py))) := by
  have hG : ∀ i (h : i < 2), [px, py][i] = px ∨ [px, py][i] = py := fun i h => by
    match i, h with
    | 0, _ => exact .inl rfl
    | 1, _ => exact .inr rfl
  have hno : ∀ i (h : i < 2), cooP [px, py][i] = false → (cooP px && cooP py) = false := fun i h e => by
    rcases hG i h with h | h <;> rw [h] at e <;> rw [e] <;> simp
  have hye : (∀ i (h : i < 2), cooP [px, py][i] = true) → (cooP px && cooP py) = true := fun e => by
    rw [show cooP px = true from e 0 (by omega), show cooP py = true from e 1 (by omega)]; rfl
  have hs : ∀ i (h : i < 2), ∀ t ∈ [px, py][i], t.r.lm 2000000 := fun i h => by rcases hG i h with e | e <;> rw [e] <;> assumption
  have hrow : ∀ i (h : i < 2), [AV.sl 4 (px.map RT.av), .sl 4 (py.map RT.av)].getD i .u = .sl 4 ([px, py][i].map RT.av) := fun i h => by
    match i, h with
    | 0, _ => rfl
    | 1, _ => rfl
  generalize (cooP px && cooP py) = v at *
  refine pure_intro (tok := 0) Tryz.func27 rfl Tryz.ntmps27 Tryz.results27 Tryz.call27 (by rfl) (by simp) ?_
  (focus (refine wkap w_t w_t (w_r 0) ?_; (repeat' first | exact w_t | apply w_l); all_goals intros))
  rename_i g1 sv
  refine r_loopE (ι := Nat) (fun i e m => i ≤ 2 ∧ e 11 = .own 11 sv ∧ m 11 = some (.row sv 70 1 [AV.sl 4 (px.map RT.av), .sl 4 (py.map RT.av)] 0) ∧ e 12 = iv 2 ∧ e 13 = iv i ∧ ∀ j (h : j < 2), j < i → cooP [px, py][j] = true) (fun i => 2 - i) 0 (by rfl) ?_ ?_
  · rintro i e m ⟨hi, e11, m11, e12, e13, hj⟩
    by_cases hlt : i < 2
    · have hr := hrow i hlt
      have hsi := hs i hlt
      have no := hno i hlt
      have nx : cooP [px, py][i] = true → ∀ j (h : j < 2), j < i + 1 → cooP [px, py][j] = true := fun h j hjj h2 => by
        by_cases e : j = i
        · subst e; exact h
        · exact hj j hjj (by omega)
      clear hj hG hno hye hs hrow
      generalize [px, py][i] = l at *
      generalize hR : [AV.sl 4 (px.map RT.av), .sl 4 (py.map RT.av)] = R at *
      have hRl : R.length = 2 := by rw [← hR]; rfl
      clear hR
      have hll : (l.map RT.av).length = l.length := List.length_map ..
      unfold cooP at no nx
      by_cases h6 : l.length ≤ 6
      · have cr := rawRight l (by omega) hsi
        cases ho : polOk l with
        | false =>
          rw [ho] at cr
          rw [no (by rw [ho]; simp)]
          clear no nx
          generalize l.map RT.av = LA at *
          (focus (refine wklp (w_a e11 (w_a m11 (w_a e12 (w_a e13 (w_a hr (w_a hll (w_a hRl w_t))))))) (w_a cr w_t) w_t (w_r 0) ?_; (repeat' first | exact w_t | apply w_l); all_goals intros))
        | true =>
          rw [ho] at cr
          obtain ⟨hpo, hst, hpk, -⟩ := pol_in ho hsi
          have cd := rpDeg (l.map RT.tm) hpk (by omega) (by rw [List.length_map]; omega)
          rw [← hpo] at cd
          rw [ho, decide_eq_true h6, Bool.true_and, Bool.true_and] at no nx
          have hgt : ∀ y (h : y < l.length), (l.map RT.av).getD y .u = l[y].av := fun y h => map_atB RT.av h
          have noT : ∀ y (h : y < l.length), (l[y].two && decide (degM (l.map RT.tm) ≤ 8)) = false → (l.all fun t => t.two && decide (degM (l.map RT.tm) ≤ 8)) = false := fun y h e => by
            rw [List.all_eq_false]
            exact ⟨l[y], List.getElem_mem h, by rw [e]; simp⟩
          have yeT : (∀ y (h : y < l.length), (l[y].two && decide (degM (l.map RT.tm) ≤ 8)) = true) → (l.all fun t => t.two && decide (degM (l.map RT.tm) ≤ 8)) = true := fun e => by
            rw [List.all_eq_true]
            intro x hx
            obtain ⟨j, hj, rfl⟩ := List.mem_iff_getElem.1 hx
            exact e j hj
          clear hpo hst hpk hsi ho
          generalize (l.all fun t => t.two && decide (degM (l.map RT.tm) ≤ 8)) = w at *
          generalize degM (l.map RT.tm) = d at *
          generalize l.map RT.av = LA at *
          (focus (refine wkap (w_a e11 (w_a m11 (w_a e12 (w_a e13 (w_a hr (w_a hll (w_a hRl w_t))))))) (w_a cr w_t) (w_r 0) ?_; (repeat' first | exact w_t | apply w_l); all_goals intros))
          refine r_loopE (ι := Nat) (fun y e m => y ≤ l.length ∧ e 4 = .sl 4 LA ∧ e 11 = .own 11 sv ∧ m 11 = some (.row sv 70 1 R 0) ∧ e 12 = iv 2 ∧ e 13 = iv i ∧ e 25 = .sl 4 LA ∧ e 26 = iv l.length ∧ e 27 = iv y ∧ ∀ j (h : j < l.length), j < y → (l[j].two && decide (d ≤ 8)) = true) (fun y => l.length - y) 0 (by rfl) ?_ ?_
          · rintro y e m ⟨hy, e4, e11, m11, e12, e13, e25, e26, e27, hq⟩
            by_cases hly : y < l.length
            · have hg := hgt y hly
              have nt := noT y hly
              have xt : (l[y].two && decide (d ≤ 8)) = true → ∀ j (h : j < l.length), j < y + 1 → (l[j].two && decide (d ≤ 8)) = true := fun h j hjj h2 => by
                by_cases e : j = y
                · subst e; exact h
                · exact hq j hjj (by omega)
              clear hq noT yeT hgt cr
              unfold RT.two at nt xt
              generalize l[y] = t at *
              obtain ⟨⟨rs, rl, rd⟩, tm⟩ := t
              simp only at *
              have hmm : (tm.map iv).length = tm.length := List.length_map ..
              by_cases a1 : tm.length ≤ 4 ∧ rl.length ≤ 2 ∧ rd.length ≤ 2 ∧ d ≤ 8
              · have := xt (by simp [a1.1, a1.2.1, a1.2.2.1, a1.2.2.2])
                obtain ⟨a1, a2, a3, a4⟩ := a1
                clear nt xt no nx
                (focus (refine wkap (w_a e4 (w_a e11 (w_a m11 (w_a e12 (w_a e13 (w_a e25 (w_a e26 (w_a e27 (w_a hg (w_a hll (w_a hmm (w_a @u16s_len w_t)))))))))))) (w_a cd w_t) (w_r 0) ?_; (repeat' first | exact w_t | apply w_l); all_goals intros))
                exact ⟨y + 1, ⟨by omega, by exact gW e4, by exact gW e11, by exact gW m11, by exact gW e12, by exact gW e13, by exact gW e25, by exact gW e26, by exact gS, this⟩, by omega⟩
              · rw [no (nt (by simp only [Bool.and_eq_false_iff, decide_eq_false_iff_not]; omega))]
                clear nt xt no nx
                (focus (refine wkap (w_a e4 (w_a e11 (w_a m11 (w_a e12 (w_a e13 (w_a e25 (w_a e26 (w_a e27 (w_a hg (w_a hll (w_a hmm (w_a @u16s_len w_t)))))))))))) (w_a cd w_t) (w_r 0) ?_; (repeat' first | exact w_t | apply w_l); all_goals intros))
                all_goals first | ((all_goals (try simp (disch := omega) only [go_sem, decide_eq_true, decide_eq_false, if_pos, if_neg, Int.reduceAdd, Int.reduceSub, Int.reduceToNat, Int.zero_add])); (all_goals first | done | rfl | (congr 2; first | done | omega | (rw [Bool.eq_iff_iff]; simp only [bool_to_prop, Bool.false_eq_true, iff_true, true_iff, iff_false, false_iff]; omega)) | skip)) | omega
            · have := nx (yeT fun j h => hq j h (by omega))
              clear hq noT yeT hgt cr no nx cd
              (focus (refine wkap (w_a e4 (w_a e11 (w_a m11 (w_a e12 (w_a e13 (w_a e25 (w_a e26 (w_a e27 (w_a hll w_t))))))))) w_t (w_r 0) ?_; (repeat' first | exact w_t | apply w_l); all_goals intros))
              exact ⟨i + 1, ⟨by omega, by exact gW e11, by exact gW m11, by exact gW e12, by exact gS, this⟩, by omega⟩
          · exact ⟨Nat.zero_le _, by exact gC, by exact gW e11, by exact gW m11, by exact gW e12, by exact gW e13, by exact gC, by exact gW hll, by exact gC, fun j h h2 => by omega⟩
      · rw [no (by rw [decide_eq_false h6]; rfl)]
        clear no nx
        generalize l.map RT.av = LA at *
        (focus (refine wklp (w_a e11 (w_a m11 (w_a e12 (w_a e13 (w_a hr (w_a hll (w_a hRl w_t))))))) w_t w_t (w_r 0) ?_; (repeat' first | exact w_t | apply w_l); all_goals intros))
    · rw [hye fun j h => hj j h (by omega)]
      clear hj hG hno hye hs hrow
      (focus (refine wklp (w_a e11 (w_a m11 (w_a e12 (w_a e13 w_t)))) w_t w_t (w_r 0) ?_; (repeat' first | exact w_t | apply w_l); all_goals intros))
  · exact ⟨Nat.zero_le _, by exact gC, by exact gC, by exact gC, by exact gC, fun j h h2 => by omega⟩
/-- What small coordinates are. -/
theorem coo_in {l : List RT} {k : Nat} (hs : ∀ t ∈ l, t.r.lm k) (h : cooP l = true) : .sl 4 (l.map RT.av) = poA (l.map RT.tm) ∧ PB (l.map RT.tm) 8 110 8 := by
  unfold cooP at h
  simp only [Bool.and_eq_true, decide_eq_true_eq, List.all_eq_true] at h
  obtain ⟨h6, ho, h2⟩ := h
  have h3 : ∀ t ∈ l, t.r.lm 2 := fun t ht => by
    have := (h2 t ht).1
    unfold RT.two at this
    simp only [Bool.and_eq_true, decide_eq_true_eq] at this
    exact ⟨(hs t ht).1, (hs t ht).2.1, this.2.1, this.2.2⟩
  obtain ⟨e, st, pk, -⟩ := pol_in ho h3
  refine ⟨e, st, fun u hu => ?_, by rw [List.length_map]; omega⟩
  obtain ⟨t, ht, rfl⟩ := List.mem_map.1 hu
  have hp := pk _ hu
  refine ⟨hp.1.mono (by omega), hp.2.1, fun j => ⟨(hp.2.2 j).1, ?_⟩⟩
  have hd : sumT t.m t.m.length ≤ 8 := by
    have h4 := (h2 t ht).2
    obtain ⟨i, hi, e⟩ := List.mem_iff_getElem.1 hu
    have h5 : ∀ n, n ≤ (l.map RT.tm).length → i < n → sumT t.m t.m.length ≤ degM ((l.map RT.tm).take n) := fun n => by
      induction n with
      | zero => intro _ h; omega
      | succ n ih =>
        intro hn hin
        rw [degM_take (by omega)]
        by_cases e2 : i = n
        · subst e2
          rw [e]
          exact Int.le_max_right _ _
        · exact Int.le_trans (ih (by omega) (by omega)) (Int.le_max_left _ _)
    have := h5 (l.map RT.tm).length (Nat.le_refl _) hi
    rw [List.take_length] at this
    omega
  have key : ∀ n j, j < n → gI t.m j ≤ sumT t.m n := fun n => by
    induction n with
    | zero => intro j h; omega
    | succ n ih =>
      intro j hj
      have e1 : sumT t.m (n + 1) = sumT t.m n + gI t.m n := rfl
      rw [e1]
      have h0 := (hp.2.2 n).1
      have hb := (sumT_b2 (fun j => (hp.2.2 j)) n).1
      by_cases e2 : j = n
      · subst e2; simp only at *; omega
      · have := ih j (by omega); simp only at *; omega
  by_cases hj : j < t.m.length
  · have := key _ _ hj; simp only; omega
  · show gI t.m j ≤ _; rw [gI_out (by omega)]; omega
end Go.Proofs.YtbgmnobnaplmlaaGreat
end

section
namespace Go.Proofs.YtbgmnobnaplmlaaGreat
open Go Go.RowKit Go.Pg Go.Pol
set_option linter.unusedSimpArgs false
set_option linter.unusedVariables false
set_option maxRecDepth 20000
attribute [local go_sem] Tryz.underlying3 Tryz.underlying4 Tryz.underlying178 Tryz.underlying9 Tryz.underlying48 Tryz.underlying31 Tryz.underlying43 Tryz.underlying41 Tryz.underlying39 Tryz.underlying50 Tryz.underlying22 Tryz.underlying124 Tryz.underlying23 Tryz.underlying25 sz3 by3 z3 szB zB szL byL zL szErr zErr szStr byStr zStr szRat zRat szInt zInt szNat zNat szStep byStep zStep szFact byFact zFact szFig zFig szSlI zSlI szSlS zSlS szSlF zSlF
attribute [-bool_to_prop] Bool.and_eq_decide Bool.or_eq_decide Bool.decide_beq_decide decide_eq_decide
/-! ### the sizes that the laws of figures take -/
def fitS (s : RS) : Bool := !(decide (2 < s.r.l.length) || decide (2 < s.r.d.length) || decide (8 < s.ar.length))
def fitsB (ss : List RS) (gs : List RG) : Bool := ss.all fitS && (decide (nfN ss ss.length ≤ 12) && (decide (ss.length ≤ 42) && decide (gs.length ≤ 10)))
end Go.Proofs.YtbgmnobnaplmlaaGreat
end

section
namespace Go.Proofs.YtbgmnobnaplmlaaGreat
open Go Go.RowKit Go.Pg Go.Pol
set_option linter.unusedSimpArgs false
set_option linter.unusedVariables false
set_option maxRecDepth 20000
attribute [local go_sem] Tryz.underlying3 Tryz.underlying4 Tryz.underlying178 Tryz.underlying9 Tryz.underlying48 Tryz.underlying31 Tryz.underlying43 Tryz.underlying41 Tryz.underlying39 Tryz.underlying50 Tryz.underlying22 Tryz.underlying25 Tryz.underlying56 Tryz.underlying28 Tryz.underlying72 Tryz.underlying27 Tryz.underlying30 Tryz.underlying105 Tryz.underlying107 Tryz.underlying70 Tryz.underlying63 Tryz.underlying103 Tryz.underlying154 sz3 by3 z3 szB zB szErr zErr szStr byStr zStr szRat zRat szInt zInt szNat zNat szStep byStep zStep szFig zFig szSlI zSlI szSlS zSlS szVar byVar zVar szSlV zSlV szCoord byCoord zCoord szSlC zSlC szFrame zFrame szCBld byCBld zCBld szCVec byCVec zCVec szPoly byPoly zPoly szTerm zTerm szPtrB zPtrB szFnC zFnC Tryz.underlying124 Tryz.underlying23 szL byL zL szFact byFact zFact szSlF zSlF
attribute [-bool_to_prop] Bool.and_eq_decide Bool.or_eq_decide Bool.decide_beq_decide decide_eq_decide
theorem figE_ok {ss : List RS} {gs : List RG} (h : figE ss gs = 0) : ss.length ≤ 40 ∧ ∀ i, i < ss.length → errS ss i = 0 := by
  unfold figE at h
  split at h
  · omega
  · rename_i h1
    split at h
    · rename_i h2; exact absurd h h2
    · rename_i h2
      refine ⟨by omega, fstE_all ?_⟩
      rcases Decidable.em (fstE (errS ss) ss.length = 0) with h3 | h3
      · exact h3
      · exact absurd h3 h2
end Go.Proofs.YtbgmnobnaplmlaaGreat
end

section
namespace Go.Proofs.YtbgmnobnaplmlaaGreat
open Go Go.RowKit Go.Pg Go.Pol
set_option linter.unusedSimpArgs false
set_option linter.unusedVariables false
set_option maxRecDepth 20000
attribute [-bool_to_prop] Bool.and_eq_decide Bool.or_eq_decide Bool.decide_beq_decide decide_eq_decide
section
variable {N n : Nat} {cs : List AV}
theorem agInt : aggTy Tryz.prog 3 = false := by kernel_rfl
theorem csInt : Tryz.prog.cellsOf 3 = 1 := by kernel_rfl
end
theorem lm_mono {r : RQ} {a b : Nat} (h : r.lm a) (hab : a ≤ b) : r.lm b := ⟨h.1, h.2.1, Nat.le_trans h.2.2.1 hab, Nat.le_trans h.2.2.2 hab⟩
end Go.Proofs.YtbgmnobnaplmlaaGreat
end

section
namespace Go.Proofs.YtbgmnobnaplmlaaGreat
open Go Go.RowKit Go.Pg Go.Pol
set_option linter.unusedSimpArgs false
set_option linter.unusedVariables false
set_option maxRecDepth 20000
attribute [-bool_to_prop] Bool.and_eq_decide Bool.or_eq_decide Bool.decide_beq_decide decide_eq_decide
set_option linter.unusedSimpArgs false
set_option linter.unusedVariables false
/-! ### figures with few terms -/
theorem mem_add {p q : Po} {t : Tm} (h : t ∈ addM p q) : t.2 ∈ p.map (·.2) ∨ t.2 ∈ q.map (·.2) := by
  obtain ⟨s, hs, e⟩ := mem_addP h
  rcases List.mem_append.1 hs with h1 | h1
  · exact .inl (List.mem_map.2 ⟨s, h1, e.symm⟩)
  · exact .inr (List.mem_map.2 ⟨s, h1, e.symm⟩)
/-! the bounds of the numbers of terms -/
def wOf (w : List Int) (s : RS) : Int :=
  if s.k = 2 then gI w (gI s.ar 0).toNat + gI w (gI s.ar 1).toNat
  else if s.k = 3 ∨ s.k = 4 then gI w (gI s.ar 0).toNat + gI w (gI s.ar 1).toNat + gI w (gI s.ar 2).toNat
  else if s.k = 5 then 2 * gI w (gI s.ar 0).toNat + gI w (gI s.ar 1).toNat
  else 1
def wts (ss : List RS) : Nat → List Int
  | 0 => []
  | i + 1 => wts ss i ++ [wOf (wts ss i) (ss.getD i RS.zero)]
def thinB (ss : List RS) (gs : List RG) : Bool :=
  (wts ss ss.length).all (fun w => decide (w ≤ 8)) && gs.all fun g => !(decide (g.k = 6) || decide (g.k = 7)) || g.ar.all fun a => decide (gI (wts ss ss.length) a.toNat ≤ 3)
def rat2 (r : RQ) : Bool := decide (r.l.length ≤ 2) && decide (r.d.length ≤ 2)
def fewB (ss : List RS) (gs : List RG) : Bool :=
  decide (ss.length ≤ 8) && (decide (gs.length ≤ 3) && (decide (figE ss gs = 0) && (thinB ss gs && (ss.all (fun s => rat2 s.r) && gs.all fun g => rat2 g.r))))
end Go.Proofs.YtbgmnobnaplmlaaGreat
end

section
namespace Go.Proofs.YtbgmnobnaplmlaaGreat
open Go Go.RowKit Go.Pg Go.Pol
set_option linter.unusedSimpArgs false
set_option linter.unusedVariables false
set_option maxRecDepth 20000
attribute [-bool_to_prop] Bool.and_eq_decide Bool.or_eq_decide Bool.decide_beq_decide decide_eq_decide
set_option linter.unusedSimpArgs false
set_option linter.unusedVariables false
/-! ### degrees in some variables -/
/-- The sum of a monomial's exponents at the first n variables that are in S. -/
def dgS (S : Nat → Bool) (m : List Int) : Nat → Int
  | 0 => 0
  | n + 1 => dgS S m n + if S n then gI m n else 0
theorem dgS_mul (S : Nat → Bool) (a b : List Int) : ∀ n, dgS S (mulM a b) n = dgS S a n + dgS S b n
  | 0 => rfl
  | n + 1 => by
    show dgS S (mulM a b) n + _ = (dgS S a n + _) + (dgS S b n + _)
    rw [dgS_mul S a b n, show gI (mulM a b) n = gI a n + gI b n from gI_zip _ rfl a b n]
    split <;> omega
/-- Polynomials in the first V variables, of a degree of at most d in those of S. -/
def DP (S : Nat → Bool) (V : Nat) (d : Int) (p : Po) : Prop := ∀ t ∈ p, t.2.length ≤ V ∧ dgS S t.2 V ≤ d
theorem DP.mono {S : Nat → Bool} {V : Nat} {d e : Int} {p : Po} (h : DP S V d p) (hd : d ≤ e) : DP S V e p := fun t ht => ⟨(h t ht).1, by have := (h t ht).2; omega⟩
theorem DP.add {S : Nat → Bool} {V : Nat} {d : Int} {p q : Po} (h : DP S V d p) (g : DP S V d q) : DP S V d (addM p q) := fun t ht => by
  rcases mem_add ht with h1 | h1
  · obtain ⟨u, hu, e⟩ := List.mem_map.1 h1
    rw [← e]; exact h u hu
  · obtain ⟨u, hu, e⟩ := List.mem_map.1 h1
    rw [← e]; exact g u hu
theorem DP.neg {S : Nat → Bool} {V : Nat} {d : Int} {p : Po} (h : DP S V d p) : DP S V d (scaleP (-1) p) := fun t ht => by
  obtain ⟨u, hu, rfl⟩ := List.mem_map.1 ht
  exact h u hu
theorem DP.sub {S : Nat → Bool} {V : Nat} {d : Int} {p q : Po} (h : DP S V d p) (g : DP S V d q) : DP S V d (subM p q) := h.add g.neg
theorem DP.mul {S : Nat → Bool} {V : Nat} {d e : Int} {p q : Po} (h : DP S V d p) (g : DP S V e q) : DP S V (d + e) (mlM p q) := by
  have key : ∀ (q out : Po), DP S V e q → DP S V (d + e) out → DP S V (d + e) (q.foldl (fun out t => addP ltM out (timesP mulM p t)) out) := by
    intro q
    induction q with
    | nil => exact fun out _ h2 => h2
    | cons t q ih =>
      intro out h1 h2
      rw [List.foldl_cons]
      refine ih _ (fun u hu => h1 u (.tail _ hu)) (h2.add fun u hu => ?_)
      obtain ⟨s, hs, rfl⟩ := List.mem_map.1 hu
      obtain ⟨a1, a2⟩ := h s hs
      obtain ⟨b1, b2⟩ := h1 t (.head _)
      exact ⟨by show (mulM s.2 t.2).length ≤ V; rw [mulM_len]; omega, by show dgS S (mulM s.2 t.2) V ≤ _; rw [dgS_mul]; omega⟩
  exact key q [] g fun t ht => by cases ht
/-! ### distributing -/
theorem cofM_evl (m : List Int → List Int → List Int) (p q : Po) (x : List Int) : cofM m p q x = evl (fun a => cof (timesP m p (1, a)) x) q := by
  have h1 : ∀ (s : Tm) (q : Po), cof (timesP m q s) x = s.1 * cof (timesP m q (1, s.2)) x := by
    intro s q
    induction q with
    | nil => show (0 : Rat) = s.1 * 0; rw [Rat.mul_zero]
    | cons t q ih =>
      show (if m t.2 s.2 = x then t.1 * s.1 else 0) + cof (timesP m q s) x = s.1 * ((if m t.2 s.2 = x then t.1 * 1 else 0) + cof (timesP m q (1, s.2)) x)
      rw [ih, Rat.mul_add, Rat.mul_one]
      split
      · rw [Rat.mul_comm]
      · rw [Rat.mul_zero]
  induction q with
  | nil => rfl
  | cons s q ih =>
    show cof (timesP m p s) x + cofM m p q x = s.1 * cof (timesP m p (1, s.2)) x + evl _ q
    rw [ih, h1]
theorem mul_addR {p q r : Po} (hp : SrtM p) (hq : SrtM q) (hr : SrtM r) : mlM r (addM p q) = addM (mlM r p) (mlM r q) := by
  refine srt_ext ordM (mulR_srt ordM mulK hr (addP_srt ordM hp hq)) (addP_srt ordM (mulR_srt ordM mulK hr hp) (mulR_srt ordM mulK hr hq)) fun x => ?_
  have e1 : cof (mlM r (addM p q)) x = _ := mulR_cof ordM mulK hr (addP_srt ordM hp hq) x
  have e2 : cof (mlM r p) x = _ := mulR_cof ordM mulK hr hp x
  have e3 : cof (mlM r q) x = _ := mulR_cof ordM mulK hr hq x
  rw [cof_addP ordM x (mulR_srt ordM mulK hr hp).dom (mulR_srt ordM mulK hr hq).dom, e1, e2, e3, cofM_evl, cofM_evl, cofM_evl, evl_addP ordM _ hp.dom hq.dom]
theorem mul_negR {p r : Po} (hp : SrtM p) (hr : SrtM r) : mlM r (scaleP (-1) p) = scaleP (-1) (mlM r p) := by
  refine srt_ext ordM (mulR_srt ordM mulK hr (scale_srt hp neg1)) (scale_srt (mulR_srt ordM mulK hr hp) neg1) fun x => ?_
  have e1 : cof (mlM r (scaleP (-1) p)) x = _ := mulR_cof ordM mulK hr (scale_srt hp neg1) x
  have e2 : cof (mlM r p) x = _ := mulR_cof ordM mulK hr hp x
  rw [cof_scale, e1, e2, cofM_evl, cofM_evl, evl_scale]
theorem mul_subR {p q r : Po} (hp : SrtM p) (hq : SrtM q) (hr : SrtM r) : mlM r (subM p q) = subM (mlM r p) (mlM r q) := by
  unfold subM subP
  rw [show addP ltM p (scaleP (-1) q) = addM p (scaleP (-1) q) from rfl, mul_addR hp (scale_srt hq neg1) hr, mul_negR hq hr]
end Go.Proofs.YtbgmnobnaplmlaaGreat
end

section
namespace Go.Proofs.YtbgmnobnaplmlaaGreat
open Go Go.RowKit Go.Pg Go.Pol
set_option linter.unusedSimpArgs false
set_option linter.unusedVariables false
set_option maxRecDepth 20000
attribute [local go_sem] Tryz.underlying3 Tryz.underlying4 Tryz.underlying178 Tryz.underlying9 Tryz.underlying48 Tryz.underlying31 Tryz.underlying43 Tryz.underlying41 Tryz.underlying39 Tryz.underlying50 Tryz.underlying22 Tryz.underlying25 Tryz.underlying56 Tryz.underlying28 Tryz.underlying72 Tryz.underlying27 Tryz.underlying30 Tryz.underlying105 Tryz.underlying107 Tryz.underlying70 Tryz.underlying63 Tryz.underlying103 Tryz.underlying154 sz3 by3 z3 szB zB szErr zErr szStr byStr zStr szRat zRat szInt zInt szNat zNat szStep byStep zStep szFig zFig szSlI zSlI szSlS zSlS szVar byVar zVar szSlV zSlV szCoord byCoord zCoord szSlC zSlC szFrame zFrame szCBld byCBld zCBld szCVec byCVec zCVec szPoly byPoly zPoly szTerm zTerm szPtrB zPtrB szFnC zFnC Tryz.underlying135 szHVec byHVec zHVec Tryz.underlying78 szSlP zSlP Tryz.underlying124 Tryz.underlying23 szL byL zL szFact byFact zFact szSlF zSlF
attribute [-bool_to_prop] Bool.and_eq_decide Bool.or_eq_decide Bool.decide_beq_decide decide_eq_decide
/-! ### the chapter's example -/
def ssF : List RS := [⟨1, ⟨#[65]⟩, [], ⟨false, [], []⟩⟩, ⟨1, ⟨#[66]⟩, [], ⟨false, [], []⟩⟩, ⟨1, ⟨#[67]⟩, [], ⟨false, [], []⟩⟩, ⟨7, ⟨#[70]⟩, [2, 0, 1], ⟨false, [], []⟩⟩]
theorem figF : figE ssF [] = 0 := by decide +kernel
theorem bigF : (List.range ssF.length).any (bigN ssF) = false := by decide +kernel
theorem csF : (frN ssF ssF.length).cs = [([], []), (varM 0, []), (varM 1, varM 2), (varM 3, varM 4)] := by kernel_rfl
theorem vsF : (frN ssF ssF.length).vs.length ≤ 64 := by decide +kernel
theorem okF : FigOk ssF := by
  obtain ⟨h1, h2⟩ := figE_ok figF
  refine ⟨h1, h2, fun s hs => ?_, by decide +kernel⟩
  have : ∀ s ∈ ssF, s.r.l = [] ∧ s.r.d = [] := by decide
  obtain ⟨e1, e2⟩ := this s hs
  refine ⟨?_, ?_, by rw [e1]; simp, by rw [e2]; simp⟩
  · rw [e1]; exact fun x hx => by cases hx
  · rw [e2]; exact fun x hx => by cases hx
theorem nil_cb : PB [] 8 110 8 := .nil
theorem var_cb (v : Nat) : PB (varM v) 8 110 8 := (var_pb v).mono (by omega) (by omega) (by omega)
theorem sub_nil (p : Po) : subM p [] = p := addP_nil p
theorem crossF : crossM ([], []) (varM 0, []) ([], []) (varM 3, varM 4) = mlM (varM 0) (varM 4) := by
  unfold crossM
  simp only [sub_nil]
  rw [show mlM [] (varM 3) = [] from mulR_nil _, sub_nil]
theorem dotF : dotM ([], []) (varM 0, []) (varM 1, varM 2) (varM 3, varM 4) = subM (mlM (varM 0) (varM 3)) (mlM (varM 0) (varM 1)) := by
  unfold dotM
  simp only [sub_nil]
  rw [show mlM [] (subM (varM 4) (varM 2)) = [] from mulR_nil _, show ∀ p : Po, addM p [] = p from addP_nil, mul_subR (varM_srt 3) (varM_srt 1) (varM_srt 0)]
theorem coF : Pure Tryz.prog 15 [figA ssF []] (.tup [frmA (frN ssF ssF.length).cs (frN ssF ssF.length).vs, iv 0]) := by
  have sm : ∀ s ∈ ssF, s.sm := fun s hs => by
    have h := okF.lm s hs
    have h2 : ∀ s ∈ ssF, s.nm.size ≤ 1 ∧ s.ar.length ≤ 3 := by decide
    obtain ⟨a, b⟩ := h2 s hs
    exact ⟨lm_mono h (by decide), Nat.le_trans a (by decide), Nat.le_trans b (by decide)⟩
  have cr := lwRight ssF [] (by decide) (by decide) sm (fun g hg => by cases hg)
  rw [figF] at cr
  have := coFrame1 ssF [] cr okF
  rwa [if_neg (by rw [bigF]; decide)] at this
theorem awFoot : Pure Tryz.prog 70 [] (figA ssF []) := by
  refine pure_vkR (r := .agg [.sl 6 [.agg [iv 1, strA ⟨#[65]⟩, .v (.slice none 0 0), .v (.bool false), .v (.slice none 0 0), .v (.slice none 0 0)], .agg [iv 1, strA ⟨#[66]⟩, .v (.slice none 0 0), .v (.bool false), .v (.slice none 0 0), .v (.slice none 0 0)], .agg [iv 1, strA ⟨#[67]⟩, .v (.slice none 0 0), .v (.bool false), .v (.slice none 0 0), .v (.slice none 0 0)], .agg [iv 7, strA ⟨#[70]⟩, .sl 1 [iv 2, iv 0, iv 1], .v (.bool false), .v (.slice none 0 0), .v (.slice none 0 0)]], .v (.slice none 0 0)]) ?_ (Vk.aggL (.cons (Vk.slL (by rfl) (by decide) (by decide) ?_) (.cons (.nil 5) .nil)))
  · refine pure_intro (tok := 0) Tryz.func70 rfl Tryz.ntmps70 Tryz.results70 Tryz.call70 (by rfl) (by simp) ?_
    (focus (refine wklp w_t w_t w_t (w_r 0) ?_; (repeat' first | exact w_t | apply w_l); all_goals intros))
  · exact (.cons (.refl _) (.cons (.refl _) (.cons (.nil 1) (.cons (.refl _) (.cons (.nil 1) (.cons (.nil 1) (.cons (.refl _) (.cons (.refl _) (.cons (.nil 1) (.cons (.refl _) (.cons (.nil 1) (.cons (.nil 1) (.cons (.refl _) (.cons (.refl _) (.cons (.nil 1) (.cons (.refl _) (.cons (.nil 1) (.cons (.nil 1) (.cons (.refl _) (.cons (.refl _) (.cons (.refl _) (.cons (.refl _) (.cons (.nil 1) (.cons (.nil 1) .nil))))))))))))))))))))))))
def EF (i : Nat) : List Po := if i = 3 then [mlM (varM 0) (varM 4), subM (mlM (varM 0) (varM 3)) (mlM (varM 0) (varM 1))] else []
set_option maxHeartbeats 4000000 in
theorem ofF : Pure Tryz.prog 38 [figA ssF []] (.tup [.sl 1 [poA (mlM (varM 0) (varM 4)), poA (subM (mlM (varM 0) (varM 3)) (mlM (varM 0) (varM 1)))], iv 0]) := by
  have hc := csF
  have st : ∀ i, i < ssF.length → Pure Tryz.prog 35 [figA ssF [], frmA (frN ssF ssF.length).cs (frN ssF ssF.length).vs, iv i] (.tup [.sl 1 ((EF i).map poA), iv 0]) := fun i hi => by
    have cp := hyParam (frN ssF ssF.length).cs (frN ssF ssF.length).vs i (by have := vsF; omega)
    have har : ∀ k, k < ssF[i].ar.length → 0 ≤ gI ssF[i].ar k ∧ gI ssF[i].ar k < ((frN ssF ssF.length).cs.length : Int) := fun k hk => by
      have := (errS_ok hi (okF.er i hi)).2.2.1 k hk
      rw [frN_len]; omega
    have h4 : ssF[i].ar.length ≤ 4 := by have h1 := (errS_ok hi (okF.er i hi)).2.1; have := arS_le ssF[i].k; omega
    by_cases h3 : i = 3
    · subst h3
      refine hyStepC ssF [] _ _ 3 ssF[3] (varM 3, varM 4) _ (EF 3) hi rfl (frN_len ssF _) (by rw [hc]; rfl) har h4 cp ?_
      have := hyE7 (a := (varM 1, varM 2)) (b := ([], [])) (c := (varM 0, [])) (x := (varM 3, varM 4)) (parM (frN ssF ssF.length).vs 3) ⟨var_cb 1, var_cb 2⟩ ⟨nil_cb, nil_cb⟩ ⟨var_cb 0, nil_cb⟩ ⟨var_cb 3, var_cb 4⟩
      rw [crossF, dotF] at this
      rw [hc]
      exact this
    · have hk : ssF[i].k = 1 := by
        have : ∀ i (h : i < ssF.length), i ≠ 3 → ssF[i].k = 1 := by decide
        exact this i hi h3
      refine hyStepC ssF [] _ _ i ssF[i] _ _ (EF i) hi rfl (frN_len ssF _) rfl har h4 cp ?_
      rw [hk, show EF i = [] from if_neg h3]
      exact hyE0 1 _ _ _ (.inl (by omega))
  have z04 : PB (mlM (varM 0) (varM 4)) 1 3 2 := ((var_pb 0).mul (var_pb 4)).mono (by omega) (by omega) (by omega)
  have z03 : PB (mlM (varM 0) (varM 3)) 1 3 2 := ((var_pb 0).mul (var_pb 3)).mono (by omega) (by omega) (by omega)
  have z01 : PB (mlM (varM 0) (varM 1)) 1 3 2 := ((var_pb 0).mul (var_pb 1)).mono (by omega) (by omega) (by omega)
  have hb : (List.range ssF.length).any (bigE EF) = false := any_no fun j hj => by
    unfold bigE EF
    split
    · have h1 := z04.l
      have h2 := (z03.sub z01).l
      simp; omega
    · rfl
  have := hyOf ssF [] _ _ EF (fun i => by unfold EF; split <;> simp) (by decide) coF st
  rw [if_neg (by rw [hb]; simp)] at this
  exact this
theorem awV (a b : Nat) (ha : a < 64) (hb : b < 64) : Pure Tryz.prog 71 [iv a, iv b] (poA (mlM (varM a) (varM b))) := by
  have c1 := rpVar a (by omega)
  have c2 := rpVar b (by omega)
  have c3 := (hpMul (var_pb a) (var_pb b) (by omega) (by omega) (by omega) (by omega) (by omega) (by omega) (by omega) (by omega) (by omega)).2
  generalize mlM (varM a) (varM b) = r at *
  generalize varM a = p at *
  generalize varM b = q at *
  refine pure_intro (tok := 0) Tryz.func71 rfl Tryz.ntmps71 Tryz.results71 Tryz.call71 (by rfl) (by simp) ?_
  (focus (refine wkax w_t (w_a c3 w_t) w_t w_t (w_a c1 (w_a c2 w_t)) w_t (w_r 0) ?_; (repeat' first | exact w_t | apply w_l); all_goals intros))
  (all_goals (try simp (disch := omega) only [go_sem, decide_eq_true, decide_eq_false, if_pos, if_neg, Int.reduceAdd, Int.reduceSub, Int.reduceToNat, Int.zero_add])); (all_goals first | done | rfl | (congr 2; first | done | omega | (rw [Bool.eq_iff_iff]; simp only [bool_to_prop, Bool.false_eq_true, iff_true, true_iff, iff_false, false_iff]; omega)) | skip)
set_option maxHeartbeats 4000000 in
theorem aw22 : Pure Tryz.prog 28 [] (.v (.bool true)) := by
  have cF := awFoot
  have cO := ofF
  have k1 : Pure Tryz.prog 71 [iv 0, iv 4] (poA (mlM (varM 0) (varM 4))) := awV 0 4 (by omega) (by omega)
  have k2 : Pure Tryz.prog 71 [iv 0, iv 3] (poA (mlM (varM 0) (varM 3))) := awV 0 3 (by omega) (by omega)
  have k3 : Pure Tryz.prog 71 [iv 0, iv 1] (poA (mlM (varM 0) (varM 1))) := awV 0 1 (by omega) (by omega)
  have z04 : PB (mlM (varM 0) (varM 4)) 1 3 2 := ((var_pb 0).mul (var_pb 4)).mono (by omega) (by omega) (by omega)
  have z03 : PB (mlM (varM 0) (varM 3)) 1 3 2 := ((var_pb 0).mul (var_pb 3)).mono (by omega) (by omega) (by omega)
  have z01 : PB (mlM (varM 0) (varM 1)) 1 3 2 := ((var_pb 0).mul (var_pb 1)).mono (by omega) (by omega) (by omega)
  have cs := (hpSub z03 z01 (by omega) (by omega) (by omega) (by omega) (by omega) (by omega)).2
  have eqs : ∀ {p : Po} {n j e : Nat}, PB p n j e → n ≤ 1000 → j ≤ 1000 → e ≤ 100 → Pure Tryz.prog 29 [poA p, poA p] (.v (.bool true)) := fun {p n j e} h hn hj he => by
    have l := h.l
    have := rpEqual p p h.k h.k h.s.dom h.s.dom (by omega) (by omega) (by omega) (by omega) (by omega) (by omega)
    rwa [decide_eq_true rfl] at this
  have sm := lwSame [mlM (varM 0) (varM 4), subM (mlM (varM 0) (varM 3)) (mlM (varM 0) (varM 1))] (by simp) (fun p hp => by
    rcases List.mem_cons.1 hp with rfl | hp
    · exact eqs z04 (by omega) (by omega) (by omega)
    · rw [List.mem_singleton] at hp
      subst hp
      exact eqs (z03.sub z01) (by omega) (by omega) (by omega))
  have sm : Pure Tryz.prog 37 [.sl 1 [poA (mlM (varM 0) (varM 4)), poA (subM (mlM (varM 0) (varM 3)) (mlM (varM 0) (varM 1)))], .sl 1 [poA (mlM (varM 0) (varM 4)), poA (subM (mlM (varM 0) (varM 3)) (mlM (varM 0) (varM 1)))]] (.v (.bool true)) := sm
  have cF : Pure Tryz.prog 70 [] (.agg [.sl 6 (ssF.map RS.av), .sl 5 []]) := cF
  have cO : Pure Tryz.prog 38 [.agg [.sl 6 (ssF.map RS.av), .sl 5 []]] (.tup [.sl 1 [poA (mlM (varM 0) (varM 4)), poA (subM (mlM (varM 0) (varM 3)) (mlM (varM 0) (varM 1)))], iv 0]) := cO
  clear eqs z04 z03 z01
  generalize ssF.map RS.av = M at *
  generalize subM (mlM (varM 0) (varM 3)) (mlM (varM 0) (varM 1)) = q at *
  generalize mlM (varM 0) (varM 4) = p at *
  generalize mlM (varM 0) (varM 3) = u at *
  generalize mlM (varM 0) (varM 1) = w at *
  refine pure_intro (tok := 0) Tryz.func28 rfl Tryz.ntmps28 Tryz.results28 Tryz.call28 (by rfl) (by simp) ?_
  (focus (refine wkax w_t (w_a cF (w_a cO (w_a cs w_t))) w_t (w_a sm w_t) (w_a k1 (w_a k2 (w_a k3 w_t))) w_t (w_r 0) ?_; (repeat' first | exact w_t | apply w_l); all_goals intros))
  (all_goals (try simp (disch := omega) only [go_sem, decide_eq_true, decide_eq_false, if_pos, if_neg, Int.reduceAdd, Int.reduceSub, Int.reduceToNat, Int.zero_add])); (all_goals first | done | rfl | (congr 2; first | done | omega | (rw [Bool.eq_iff_iff]; simp only [bool_to_prop, Bool.false_eq_true, iff_true, true_iff, iff_false, false_iff]; omega)) | skip)
/-! ### the law -/
/-- A coordinate as it comes in. -/
structure RCo where
  x : List RT
  y : List RT
abbrev RCo.av (c : RCo) : AV := .agg [.sl 4 (c.x.map RT.av), .sl 4 (c.y.map RT.av)]
def RCo.lm (c : RCo) (k : Nat) : Prop := (∀ t ∈ c.x, t.r.lm k) ∧ ∀ t ∈ c.y, t.r.lm k
def RCo.ok (c : RCo) : Bool := cooP c.x && cooP c.y
def RCo.pt (c : RCo) : Pt := (c.x.map RT.tm, c.y.map RT.tm)
theorem RCo.in {c : RCo} {k : Nat} (h : c.lm k) (ho : c.ok = true) : c.av = coA c.pt ∧ CB c.pt := by
  unfold RCo.ok at ho
  rw [Bool.and_eq_true] at ho
  obtain ⟨e1, p1⟩ := coo_in h.1 ho.1
  obtain ⟨e2, p2⟩ := coo_in h.2 ho.2
  exact ⟨by show AV.agg [_, _] = AV.agg [_, _]; rw [e1, e2]; rfl, p1, p2⟩
theorem eq22 {p : Po} {n j e : Nat} (h : PB p n j e) (hn : n ≤ 1000000) (hj : j ≤ 1000000) (he : e ≤ 100) : Pure Tryz.prog 29 [poA p, poA p] (.v (.bool true)) := by
  have l := h.l
  have := rpEqual p p h.k h.k h.s.dom h.s.dom (by omega) (by omega) (by omega) (by omega) (by omega) (by omega)
  rwa [decide_eq_true rfl] at this
set_option maxHeartbeats 8000000 in
theorem lawVectors (a b c d : RCo) (ha : a.lm 2000000) (hb : b.lm 2000000) (hc : c.lm 2000000) (hd : d.lm 2000000) : Pure Tryz.prog 7 [a.av, b.av, c.av, d.av] (.v (.bool true)) := by
  have ca := aw22
  have c1 : Pure Tryz.prog 27 [a.av] (.v (.bool a.ok)) := lwCoord a.x a.y ha.1 ha.2
  have c2 : Pure Tryz.prog 27 [b.av] (.v (.bool b.ok)) := lwCoord b.x b.y hb.1 hb.2
  have c3 : Pure Tryz.prog 27 [c.av] (.v (.bool c.ok)) := lwCoord c.x c.y hc.1 hc.2
  have c4 : Pure Tryz.prog 27 [d.av] (.v (.bool d.ok)) := lwCoord d.x d.y hd.1 hd.2
  by_cases hall : a.ok = true ∧ b.ok = true ∧ c.ok = true ∧ d.ok = true
  · obtain ⟨o1, o2, o3, o4⟩ := hall
    rw [o1] at c1
    rw [o2] at c2
    rw [o3] at c3
    rw [o4] at c4
    obtain ⟨e1, p1⟩ := RCo.in ha o1
    obtain ⟨e2, p2⟩ := RCo.in hb o2
    obtain ⟨e3, p3⟩ := RCo.in hc o3
    obtain ⟨e4, p4⟩ := RCo.in hd o4
    rw [e1] at c1 ⊢
    rw [e2] at c2 ⊢
    rw [e3] at c3 ⊢
    rw [e4] at c4 ⊢
    have k1 := hyCross p1 p2 p3 p4
    have k2 := rhCross p1 p2 p3 p4
    have k3 := hyDot p1 p2 p3 p4
    have k4 := rhDot p1 p2 p3 p4
    have q1 := eq22 (p1.cross p2 p3 p4) (by omega) (by omega) (by omega)
    have q2 := eq22 (p1.dot p2 p3 p4) (by omega) (by omega) (by omega)
    clear ha hb hc hd o1 o2 o3 o4 e1 e2 e3 e4 p1 p2 p3 p4
    generalize a.pt = A at *
    generalize b.pt = B at *
    generalize c.pt = C at *
    generalize d.pt = D at *
    generalize crossM A B C D = r at *
    generalize dotM A B C D = s at *
    obtain ⟨a1, a2⟩ := A
    obtain ⟨b1, b2⟩ := B
    obtain ⟨d1, d2⟩ := C
    obtain ⟨e1, e2⟩ := D
    refine pure_intro (tok := 0) Tryz.func7 rfl Tryz.ntmps7 Tryz.results7 Tryz.call7 (by rfl) (by simp) ?_
    (repeat' (first | (with_reducible first | refine stp ?_ | apply gx1 | apply gx2 | apply gx3 | apply gx4 | apply gx5 | apply gx6 | apply gx7 | apply gy8 | apply gz2 | apply gz3 | refine gw0 (k1) ?_ ?_ | refine gw3 (k1) ?_ ?_ ?_ | refine gw0 (k2) ?_ ?_ | refine gw3 (k2) ?_ ?_ ?_ | refine gw0 (k3) ?_ ?_ | refine gw3 (k3) ?_ ?_ ?_ | refine gw0 (k4) ?_ ?_ | refine gw3 (k4) ?_ ?_ ?_ | refine gw0 (q1) ?_ ?_ | refine gw3 (q1) ?_ ?_ ?_ | refine gw0 (q2) ?_ ?_ | refine gw3 (q2) ?_ ?_ ?_ | refine gw0 (ca) ?_ ?_ | refine gw3 (ca) ?_ ?_ ?_) | ((with_reducible apply gw1 (c4)); iterate 4 focus ((with_reducible refine gE ?_); (try simp (disch := omega) only [go_sem, decide_eq_true, decide_eq_false, if_pos, if_neg, Int.reduceAdd, Int.reduceSub, Int.reduceToNat, Int.zero_add]) <;> first | rfl | done)) | ((with_reducible apply gw1 (c3)); iterate 4 focus ((with_reducible refine gE ?_); (try simp (disch := omega) only [go_sem, decide_eq_true, decide_eq_false, if_pos, if_neg, Int.reduceAdd, Int.reduceSub, Int.reduceToNat, Int.zero_add]) <;> first | rfl | done)) | ((with_reducible apply gw1 (c2)); iterate 4 focus ((with_reducible refine gE ?_); (try simp (disch := omega) only [go_sem, decide_eq_true, decide_eq_false, if_pos, if_neg, Int.reduceAdd, Int.reduceSub, Int.reduceToNat, Int.zero_add]) <;> first | rfl | done)) | ((with_reducible apply gw1 (c1)); iterate 4 focus ((with_reducible refine gE ?_); (try simp (disch := omega) only [go_sem, decide_eq_true, decide_eq_false, if_pos, if_neg, Int.reduceAdd, Int.reduceSub, Int.reduceToNat, Int.zero_add]) <;> first | rfl | done)) | (with_reducible refine all_v ?_; intro _) | ((with_reducible refine gE ?_); (try simp (disch := omega) only [go_sem, decide_eq_true, decide_eq_false, if_pos, if_neg, Int.reduceAdd, Int.reduceSub, Int.reduceToNat, Int.zero_add]) <;> first | rfl | omega) | with_reducible refine t_in_other (by decide) ?_ | ((with_reducible apply gy1); iterate 3 focus rfl) | ((with_reducible apply gy2); iterate 3 focus rfl) | ((with_reducible apply gy3); iterate 2 focus rfl) | ((with_reducible apply gy4); iterate 1 focus rfl) | ((with_reducible apply gy5); iterate 4 focus rfl) | ((with_reducible apply gy6); iterate 4 focus rfl) | ((with_reducible apply d_bar); iterate 3 focus rfl) | ((with_reducible apply q_pub); iterate 1 focus rfl) | ((with_reducible apply gy7); iterate 1 focus rfl) | ((with_reducible apply gy9); (focus ((with_reducible refine gE ?_); (try simp (disch := omega) only [go_sem, decide_eq_true, decide_eq_false, if_pos, if_neg, Int.reduceAdd, Int.reduceSub, Int.reduceToNat, Int.zero_add]) <;> rfl))) | ((with_reducible apply gz1); (focus first | rfl | (simp (disch := omega) only [go_sem, decide_eq_true, decide_eq_false, if_pos, if_neg, Int.reduceAdd, Int.reduceSub, Int.reduceToNat, Int.zero_add]; done))) | ((with_reducible apply r_drawD (id := 3) (pickR [(4, poA r), (9, poA r), (10, .v (.bool true)), (16, poA s), (21, poA s), (22, .v (.bool true)), (25, .v (.bool true))]) [] []); (focus kernel_rfl); (focus rfl); (focus kernel_rfl); (focus (simp only [List.length_cons, List.length_nil, Nat.reduceAdd]; rfl))) | ((with_reducible first | apply og_split | apply dg_split | apply cg_split); all_goals (intro hc; (try simp only [bool_to_prop] at hc); try (exfalso; omega)))))
    (all_goals (try simp (disch := omega) only [go_sem, decide_eq_true, decide_eq_false, if_pos, if_neg, Int.reduceAdd, Int.reduceSub, Int.reduceToNat, Int.zero_add])); (all_goals first | done | rfl | (congr 2; first | done | omega | (rw [Bool.eq_iff_iff]; simp only [bool_to_prop, Bool.false_eq_true, iff_true, true_iff, iff_false, false_iff]; omega)) | skip)
  · clear ha hb hc hd
    have h3 : a.ok = false ∨ a.ok = true ∧ b.ok = false ∨ a.ok = true ∧ b.ok = true ∧ c.ok = false ∨ a.ok = true ∧ b.ok = true ∧ c.ok = true ∧ d.ok = false := by
      cases h1 : a.ok with
      | false => exact .inl rfl
      | true =>
        cases h2 : b.ok with
        | false => exact .inr (.inl ⟨rfl, rfl⟩)
        | true =>
          cases h3 : c.ok with
          | false => exact .inr (.inr (.inl ⟨rfl, rfl, rfl⟩))
          | true =>
            cases h4 : d.ok with
            | false => exact .inr (.inr (.inr ⟨rfl, rfl, rfl, rfl⟩))
            | true => exact absurd ⟨h1, h2, h3, h4⟩ hall
    clear hall
    show Pure _ _ [.agg [.sl 4 (a.x.map RT.av), .sl 4 (a.y.map RT.av)], .agg [.sl 4 (b.x.map RT.av), .sl 4 (b.y.map RT.av)], .agg [.sl 4 (c.x.map RT.av), .sl 4 (c.y.map RT.av)], .agg [.sl 4 (d.x.map RT.av), .sl 4 (d.y.map RT.av)]] _
    have c1 : Pure Tryz.prog 27 [.agg [.sl 4 (a.x.map RT.av), .sl 4 (a.y.map RT.av)]] (.v (.bool a.ok)) := c1
    have c2 : Pure Tryz.prog 27 [.agg [.sl 4 (b.x.map RT.av), .sl 4 (b.y.map RT.av)]] (.v (.bool b.ok)) := c2
    have c3 : Pure Tryz.prog 27 [.agg [.sl 4 (c.x.map RT.av), .sl 4 (c.y.map RT.av)]] (.v (.bool c.ok)) := c3
    have c4 : Pure Tryz.prog 27 [.agg [.sl 4 (d.x.map RT.av), .sl 4 (d.y.map RT.av)]] (.v (.bool d.ok)) := c4
    generalize a.ok = oa at *
    generalize b.ok = ob at *
    generalize c.ok = oc at *
    generalize d.ok = od at *
    generalize a.x.map RT.av = A1 at *
    generalize a.y.map RT.av = A2 at *
    generalize b.x.map RT.av = B1 at *
    generalize b.y.map RT.av = B2 at *
    generalize c.x.map RT.av = C1 at *
    generalize c.y.map RT.av = C2 at *
    generalize d.x.map RT.av = D1 at *
    generalize d.y.map RT.av = D2 at *
    rcases h3 with rfl | ⟨rfl, rfl⟩ | ⟨rfl, rfl, rfl⟩ | ⟨rfl, rfl, rfl, rfl⟩
    all_goals
      refine pure_intro (tok := 0) Tryz.func7 rfl Tryz.ntmps7 Tryz.results7 Tryz.call7 (by rfl) (by simp) ?_
      (repeat' (first | (with_reducible first | refine stp ?_ | apply gx1 | apply gx2 | apply gx3 | apply gx4 | apply gx5 | apply gx6 | apply gx7 | apply gy8 | apply gz2 | apply gz3 | refine gw0 (ca) ?_ ?_ | refine gw3 (ca) ?_ ?_ ?_) | ((with_reducible apply gw1 (c4)); iterate 4 focus ((with_reducible refine gE ?_); (try simp (disch := omega) only [go_sem, decide_eq_true, decide_eq_false, if_pos, if_neg, Int.reduceAdd, Int.reduceSub, Int.reduceToNat, Int.zero_add]) <;> first | rfl | done)) | ((with_reducible apply gw1 (c3)); iterate 4 focus ((with_reducible refine gE ?_); (try simp (disch := omega) only [go_sem, decide_eq_true, decide_eq_false, if_pos, if_neg, Int.reduceAdd, Int.reduceSub, Int.reduceToNat, Int.zero_add]) <;> first | rfl | done)) | ((with_reducible apply gw1 (c2)); iterate 4 focus ((with_reducible refine gE ?_); (try simp (disch := omega) only [go_sem, decide_eq_true, decide_eq_false, if_pos, if_neg, Int.reduceAdd, Int.reduceSub, Int.reduceToNat, Int.zero_add]) <;> first | rfl | done)) | ((with_reducible apply gw1 (c1)); iterate 4 focus ((with_reducible refine gE ?_); (try simp (disch := omega) only [go_sem, decide_eq_true, decide_eq_false, if_pos, if_neg, Int.reduceAdd, Int.reduceSub, Int.reduceToNat, Int.zero_add]) <;> first | rfl | done)) | (with_reducible refine all_v ?_; intro _) | ((with_reducible refine gE ?_); (try simp (disch := omega) only [go_sem, decide_eq_true, decide_eq_false, if_pos, if_neg, Int.reduceAdd, Int.reduceSub, Int.reduceToNat, Int.zero_add]) <;> first | rfl | omega) | with_reducible refine t_in_other (by decide) ?_ | ((with_reducible apply gy1); iterate 3 focus rfl) | ((with_reducible apply gy2); iterate 3 focus rfl) | ((with_reducible apply gy3); iterate 2 focus rfl) | ((with_reducible apply gy4); iterate 1 focus rfl) | ((with_reducible apply gy5); iterate 4 focus rfl) | ((with_reducible apply gy6); iterate 4 focus rfl) | ((with_reducible apply d_bar); iterate 3 focus rfl) | ((with_reducible apply q_pub); iterate 1 focus rfl) | ((with_reducible apply gy7); iterate 1 focus rfl) | ((with_reducible apply gy9); (focus ((with_reducible refine gE ?_); (try simp (disch := omega) only [go_sem, decide_eq_true, decide_eq_false, if_pos, if_neg, Int.reduceAdd, Int.reduceSub, Int.reduceToNat, Int.zero_add]) <;> rfl))) | ((with_reducible apply gz1); (focus first | rfl | (simp (disch := omega) only [go_sem, decide_eq_true, decide_eq_false, if_pos, if_neg, Int.reduceAdd, Int.reduceSub, Int.reduceToNat, Int.zero_add]; done))) | ((with_reducible apply r_drawD (pickR []) [] []); (focus kernel_rfl); (focus rfl); (focus kernel_rfl); (focus (simp only [List.length_cons, List.length_nil, Nat.reduceAdd]; rfl))) | ((with_reducible first | apply og_split | apply dg_split | apply cg_split); all_goals (intro hc; (try simp only [bool_to_prop] at hc); try (exfalso; omega)))))
      (all_goals (try simp (disch := omega) only [go_sem, decide_eq_true, decide_eq_false, if_pos, if_neg, Int.reduceAdd, Int.reduceSub, Int.reduceToNat, Int.zero_add])); (all_goals first | done | rfl | (congr 2; first | done | omega | (rw [Bool.eq_iff_iff]; simp only [bool_to_prop, Bool.false_eq_true, iff_true, true_iff, iff_false, false_iff]; omega)) | skip)
end Go.Proofs.YtbgmnobnaplmlaaGreat
end

section
namespace Go.Proofs.YtbgmnobnaplmlaaGreat
open Go Go.RowKit Go.Pg
set_option linter.unusedSimpArgs false
set_option linter.unusedVariables false
set_option maxRecDepth 20000
attribute [-bool_to_prop] Bool.and_eq_decide Bool.or_eq_decide Bool.decide_beq_decide decide_eq_decide
section
variable {N n : Nat} {cs : List AV}
theorem shMono (h : Shape Tryz.prog N n 61 cs) : ∃ l : List Int, cs = [ivs l] ∧ l.length ≤ N := by
  obtain ⟨bs, rfl, hl, _⟩ := shape_sliceOf (g := fun k : Int => [iv k]) (Q := fun _ => True) Tryz.underlying61 h fun m x hx => by
    obtain ⟨i, rfl, _⟩ := shape_int Tryz.underlying3 hx
    exact ⟨i, rfl, trivial⟩
  refine ⟨bs, ?_, hl⟩
  rw [csInt]
  have : (bs.map fun b : Int => wrapA Tryz.prog 3 [iv b]) = bs.map iv := List.map_congr_left fun b _ => wrapA_one agInt _
  rw [this]
theorem shTerm (h : Shape Tryz.prog N n 63 cs) : ∃ t : RT, cs = [.v (.bool t.r.s), lim t.r.l, lim t.r.d, ivs t.m] ∧ t.r.lm N := by
  obtain ⟨m, rfl, hs⟩ := shape_struct Tryz.underlying63 (by kernel_rfl) h
  obtain ⟨x, y, rfl, h1, hs⟩ := hs.inv
  obtain ⟨x2, y, rfl, h2, hs⟩ := hs.inv
  obtain rfl := hs.inv0
  obtain ⟨r, rfl, hr⟩ := shRat h1
  obtain ⟨l, rfl, _⟩ := shMono h2
  exact ⟨⟨r, l⟩, rfl, hr⟩
theorem shPoly (h : Shape Tryz.prog N n 70 cs) : ∃ l : List RT, cs = [.sl 4 (l.map RT.av)] ∧ ∀ t ∈ l, t.r.lm N := by
  obtain ⟨bs, rfl, hl, hq⟩ := shape_sliceOf (g := fun t : RT => [.v (.bool t.r.s), lim t.r.l, lim t.r.d, ivs t.m]) (Q := fun t => t.r.lm N) Tryz.underlying70 h fun m x hx => shTerm hx
  refine ⟨bs, ?_, hq⟩
  rw [show Tryz.prog.cellsOf 63 = 4 from by kernel_rfl]
  have : (bs.map fun t : RT => wrapA Tryz.prog 63 [.v (.bool t.r.s), lim t.r.l, lim t.r.d, ivs t.m]) = bs.map RT.av := List.map_congr_left fun b _ => wrapA_agg Tryz.underlying63 _
  rw [this]
theorem shCoord (h : Shape Tryz.prog N n 72 cs) : ∃ c : RCo, wrapA Tryz.prog 72 cs = c.av ∧ c.lm N := by
  obtain ⟨m, rfl, hs⟩ := shape_struct Tryz.underlying72 (by kernel_rfl) h
  obtain ⟨x, y, rfl, h1, hs⟩ := hs.inv
  obtain ⟨x2, y, rfl, h2, hs⟩ := hs.inv
  obtain rfl := hs.inv0
  obtain ⟨p, rfl, hp⟩ := shPoly h1
  obtain ⟨q, rfl, hq⟩ := shPoly h2
  exact ⟨⟨p, q⟩, wrapA_agg Tryz.underlying72 _, hp, hq⟩
end
theorem rco_mono {c : RCo} {a b : Nat} (h : c.lm a) (hab : a ≤ b) : c.lm b := ⟨fun t ht => lm_mono (h.1 t ht) hab, fun t ht => lm_mono (h.2 t ht) hab⟩
theorem saidVectors (xs : List AV) (h : ShapeL Tryz.prog 1048576 9 [72, 72, 72, 72] xs) : Pure Tryz.prog 7 xs (.v (.bool true)) := by
  obtain ⟨x, bs, rfl, h1, h⟩ := h.inv
  obtain ⟨y, bs, rfl, h2, h⟩ := h.inv
  obtain ⟨z, bs, rfl, h3, h⟩ := h.inv
  obtain ⟨w, bs, rfl, h4, h⟩ := h.inv
  obtain rfl := h.inv0
  obtain ⟨a, e1, l1⟩ := shCoord h1
  obtain ⟨b, e2, l2⟩ := shCoord h2
  obtain ⟨c, e3, l3⟩ := shCoord h3
  obtain ⟨d, e4, l4⟩ := shCoord h4
  rw [e1, e2, e3, e4]
  exact lawVectors a b c d (rco_mono l1 (by decide)) (rco_mono l2 (by decide)) (rco_mono l3 (by decide)) (rco_mono l4 (by decide))
end Go.Proofs.YtbgmnobnaplmlaaGreat
end
