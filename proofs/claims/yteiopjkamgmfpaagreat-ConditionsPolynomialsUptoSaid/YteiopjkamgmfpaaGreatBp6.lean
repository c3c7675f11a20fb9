/- Contracts of the functions that the law reaches, and the rules by which they are walked. They say what a call hands back for every input within the bounds that each names; no other condition. -/
import Derived.Test.YteiopjkamgmfpaaGreatBp5
section
namespace Go.Proofs.YteiopjkamgmfpaaGreat
open Go Go.RowKit Go.Pg Go.Pol
set_option linter.unusedSimpArgs false
set_option linter.unusedVariables false
set_option maxRecDepth 20000
attribute [local go_sem] Tryz.underlying3 Tryz.underlying4 Tryz.underlying129 Tryz.underlying9 Tryz.underlying26 Tryz.underlying35 Tryz.underlying53 Tryz.underlying51 Tryz.underlying49 Tryz.underlying55 Tryz.underlying22 Tryz.underlying25 Tryz.underlying107 Tryz.underlying32 Tryz.underlying69 Tryz.underlying31 Tryz.underlying34 Tryz.underlying120 Tryz.underlying121 Tryz.underlying42 Tryz.underlying113 Tryz.underlying118 Tryz.underlying160 sz3 by3 z3 szB zB szErr zErr szStr byStr zStr szRat zRat szInt zInt szNat zNat szStep byStep zStep szFig zFig szSlI zSlI szSlS zSlS szVar byVar zVar szSlV zSlV szCoord byCoord zCoord szSlC zSlC szFrame zFrame szCBld byCBld zCBld szCVec byCVec zCVec szPoly byPoly zPoly szTerm zTerm szPtrB zPtrB szFnC zFnC Tryz.underlying103 szHVec byHVec zHVec Tryz.underlying140 szSlP zSlP Tryz.underlying57 Tryz.underlying23 szL byL zL szFact byFact zFact szSlF zSlF Tryz.underlying28 Tryz.underlying38 szCond byCond zCond szSlCd zSlCd
attribute [-bool_to_prop] Bool.and_eq_decide Bool.or_eq_decide Bool.decide_beq_decide decide_eq_decide
/-! ### the polynomials of conditions -/
def cPol (c : RC) (cs : List Pt) (vs : List Vt) : Po :=
  if c.k = 1 then dotM (cs.getD (gI c.ar 0).toNat ([], [])) (cs.getD (gI c.ar 1).toNat ([], [])) (cs.getD (gI c.ar 0).toNat ([], [])) (cs.getD (gI c.ar 1).toNat ([], []))
  else if c.k = 2 then crossM (cs.getD (gI c.ar 0).toNat ([], [])) (cs.getD (gI c.ar 1).toNat ([], [])) (cs.getD (gI c.ar 0).toNat ([], [])) (cs.getD (gI c.ar 2).toNat ([], []))
  else if c.k = 3 then crossM (cs.getD (gI c.ar 0).toNat ([], [])) (cs.getD (gI c.ar 1).toNat ([], [])) (cs.getD (gI c.ar 2).toNat ([], [])) (cs.getD (gI c.ar 3).toNat ([], []))
  else slopeM (parM vs c.st)
theorem cpol_pb (c : RC) {cs : List Pt} (hcb : ∀ j, CB (cs.getD j ([], []))) (vs : List Vt) : PB (cPol c cs vs) 512 14178 16 := by
  unfold cPol
  split
  · exact ((hcb _).dot (hcb _) (hcb _) (hcb _)).mono (by omega) (by omega) (by omega)
  · split
    · exact ((hcb _).cross (hcb _) (hcb _) (hcb _)).mono (by omega) (by omega) (by omega)
    · split
      · exact ((hcb _).cross (hcb _) (hcb _) (hcb _)).mono (by omega) (by omega) (by omega)
      · have h := parM_pb vs c.st
        exact (one_pb.add (h.mul h)).mono (by omega) (by omega) (by omega)
/-- What a figure's condition is. -/
def CndIs (c : RC) (ss : List RS) : Prop :=
  (c.k = 1 ∧ ∃ x y : Nat, c.ar = [(x : Int), (y : Int)] ∧ x < ss.length ∧ y < ss.length) ∨
  (c.k = 2 ∧ ∃ x y z : Nat, c.ar = [(x : Int), (y : Int), (z : Int)] ∧ x < ss.length ∧ y < ss.length ∧ z < ss.length) ∨
  (c.k = 3 ∧ ∃ x y z w : Nat, c.ar = [(x : Int), (y : Int), (z : Int), (w : Int)] ∧ x < ss.length ∧ y < ss.length ∧ z < ss.length ∧ w < ss.length) ∨
  (c.k = 4 ∧ c.ar = [] ∧ ∃ (i : Nat) (h : i < ss.length), c.st = i ∧ ss[i].k = 6)
theorem cnd_is {c : RC} {ss : List RS} (h : cndOk c ss = true) (hal : ∀ i (h : i < ss.length), (ss[i].ar.length : Int) = arS ss[i].k) (hai : ∀ i (h : i < ss.length), ∀ k, k < ss[i].ar.length → 0 ≤ gI ss[i].ar k ∧ gI ss[i].ar k < (ss.length : Int)) : CndIs c ss := by
  unfold cndOk at h
  simp only [Bool.and_eq_true, decide_eq_true_eq] at h
  obtain ⟨⟨h0, h1⟩, h2, h3⟩ := h
  have hi : c.st.toNat < ss.length := by omega
  rw [show ss.getD c.st.toNat RS.zero = ss[c.st.toNat] from by rw [List.getD_eq_getElem?_getD, List.getElem?_eq_getElem hi]; rfl] at h2 h3
  have hl := hal _ hi
  have ha := hai _ hi
  have hin : ∃ (i : Nat) (h : i < ss.length), c.st = i ∧ ss[i].k = ss[c.st.toNat].k := ⟨c.st.toNat, hi, by omega, rfl⟩
  generalize ss[c.st.toNat] = s at *
  generalize c.st.toNat = i at *
  unfold sameC at h3
  simp only [Bool.and_eq_true, decide_eq_true_eq] at h3
  obtain ⟨e1, -, e3⟩ := h3
  unfold cHas at h2
  have h2 := of_decide_eq_true h2
  have kk : s.k = 6 ∨ s.k = 7 ∨ s.k = 8 ∨ s.k = 9 ∨ s.k = 10 ∨ s.k = 11 ∨ s.k = 12 ∨ s.k = 13 ∨ s.k = 14 := by omega
  unfold CndIs
  rcases kk with k | k | k | k | k | k | k | k | k
  · rw [show cOf s i = ⟨4, [], i⟩ from by simp [cOf, k]] at e1 e3
    obtain ⟨j, hj, q1, q2⟩ := hin
    exact .inr (.inr (.inr ⟨e1, e3, j, hj, q1, by rw [q2, k]⟩))
  · obtain ⟨x, y, z, hx, lx, ly, lz⟩ := ar3 (n := ss.length) (by rw [hl, k]; rfl) ha
    rw [show cOf s i = ⟨1, [(y : Int), (z : Int)], i⟩ from by simp [cOf, k, hx, gI]] at e1 e3
    exact .inl ⟨e1, y, z, e3, ly, lz⟩
  · obtain ⟨x, y, z, hx, lx, ly, lz⟩ := ar3 (n := ss.length) (by rw [hl, k]; rfl) ha
    rw [show cOf s i = ⟨1, [(y : Int), (z : Int)], i⟩ from by simp [cOf, k, hx, gI]] at e1 e3
    exact .inl ⟨e1, y, z, e3, ly, lz⟩
  · obtain ⟨x, y, z, w, hx, lx, ly, lz, lw⟩ := ar4 (n := ss.length) (by rw [hl, k]; rfl) ha
    rw [show cOf s i = ⟨3, s.ar, i⟩ from by simp [cOf, k]] at e1 e3
    exact .inr (.inr (.inl ⟨e1, x, y, z, w, by rw [e3, hx], lx, ly, lz, lw⟩))
  · obtain ⟨x, y, z, hx, lx, ly, lz⟩ := ar3 (n := ss.length) (by rw [hl, k]; rfl) ha
    rw [show cOf s i = ⟨1, [(x : Int), (y : Int)], i⟩ from by simp [cOf, k, hx, gI]] at e1 e3
    exact .inl ⟨e1, x, y, e3, lx, ly⟩
  · obtain ⟨x, y, z, hx, lx, ly, lz⟩ := ar3 (n := ss.length) (by rw [hl, k]; rfl) ha
    rw [show cOf s i = ⟨2, s.ar, i⟩ from by simp [cOf, k]] at e1 e3
    exact .inr (.inl ⟨e1, x, y, z, by rw [e3, hx], lx, ly, lz⟩)
  · obtain ⟨x, y, z, w, hx, lx, ly, lz, lw⟩ := ar4 (n := ss.length) (by rw [hl, k]; rfl) ha
    rw [show cOf s i = ⟨1, [(x : Int), (y : Int)], i⟩ from by simp [cOf, k, hx, gI]] at e1 e3
    exact .inl ⟨e1, x, y, e3, lx, ly⟩
  · obtain ⟨x, y, z, w, hx, lx, ly, lz, lw⟩ := ar4 (n := ss.length) (by rw [hl, k]; rfl) ha
    rw [show cOf s i = ⟨1, [(x : Int), (z : Int)], i⟩ from by simp [cOf, k, hx, gI]] at e1 e3
    exact .inl ⟨e1, x, z, e3, lx, lz⟩
  · obtain ⟨x, y, hx, lx, ly⟩ := ar2 (n := ss.length) (by rw [hl, k]; rfl) ha
    rw [show cOf s i = ⟨1, [(x : Int), (y : Int)], i⟩ from by simp [cOf, k, hx, gI]] at e1 e3
    exact .inl ⟨e1, x, y, e3, lx, ly⟩
end Go.Proofs.YteiopjkamgmfpaaGreat
end

section
namespace Go.Proofs.YteiopjkamgmfpaaGreat
open Go Go.RowKit Go.Pg Go.Pol
set_option linter.unusedSimpArgs false
set_option linter.unusedVariables false
set_option maxRecDepth 20000
attribute [local go_sem] Tryz.underlying3 Tryz.underlying4 Tryz.underlying129 Tryz.underlying9 Tryz.underlying26 Tryz.underlying35 Tryz.underlying53 Tryz.underlying51 Tryz.underlying49 Tryz.underlying55 Tryz.underlying22 Tryz.underlying25 Tryz.underlying107 Tryz.underlying32 Tryz.underlying69 Tryz.underlying31 Tryz.underlying34 Tryz.underlying120 Tryz.underlying121 Tryz.underlying42 Tryz.underlying113 Tryz.underlying118 Tryz.underlying160 sz3 by3 z3 szB zB szErr zErr szStr byStr zStr szRat zRat szInt zInt szNat zNat szStep byStep zStep szFig zFig szSlI zSlI szSlS zSlS szVar byVar zVar szSlV zSlV szCoord byCoord zCoord szSlC zSlC szFrame zFrame szCBld byCBld zCBld szCVec byCVec zCVec szPoly byPoly zPoly szTerm zTerm szPtrB zPtrB szFnC zFnC Tryz.underlying103 szHVec byHVec zHVec Tryz.underlying140 szSlP zSlP Tryz.underlying57 Tryz.underlying23 szL byL zL szFact byFact zFact szSlF zSlF Tryz.underlying28 Tryz.underlying38 szCond byCond zCond szSlCd zSlCd
attribute [-bool_to_prop] Bool.and_eq_decide Bool.or_eq_decide Bool.decide_beq_decide decide_eq_decide
/-! ### the polynomials of conditions: the walks of one condition -/
set_option maxHeartbeats 4000000 in
theorem cnSlope (cs : List Pt) (vs : List Vt) (i : Int) (w : Nat) (hv : vs.length ≤ 900) (hw : w < 900) (hf : fstN vs i vs.length = some w) : Pure Tryz.prog 23 [frmA cs vs, iv i] (poA (slopeM (varM w))) := by
  have hlV : (vs.map Vt.av).length = vs.length := List.length_map ..
  have hgV : ∀ y, y < vs.length → (vs.map Vt.av).getD y .u = Vt.av (vs.getD y (0, 0, 0)) := fun y h => by rw [map_atB Vt.av h, List.getD_eq_getElem?_getD, List.getElem?_eq_getElem h]; rfl
  have c0 : Pure Tryz.prog 56 [iv 1] (ratQ 1) := ratOf 1 (by omega)
  have c1 := poConst1
  have c2 := poVar w (by omega)
  have h1 := var_pb w
  have c3 := (hpMul h1 h1 (by omega) (by omega) (by omega) (by omega) (by omega) (by omega) (by omega) (by omega) (by omega)).1
  have c4 := (hpAdd one_pb (h1.mul h1) (by omega) (by omega) (by omega) (by omega) (by omega) (by omega)).1
  unfold slopeM
  show Pure _ _ [.agg [.sl 2 (cs.map coA), .sl 3 (vs.map Vt.av)], iv i] _
  generalize cs.map coA = C at *
  generalize vs.map Vt.av = V at *
  generalize addM oneM (mlM (varM w) (varM w)) = r4 at *
  generalize mlM (varM w) (varM w) = r3 at *
  generalize varM w = r2 at *
  generalize oneM = r1 at *
  refine pure_intro (tok := 0) Tryz.func23 rfl Tryz.ntmps23 Tryz.results23 Tryz.call23 (by rfl) (by simp) ?_
  (focus (refine wkad (w_a hlV w_t) (w_a c0 (w_a c1 w_t)) w_t ?_; (repeat' first | exact w_t | apply w_l); all_goals intros))
  rename_i g2
  refine r_loopE (ι := Nat) (fun y e m => y ≤ vs.length ∧ e 1 = iv i ∧ e 2 = .pbox 2 g2 0 ∧ m 2 = some (.box g2 34 [.sl 2 C, .sl 3 V] false) ∧ e 5 = poA r1 ∧ e 11 = .sl 3 V ∧ e 12 = iv vs.length ∧ e 13 = iv y ∧ ∀ j, j < y → (vs.getD j (0, 0, 0)).2.1 ≠ i) (fun y => vs.length - y) 0 (by rfl) ?_ ?_
  · rintro y e m ⟨hy, e1, e2, m2, e5, e11, e12, e13, hj⟩
    by_cases hlt : y < vs.length
    · have hg := hgV y hlt
      by_cases hyi : (vs.getD y (0, 0, 0)).2.1 = i
      · have hyw : y = w := by
          have := fstN_at hj hyi hlt
          rw [hf] at this
          injection this with this
          exact this.symm
        subst hyw
        generalize vs.getD y (0, 0, 0) = v at *
        obtain ⟨v1, v2, v3⟩ := v
        simp only at hyi
        subst hyi
        (focus (refine wkad (w_a e1 (w_a e2 (w_a m2 (w_a e5 (w_a e11 (w_a e12 (w_a e13 (w_a hlV (w_a hg w_t))))))))) (w_a c2 (w_a c3 (w_a c4 w_t))) w_t ?_; (repeat' first | exact w_t | apply w_l); all_goals intros))
        all_goals (all_goals (try simp (disch := omega) only [go_sem, decide_eq_true, decide_eq_false, if_pos, if_neg, Int.reduceAdd, Int.reduceSub, Int.reduceToNat, Int.zero_add])); (all_goals first | done | rfl | (congr 2; first | done | omega | (rw [Bool.eq_iff_iff]; simp only [bool_to_prop, Bool.false_eq_true, iff_true, true_iff, iff_false, false_iff]; omega)) | skip)
      · have hnx : ∀ j, j < y + 1 → (vs.getD j (0, 0, 0)).2.1 ≠ i := fun j hjj => by
          by_cases e : j = y
          · rw [e]; exact hyi
          · exact hj j (by omega)
        generalize vs.getD y (0, 0, 0) = v at *
        obtain ⟨v1, v2, v3⟩ := v
        simp only at hyi
        (focus (refine wkad (w_a e1 (w_a e2 (w_a m2 (w_a e5 (w_a e11 (w_a e12 (w_a e13 (w_a hlV (w_a hg (w_a hyi w_t)))))))))) w_t w_t ?_; (repeat' first | exact w_t | apply w_l); all_goals intros))
        exact ⟨y + 1, ⟨by omega, by exact gW e1, by exact gW e2, by exact gW m2, by exact gW e5, by exact gW e11, by exact gW e12, by exact gS, hnx⟩, by omega⟩
    · exfalso
      have := fstN_none (n := vs.length) fun j hjj => hj j (by omega)
      rw [hf] at this
      cases this
  · exact ⟨Nat.zero_le _, by exact gC, by exact gC, by exact gC, by exact gC, by exact gC, by (simp (disch := omega) only [go_sem, hlV] <;> repeat' first | rfl | refine ⟨?_, ?_⟩), by exact gC, fun j h => by omega⟩
theorem cnPolyN (c : RC) (ss : List RS) (gs : List RG) (cs : List Pt) (vs : List Vt) (cr : Pure Tryz.prog 20 [c.av, figA ss gs] (.v (.bool false))) : Pure Tryz.prog 8 [c.av, figA ss gs, frmA cs vs] (.tup [.v (.slice none 0 0), iv 1]) := by
  have cr : Pure Tryz.prog 20 [.agg [iv c.k, .sl 1 (c.ar.map iv), iv c.st], .agg [.sl 6 (ss.map RS.av), .sl 5 (gs.map RG.av)]] (.v (.bool false)) := cr
  show Pure _ _ [.agg [iv c.k, .sl 1 (c.ar.map iv), iv c.st], .agg [.sl 6 (ss.map RS.av), .sl 5 (gs.map RG.av)], .agg [.sl 2 (cs.map coA), .sl 3 (vs.map Vt.av)]] _
  generalize c.ar.map iv = A at *
  generalize ss.map RS.av = M at *
  generalize gs.map RG.av = N at *
  generalize cs.map coA = C at *
  generalize vs.map Vt.av = V at *
  refine pure_intro (tok := 0) Tryz.func8 rfl Tryz.ntmps8 Tryz.results8 Tryz.call8 (by rfl) (by simp) ?_
  (focus (refine wkad w_t (w_a cr w_t) w_t ?_; (repeat' first | exact w_t | apply w_l); all_goals intros))
  all_goals (all_goals (try simp (disch := omega) only [go_sem, decide_eq_true, decide_eq_false, if_pos, if_neg, Int.reduceAdd, Int.reduceSub, Int.reduceToNat, Int.zero_add])); (all_goals first | done | rfl | (congr 2; first | done | omega | (rw [Bool.eq_iff_iff]; simp only [bool_to_prop, Bool.false_eq_true, iff_true, true_iff, iff_false, false_iff]; omega)) | skip)
end Go.Proofs.YteiopjkamgmfpaaGreat
end

section
namespace Go.Proofs.YteiopjkamgmfpaaGreat
open Go Go.RowKit Go.Pg Go.Pol
set_option linter.unusedSimpArgs false
set_option linter.unusedVariables false
set_option maxRecDepth 20000
attribute [local go_sem] Tryz.underlying3 Tryz.underlying4 Tryz.underlying129 Tryz.underlying9 Tryz.underlying26 Tryz.underlying35 Tryz.underlying53 Tryz.underlying51 Tryz.underlying49 Tryz.underlying55 Tryz.underlying22 Tryz.underlying25 Tryz.underlying107 Tryz.underlying32 Tryz.underlying69 Tryz.underlying31 Tryz.underlying34 Tryz.underlying120 Tryz.underlying121 Tryz.underlying42 Tryz.underlying113 Tryz.underlying118 Tryz.underlying160 sz3 by3 z3 szB zB szErr zErr szStr byStr zStr szRat zRat szInt zInt szNat zNat szStep byStep zStep szFig zFig szSlI zSlI szSlS zSlS szVar byVar zVar szSlV zSlV szCoord byCoord zCoord szSlC zSlC szFrame zFrame szCBld byCBld zCBld szCVec byCVec zCVec szPoly byPoly zPoly szTerm zTerm szPtrB zPtrB szFnC zFnC Tryz.underlying103 szHVec byHVec zHVec Tryz.underlying140 szSlP zSlP Tryz.underlying57 Tryz.underlying23 szL byL zL szFact byFact zFact szSlF zSlF Tryz.underlying28 Tryz.underlying38 szCond byCond zCond szSlCd zSlCd
attribute [-bool_to_prop] Bool.and_eq_decide Bool.or_eq_decide Bool.decide_beq_decide decide_eq_decide
/-! ### the polynomials of conditions: the walks of Poly -/
set_option maxHeartbeats 8000000 in
theorem cnPoly (c : RC) (ss : List RS) (gs : List RG) (cs : List Pt) (vs : List Vt) (hi : CndIs c ss) (hlc : cs.length = ss.length) (hcb : ∀ j, CB (cs.getD j ([], []))) (hv : vs.length ≤ 900) (h6 : ∀ (i : Nat) (h : i < ss.length), ss[i].k = 6 → ∃ w, fstN vs i vs.length = some w ∧ w < 900)
    (cr : Pure Tryz.prog 20 [c.av, figA ss gs] (.v (.bool true))) : Pure Tryz.prog 8 [c.av, figA ss gs, frmA cs vs] (.tup [poA (cPol c cs vs), iv 0]) := by
  have hcl : (cs.map coA).length = cs.length := List.length_map ..
  have hgc : ∀ j, j < cs.length → (cs.map coA).getD j .u = coA (cs.getD j ([], [])) := fun j h => by rw [map_atB coA h, List.getD_eq_getElem?_getD, List.getElem?_eq_getElem h]; rfl
  obtain ⟨k, ar, st⟩ := c
  unfold CndIs at hi
  simp only at hi
  unfold cPol
  rcases hi with ⟨rfl, x, y, rfl, hx, hy⟩ | ⟨rfl, x, y, z, rfl, hx, hy, hz⟩ | ⟨rfl, x, y, z, w, rfl, hx, hy, hz, hw⟩ | ⟨rfl, rfl, i, hi, rfl, hk⟩
  · simp only [gI, List.getD_cons_zero, List.getD_cons_succ, Int.toNat_natCast, if_true, if_pos, show ¬ ((2 : Int) = 1) from by decide, show ¬ ((3 : Int) = 1) from by decide, show ¬ ((3 : Int) = 2) from by decide, if_false]
    have gx := hgc x (by omega)
    have qx := hcb x
    have gy := hgc y (by omega)
    have qy := hcb y
    have cC := hyDot qx qy qx qy
    have hl : ∀ j, j < ss.length → j < cs.length := fun j h => by omega
    have lx := hl x hx
    have ly := hl y hy
    clear hcb hgc h6 hl hx hy qx qy
    generalize cs.getD x ([], []) = X at *
    generalize cs.getD y ([], []) = Y at *
    generalize dotM X Y X Y = D at *
    obtain ⟨x1, x2⟩ := X
    obtain ⟨y1, y2⟩ := Y
    have gx : (cs.map coA).getD x .u = .agg [.sl 4 (x1.map tmA), .sl 4 (x2.map tmA)] := gx
    have gy : (cs.map coA).getD y .u = .agg [.sl 4 (y1.map tmA), .sl 4 (y2.map tmA)] := gy
    have cC : Pure Tryz.prog 21 [.agg [.sl 4 (x1.map tmA), .sl 4 (x2.map tmA)], .agg [.sl 4 (y1.map tmA), .sl 4 (y2.map tmA)], .agg [.sl 4 (x1.map tmA), .sl 4 (x2.map tmA)], .agg [.sl 4 (y1.map tmA), .sl 4 (y2.map tmA)]] (poA D) := cC
    have cr : Pure Tryz.prog 20 [.agg [iv 1, .sl 1 [iv ((x : Nat) : Int), iv ((y : Nat) : Int)], iv st], .agg [.sl 6 (ss.map RS.av), .sl 5 (gs.map RG.av)]] (.v (.bool true)) := cr
    show Pure _ _ [.agg [iv 1, .sl 1 [iv ((x : Nat) : Int), iv ((y : Nat) : Int)], iv st], .agg [.sl 6 (ss.map RS.av), .sl 5 (gs.map RG.av)], .agg [.sl 2 (cs.map coA), .sl 3 (vs.map Vt.av)]] _
    generalize ss.map RS.av = M at *
    generalize gs.map RG.av = N at *
    generalize cs.map coA = C at *
    generalize vs.map Vt.av = V at *
    generalize x1.map tmA = X1 at *
    generalize x2.map tmA = X2 at *
    generalize y1.map tmA = Y1 at *
    generalize y2.map tmA = Y2 at *
    refine pure_intro (tok := 0) Tryz.func8 rfl Tryz.ntmps8 Tryz.results8 Tryz.call8 (by rfl) (by simp) ?_
    (focus (refine wkax (w_a hcl (w_a gx (w_a gy (w_a lx (w_a ly w_t))))) (w_a cr (w_a cC w_t)) (w_a (w_d 13 [(12, poA D)] [] []) w_t) w_t w_t w_t (w_r 5) ?_; (repeat' first | exact w_t | apply w_l); all_goals intros))
    all_goals (all_goals (try simp (disch := omega) only [go_sem, decide_eq_true, decide_eq_false, if_pos, if_neg, Int.reduceAdd, Int.reduceSub, Int.reduceToNat, Int.zero_add])); (all_goals first | done | rfl | (congr 2; first | done | omega | (rw [Bool.eq_iff_iff]; simp only [bool_to_prop, Bool.false_eq_true, iff_true, true_iff, iff_false, false_iff]; omega)) | skip)
  · simp only [gI, List.getD_cons_zero, List.getD_cons_succ, Int.toNat_natCast, if_true, if_pos, show ¬ ((2 : Int) = 1) from by decide, show ¬ ((3 : Int) = 1) from by decide, show ¬ ((3 : Int) = 2) from by decide, if_false]
    have gx := hgc x (by omega)
    have qx := hcb x
    have gy := hgc y (by omega)
    have qy := hcb y
    have gz := hgc z (by omega)
    have qz := hcb z
    have cC := hyCross qx qy qx qz
    have hl : ∀ j, j < ss.length → j < cs.length := fun j h => by omega
    have lx := hl x hx
    have ly := hl y hy
    have lz := hl z hz
    clear hcb hgc h6 hl hx hy hz qx qy qz
    generalize cs.getD x ([], []) = X at *
    generalize cs.getD y ([], []) = Y at *
    generalize cs.getD z ([], []) = Z at *
    generalize crossM X Y X Z = D at *
    obtain ⟨x1, x2⟩ := X
    obtain ⟨y1, y2⟩ := Y
    obtain ⟨z1, z2⟩ := Z
    have gx : (cs.map coA).getD x .u = .agg [.sl 4 (x1.map tmA), .sl 4 (x2.map tmA)] := gx
    have gy : (cs.map coA).getD y .u = .agg [.sl 4 (y1.map tmA), .sl 4 (y2.map tmA)] := gy
    have gz : (cs.map coA).getD z .u = .agg [.sl 4 (z1.map tmA), .sl 4 (z2.map tmA)] := gz
    have cC : Pure Tryz.prog 22 [.agg [.sl 4 (x1.map tmA), .sl 4 (x2.map tmA)], .agg [.sl 4 (y1.map tmA), .sl 4 (y2.map tmA)], .agg [.sl 4 (x1.map tmA), .sl 4 (x2.map tmA)], .agg [.sl 4 (z1.map tmA), .sl 4 (z2.map tmA)]] (poA D) := cC
    have cr : Pure Tryz.prog 20 [.agg [iv 2, .sl 1 [iv ((x : Nat) : Int), iv ((y : Nat) : Int), iv ((z : Nat) : Int)], iv st], .agg [.sl 6 (ss.map RS.av), .sl 5 (gs.map RG.av)]] (.v (.bool true)) := cr
    show Pure _ _ [.agg [iv 2, .sl 1 [iv ((x : Nat) : Int), iv ((y : Nat) : Int), iv ((z : Nat) : Int)], iv st], .agg [.sl 6 (ss.map RS.av), .sl 5 (gs.map RG.av)], .agg [.sl 2 (cs.map coA), .sl 3 (vs.map Vt.av)]] _
    generalize ss.map RS.av = M at *
    generalize gs.map RG.av = N at *
    generalize cs.map coA = C at *
    generalize vs.map Vt.av = V at *
    generalize x1.map tmA = X1 at *
    generalize x2.map tmA = X2 at *
    generalize y1.map tmA = Y1 at *
    generalize y2.map tmA = Y2 at *
    generalize z1.map tmA = Z1 at *
    generalize z2.map tmA = Z2 at *
    refine pure_intro (tok := 0) Tryz.func8 rfl Tryz.ntmps8 Tryz.results8 Tryz.call8 (by rfl) (by simp) ?_
    (focus (refine wkax (w_a hcl (w_a gx (w_a gy (w_a gz (w_a lx (w_a ly (w_a lz w_t))))))) (w_a cr (w_a cC w_t)) (w_a (w_d 15 [(12, poA D)] [] []) w_t) w_t w_t w_t (w_r 5) ?_; (repeat' first | exact w_t | apply w_l); all_goals intros))
    all_goals (all_goals (try simp (disch := omega) only [go_sem, decide_eq_true, decide_eq_false, if_pos, if_neg, Int.reduceAdd, Int.reduceSub, Int.reduceToNat, Int.zero_add])); (all_goals first | done | rfl | (congr 2; first | done | omega | (rw [Bool.eq_iff_iff]; simp only [bool_to_prop, Bool.false_eq_true, iff_true, true_iff, iff_false, false_iff]; omega)) | skip)
  · simp only [gI, List.getD_cons_zero, List.getD_cons_succ, Int.toNat_natCast, if_true, if_pos, show ¬ ((2 : Int) = 1) from by decide, show ¬ ((3 : Int) = 1) from by decide, show ¬ ((3 : Int) = 2) from by decide, if_false]
    have gx := hgc x (by omega)
    have qx := hcb x
    have gy := hgc y (by omega)
    have qy := hcb y
    have gz := hgc z (by omega)
    have qz := hcb z
    have gw := hgc w (by omega)
    have qw := hcb w
    have cC := hyCross qx qy qz qw
    have hl : ∀ j, j < ss.length → j < cs.length := fun j h => by omega
    have lx := hl x hx
    have ly := hl y hy
    have lz := hl z hz
    have lw := hl w hw
    clear hcb hgc h6 hl hx hy hz hw qx qy qz qw
    generalize cs.getD x ([], []) = X at *
    generalize cs.getD y ([], []) = Y at *
    generalize cs.getD z ([], []) = Z at *
    generalize cs.getD w ([], []) = Wt at *
    generalize crossM X Y Z Wt = D at *
    obtain ⟨x1, x2⟩ := X
    obtain ⟨y1, y2⟩ := Y
    obtain ⟨z1, z2⟩ := Z
    obtain ⟨w1, w2⟩ := Wt
    have gx : (cs.map coA).getD x .u = .agg [.sl 4 (x1.map tmA), .sl 4 (x2.map tmA)] := gx
    have gy : (cs.map coA).getD y .u = .agg [.sl 4 (y1.map tmA), .sl 4 (y2.map tmA)] := gy
    have gz : (cs.map coA).getD z .u = .agg [.sl 4 (z1.map tmA), .sl 4 (z2.map tmA)] := gz
    have gw : (cs.map coA).getD w .u = .agg [.sl 4 (w1.map tmA), .sl 4 (w2.map tmA)] := gw
    have cC : Pure Tryz.prog 22 [.agg [.sl 4 (x1.map tmA), .sl 4 (x2.map tmA)], .agg [.sl 4 (y1.map tmA), .sl 4 (y2.map tmA)], .agg [.sl 4 (z1.map tmA), .sl 4 (z2.map tmA)], .agg [.sl 4 (w1.map tmA), .sl 4 (w2.map tmA)]] (poA D) := cC
    have cr : Pure Tryz.prog 20 [.agg [iv 3, .sl 1 [iv ((x : Nat) : Int), iv ((y : Nat) : Int), iv ((z : Nat) : Int), iv ((w : Nat) : Int)], iv st], .agg [.sl 6 (ss.map RS.av), .sl 5 (gs.map RG.av)]] (.v (.bool true)) := cr
    show Pure _ _ [.agg [iv 3, .sl 1 [iv ((x : Nat) : Int), iv ((y : Nat) : Int), iv ((z : Nat) : Int), iv ((w : Nat) : Int)], iv st], .agg [.sl 6 (ss.map RS.av), .sl 5 (gs.map RG.av)], .agg [.sl 2 (cs.map coA), .sl 3 (vs.map Vt.av)]] _
    generalize ss.map RS.av = M at *
    generalize gs.map RG.av = N at *
    generalize cs.map coA = C at *
    generalize vs.map Vt.av = V at *
    generalize x1.map tmA = X1 at *
    generalize x2.map tmA = X2 at *
    generalize y1.map tmA = Y1 at *
    generalize y2.map tmA = Y2 at *
    generalize z1.map tmA = Z1 at *
    generalize z2.map tmA = Z2 at *
    generalize w1.map tmA = W1 at *
    generalize w2.map tmA = W2 at *
    refine pure_intro (tok := 0) Tryz.func8 rfl Tryz.ntmps8 Tryz.results8 Tryz.call8 (by rfl) (by simp) ?_
    (focus (refine wkax (w_a hcl (w_a gx (w_a gy (w_a gz (w_a gw (w_a lx (w_a ly (w_a lz (w_a lw w_t))))))))) (w_a cr (w_a cC w_t)) (w_a (w_d 17 [(12, poA D)] [] []) w_t) w_t w_t w_t (w_r 5) ?_; (repeat' first | exact w_t | apply w_l); all_goals intros))
    all_goals (all_goals (try simp (disch := omega) only [go_sem, decide_eq_true, decide_eq_false, if_pos, if_neg, Int.reduceAdd, Int.reduceSub, Int.reduceToNat, Int.zero_add])); (all_goals first | done | rfl | (congr 2; first | done | omega | (rw [Bool.eq_iff_iff]; simp only [bool_to_prop, Bool.false_eq_true, iff_true, true_iff, iff_false, false_iff]; omega)) | skip)
  · obtain ⟨w, hf, hw⟩ := h6 i hi hk
    rw [if_neg (show ¬ ((4 : Int) = 1) from by decide), if_neg (show ¬ ((4 : Int) = 2) from by decide), if_neg (show ¬ ((4 : Int) = 3) from by decide), parM_some hf]
    have cS := cnSlope cs vs (i : Int) w hv hw hf
    clear hcb hgc h6
    have cr : Pure Tryz.prog 20 [.agg [iv 4, .sl 1 [], iv (i : Int)], .agg [.sl 6 (ss.map RS.av), .sl 5 (gs.map RG.av)]] (.v (.bool true)) := cr
    have cS : Pure Tryz.prog 23 [.agg [.sl 2 (cs.map coA), .sl 3 (vs.map Vt.av)], iv (i : Int)] (poA (slopeM (varM w))) := cS
    show Pure _ _ [.agg [iv 4, .sl 1 [], iv (i : Int)], .agg [.sl 6 (ss.map RS.av), .sl 5 (gs.map RG.av)], .agg [.sl 2 (cs.map coA), .sl 3 (vs.map Vt.av)]] _
    generalize ss.map RS.av = M at *
    generalize gs.map RG.av = N at *
    generalize cs.map coA = C at *
    generalize vs.map Vt.av = V at *
    generalize slopeM (varM w) = D at *
    generalize varM w = E at *
    refine pure_intro (tok := 0) Tryz.func8 rfl Tryz.ntmps8 Tryz.results8 Tryz.call8 (by rfl) (by simp) ?_
    (focus (refine wkax (w_a hcl w_t) (w_a cr (w_a cS w_t)) w_t w_t w_t w_t (w_r 5) ?_; (repeat' first | exact w_t | apply w_l); all_goals intros))
    all_goals (all_goals (try simp (disch := omega) only [go_sem, decide_eq_true, decide_eq_false, if_pos, if_neg, Int.reduceAdd, Int.reduceSub, Int.reduceToNat, Int.zero_add])); (all_goals first | done | rfl | (congr 2; first | done | omega | (rw [Bool.eq_iff_iff]; simp only [bool_to_prop, Bool.false_eq_true, iff_true, true_iff, iff_false, false_iff]; omega)) | skip)
set_option maxHeartbeats 8000000 in
theorem rkPoly (c : RC) (ss : List RS) (gs : List RG) (cs : List Pt) (vs : List Vt) (hi : CndIs c ss) (hlc : cs.length = ss.length) (hcb : ∀ j, CB (cs.getD j ([], []))) (hv : vs.length ≤ 900) (h6 : ∀ (i : Nat) (h : i < ss.length), ss[i].k = 6 → ∃ w, fstN vs i vs.length = some w ∧ w < 900)
    (cr : Pure Tryz.prog 24 [c.av, figA ss gs] (.v (.bool true))) : Pure Tryz.prog 9 [c.av, figA ss gs, frmA cs vs] (.tup [poA (cPol c cs vs), iv 0]) := by
  have hcl : (cs.map coA).length = cs.length := List.length_map ..
  have hgc : ∀ j, j < cs.length → (cs.map coA).getD j .u = coA (cs.getD j ([], [])) := fun j h => by rw [map_atB coA h, List.getD_eq_getElem?_getD, List.getElem?_eq_getElem h]; rfl
  obtain ⟨k, ar, st⟩ := c
  unfold CndIs at hi
  simp only at hi
  unfold cPol
  rcases hi with ⟨rfl, x, y, rfl, hx, hy⟩ | ⟨rfl, x, y, z, rfl, hx, hy, hz⟩ | ⟨rfl, x, y, z, w, rfl, hx, hy, hz, hw⟩ | ⟨rfl, rfl, i, hi, rfl, hk⟩
  · simp only [gI, List.getD_cons_zero, List.getD_cons_succ, Int.toNat_natCast, if_true, if_pos, show ¬ ((2 : Int) = 1) from by decide, show ¬ ((3 : Int) = 1) from by decide, show ¬ ((3 : Int) = 2) from by decide, if_false]
    have gx := hgc x (by omega)
    have qx := hcb x
    have gy := hgc y (by omega)
    have qy := hcb y
    have cC := rhNorm qx qy
    have hl : ∀ j, j < ss.length → j < cs.length := fun j h => by omega
    have lx := hl x hx
    have ly := hl y hy
    clear hcb hgc h6 hl hx hy qx qy
    generalize cs.getD x ([], []) = X at *
    generalize cs.getD y ([], []) = Y at *
    generalize dotM X Y X Y = D at *
    obtain ⟨x1, x2⟩ := X
    obtain ⟨y1, y2⟩ := Y
    have gx : (cs.map coA).getD x .u = .agg [.sl 4 (x1.map tmA), .sl 4 (x2.map tmA)] := gx
    have gy : (cs.map coA).getD y .u = .agg [.sl 4 (y1.map tmA), .sl 4 (y2.map tmA)] := gy
    have cC : Pure Tryz.prog 25 [.agg [.sl 4 (x1.map tmA), .sl 4 (x2.map tmA)], .agg [.sl 4 (y1.map tmA), .sl 4 (y2.map tmA)]] (poA D) := cC
    have cr : Pure Tryz.prog 24 [.agg [iv 1, .sl 1 [iv ((x : Nat) : Int), iv ((y : Nat) : Int)], iv st], .agg [.sl 6 (ss.map RS.av), .sl 5 (gs.map RG.av)]] (.v (.bool true)) := cr
    show Pure _ _ [.agg [iv 1, .sl 1 [iv ((x : Nat) : Int), iv ((y : Nat) : Int)], iv st], .agg [.sl 6 (ss.map RS.av), .sl 5 (gs.map RG.av)], .agg [.sl 2 (cs.map coA), .sl 3 (vs.map Vt.av)]] _
    generalize ss.map RS.av = M at *
    generalize gs.map RG.av = N at *
    generalize cs.map coA = C at *
    generalize vs.map Vt.av = V at *
    generalize x1.map tmA = X1 at *
    generalize x2.map tmA = X2 at *
    generalize y1.map tmA = Y1 at *
    generalize y2.map tmA = Y2 at *
    refine pure_intro (tok := 0) Tryz.func9 rfl Tryz.ntmps9 Tryz.results9 Tryz.call9 (by rfl) (by simp) ?_
    (focus (refine wkad (w_a hcl (w_a gx (w_a gy (w_a lx (w_a ly w_t))))) (w_a cr (w_a cC w_t)) (w_a (w_d 6 [(14, poA D)] [] []) w_t) ?_; (repeat' first | exact w_t | apply w_l); all_goals intros))
    all_goals (all_goals (try simp (disch := omega) only [go_sem, decide_eq_true, decide_eq_false, if_pos, if_neg, Int.reduceAdd, Int.reduceSub, Int.reduceToNat, Int.zero_add])); (all_goals first | done | rfl | (congr 2; first | done | omega | (rw [Bool.eq_iff_iff]; simp only [bool_to_prop, Bool.false_eq_true, iff_true, true_iff, iff_false, false_iff]; omega)) | skip)
  · simp only [gI, List.getD_cons_zero, List.getD_cons_succ, Int.toNat_natCast, if_true, if_pos, show ¬ ((2 : Int) = 1) from by decide, show ¬ ((3 : Int) = 1) from by decide, show ¬ ((3 : Int) = 2) from by decide, if_false]
    have gx := hgc x (by omega)
    have qx := hcb x
    have gy := hgc y (by omega)
    have qy := hcb y
    have gz := hgc z (by omega)
    have qz := hcb z
    have cC := rhCross qx qy qx qz
    have hl : ∀ j, j < ss.length → j < cs.length := fun j h => by omega
    have lx := hl x hx
    have ly := hl y hy
    have lz := hl z hz
    clear hcb hgc h6 hl hx hy hz qx qy qz
    generalize cs.getD x ([], []) = X at *
    generalize cs.getD y ([], []) = Y at *
    generalize cs.getD z ([], []) = Z at *
    generalize crossM X Y X Z = D at *
    obtain ⟨x1, x2⟩ := X
    obtain ⟨y1, y2⟩ := Y
    obtain ⟨z1, z2⟩ := Z
    have gx : (cs.map coA).getD x .u = .agg [.sl 4 (x1.map tmA), .sl 4 (x2.map tmA)] := gx
    have gy : (cs.map coA).getD y .u = .agg [.sl 4 (y1.map tmA), .sl 4 (y2.map tmA)] := gy
    have gz : (cs.map coA).getD z .u = .agg [.sl 4 (z1.map tmA), .sl 4 (z2.map tmA)] := gz
    have cC : Pure Tryz.prog 26 [.agg [.sl 4 (x1.map tmA), .sl 4 (x2.map tmA)], .agg [.sl 4 (y1.map tmA), .sl 4 (y2.map tmA)], .agg [.sl 4 (x1.map tmA), .sl 4 (x2.map tmA)], .agg [.sl 4 (z1.map tmA), .sl 4 (z2.map tmA)]] (poA D) := cC
    have cr : Pure Tryz.prog 24 [.agg [iv 2, .sl 1 [iv ((x : Nat) : Int), iv ((y : Nat) : Int), iv ((z : Nat) : Int)], iv st], .agg [.sl 6 (ss.map RS.av), .sl 5 (gs.map RG.av)]] (.v (.bool true)) := cr
    show Pure _ _ [.agg [iv 2, .sl 1 [iv ((x : Nat) : Int), iv ((y : Nat) : Int), iv ((z : Nat) : Int)], iv st], .agg [.sl 6 (ss.map RS.av), .sl 5 (gs.map RG.av)], .agg [.sl 2 (cs.map coA), .sl 3 (vs.map Vt.av)]] _
    generalize ss.map RS.av = M at *
    generalize gs.map RG.av = N at *
    generalize cs.map coA = C at *
    generalize vs.map Vt.av = V at *
    generalize x1.map tmA = X1 at *
    generalize x2.map tmA = X2 at *
    generalize y1.map tmA = Y1 at *
    generalize y2.map tmA = Y2 at *
    generalize z1.map tmA = Z1 at *
    generalize z2.map tmA = Z2 at *
    refine pure_intro (tok := 0) Tryz.func9 rfl Tryz.ntmps9 Tryz.results9 Tryz.call9 (by rfl) (by simp) ?_
    (focus (refine wkad (w_a hcl (w_a gx (w_a gy (w_a gz (w_a lx (w_a ly (w_a lz w_t))))))) (w_a cr (w_a cC w_t)) (w_a (w_d 8 [(28, poA D)] [] []) w_t) ?_; (repeat' first | exact w_t | apply w_l); all_goals intros))
    all_goals (all_goals (try simp (disch := omega) only [go_sem, decide_eq_true, decide_eq_false, if_pos, if_neg, Int.reduceAdd, Int.reduceSub, Int.reduceToNat, Int.zero_add])); (all_goals first | done | rfl | (congr 2; first | done | omega | (rw [Bool.eq_iff_iff]; simp only [bool_to_prop, Bool.false_eq_true, iff_true, true_iff, iff_false, false_iff]; omega)) | skip)
  · simp only [gI, List.getD_cons_zero, List.getD_cons_succ, Int.toNat_natCast, if_true, if_pos, show ¬ ((2 : Int) = 1) from by decide, show ¬ ((3 : Int) = 1) from by decide, show ¬ ((3 : Int) = 2) from by decide, if_false]
    have gx := hgc x (by omega)
    have qx := hcb x
    have gy := hgc y (by omega)
    have qy := hcb y
    have gz := hgc z (by omega)
    have qz := hcb z
    have gw := hgc w (by omega)
    have qw := hcb w
    have cC := rhCross qx qy qz qw
    have hl : ∀ j, j < ss.length → j < cs.length := fun j h => by omega
    have lx := hl x hx
    have ly := hl y hy
    have lz := hl z hz
    have lw := hl w hw
    clear hcb hgc h6 hl hx hy hz hw qx qy qz qw
    generalize cs.getD x ([], []) = X at *
    generalize cs.getD y ([], []) = Y at *
    generalize cs.getD z ([], []) = Z at *
    generalize cs.getD w ([], []) = Wt at *
    generalize crossM X Y Z Wt = D at *
    obtain ⟨x1, x2⟩ := X
    obtain ⟨y1, y2⟩ := Y
    obtain ⟨z1, z2⟩ := Z
    obtain ⟨w1, w2⟩ := Wt
    have gx : (cs.map coA).getD x .u = .agg [.sl 4 (x1.map tmA), .sl 4 (x2.map tmA)] := gx
    have gy : (cs.map coA).getD y .u = .agg [.sl 4 (y1.map tmA), .sl 4 (y2.map tmA)] := gy
    have gz : (cs.map coA).getD z .u = .agg [.sl 4 (z1.map tmA), .sl 4 (z2.map tmA)] := gz
    have gw : (cs.map coA).getD w .u = .agg [.sl 4 (w1.map tmA), .sl 4 (w2.map tmA)] := gw
    have cC : Pure Tryz.prog 26 [.agg [.sl 4 (x1.map tmA), .sl 4 (x2.map tmA)], .agg [.sl 4 (y1.map tmA), .sl 4 (y2.map tmA)], .agg [.sl 4 (z1.map tmA), .sl 4 (z2.map tmA)], .agg [.sl 4 (w1.map tmA), .sl 4 (w2.map tmA)]] (poA D) := cC
    have cr : Pure Tryz.prog 24 [.agg [iv 3, .sl 1 [iv ((x : Nat) : Int), iv ((y : Nat) : Int), iv ((z : Nat) : Int), iv ((w : Nat) : Int)], iv st], .agg [.sl 6 (ss.map RS.av), .sl 5 (gs.map RG.av)]] (.v (.bool true)) := cr
    show Pure _ _ [.agg [iv 3, .sl 1 [iv ((x : Nat) : Int), iv ((y : Nat) : Int), iv ((z : Nat) : Int), iv ((w : Nat) : Int)], iv st], .agg [.sl 6 (ss.map RS.av), .sl 5 (gs.map RG.av)], .agg [.sl 2 (cs.map coA), .sl 3 (vs.map Vt.av)]] _
    generalize ss.map RS.av = M at *
    generalize gs.map RG.av = N at *
    generalize cs.map coA = C at *
    generalize vs.map Vt.av = V at *
    generalize x1.map tmA = X1 at *
    generalize x2.map tmA = X2 at *
    generalize y1.map tmA = Y1 at *
    generalize y2.map tmA = Y2 at *
    generalize z1.map tmA = Z1 at *
    generalize z2.map tmA = Z2 at *
    generalize w1.map tmA = W1 at *
    generalize w2.map tmA = W2 at *
    refine pure_intro (tok := 0) Tryz.func9 rfl Tryz.ntmps9 Tryz.results9 Tryz.call9 (by rfl) (by simp) ?_
    (focus (refine wkad (w_a hcl (w_a gx (w_a gy (w_a gz (w_a gw (w_a lx (w_a ly (w_a lz (w_a lw w_t))))))))) (w_a cr (w_a cC w_t)) (w_a (w_d 10 [(28, poA D)] [] []) w_t) ?_; (repeat' first | exact w_t | apply w_l); all_goals intros))
    all_goals (all_goals (try simp (disch := omega) only [go_sem, decide_eq_true, decide_eq_false, if_pos, if_neg, Int.reduceAdd, Int.reduceSub, Int.reduceToNat, Int.zero_add])); (all_goals first | done | rfl | (congr 2; first | done | omega | (rw [Bool.eq_iff_iff]; simp only [bool_to_prop, Bool.false_eq_true, iff_true, true_iff, iff_false, false_iff]; omega)) | skip)
  · obtain ⟨w, hf, hw⟩ := h6 i hi hk
    rw [if_neg (show ¬ ((4 : Int) = 1) from by decide), if_neg (show ¬ ((4 : Int) = 2) from by decide), if_neg (show ¬ ((4 : Int) = 3) from by decide), parM_some hf]
    have cS := rhSlope cs vs (i : Int) w hv hw hf
    clear hcb hgc h6
    have cr : Pure Tryz.prog 24 [.agg [iv 4, .sl 1 [], iv (i : Int)], .agg [.sl 6 (ss.map RS.av), .sl 5 (gs.map RG.av)]] (.v (.bool true)) := cr
    have cS : Pure Tryz.prog 27 [.agg [.sl 2 (cs.map coA), .sl 3 (vs.map Vt.av)], iv (i : Int)] (.tup [poA (slopeM (varM w)), poA (varM w)]) := cS
    show Pure _ _ [.agg [iv 4, .sl 1 [], iv (i : Int)], .agg [.sl 6 (ss.map RS.av), .sl 5 (gs.map RG.av)], .agg [.sl 2 (cs.map coA), .sl 3 (vs.map Vt.av)]] _
    generalize ss.map RS.av = M at *
    generalize gs.map RG.av = N at *
    generalize cs.map coA = C at *
    generalize vs.map Vt.av = V at *
    generalize slopeM (varM w) = D at *
    generalize varM w = E at *
    refine pure_intro (tok := 0) Tryz.func9 rfl Tryz.ntmps9 Tryz.results9 Tryz.call9 (by rfl) (by simp) ?_
    (focus (refine wkad (w_a hcl w_t) (w_a cr (w_a cS w_t)) w_t ?_; (repeat' first | exact w_t | apply w_l); all_goals intros))
    all_goals (all_goals (try simp (disch := omega) only [go_sem, decide_eq_true, decide_eq_false, if_pos, if_neg, Int.reduceAdd, Int.reduceSub, Int.reduceToNat, Int.zero_add])); (all_goals first | done | rfl | (congr 2; first | done | omega | (rw [Bool.eq_iff_iff]; simp only [bool_to_prop, Bool.false_eq_true, iff_true, true_iff, iff_false, false_iff]; omega)) | skip)
theorem rkPolyN (c : RC) (ss : List RS) (gs : List RG) (cs : List Pt) (vs : List Vt) (cr : Pure Tryz.prog 24 [c.av, figA ss gs] (.v (.bool false))) : Pure Tryz.prog 9 [c.av, figA ss gs, frmA cs vs] (.tup [.v (.slice none 0 0), iv 1]) := by
  have cr : Pure Tryz.prog 24 [.agg [iv c.k, .sl 1 (c.ar.map iv), iv c.st], .agg [.sl 6 (ss.map RS.av), .sl 5 (gs.map RG.av)]] (.v (.bool false)) := cr
  show Pure _ _ [.agg [iv c.k, .sl 1 (c.ar.map iv), iv c.st], .agg [.sl 6 (ss.map RS.av), .sl 5 (gs.map RG.av)], .agg [.sl 2 (cs.map coA), .sl 3 (vs.map Vt.av)]] _
  generalize c.ar.map iv = A at *
  generalize ss.map RS.av = M at *
  generalize gs.map RG.av = N at *
  generalize cs.map coA = C at *
  generalize vs.map Vt.av = V at *
  refine pure_intro (tok := 0) Tryz.func9 rfl Tryz.ntmps9 Tryz.results9 Tryz.call9 (by rfl) (by simp) ?_
  (focus (refine wkad w_t (w_a cr w_t) w_t ?_; (repeat' first | exact w_t | apply w_l); all_goals intros))
  all_goals (all_goals (try simp (disch := omega) only [go_sem, decide_eq_true, decide_eq_false, if_pos, if_neg, Int.reduceAdd, Int.reduceSub, Int.reduceToNat, Int.zero_add])); (all_goals first | done | rfl | (congr 2; first | done | omega | (rw [Bool.eq_iff_iff]; simp only [bool_to_prop, Bool.false_eq_true, iff_true, true_iff, iff_false, false_iff]; omega)) | skip)
end Go.Proofs.YteiopjkamgmfpaaGreat
end

section
namespace Go.Proofs.YteiopjkamgmfpaaGreat
open Go Go.RowKit Go.Pg Go.Pol
set_option linter.unusedSimpArgs false
set_option linter.unusedVariables false
set_option maxRecDepth 20000
attribute [local go_sem] Tryz.underlying3 Tryz.underlying4 Tryz.underlying129 Tryz.underlying9 Tryz.underlying26 Tryz.underlying35 Tryz.underlying53 Tryz.underlying51 Tryz.underlying49 Tryz.underlying55 Tryz.underlying22 Tryz.underlying25 Tryz.underlying107 Tryz.underlying32 Tryz.underlying69 Tryz.underlying31 Tryz.underlying34 Tryz.underlying120 Tryz.underlying121 Tryz.underlying42 Tryz.underlying113 Tryz.underlying118 Tryz.underlying160 sz3 by3 z3 szB zB szErr zErr szStr byStr zStr szRat zRat szInt zInt szNat zNat szStep byStep zStep szFig zFig szSlI zSlI szSlS zSlS szVar byVar zVar szSlV zSlV szCoord byCoord zCoord szSlC zSlC szFrame zFrame szCBld byCBld zCBld szCVec byCVec zCVec szPoly byPoly zPoly szTerm zTerm szPtrB zPtrB szFnC zFnC Tryz.underlying103 szHVec byHVec zHVec Tryz.underlying140 szSlP zSlP Tryz.underlying57 Tryz.underlying23 szL byL zL szFact byFact zFact szSlF zSlF Tryz.underlying28 Tryz.underlying38 szCond byCond zCond szSlCd zSlCd
attribute [-bool_to_prop] Bool.and_eq_decide Bool.or_eq_decide Bool.decide_beq_decide decide_eq_decide
/-! ### the polynomials of conditions: the list of conditions, handed back as a row that grows -/
set_option maxHeartbeats 8000000 in
theorem rkOfA (ss : List RS) (gs : List RG) (cs : List (Po × Po)) (vs : List Vt) (K : Nat) (σ : Mem) (co : Pure Tryz.prog 6 [figA ss gs] (.tup [frmA cs vs, iv 0])) (hl : ss.length ≤ 1000) (hk : ∀ i (h : i < ss.length), (ss[i].ar.length : Int) = arS ss[i].k) :
    ACall Tryz.prog 7 [figA ss gs] σ fun r σ' => ∃ sv, r = .tup [.own K sv, iv 0] ∧ σ' = upd σ K (some (.row sv 28 3 ((cndN ss ss.length).map RC.av) 0)) := by
  have hg : ∀ i (h : i < ss.length), (ss.map RS.av).getD i .u = ss[i].av := fun i h => map_atB RS.av h
  have hls : (ss.map RS.av).length = ss.length := List.length_map ..
  have hy := fun i (h : i < ss.length) => cndN_y (ss := ss) h
  have hn := fun i (h : i < ss.length) => cndN_n (ss := ss) h
  have hcl := cndN_len ss
  have hst : ∀ i (h : i < ss.length), Pure Tryz.prog 19 [.agg [.sl 6 (ss.map RS.av), .sl 5 (gs.map RG.av)], iv i] (.tup [(cOf ss[i] i).av, .v (.bool (cHas ss[i].k))]) := fun i h => rkStep ss gs i ss[i] h rfl (hk i h)
  have co : Pure Tryz.prog 6 [.agg [.sl 6 (ss.map RS.av), .sl 5 (gs.map RG.av)]] (.tup [.agg [.sl 2 (cs.map coA), .sl 3 (vs.map Vt.av)], iv 0]) := co
  show ACall _ _ [.agg [.sl 6 (ss.map RS.av), .sl 5 (gs.map RG.av)]] _ _
  clear hk
  generalize ss.map RS.av = M at *
  generalize gs.map RG.av = N at *
  generalize cs.map coA = C at *
  generalize vs.map Vt.av = V at *
  refine acall_lent Tryz.func7 rfl Tryz.ntmps7 Tryz.results7 Tryz.call7 (by rfl) (by simp) (.cons (Sub.refl _) .nil) ?_
  have hL : ∀ k, lent σ (k + 1000) = σ k := fun k => by unfold lent; rw [if_neg (by omega), Nat.add_sub_cancel]
  generalize lent σ = m0 at *
  (focus (refine wkap (w_a hls w_t) (w_a co w_t) (w_r 0) ?_; (repeat' first | exact w_t | apply w_l); all_goals intros))
  rename_i g1 g4
  refine r_frz (Frz.nilOwn (d := 6) 35 3 28 (by exact gC)) ?_
  refine r_loopE (ι := Nat) (fun i e m => i ≤ ss.length ∧ e 1 = .pbox 1 g1 0 ∧ m 1 = some (.box g1 25 [.sl 6 M, .sl 5 N] false) ∧ e 7 = iv i ∧ (∀ k, m (k + 1000) = σ k) ∧ ∃ sv, e 6 = .own 35 sv ∧ m 35 = some (.row sv 28 3 ((cndN ss i).map RC.av) 0)) (fun i => ss.length - i) 0 (by rfl) ?_ ?_
  · rintro i e m ⟨hi, e1, m1, e7, hm, sv, e6, m6⟩
    by_cases hlt : i < ss.length
    · have hgi := hg i hlt
      have cst := hst i hlt
      have hy := hy i hlt
      have hn := hn i hlt
      have hll : ((cndN ss i).map RC.av).length ≤ 1000 := by rw [List.length_map]; have := hcl i; omega
      clear hst hg hcl
      generalize (cndN ss i).map RC.av = L at *
      generalize cOf ss[i] i = c at *
      obtain ⟨ck, ca, ci⟩ := c
      generalize ss[i] = s at *
      obtain ⟨k, nm, ar, ⟨rs, rl, rd⟩⟩ := s
      simp only at *
      generalize cHas k = b at *
      cases b with
      | true =>
        have hy := hy rfl
        (focus (refine wkap (w_a e1 (w_a m1 (w_a e7 (w_a e6 (w_a m6 (w_a hls (w_a hgi w_t))))))) (w_a cst w_t) (w_r 0) ?_; (repeat' first | exact w_t | apply w_l); all_goals intros))
        exact ⟨i + 1, ⟨by omega, by exact gW e1, by exact gW m1, by exact gS, fun k => by rw [← hm k]; simp (disch := omega) [upd_at, marks, mark], _, by exact gC, by rw [hy]; exact gC⟩, by omega⟩
      | false =>
        have hn := hn rfl
        (focus (refine wkap (w_a e1 (w_a m1 (w_a e7 (w_a e6 (w_a m6 (w_a hls (w_a hgi w_t))))))) (w_a cst w_t) (w_r 0) ?_; (repeat' first | exact w_t | apply w_l); all_goals intros))
        exact ⟨i + 1, ⟨by omega, by exact gW e1, by exact gW m1, by exact gS, fun k => by rw [← hm k]; simp (disch := omega) [upd_at, marks, mark], sv, by exact gW e6, by rw [hn]; exact gW m6⟩, by omega⟩
    · have hin : i = ss.length := by omega
      subst hin
      clear hst hg hcl hy hn
      generalize (cndN ss ss.length).map RC.av = L at *
      (focus (refine wkap (w_a e1 (w_a m1 (w_a e7 (w_a e6 (w_a m6 (w_a hls w_t)))))) w_t (w_r 0) ?_; (repeat' first | exact w_t | apply w_l); all_goals intros))
      simp (disch := omega) only [go_sem]
      refine back_new (r := .tup [.own K sv, iv 0]) 35 K (by omega) (Sub.tup [_, _] [_, _] rfl ?_) ⟨sv, rfl, rfl⟩ ?_ ?_
      · intro j a b ha hb
        match j, ha, hb with
        | 0, ha, hb =>
          simp only [List.getElem?_cons_zero, Option.some.injEq] at ha hb
          subst ha; subst hb; exact Sub.own _ _ _
        | 1, ha, hb =>
          simp only [List.getElem?_cons_succ, List.getElem?_cons_zero, Option.some.injEq] at ha hb
          subst ha; subst hb; exact Sub.refl _
        | j + 2, ha, hb => simp at ha
      · rw [m6]; simp only [upd_at, if_pos]
      · intro k hk _
        rw [hm k]; simp only [upd_at, if_neg hk]
  · exact ⟨Nat.zero_le _, by exact gC, by exact gC, by exact gC, fun k => by rw [← hL k]; simp (disch := omega) [upd_at, marks, mark], _, by exact gC, by (simp (disch := omega) only [go_sem, cndN, List.map_nil] <;> repeat' first | rfl | refine ⟨?_, ?_⟩)⟩
end Go.Proofs.YteiopjkamgmfpaaGreat
end

section
namespace Go.Proofs.YteiopjkamgmfpaaGreat
open Go Go.RowKit Go.Pg
set_option linter.unusedSimpArgs false
set_option linter.unusedVariables false
set_option maxRecDepth 20000
attribute [local go_sem] Tryz.underlying3 Tryz.underlying4 Tryz.underlying9 Tryz.underlying26 Tryz.underlying60 Tryz.underlying35 Tryz.underlying28 sz3 by3 z3 szB zB szErr zErr szStr byStr zStr szSlI zSlI szSlStr zSlStr szCond byCond zCond z_ne z_cm z_nc z_an z_np z_sl z_lp z_rp z_sp z_em
attribute [-bool_to_prop] Bool.and_eq_decide Bool.or_eq_decide Bool.decide_beq_decide decide_eq_decide
theorem ba_emp (a : ByteArray) : ByteArray.empty ++ a = a := by
  apply ByteArray.ext; simp [ByteArray.data_append]
theorem ba_nil (a : ByteArray) : (⟨#[]⟩ : ByteArray) ++ a = a := ba_emp a
theorem ba_nilR (a : ByteArray) : a ++ (⟨#[]⟩ : ByteArray) = a := by
  apply ByteArray.ext; simp [ByteArray.data_append]
set_option maxHeartbeats 2000000 in
theorem cnJoin2 (s a b : ByteArray) (hs : s.size ≤ 100) (ha : a.size ≤ 3000) (hb : b.size ≤ 3000) : Pure Tryz.prog 35 [strA s, .sl 1 [strA a, strA b]] (strA (a ++ s ++ b)) := by
  rw [show a ++ s ++ b = (⟨#[]⟩ ++ a) ++ s ++ b from by rw [ba_nil]]
  refine pure_intro (tok := 0) Tryz.func35 rfl Tryz.ntmps35 Tryz.results35 Tryz.call35 (by rfl) (by simp) ?_
  (focus (refine wklp (w_a @ByteArray.size_append w_t) w_t w_t (w_r 3) ?_; (repeat' first | exact w_t | apply w_l); all_goals intros))
set_option maxHeartbeats 2000000 in
theorem cnJoin3 (s a b c : ByteArray) (hs : s.size ≤ 100) (ha : a.size ≤ 3000) (hb : b.size ≤ 3000) (hc : c.size ≤ 3000) : Pure Tryz.prog 35 [strA s, .sl 1 [strA a, strA b, strA c]] (strA (a ++ s ++ b ++ s ++ c)) := by
  rw [show a ++ s ++ b ++ s ++ c = (⟨#[]⟩ ++ a) ++ s ++ b ++ s ++ c from by rw [ba_nil]]
  refine pure_intro (tok := 0) Tryz.func35 rfl Tryz.ntmps35 Tryz.results35 Tryz.call35 (by rfl) (by simp) ?_
  (focus (refine wklp (w_a @ByteArray.size_append w_t) w_t w_t (w_r 4) ?_; (repeat' first | exact w_t | apply w_l); all_goals intros))
set_option maxHeartbeats 2000000 in
theorem cnLine (a b : ByteArray) (ha : a.size ≤ 1000) (hb : b.size ≤ 1000) : Pure Tryz.prog 36 [strA a, strA b] (strA (lineB a b)) := by
  unfold lineB
  have c1 := cnJoin2 ⟨#[32]⟩ a b (by rw [z_sp]; omega) (by omega) (by omega)
  have c2 := cnJoin2 ⟨#[]⟩ a b (by rw [z_em]; omega) (by omega) (by omega)
  rw [ba_nilR] at c2
  by_cases h : 1 < a.size ∨ 1 < b.size
  · rw [if_pos h]
    rw [show ⟨#[40]⟩ ++ a ++ ⟨#[32]⟩ ++ b ++ ⟨#[41]⟩ = ⟨#[40]⟩ ++ (a ++ ⟨#[32]⟩ ++ b) ++ ⟨#[41]⟩ from by simp only [ByteArray.append_assoc]]
    have hz : (a ++ ⟨#[32]⟩ ++ b).size ≤ 2001 := by simp only [ByteArray.size_append, z_sp]; omega
    generalize a ++ ⟨#[32]⟩ ++ b = t at *
    rcases h with h | h
    · refine pure_intro (tok := 0) Tryz.func36 rfl Tryz.ntmps36 Tryz.results36 Tryz.call36 (by rfl) (by simp) ?_
      (focus (refine wkax (w_a @ByteArray.size_append w_t) w_t w_t (w_a c1 w_t) w_t w_t (w_r 0) ?_; (repeat' first | exact w_t | apply w_l); all_goals intros))
      (all_goals (try simp (disch := omega) only [go_sem, decide_eq_true, decide_eq_false, if_pos, if_neg, Int.reduceAdd, Int.reduceSub, Int.reduceToNat, Int.zero_add])); (all_goals first | done | rfl | (congr 2; first | done | omega | (rw [Bool.eq_iff_iff]; simp only [bool_to_prop, Bool.false_eq_true, iff_true, true_iff, iff_false, false_iff]; omega)) | skip)
    · refine pure_intro (tok := 0) Tryz.func36 rfl Tryz.ntmps36 Tryz.results36 Tryz.call36 (by rfl) (by simp) ?_
      (focus (refine wkax (w_a @ByteArray.size_append w_t) w_t w_t (w_a c1 w_t) w_t w_t (w_r 0) ?_; (repeat' first | exact w_t | apply w_l); all_goals intros))
      all_goals (all_goals (try simp (disch := omega) only [go_sem, decide_eq_true, decide_eq_false, if_pos, if_neg, Int.reduceAdd, Int.reduceSub, Int.reduceToNat, Int.zero_add])); (all_goals first | done | rfl | (congr 2; first | done | omega | (rw [Bool.eq_iff_iff]; simp only [bool_to_prop, Bool.false_eq_true, iff_true, true_iff, iff_false, false_iff]; omega)) | skip)
  · rw [if_neg h]
    have h1 : ¬ 1 < a.size := fun x => h (.inl x)
    have h2 : ¬ 1 < b.size := fun x => h (.inr x)
    generalize a ++ b = t at *
    refine pure_intro (tok := 0) Tryz.func36 rfl Tryz.ntmps36 Tryz.results36 Tryz.call36 (by rfl) (by simp) ?_
    (focus (refine wkax w_t w_t w_t (w_a c2 w_t) w_t w_t (w_r 0) ?_; (repeat' first | exact w_t | apply w_l); all_goals intros))
    (all_goals (try simp (disch := omega) only [go_sem, decide_eq_true, decide_eq_false, if_pos, if_neg, Int.reduceAdd, Int.reduceSub, Int.reduceToNat, Int.zero_add])); (all_goals first | done | rfl | (congr 2; first | done | omega | (rw [Bool.eq_iff_iff]; simp only [bool_to_prop, Bool.false_eq_true, iff_true, true_iff, iff_false, false_iff]; omega)) | skip)
set_option maxHeartbeats 8000000 in
theorem cnText (c : RC) (ss : List ByteArray) (hl : ss.length ≤ 1000000000) (hs : ∀ s ∈ ss, s.size ≤ 1000) : Pure Tryz.prog 14 [c.av, .sl 1 (ss.map strA)] (cRes c ss) := by
  have cc := cnChk c.k c.ar c.st ss.length hl
  have ok := @cErr_ok c.k c.ar ss.length
  have hlm : (ss.map strA).length = ss.length := List.length_map ..
  have hat : ∀ j : Nat, j < ss.length → (ss.map strA).getD j .u = strA (ss.getD j ByteArray.empty) := fun j hj => nm_at hj
  have hsz := fun j => nm_sz hs j
  obtain ⟨k, ar, st⟩ := c
  unfold cRes
  simp only at *
  generalize cErr k ar ss.length = v at *
  generalize ss.map strA = M at *
  by_cases hv : v = 0
  · rw [if_neg (by simpa using hv)]
    subst hv
    rcases ok rfl with ⟨rfl, a, b, rfl, ha, hb⟩ | ⟨rfl, a, b, c, rfl, ha, hb, hc⟩ | ⟨rfl, a, b, c, d, rfl, ha, hb, hc, hd⟩ | ⟨rfl, rfl⟩
    · rw [if_neg (by decide)]
      unfold cTxt nmA
      simp only [gI, List.getD_cons_zero, List.getD_cons_succ, Int.toNat_natCast, if_true, if_pos, show ¬ ((2 : Int) = 1) from by decide, show ¬ ((3 : Int) = 1) from by decide, show ¬ ((3 : Int) = 2) from by decide, if_false]
      have ga := hat a ha
      have za := hsz a
      have gb := hat b hb
      have zb := hsz b
      generalize ss.getD a ByteArray.empty = x at *
      generalize ss.getD b ByteArray.empty = y at *
      clear hat hsz ok
      have j := cnJoin2 ⟨#[32, 33, 61, 32]⟩ x y (by rw [z_ne]; omega) (by omega) (by omega)
      refine pure_intro (tok := 0) Tryz.func14 rfl Tryz.ntmps14 Tryz.results14 Tryz.call14 (by rfl) (by simp) ?_
      (focus (refine wkax (w_a @ByteArray.size_append (w_a hlm (w_a ga (w_a gb w_t)))) (w_a cc w_t) w_t (w_a j w_t) w_t w_t (w_r 5) ?_; (repeat' first | exact w_t | apply w_l); all_goals intros))
      (all_goals (try simp (disch := omega) only [go_sem, decide_eq_true, decide_eq_false, if_pos, if_neg, Int.reduceAdd, Int.reduceSub, Int.reduceToNat, Int.zero_add])); (all_goals first | done | rfl | (congr 2; first | done | omega | (rw [Bool.eq_iff_iff]; simp only [bool_to_prop, Bool.false_eq_true, iff_true, true_iff, iff_false, false_iff]; omega)) | skip)
    · rw [if_neg (by decide)]
      unfold cTxt nmA
      simp only [gI, List.getD_cons_zero, List.getD_cons_succ, Int.toNat_natCast, if_true, if_pos, show ¬ ((2 : Int) = 1) from by decide, show ¬ ((3 : Int) = 1) from by decide, show ¬ ((3 : Int) = 2) from by decide, if_false]
      have ga := hat a ha
      have za := hsz a
      have gb := hat b hb
      have zb := hsz b
      have gc := hat c hc
      have zc := hsz c
      generalize ss.getD a ByteArray.empty = x at *
      generalize ss.getD b ByteArray.empty = y at *
      generalize ss.getD c ByteArray.empty = z at *
      clear hat hsz ok
      have j := cnJoin3 ⟨#[44, 32]⟩ x y z (by rw [z_cm]; omega) (by omega) (by omega) (by omega)
      have jz : (x ++ ⟨#[44, 32]⟩ ++ y ++ ⟨#[44, 32]⟩ ++ z).size ≤ 4000 := by simp only [ByteArray.size_append, z_cm]; omega
      generalize x ++ ⟨#[44, 32]⟩ ++ y ++ ⟨#[44, 32]⟩ ++ z = t at *
      refine pure_intro (tok := 0) Tryz.func14 rfl Tryz.ntmps14 Tryz.results14 Tryz.call14 (by rfl) (by simp) ?_
      (focus (refine wkax (w_a @ByteArray.size_append (w_a hlm (w_a ga (w_a gb (w_a gc w_t))))) (w_a cc w_t) w_t (w_a j w_t) w_t w_t (w_r 5) ?_; (repeat' first | exact w_t | apply w_l); all_goals intros))
      (all_goals (try simp (disch := omega) only [go_sem, decide_eq_true, decide_eq_false, if_pos, if_neg, Int.reduceAdd, Int.reduceSub, Int.reduceToNat, Int.zero_add])); (all_goals first | done | rfl | (congr 2; first | done | omega | (rw [Bool.eq_iff_iff]; simp only [bool_to_prop, Bool.false_eq_true, iff_true, true_iff, iff_false, false_iff]; omega)) | skip)
    · rw [if_neg (by decide)]
      unfold cTxt nmA
      simp only [gI, List.getD_cons_zero, List.getD_cons_succ, Int.toNat_natCast, if_true, if_pos, show ¬ ((2 : Int) = 1) from by decide, show ¬ ((3 : Int) = 1) from by decide, show ¬ ((3 : Int) = 2) from by decide, if_false]
      have ga := hat a ha
      have za := hsz a
      have gb := hat b hb
      have zb := hsz b
      have gc := hat c hc
      have zc := hsz c
      have gd := hat d hd
      have zd := hsz d
      generalize ss.getD a ByteArray.empty = x at *
      generalize ss.getD b ByteArray.empty = y at *
      generalize ss.getD c ByteArray.empty = z at *
      generalize ss.getD d ByteArray.empty = w at *
      clear hat hsz ok
      have l1 := cnLine x y (by omega) (by omega)
      have l2 := cnLine z w (by omega) (by omega)
      have y1 := lineB_sz (a := x) (b := y) (by omega) (by omega)
      have y2 := lineB_sz (a := z) (b := w) (by omega) (by omega)
      generalize lineB x y = p at *
      generalize lineB z w = q at *
      have j := cnJoin2 ⟨#[32, 97, 110, 100, 32]⟩ p q (by rw [z_an]; omega) (by omega) (by omega)
      have jz : (p ++ ⟨#[32, 97, 110, 100, 32]⟩ ++ q).size ≤ 5000 := by simp only [ByteArray.size_append, z_an]; omega
      generalize p ++ ⟨#[32, 97, 110, 100, 32]⟩ ++ q = t at *
      refine pure_intro (tok := 0) Tryz.func14 rfl Tryz.ntmps14 Tryz.results14 Tryz.call14 (by rfl) (by simp) ?_
      (focus (refine wkax (w_a @ByteArray.size_append (w_a hlm (w_a ga (w_a gb (w_a gc (w_a gd w_t)))))) (w_a cc (w_a l1 (w_a l2 (w_a j w_t)))) (w_a (w_d 16 [(6, strA p), (13, strA q), (14, .sl 1 [strA p, strA q]), (15, strA t)] [] []) w_t) w_t w_t w_t (w_r 5) ?_; (repeat' first | exact w_t | apply w_l); all_goals intros))
      (all_goals (try simp (disch := omega) only [go_sem, decide_eq_true, decide_eq_false, if_pos, if_neg, Int.reduceAdd, Int.reduceSub, Int.reduceToNat, Int.zero_add])); (all_goals first | done | rfl | (congr 2; first | done | omega | (rw [Bool.eq_iff_iff]; simp only [bool_to_prop, Bool.false_eq_true, iff_true, true_iff, iff_false, false_iff]; omega)) | skip)
    · rw [if_pos rfl]
      by_cases h : st < 0 ∨ (ss.length : Int) ≤ st
      · rw [if_pos h]
        rcases h with h | h
        · refine pure_intro (tok := 0) Tryz.func14 rfl Tryz.ntmps14 Tryz.results14 Tryz.call14 (by rfl) (by simp) ?_
          (focus (refine wkax (w_a hlm w_t) (w_a cc w_t) w_t w_t w_t w_t (w_r 5) ?_; (repeat' first | exact w_t | apply w_l); all_goals intros))
          (all_goals (try simp (disch := omega) only [go_sem, decide_eq_true, decide_eq_false, if_pos, if_neg, Int.reduceAdd, Int.reduceSub, Int.reduceToNat, Int.zero_add])); (all_goals first | done | rfl | (congr 2; first | done | omega | (rw [Bool.eq_iff_iff]; simp only [bool_to_prop, Bool.false_eq_true, iff_true, true_iff, iff_false, false_iff]; omega)) | skip)
        · refine pure_intro (tok := 0) Tryz.func14 rfl Tryz.ntmps14 Tryz.results14 Tryz.call14 (by rfl) (by simp) ?_
          (focus (refine wkax (w_a hlm w_t) (w_a cc w_t) w_t w_t w_t w_t (w_r 5) ?_; (repeat' first | exact w_t | apply w_l); all_goals intros))
          all_goals (all_goals (try simp (disch := omega) only [go_sem, decide_eq_true, decide_eq_false, if_pos, if_neg, Int.reduceAdd, Int.reduceSub, Int.reduceToNat, Int.zero_add])); (all_goals first | done | rfl | (congr 2; first | done | omega | (rw [Bool.eq_iff_iff]; simp only [bool_to_prop, Bool.false_eq_true, iff_true, true_iff, iff_false, false_iff]; omega)) | skip)
      · rw [if_neg h]
        obtain ⟨s, rfl⟩ : ∃ s : Nat, st = s := ⟨st.toNat, by omega⟩
        have hss : s < ss.length := by omega
        have gs := hat s hss
        have zs := hsz s
        unfold nmA
        rw [Int.toNat_natCast]
        generalize ss.getD s ByteArray.empty = x at *
        clear hat hsz ok
        refine pure_intro (tok := 0) Tryz.func14 rfl Tryz.ntmps14 Tryz.results14 Tryz.call14 (by rfl) (by simp) ?_
        (focus (refine wkax (w_a @ByteArray.size_append (w_a hlm (w_a gs w_t))) (w_a cc w_t) w_t w_t w_t w_t (w_r 5) ?_; (repeat' first | exact w_t | apply w_l); all_goals intros))
        (all_goals (try simp (disch := omega) only [go_sem, decide_eq_true, decide_eq_false, if_pos, if_neg, Int.reduceAdd, Int.reduceSub, Int.reduceToNat, Int.zero_add])); (all_goals first | done | rfl | (congr 2; first | done | omega | (rw [Bool.eq_iff_iff]; simp only [bool_to_prop, Bool.false_eq_true, iff_true, true_iff, iff_false, false_iff]; omega)) | skip)
  · rw [if_pos hv]
    clear hat hsz ok
    refine pure_intro (tok := 0) Tryz.func14 rfl Tryz.ntmps14 Tryz.results14 Tryz.call14 (by rfl) (by simp) ?_
    (focus (refine wkax (w_a hlm w_t) (w_a cc w_t) w_t w_t w_t w_t (w_r 5) ?_; (repeat' first | exact w_t | apply w_l); all_goals intros))
    (all_goals (try simp (disch := omega) only [go_sem, decide_eq_true, decide_eq_false, if_pos, if_neg, Int.reduceAdd, Int.reduceSub, Int.reduceToNat, Int.zero_add])); (all_goals first | done | rfl | (congr 2; first | done | omega | (rw [Bool.eq_iff_iff]; simp only [bool_to_prop, Bool.false_eq_true, iff_true, true_iff, iff_false, false_iff]; omega)) | skip)
end Go.Proofs.YteiopjkamgmfpaaGreat
end

section
namespace Go.Proofs.YteiopjkamgmfpaaGreat
open Go Go.RowKit Go.Pg
set_option linter.unusedSimpArgs false
set_option linter.unusedVariables false
set_option maxRecDepth 20000
attribute [local go_sem] Tryz.underlying3 Tryz.underlying4 Tryz.underlying35 Tryz.underlying53 Tryz.underlying49 Tryz.underlying51 Tryz.underlying63 Tryz.underlying135 sz3 by3 z3 szErr zErr szRat zRat szNat zNat szInt zInt szB zB szPt byPt zPt szVec zVec
attribute [-bool_to_prop] Bool.and_eq_decide Bool.or_eq_decide Bool.decide_beq_decide decide_eq_decide
/-- A point. -/
abbrev ptQ (x y : Rat) : AV := .agg [.v (.bool (decide (x.num < 0))), lim (toL x.num.natAbs), lim (toL x.den), .v (.bool (decide (y.num < 0))), lim (toL y.num.natAbs), lim (toL y.den)]
theorem plFrom (a b c d : Rat) {j : Nat} (ha : Sz a j) (hb : Sz b j) (hc : Sz c j) (hd : Sz d j) (hj : j ≤ 100000) : Pure Tryz.prog 84 [ptQ a b, ptQ c d] (ptQ (c - a) (d - b)) := by
  have c1 := ratSub c a hc ha (by omega) (by omega)
  have c2 := ratSub d b hd hb (by omega) (by omega)
  generalize c - a = u at *
  generalize d - b = v at *
  refine pure_intro (tok := 0) Tryz.func84 rfl Tryz.ntmps84 Tryz.results84 Tryz.call84 (by rfl) (by simp) ?_
  (repeat' (first | (with_reducible first | refine stp ?_ | apply gx1 | apply gx2 | apply gx3 | apply gx4 | apply gx5 | apply gx6 | apply gx7 | apply gy8 | apply gz2 | apply gz3 | refine gw0 (c1) ?_ ?_ | refine gw3 (c1) ?_ ?_ ?_ | refine gw0 (c2) ?_ ?_ | refine gw3 (c2) ?_ ?_ ?_) | (with_reducible refine all_v ?_; intro _) | ((with_reducible refine gE ?_); (try simp (disch := omega) only [go_sem]) <;> first | rfl | omega) | with_reducible refine t_in_other (by decide) ?_ | ((with_reducible apply gy1); iterate 3 focus rfl) | ((with_reducible apply gy2); iterate 3 focus rfl) | ((with_reducible apply gy3); iterate 2 focus rfl) | ((with_reducible apply gy4); iterate 1 focus rfl) | ((with_reducible apply gy5); iterate 4 focus rfl) | ((with_reducible apply gy5c); iterate 4 focus rfl) | ((with_reducible apply gy6); iterate 4 focus rfl) | ((with_reducible apply d_bar); iterate 3 focus rfl) | ((with_reducible apply q_pub); iterate 1 focus rfl) | ((with_reducible apply gy7); iterate 1 focus rfl) | ((with_reducible apply gy9); (focus ((with_reducible refine gE ?_); (try simp (disch := omega) only [go_sem]) <;> rfl))) | ((with_reducible apply gz1); (focus first | rfl | (simp (disch := omega) only [go_sem]; done))) | ((with_reducible apply r_drawD (pickR [(4, ratQ u), (9, ratQ v)]) [] [4]); (focus kernel_rfl); (focus rfl); (focus kernel_rfl); (focus (simp only [List.length_cons, List.length_nil, Nat.reduceAdd]; rfl)))))
  simp (disch := omega) only [go_sem]
theorem plCross (a b c d : Rat) {j : Nat} (ha : Sz a j) (hb : Sz b j) (hc : Sz c j) (hd : Sz d j) (hj : j ≤ 100000) : Pure Tryz.prog 85 [ptQ a b, ptQ c d] (ratQ (a * d - b * c)) := by
  have c1 := ratMul a d ha hd (by omega) (by omega)
  have c2 := ratMul b c hb hc (by omega) (by omega)
  have c3 := ratSub (a * d) (b * c) (ha.mul hd) (hb.mul hc) (by omega) (by omega)
  generalize a * d - b * c = x at *
  generalize a * d = u at *
  generalize b * c = v at *
  refine pure_intro (tok := 0) Tryz.func85 rfl Tryz.ntmps85 Tryz.results85 Tryz.call85 (by rfl) (by simp) ?_
  (repeat' (first | (with_reducible first | refine stp ?_ | apply gx1 | apply gx2 | apply gx3 | apply gx4 | apply gx5 | apply gx6 | apply gx7 | apply gy8 | apply gz2 | apply gz3 | refine gw0 (c1) ?_ ?_ | refine gw3 (c1) ?_ ?_ ?_ | refine gw0 (c2) ?_ ?_ | refine gw3 (c2) ?_ ?_ ?_ | refine gw0 (c3) ?_ ?_ | refine gw3 (c3) ?_ ?_ ?_) | (with_reducible refine all_v ?_; intro _) | ((with_reducible refine gE ?_); (try simp (disch := omega) only [go_sem]) <;> first | rfl | omega) | with_reducible refine t_in_other (by decide) ?_ | ((with_reducible apply gy1); iterate 3 focus rfl) | ((with_reducible apply gy2); iterate 3 focus rfl) | ((with_reducible apply gy3); iterate 2 focus rfl) | ((with_reducible apply gy4); iterate 1 focus rfl) | ((with_reducible apply gy5); iterate 4 focus rfl) | ((with_reducible apply gy5c); iterate 4 focus rfl) | ((with_reducible apply gy6); iterate 4 focus rfl) | ((with_reducible apply d_bar); iterate 3 focus rfl) | ((with_reducible apply q_pub); iterate 1 focus rfl) | ((with_reducible apply gy7); iterate 1 focus rfl) | ((with_reducible apply gy9); (focus ((with_reducible refine gE ?_); (try simp (disch := omega) only [go_sem]) <;> rfl))) | ((with_reducible apply gz1); (focus first | rfl | (simp (disch := omega) only [go_sem]; done))) | ((with_reducible apply r_drawD (pickR [(4, ratQ u), (9, ratQ v), (10, ratQ x)]) [] [4]); (focus kernel_rfl); (focus rfl); (focus kernel_rfl); (focus (simp only [List.length_cons, List.length_nil, Nat.reduceAdd]; rfl)))))
  simp (disch := omega) only [go_sem]
abbrev PQ := Rat × Rat
abbrev PQ.av (p : PQ) : AV := ptQ p.1 p.2
def PQ.sz (p : PQ) (j : Nat) : Prop := Sz p.1 j ∧ Sz p.2 j
def crossP (p q r s : PQ) : Rat := (q.1 - p.1) * (s.2 - r.2) - (q.2 - p.2) * (s.1 - r.1)
def dotP (p q r s : PQ) : Rat := (q.1 - p.1) * (s.1 - r.1) + (q.2 - p.2) * (s.2 - r.2)
theorem crossP_sz {p q r s : PQ} {j : Nat} (hp : p.sz j) (hq : q.sz j) (hr : r.sz j) (hs : s.sz j) : Sz (crossP p q r s) (8 * j + 5) := by
  unfold crossP
  exact (((hq.1.sub hp.1).mul (hs.2.sub hr.2)).sub ((hq.2.sub hp.2).mul (hs.1.sub hr.1))).mono (by omega)
theorem plCrossP (p q r s : PQ) {j : Nat} (hp : p.sz j) (hq : q.sz j) (hr : r.sz j) (hs : s.sz j) (hj : j ≤ 10000) : Pure Tryz.prog 42 [p.av, q.av, r.av, s.av] (ratQ (crossP p q r s)) := by
  have c1 := plFrom p.1 p.2 q.1 q.2 hp.1 hp.2 hq.1 hq.2 (by omega)
  have c2 := plFrom r.1 r.2 s.1 s.2 hr.1 hr.2 hs.1 hs.2 (by omega)
  have c3 := plCross (q.1 - p.1) (q.2 - p.2) (s.1 - r.1) (s.2 - r.2) (hq.1.sub hp.1) (hq.2.sub hp.2) (hs.1.sub hr.1) (hs.2.sub hr.2) (by omega)
  unfold crossP
  obtain ⟨p1, p2⟩ := p
  obtain ⟨q1, q2⟩ := q
  obtain ⟨r1, r2⟩ := r
  obtain ⟨s1, s2⟩ := s
  simp only at *
  generalize (q1 - p1) * (s2 - r2) - (q2 - p2) * (s1 - r1) = x at *
  generalize q1 - p1 = a at *
  generalize q2 - p2 = b at *
  generalize s1 - r1 = c at *
  generalize s2 - r2 = d at *
  refine pure_intro (tok := 0) Tryz.func42 rfl Tryz.ntmps42 Tryz.results42 Tryz.call42 (by rfl) (by simp) ?_
  (repeat' (first | (with_reducible first | refine stp ?_ | apply gx1 | apply gx2 | apply gx3 | apply gx4 | apply gx5 | apply gx6 | apply gx7 | apply gy8 | apply gz2 | apply gz3 | refine gw0 (c1) ?_ ?_ | refine gw3 (c1) ?_ ?_ ?_ | refine gw0 (c2) ?_ ?_ | refine gw3 (c2) ?_ ?_ ?_ | refine gw0 (c3) ?_ ?_ | refine gw3 (c3) ?_ ?_ ?_) | (with_reducible refine all_v ?_; intro _) | ((with_reducible refine gE ?_); (try simp (disch := omega) only [go_sem]) <;> first | rfl | omega) | with_reducible refine t_in_other (by decide) ?_ | ((with_reducible apply gy1); iterate 3 focus rfl) | ((with_reducible apply gy2); iterate 3 focus rfl) | ((with_reducible apply gy3); iterate 2 focus rfl) | ((with_reducible apply gy4); iterate 1 focus rfl) | ((with_reducible apply gy5); iterate 4 focus rfl) | ((with_reducible apply gy5c); iterate 4 focus rfl) | ((with_reducible apply gy6); iterate 4 focus rfl) | ((with_reducible apply d_bar); iterate 3 focus rfl) | ((with_reducible apply q_pub); iterate 1 focus rfl) | ((with_reducible apply gy7); iterate 1 focus rfl) | ((with_reducible apply gy9); (focus ((with_reducible refine gE ?_); (try simp (disch := omega) only [go_sem]) <;> rfl))) | ((with_reducible apply gz1); (focus first | rfl | (simp (disch := omega) only [go_sem]; done))) | ((with_reducible apply r_drawD (pickR [(2, ptQ a b), (5, ptQ c d), (6, ratQ x)]) [] [8]); (focus kernel_rfl); (focus rfl); (focus kernel_rfl); (focus (simp only [List.length_cons, List.length_nil, Nat.reduceAdd]; rfl)))))
  simp (disch := omega) only [go_sem]
end Go.Proofs.YteiopjkamgmfpaaGreat
end

section
namespace Go.Proofs.YteiopjkamgmfpaaGreat
open Go Go.RowKit Go.Pg
set_option linter.unusedSimpArgs false
set_option linter.unusedVariables false
set_option maxRecDepth 20000
attribute [local go_sem] Tryz.underlying3 Tryz.underlying2 Tryz.underlying129 Tryz.underlying91 Tryz.underlying4 Tryz.underlying35 Tryz.underlying53 Tryz.underlying49 Tryz.underlying51 Tryz.underlying63 sz3 by3 z3 szL byL zL szErr zErr szRat zRat szNat zNat szInt zInt szB zB szPt byPt zPt Bool.and_self
attribute [-bool_to_prop] Bool.and_eq_decide Bool.or_eq_decide Bool.decide_beq_decide decide_eq_decide
theorem ratEqual (a b : Rat) {j k : Nat} (ha : Sz a j) (hb : Sz b k) (hj : j ≤ 1000000) (hk : k ≤ 1000000) : Pure Tryz.prog 81 [ratQ a, ratQ b] (.v (.bool (decide (a = b)))) := by
  have c := ratCmp a b ha hb (by omega) (by omega)
  have e : (cmpQ a b == 0) = decide (a = b) := by
    rw [Bool.eq_iff_iff, beq_iff_eq, decide_eq_true_eq]
    unfold cmpQ
    constructor
    · intro h
      split at h
      · omega
      · split at h
        · omega
        · rename_i h1 h2
          exact Rat.le_antisymm (Rat.not_lt.1 h2) (Rat.not_lt.1 h1)
    · rintro rfl
      simp
  rw [← e]
  generalize cmpQ a b = s at *
  refine pure_intro (tok := 0) Tryz.func81 rfl Tryz.ntmps81 Tryz.results81 Tryz.call81 (by rfl) (by simp) ?_
  (focus (refine wkvp w_t (w_a c w_t) ?_; (repeat' first | exact w_t | apply w_l); all_goals intros))
  simp (disch := omega) only [go_sem]
end Go.Proofs.YteiopjkamgmfpaaGreat
end

section
namespace Go.Proofs.YteiopjkamgmfpaaGreat
open Go Go.RowKit Go.Pg
set_option linter.unusedSimpArgs false
set_option linter.unusedVariables false
set_option maxRecDepth 20000
attribute [local go_sem] Tryz.underlying3 Tryz.underlying4 Tryz.underlying129 Tryz.underlying26 Tryz.underlying35 Tryz.underlying53 Tryz.underlying51 Tryz.underlying49 Tryz.underlying63 Tryz.underlying66 Tryz.underlying28 sz3 by3 z3 szB zB szErr zErr szL byL zL szRat zRat szInt zInt szNat zNat szSlI zSlI szPt byPt zPt szSlPt zSlPt szCond byCond zCond
attribute [-bool_to_prop] Bool.and_eq_decide Bool.or_eq_decide Bool.decide_beq_decide decide_eq_decide
/-! ### whether conditions hold -/
def eqP (p q : PQ) : Bool := decide (p.1 = q.1) && decide (p.2 = q.2)
abbrev ptN (ps : List PQ) (j : Int) : PQ := ps.getD j.toNat (0, 0)
def cHld (k : Int) (x y z w : PQ) : Bool :=
  if k = 1 then !eqP x y
  else if k = 2 then !decide ((crossP x y x z).num.sign = 0)
  else if k = 3 then !decide ((crossP x y z w).num.sign = 0)
  else true
def hRes (c : RC) (ps : List PQ) : AV :=
  if cErr c.k c.ar ps.length ≠ 0 then .tup [.v (.bool false), iv (cErr c.k c.ar ps.length)]
  else .tup [.v (.bool (cHld c.k (ptN ps (gI c.ar 0)) (ptN ps (gI c.ar 1)) (ptN ps (gI c.ar 2)) (ptN ps (gI c.ar 3)))), iv 0]
theorem pt_at {ps : List PQ} {j : Nat} (h : j < ps.length) : (ps.map PQ.av).getD j .u = (ps.getD j (0, 0)).av := by
  rw [map_atB PQ.av h, List.getD_eq_getElem?_getD, List.getElem?_eq_getElem h]; rfl
theorem pt_szs {ps : List PQ} {n : Nat} (h : ∀ p ∈ ps, p.sz n) {j : Nat} (hj : j < ps.length) : (ps.getD j (0, 0)).sz n := by
  rw [List.getD_eq_getElem?_getD, List.getElem?_eq_getElem hj]; exact h _ (List.getElem_mem hj)
theorem plEqual (p q : PQ) {j : Nat} (hp : p.sz j) (hq : q.sz j) (hj : j ≤ 1000) : Pure Tryz.prog 40 [p.av, q.av] (.v (.bool (eqP p q))) := by
  have c1 := ratEqual p.1 q.1 hp.1 hq.1 (by omega) (by omega)
  have c2 := ratEqual p.2 q.2 hp.2 hq.2 (by omega) (by omega)
  unfold eqP
  clear hp hq
  obtain ⟨a, b⟩ := p
  obtain ⟨c, d⟩ := q
  simp only at *
  generalize decide (a = c) = u at *
  generalize decide (b = d) = v at *
  cases u
  all_goals
    refine pure_intro (tok := 0) Tryz.func40 rfl Tryz.ntmps40 Tryz.results40 Tryz.call40 (by rfl) (by simp) ?_
    (focus (refine wklp w_t (w_a c1 (w_a c2 w_t)) w_t (w_r 0) ?_; (repeat' first | exact w_t | apply w_l); all_goals intros))
set_option maxHeartbeats 8000000 in
theorem cnHolds (c : RC) (ps : List PQ) (hl : ps.length ≤ 1000000000) (hs : ∀ p ∈ ps, p.sz 4) : Pure Tryz.prog 16 [c.av, .sl 6 (ps.map PQ.av)] (hRes c ps) := by
  have cc := cnChk c.k c.ar c.st ps.length hl
  have ok := @cErr_ok c.k c.ar ps.length
  have hlm : (ps.map PQ.av).length = ps.length := List.length_map ..
  have hat : ∀ j : Nat, j < ps.length → (ps.map PQ.av).getD j .u = (ps.getD j (0, 0)).av := fun j hj => pt_at hj
  have hsz := fun (j : Nat) (hj : j < ps.length) => pt_szs hs hj
  obtain ⟨k, ar, st⟩ := c
  unfold hRes
  simp only at *
  generalize cErr k ar ps.length = v at *
  generalize ps.map PQ.av = M at *
  by_cases hv : v = 0
  · rw [if_neg (by simpa using hv)]
    subst hv
    rcases ok rfl with ⟨rfl, a, b, rfl, ha, hb⟩ | ⟨rfl, a, b, c, rfl, ha, hb, hc⟩ | ⟨rfl, a, b, c, d, rfl, ha, hb, hc, hd⟩ | ⟨rfl, rfl⟩
    · unfold cHld ptN
      simp only [gI, List.getD_cons_zero, List.getD_cons_succ, Int.toNat_natCast, if_true, if_pos, show ¬ ((2 : Int) = 1) from by decide, show ¬ ((3 : Int) = 1) from by decide, show ¬ ((3 : Int) = 2) from by decide, if_false]
      have ga := hat a ha
      have za := hsz a ha
      have gb := hat b hb
      have zb := hsz b hb
      generalize ps.getD a (0, 0) = x at *
      generalize ps.getD b (0, 0) = y at *
      clear hat hsz ok hs
      have c1 := plEqual x y za zb (by omega)
      generalize eqP x y = e at *
      clear za zb
      obtain ⟨x1, x2⟩ := x
      obtain ⟨y1, y2⟩ := y
      try simp only at *
      refine pure_intro (tok := 0) Tryz.func16 rfl Tryz.ntmps16 Tryz.results16 Tryz.call16 (by rfl) (by simp) ?_
      (focus (refine wkax (w_a hlm (w_a ga (w_a gb w_t))) (w_a cc (w_a c1 w_t)) (w_a (w_d 12 [(6, .v (.bool e))] [] []) w_t) w_t w_t w_t (w_r 5) ?_; (repeat' first | exact w_t | apply w_l); all_goals intros))
      all_goals (all_goals (try simp (disch := omega) only [go_sem, decide_eq_true, decide_eq_false, if_pos, if_neg, Int.reduceAdd, Int.reduceSub, Int.reduceToNat, Int.zero_add])); (all_goals first | done | rfl | (congr 2; first | done | omega | (rw [Bool.eq_iff_iff]; simp only [bool_to_prop, Bool.false_eq_true, iff_true, true_iff, iff_false, false_iff]; omega)) | skip)
    · unfold cHld ptN
      simp only [gI, List.getD_cons_zero, List.getD_cons_succ, Int.toNat_natCast, if_true, if_pos, show ¬ ((2 : Int) = 1) from by decide, show ¬ ((3 : Int) = 1) from by decide, show ¬ ((3 : Int) = 2) from by decide, if_false]
      have ga := hat a ha
      have za := hsz a ha
      have gb := hat b hb
      have zb := hsz b hb
      have gc := hat c hc
      have zc := hsz c hc
      generalize ps.getD a (0, 0) = x at *
      generalize ps.getD b (0, 0) = y at *
      generalize ps.getD c (0, 0) = z at *
      clear hat hsz ok hs
      have c1 := plCrossP x y x z za zb za zc (by omega)
      have c2 := ratSign (crossP x y x z) (crossP_sz za zb za zc) (by omega)
      generalize crossP x y x z = q at *
      generalize q.num.sign = s at *
      clear za zb zc
      obtain ⟨x1, x2⟩ := x
      obtain ⟨y1, y2⟩ := y
      obtain ⟨z1, z2⟩ := z
      try simp only at *
      refine pure_intro (tok := 0) Tryz.func16 rfl Tryz.ntmps16 Tryz.results16 Tryz.call16 (by rfl) (by simp) ?_
      (focus (refine wkax (w_a hlm (w_a ga (w_a gb (w_a gc w_t)))) (w_a cc (w_a c1 (w_a c2 w_t))) (w_a (w_d 14 [(12, ratQ q), (13, iv s)] [] []) w_t) w_t w_t w_t (w_r 5) ?_; (repeat' first | exact w_t | apply w_l); all_goals intros))
      all_goals (all_goals (try simp (disch := omega) only [go_sem, decide_eq_true, decide_eq_false, if_pos, if_neg, Int.reduceAdd, Int.reduceSub, Int.reduceToNat, Int.zero_add])); (all_goals first | done | rfl | (congr 2; first | done | omega | (rw [Bool.eq_iff_iff]; simp only [bool_to_prop, Bool.false_eq_true, iff_true, true_iff, iff_false, false_iff]; omega)) | skip)
    · unfold cHld ptN
      simp only [gI, List.getD_cons_zero, List.getD_cons_succ, Int.toNat_natCast, if_true, if_pos, show ¬ ((2 : Int) = 1) from by decide, show ¬ ((3 : Int) = 1) from by decide, show ¬ ((3 : Int) = 2) from by decide, if_false]
      have ga := hat a ha
      have za := hsz a ha
      have gb := hat b hb
      have zb := hsz b hb
      have gc := hat c hc
      have zc := hsz c hc
      have gd := hat d hd
      have zd := hsz d hd
      generalize ps.getD a (0, 0) = x at *
      generalize ps.getD b (0, 0) = y at *
      generalize ps.getD c (0, 0) = z at *
      generalize ps.getD d (0, 0) = w at *
      clear hat hsz ok hs
      have c1 := plCrossP x y z w za zb zc zd (by omega)
      have c2 := ratSign (crossP x y z w) (crossP_sz za zb zc zd) (by omega)
      generalize crossP x y z w = q at *
      generalize q.num.sign = s at *
      clear za zb zc zd
      obtain ⟨x1, x2⟩ := x
      obtain ⟨y1, y2⟩ := y
      obtain ⟨z1, z2⟩ := z
      obtain ⟨w1, w2⟩ := w
      try simp only at *
      refine pure_intro (tok := 0) Tryz.func16 rfl Tryz.ntmps16 Tryz.results16 Tryz.call16 (by rfl) (by simp) ?_
      (focus (refine wkax (w_a hlm (w_a ga (w_a gb (w_a gc (w_a gd w_t))))) (w_a cc (w_a c1 (w_a c2 w_t))) (w_a (w_d 16 [(12, ratQ q), (13, iv s)] [] []) w_t) w_t w_t w_t (w_r 5) ?_; (repeat' first | exact w_t | apply w_l); all_goals intros))
      all_goals (all_goals (try simp (disch := omega) only [go_sem, decide_eq_true, decide_eq_false, if_pos, if_neg, Int.reduceAdd, Int.reduceSub, Int.reduceToNat, Int.zero_add])); (all_goals first | done | rfl | (congr 2; first | done | omega | (rw [Bool.eq_iff_iff]; simp only [bool_to_prop, Bool.false_eq_true, iff_true, true_iff, iff_false, false_iff]; omega)) | skip)
    · show Pure _ _ _ (.tup [.v (.bool true), iv 0])
      refine pure_intro (tok := 0) Tryz.func16 rfl Tryz.ntmps16 Tryz.results16 Tryz.call16 (by rfl) (by simp) ?_
      (focus (refine wkax (w_a hlm w_t) (w_a cc w_t) w_t w_t w_t w_t (w_r 5) ?_; (repeat' first | exact w_t | apply w_l); all_goals intros))
      (all_goals (try simp (disch := omega) only [go_sem, decide_eq_true, decide_eq_false, if_pos, if_neg, Int.reduceAdd, Int.reduceSub, Int.reduceToNat, Int.zero_add])); (all_goals first | done | rfl | (congr 2; first | done | omega | (rw [Bool.eq_iff_iff]; simp only [bool_to_prop, Bool.false_eq_true, iff_true, true_iff, iff_false, false_iff]; omega)) | skip)
  · rw [if_pos hv]
    clear hat hsz ok
    refine pure_intro (tok := 0) Tryz.func16 rfl Tryz.ntmps16 Tryz.results16 Tryz.call16 (by rfl) (by simp) ?_
    (focus (refine wkax (w_a hlm w_t) (w_a cc w_t) w_t w_t w_t w_t (w_r 5) ?_; (repeat' first | exact w_t | apply w_l); all_goals intros))
    (all_goals (try simp (disch := omega) only [go_sem, decide_eq_true, decide_eq_false, if_pos, if_neg, Int.reduceAdd, Int.reduceSub, Int.reduceToNat, Int.zero_add])); (all_goals first | done | rfl | (congr 2; first | done | omega | (rw [Bool.eq_iff_iff]; simp only [bool_to_prop, Bool.false_eq_true, iff_true, true_iff, iff_false, false_iff]; omega)) | skip)
/-! ### points of few limbs -/
def RQ.four (r : RQ) : Bool := decide (r.l.length ≤ 4) && decide (r.d.length ≤ 4)
def RP.fine (p : RP) : Bool := p.x.four && (p.y.four && (p.x.ok && p.y.ok))
def fineB (ps : List RP) : Bool := decide (ps.length ≤ 12) && ps.all RP.fine
end Go.Proofs.YteiopjkamgmfpaaGreat
end

section
namespace Go.Proofs.YteiopjkamgmfpaaGreat
open Go Go.RowKit Go.Pg
set_option linter.unusedSimpArgs false
set_option linter.unusedVariables false
set_option maxRecDepth 20000
attribute [local go_sem] Tryz.underlying3 Tryz.underlying4 Tryz.underlying129 Tryz.underlying9 Tryz.underlying26 Tryz.underlying60 Tryz.underlying35 Tryz.underlying53 Tryz.underlying51 Tryz.underlying49 Tryz.underlying55 Tryz.underlying22 Tryz.underlying25 Tryz.underlying57 Tryz.underlying23 Tryz.underlying28 Tryz.underlying38 Tryz.underlying63 Tryz.underlying66 sz3 by3 z3 szB zB szErr zErr szStr byStr zStr szL byL zL szRat zRat szInt zInt szNat zNat szStep byStep zStep szFig zFig szSlI zSlI szSlS zSlS szFact byFact zFact szSlF zSlF szCond byCond zCond szSlCd zSlCd szPt byPt zPt szSlPt zSlPt szSlStr zSlStr
attribute [-bool_to_prop] Bool.and_eq_decide Bool.or_eq_decide Bool.decide_beq_decide decide_eq_decide
/-! ### the chapter's examples -/
def ss23 : List RS := [⟨1, ⟨#[65]⟩, [], ⟨false, [], []⟩⟩, ⟨1, ⟨#[66]⟩, [], ⟨false, [], []⟩⟩, ⟨1, ⟨#[67]⟩, [], ⟨false, [], []⟩⟩, ⟨7, ⟨#[68]⟩, [0, 1, 2], ⟨false, [], []⟩⟩]
theorem fig23 : figE ss23 [] = 0 := by decide +kernel
theorem big23 : (List.range ss23.length).any (bigN ss23) = false := by decide +kernel
theorem ok23 : FigOk ss23 := by
  obtain ⟨h1, h2⟩ := figE_ok fig23
  refine ⟨h1, h2, fun s hs => ?_, by decide +kernel⟩
  have : ∀ s ∈ ss23, s.r.l = [] ∧ s.r.d = [] := by decide
  obtain ⟨e1, e2⟩ := this s hs
  refine ⟨?_, ?_, by rw [e1]; simp, by rw [e2]; simp⟩
  · rw [e1]; exact fun x hx => by cases hx
  · rw [e2]; exact fun x hx => by cases hx
theorem co23 : Pure Tryz.prog 32 [figA ss23 []] (.tup [frmA (frN ss23 ss23.length).cs (frN ss23 ss23.length).vs, iv 0]) := by
  have sm : ∀ s ∈ ss23, s.sm := fun s hs => by
    have h := ok23.lm s hs
    have h2 : ∀ s ∈ ss23, s.nm.size ≤ 1 ∧ s.ar.length ≤ 3 := by decide
    obtain ⟨a, b⟩ := h2 s hs
    exact ⟨lm_mono h (by decide), Nat.le_trans a (by decide), Nat.le_trans b (by decide)⟩
  have cr := lwRight ss23 [] (by decide) (by decide) sm (fun g hg => by cases hg)
  rw [fig23] at cr
  have := coFrame1 ss23 [] cr ok23
  rwa [if_neg (by rw [big23]; decide)] at this
theorem awOf : Pure Tryz.prog 13 [.agg [.sl 6 [.agg [iv 1, strA ⟨#[65]⟩, .v (.slice none 0 0), .v (.bool false), .v (.slice none 0 0), .v (.slice none 0 0)], .agg [iv 1, strA ⟨#[66]⟩, .v (.slice none 0 0), .v (.bool false), .v (.slice none 0 0), .v (.slice none 0 0)], .agg [iv 1, strA ⟨#[67]⟩, .v (.slice none 0 0), .v (.bool false), .v (.slice none 0 0), .v (.slice none 0 0)], .agg [iv 7, strA ⟨#[68]⟩, .sl 1 [iv 0, iv 1, iv 2], .v (.bool false), .v (.slice none 0 0), .v (.slice none 0 0)]], .v (.slice none 0 0)]] (.tup [.sl 3 [.agg [iv 1, .sl 1 [iv 1, iv 2], iv 3]], iv 0]) := by
  have c := cnOf ss23 [] _ _ 0 co23 (by decide) (fun _ i h => (errS_ok h ((figE_ok fig23).2 i h)).2.1)
  rw [if_pos rfl, show (cndN ss23 ss23.length).map RC.av = [.agg [iv 1, .sl 1 [iv 1, iv 2], iv 3]] from by kernel_rfl] at c
  refine pure_vkA c (.cons (Vk.aggL (.cons (Vk.slL (by rfl) (by decide) (by decide) ?_) (.cons (.nil 5) .nil))) .nil)
  exact (.cons (.refl _) (.cons (.refl _) (.cons (.nil 1) (.cons (.refl _) (.cons (.nil 1) (.cons (.nil 1) (.cons (.refl _) (.cons (.refl _) (.cons (.nil 1) (.cons (.refl _) (.cons (.nil 1) (.cons (.nil 1) (.cons (.refl _) (.cons (.refl _) (.cons (.nil 1) (.cons (.refl _) (.cons (.nil 1) (.cons (.nil 1) (.cons (.refl _) (.cons (.refl _) (.cons (.refl _) (.cons (.refl _) (.cons (.nil 1) (.cons (.nil 1) .nil))))))))))))))))))))))))
theorem awTxt : Pure Tryz.prog 14 [.agg [iv 3, .sl 1 [iv 0, iv 1, iv 2, iv 3], iv 0], .sl 1 [strA ⟨#[65]⟩, strA ⟨#[66, 49]⟩, strA ⟨#[67]⟩, strA ⟨#[68]⟩]] (.tup [strA ⟨#[40, 65, 32, 66, 49, 41, 32, 97, 110, 100, 32, 67, 68, 32, 97, 114, 101, 32, 110, 111, 116, 32, 112, 97, 114, 97, 108, 108, 101, 108]⟩, iv 0]) := by
  have c := cnText ⟨3, [0, 1, 2, 3], 0⟩ [⟨#[65]⟩, ⟨#[66, 49]⟩, ⟨#[67]⟩, ⟨#[68]⟩] (by decide) (by decide)
  rwa [show cRes ⟨3, [0, 1, 2, 3], 0⟩ [⟨#[65]⟩, ⟨#[66, 49]⟩, ⟨#[67]⟩, ⟨#[68]⟩] = .tup [strA ⟨#[40, 65, 32, 66, 49, 41, 32, 97, 110, 100, 32, 67, 68, 32, 97, 114, 101, 32, 110, 111, 116, 32, 112, 97, 114, 97, 108, 108, 101, 108]⟩, iv 0] from by kernel_rfl] at c
theorem aw_sz : ∀ p : PQ, p ∈ [((0, 0) : PQ), (1, 0)] → PQ.sz p 4 := fun p hp => by
  have z0 : Sz (0 : Rat) 4 := (nat_sz1 0 (by omega)).mono (by omega)
  have z1 : Sz (1 : Rat) 4 := (nat_sz1 1 (by omega)).mono (by omega)
  rcases List.mem_cons.1 hp with rfl | hp
  · exact ⟨z0, z0⟩
  · rw [List.mem_singleton] at hp
    subst hp
    exact ⟨z1, z0⟩
theorem awH1 : Pure Tryz.prog 16 [.agg [iv 1, .sl 1 [iv 0, iv 1], iv 0], .sl 6 [ptQ 0 0, ptQ 1 0]] (.tup [.v (.bool true), iv 0]) := by
  have c := cnHolds ⟨1, [0, 1], 0⟩ [(0, 0), (1, 0)] (by decide) aw_sz
  rwa [show hRes ⟨1, [0, 1], 0⟩ [(0, 0), (1, 0)] = .tup [.v (.bool true), iv 0] from by kernel_rfl] at c
theorem awH2 : Pure Tryz.prog 16 [.agg [iv 2, .sl 1 [iv 0, iv 1, iv 1], iv 0], .sl 6 [ptQ 0 0, ptQ 1 0]] (.tup [.v (.bool false), iv 0]) := by
  have c := cnHolds ⟨2, [0, 1, 1], 0⟩ [(0, 0), (1, 0)] (by decide) aw_sz
  rwa [show hRes ⟨2, [0, 1, 1], 0⟩ [(0, 0), (1, 0)] = .tup [.v (.bool false), iv 0] from by kernel_rfl] at c
set_option maxHeartbeats 8000000 in
theorem aw23 : Pure Tryz.prog 5 [] (.v (.bool true)) := by
  have c1 := awOf
  have c2 := awTxt
  have c3 := awH1
  have c4 := awH2
  have o0 : Pure Tryz.prog 15 [iv 0] (ratQ 0) := qOf 0 (by omega)
  have o1 : Pure Tryz.prog 15 [iv 1] (ratQ 1) := qOf 1 (by omega)
  have cs : Pure Tryz.prog 17 [.agg [iv 1, .sl 1 [iv 1, iv 2], iv 3], .agg [iv 1, .sl 1 [iv 1, iv 2], iv 3]] (.v (.bool true)) := rkSame ⟨1, [1, 2], 3⟩ ⟨1, [1, 2], 3⟩ (by decide) (by decide)
  generalize (0 : Rat) = q0 at *
  generalize (1 : Rat) = q1 at *
  refine pure_intro (tok := 0) Tryz.func5 rfl Tryz.ntmps5 Tryz.results5 Tryz.call5 (by rfl) (by simp) ?_
  (repeat' (first | (with_reducible first | refine stp ?_ | apply gx1 | apply gx2 | apply gx3 | apply gx4 | apply gx5 | apply gx6 | apply gx7 | apply gw1 (c1) | apply gw1 (c2) | apply gw1 (cs)) | ((with_reducible apply gw1 (o1)); iterate 4 focus ((with_reducible refine gE ?_); (try simp (disch := omega) only [go_sem, decide_eq_true, decide_eq_false, if_pos, if_neg, Int.reduceAdd, Int.reduceSub, Int.reduceToNat, Int.zero_add]) <;> first | rfl | done)) | ((with_reducible apply gw1 (o0)); iterate 4 focus ((with_reducible refine gE ?_); (try simp (disch := omega) only [go_sem, decide_eq_true, decide_eq_false, if_pos, if_neg, Int.reduceAdd, Int.reduceSub, Int.reduceToNat, Int.zero_add]) <;> first | rfl | done)) | ((with_reducible apply gw1 (c4)); iterate 4 focus ((with_reducible refine gE ?_); (try simp (disch := omega) only [go_sem, decide_eq_true, decide_eq_false, if_pos, if_neg, Int.reduceAdd, Int.reduceSub, Int.reduceToNat, Int.zero_add]) <;> first | rfl | done)) | ((with_reducible apply gw1 (c3)); iterate 4 focus ((with_reducible refine gE ?_); (try simp (disch := omega) only [go_sem, decide_eq_true, decide_eq_false, if_pos, if_neg, Int.reduceAdd, Int.reduceSub, Int.reduceToNat, Int.zero_add]) <;> first | rfl | done)) | (with_reducible refine all_v ?_; intro _) | ((with_reducible refine gE ?_); (try simp (disch := omega) only [go_sem, decide_eq_true, decide_eq_false, if_pos, if_neg, Int.reduceAdd, Int.reduceSub, Int.reduceToNat, Int.zero_add]) <;> first | rfl | omega) | with_reducible refine t_in_other (by decide) ?_ | ((with_reducible first | apply og_split | apply cg_split); all_goals (intro hc; (try simp only [bool_to_prop] at hc); try (exfalso; omega)))))
  (all_goals (try simp (disch := omega) only [go_sem, decide_eq_true, decide_eq_false, if_pos, if_neg, Int.reduceAdd, Int.reduceSub, Int.reduceToNat, Int.zero_add])); (all_goals first | done | rfl | (congr 2; first | done | omega | (rw [Bool.eq_iff_iff]; simp only [bool_to_prop, Bool.false_eq_true, iff_true, true_iff, iff_false, false_iff]; omega)) | skip)
/-! ### the laws -/
end Go.Proofs.YteiopjkamgmfpaaGreat
end

section
namespace Go.Proofs.YteiopjkamgmfpaaGreat
open Go Go.RowKit Go.Pg Go.Pol
set_option linter.unusedSimpArgs false
set_option linter.unusedVariables false
set_option maxRecDepth 20000
attribute [local go_sem] Tryz.underlying3 Tryz.underlying4 Tryz.underlying129 Tryz.underlying9 Tryz.underlying26 Tryz.underlying35 Tryz.underlying53 Tryz.underlying51 Tryz.underlying49 Tryz.underlying55 Tryz.underlying22 Tryz.underlying25 Tryz.underlying107 Tryz.underlying32 Tryz.underlying69 Tryz.underlying31 Tryz.underlying34 Tryz.underlying120 Tryz.underlying121 Tryz.underlying42 Tryz.underlying113 Tryz.underlying118 Tryz.underlying160 sz3 by3 z3 szB zB szErr zErr szStr byStr zStr szRat zRat szInt zInt szNat zNat szStep byStep zStep szFig zFig szSlI zSlI szSlS zSlS szVar byVar zVar szSlV zSlV szCoord byCoord zCoord szSlC zSlC szFrame zFrame szCBld byCBld zCBld szCVec byCVec zCVec szPoly byPoly zPoly szTerm zTerm szPtrB zPtrB szFnC zFnC
attribute [-bool_to_prop] Bool.and_eq_decide Bool.or_eq_decide Bool.decide_beq_decide decide_eq_decide
set_option maxHeartbeats 16000000 in
theorem rcFrame1 (ss : List RS) (gs : List RG) (cR : Pure Tryz.prog 11 [figA ss gs] (iv 0)) (ho : FigOk ss) :
    Pure Tryz.prog 6 [figA ss gs] (if (List.range ss.length).any (bigN ss) = true then .tup [.agg [.v (.slice none 0 0), .v (.slice none 0 0)], iv 4] else .tup [frmA (frN ss ss.length).cs (frN ss ss.length).vs, iv 0]) := by
  have cR : Pure Tryz.prog 11 [.agg [.sl 6 (ss.map RS.av), .sl 5 (gs.map RG.av)]] (iv 0) := cR
  show Pure _ _ [.agg [.sl 6 (ss.map RS.av), .sl 5 (gs.map RG.av)]] _
  have hg : ∀ i (h : i < ss.length), (ss.map RS.av).getD i .u = ss[i].av := fun i h => map_atB RS.av h
  have hls : (ss.map RS.av).length = ss.length := List.length_map ..
  have hlen := ho.len
  have hN : ∀ (i : Nat) (hlt : i < ss.length) (svC svV : Value) (m' : Mem), m' 21 = some (.row svV 107 3 ((frN ss i).vs.map Vt.av) 0) → m' 20 = some (.row svC 69 2 ((frN ss i).cs.map coA) 0) → (frN ss i).vs.length ≤ 64 → StOk (frN ss i).cs ss[i] → (∀ c ∈ (frN ss i).cs, Co c.1 ∧ Co c.2) →
      ACall Tryz.prog 18 [.agg [.own 20 svC, .own 21 svV], .agg [.sl 6 (ss.map RS.av), .sl 5 (gs.map RG.av)], iv i, iv (frN ss i).fr] m' fun r σ' => ∃ sv, r = .tup [.agg [.own 20 svC, .own 21 sv], coA ((frN ss i).nxt i ss[i]).2] ∧ σ' = upd m' 21 (some (.row sv 107 3 (((frN ss i).vs ++ ((frN ss i).nxt i ss[i]).1).map Vt.av) 0)) :=
    fun i hlt svC svV m' hV hC h1 h2 h3 => rcNext m' 20 21 svC svV (frN ss i).cs (frN ss i).vs (frN ss i).fr i ss gs ss[i] hlt rfl hV hC (by omega) h1 (by have := frN_fr ss i; omega) (by omega) h2 h3
  generalize ss.map RS.av = M at *
  generalize gs.map RG.av = N at *
  refine pure_intro (tok := 0) Tryz.func6 rfl Tryz.ntmps6 Tryz.results6 Tryz.call6 (by rfl) (by simp) ?_
  (focus (refine wkap (w_a hls w_t) (w_a cR w_t) (w_r 0) ?_; (repeat' first | exact w_t | apply w_l); all_goals intros))
  rename_i g1 g2 g5
  refine r_frz (Frz.nilBox (k := 5) 0 20 2 69 (by exact gC) rfl (by omega)) ?_
  refine r_frz (Frz.nilBox (k := 5) 1 21 3 107 (by exact gC) rfl (by omega)) ?_
  refine r_loopE (ι := Nat) (fun i e m => i ≤ ss.length ∧ e 1 = .pbox 1 g1 0 ∧ m 1 = some (.box g1 25 [.sl 6 M, .sl 5 N] false) ∧ e 2 = .pbox 2 g2 0 ∧ m 2 = some (.box g2 34 [.v (.slice none 0 0), .v (.slice none 0 0)] false) ∧ e 5 = .pbox 5 g5 0 ∧ e 6 = iv (frN ss i).fr ∧ e 18 = .sl 6 M ∧ e 19 = iv ss.length ∧ e 20 = iv i ∧ (∃ svC svV, m 5 = some (.box g5 34 [.own 20 svC, .own 21 svV] false) ∧ m 20 = some (.row svC 69 2 ((frN ss i).cs.map coA) 0) ∧ m 21 = some (.row svV 107 3 ((frN ss i).vs.map Vt.av) 0)) ∧ ∀ j, j < i → bigN ss j = false) (fun i => ss.length - i) 0 (by rfl) ?_ ?_
  · rintro i e m ⟨hi, e1, m1, e2, m2, e5, e6, e18, e19, e20, ⟨svC, svV, m5, m20, m21⟩, hbig⟩
    by_cases hlt : i < ss.length
    · have hgi := hg i hlt
      obtain ⟨D, hD, hn⟩ := ho.fi hi hbig
      have hco := hD.co hn
      have hst := ho.st hlt
      have hfr := frN_fr ss i
      have hnv := hD.nv
      have hb := bigN_at hlt
      have hsu := frN_succ hlt
      have hn3 := nxt_vars (frN ss i) i ss[i]
      have hcl := frN_len ss i
      have hst2 := fun m' hV hC => hN i hlt svC svV m' hV hC hnv hst hco
      clear hD hco hst hN hg cR
      generalize hs : ss[i] = s at *
      generalize hf : frN ss i = f at *
      generalize hx : f.nxt i s = nx at *
      obtain ⟨nv, c1, c2⟩ := nx
      obtain ⟨k, nm, ar, ⟨rs, rl, rd⟩⟩ := s
      obtain ⟨cs, vs, fr⟩ := f
      simp only at *
      (focus (refine wkap (w_a e1 (w_a m1 (w_a e2 (w_a m2 (w_a e5 (w_a e6 (w_a e18 (w_a e19 (w_a e20 (w_a m5 (w_a m20 (w_a m21 (w_a hgi (w_a hls w_t)))))))))))))) w_t (w_r 0) ?_; (repeat' first | exact w_t | apply w_l); all_goals intros))
      refine o_fresh (hst2 _ (by exact gW m21) (by exact gW m20)) ?_
      intro sv
      have hvl : ((vs ++ nv).map Vt.av).length = (vs ++ nv).length := List.length_map ..
      have hvl2 : (vs ++ nv).length ≤ 67 := by rw [List.length_append]; omega
      have hnx : ∀ j, j < i + 1 → bigN ss i = false → bigN ss j = false := fun j hj h => by
        by_cases e : j = i
        · rw [e]; exact h
        · exact hbig j (by omega)
      have hany : bigN ss i = true → (List.range ss.length).any (bigN ss) = true := fun h => List.any_eq_true.2 ⟨i, List.mem_range.2 hlt, h⟩
      generalize vs ++ nv = vs2 at *
      have hc1 : (c1.map tmA).length = c1.length := List.length_map ..
      have hc2 : (c2.map tmA).length = c2.length := List.length_map ..
      have hcsl : (cs.map coA).length = cs.length := List.length_map ..
      by_cases b1 : 64 < vs2.length
      · rw [if_pos (hany (by rw [hb]; simp [b1]))]
        (focus (refine wklp (w_a e1 (w_a e2 (w_a m2 (w_a e5 (w_a e6 (w_a e18 (w_a e19 (w_a e20 (w_a m5 (w_a m20 (w_a hvl (w_a hls w_t)))))))))))) w_t (w_a e2 w_t) (w_r 0) ?_; (repeat' first | exact w_t | apply w_l); all_goals intros))
      · by_cases b2 : 4000 < c1.length
        · rw [if_pos (hany (by rw [hb]; simp [b2]))]
          (focus (refine wklp (w_a e1 (w_a e2 (w_a m2 (w_a e5 (w_a e6 (w_a e18 (w_a e19 (w_a e20 (w_a m5 (w_a m20 (w_a hvl (w_a hc1 (w_a hls w_t))))))))))))) w_t (w_a e2 w_t) (w_r 0) ?_; (repeat' first | exact w_t | apply w_l); all_goals intros))
        · by_cases b3 : 4000 < c2.length
          · rw [if_pos (hany (by rw [hb]; simp [b3]))]
            (focus (refine wklp (w_a e1 (w_a e2 (w_a m2 (w_a e5 (w_a e6 (w_a e18 (w_a e19 (w_a e20 (w_a m5 (w_a m20 (w_a hvl (w_a hc1 (w_a hc2 (w_a hls w_t)))))))))))))) w_t (w_a e2 w_t) (w_r 0) ?_; (repeat' first | exact w_t | apply w_l); all_goals intros))
          · have hbf : bigN ss i = false := by rw [hb]; simp [b1, b2, b3]
            clear hany
            by_cases k1 : k = 1
            · subst k1
              (focus (refine wkap (w_a e1 (w_a e2 (w_a m2 (w_a e5 (w_a e6 (w_a e18 (w_a e19 (w_a e20 (w_a m5 (w_a m20 (w_a hvl (w_a hc1 (w_a hc2 (w_a hcsl (w_a hls w_t))))))))))))))) w_t (w_r 0) ?_; (repeat' first | exact w_t | apply w_l); all_goals intros))
              rename_i svC2
              refine ⟨i + 1, ⟨by omega, by exact gW e1, by exact gW m1, by exact gW e2, by exact gW m2, by exact gW e5, by (rw [hsu]; exact gS), by exact gW e18, by exact gW e19, by exact gS, ⟨svC2, sv, ?_, ?_, ?_⟩, fun j hj => hnx j hj hbf⟩, by omega⟩
              · (simp (disch := omega) only [go_sem, List.set_cons_zero] <;> repeat' first | rfl | refine ⟨?_, ?_⟩)
              · rw [hsu, List.map_append]; exact gC
              · rw [hsu]; exact gC
            · (focus (refine wkap (w_a e1 (w_a e2 (w_a m2 (w_a e5 (w_a e6 (w_a e18 (w_a e19 (w_a e20 (w_a m5 (w_a m20 (w_a hvl (w_a hc1 (w_a hc2 (w_a hcsl (w_a hls w_t))))))))))))))) w_t (w_r 0) ?_; (repeat' first | exact w_t | apply w_l); all_goals intros))
              rename_i svC2
              refine ⟨i + 1, ⟨by omega, by exact gW e1, by exact gW m1, by exact gW e2, by exact gW m2, by exact gW e5, by (rw [hsu]; simp only [if_neg k1]; exact gW e6), by exact gW e18, by exact gW e19, by exact gS, ⟨svC2, sv, ?_, ?_, ?_⟩, fun j hj => hnx j hj hbf⟩, by omega⟩
              · (simp (disch := omega) only [go_sem, List.set_cons_zero] <;> repeat' first | rfl | refine ⟨?_, ?_⟩)
              · rw [hsu, List.map_append]; exact gC
              · rw [hsu]; exact gC
    · have hin : i = ss.length := by omega
      subst hin
      have hno : ¬ (List.range ss.length).any (bigN ss) = true := by
        rw [List.any_eq_true]
        rintro ⟨j, hj, hb⟩
        rw [hbig j (List.mem_range.1 hj)] at hb
        cases hb
      rw [if_neg hno]
      clear hN hg
      generalize (frN ss ss.length).fr = fr at *
      generalize (frN ss ss.length).cs = cs at *
      generalize (frN ss ss.length).vs = vs at *
      (focus (refine wklp (w_a e1 (w_a e2 (w_a m2 (w_a e5 (w_a e6 (w_a e18 (w_a e19 (w_a e20 (w_a m5 (w_a m20 (w_a m21 (w_a hls w_t)))))))))))) w_t (w_a e2 (w_a m2 (w_a m5 (w_a m20 (w_a m21 w_t))))) (w_r 0) ?_; (repeat' first | exact w_t | apply w_l); all_goals intros))
  · exact ⟨Nat.zero_le _, by exact gC, by exact gC, by exact gC, by exact gC, by exact gC, by (simp (disch := omega) only [go_sem, frN] <;> repeat' first | rfl | refine ⟨?_, ?_⟩), by exact gC, by exact gW hls, by exact gC, ⟨_, _, by (simp (disch := omega) only [go_sem, List.set_cons_zero, List.set_cons_succ, frN] <;> repeat' first | rfl | refine ⟨?_, ?_⟩), by (simp (disch := omega) only [go_sem, frN, List.map_nil] <;> repeat' first | rfl | refine ⟨?_, ?_⟩), by (simp (disch := omega) only [go_sem, frN, List.map_nil] <;> repeat' first | rfl | refine ⟨?_, ?_⟩)⟩, fun j hj => by omega⟩
end Go.Proofs.YteiopjkamgmfpaaGreat
end

section
namespace Go.Proofs.YteiopjkamgmfpaaGreat
open Go Go.RowKit Go.Pg Go.Pol
set_option linter.unusedSimpArgs false
set_option linter.unusedVariables false
set_option maxRecDepth 20000
attribute [local go_sem] Tryz.underlying3 Tryz.underlying4 Tryz.underlying129 Tryz.underlying9 Tryz.underlying26 Tryz.underlying35 Tryz.underlying53 Tryz.underlying51 Tryz.underlying49 Tryz.underlying55 Tryz.underlying22 Tryz.underlying25 Tryz.underlying107 Tryz.underlying32 Tryz.underlying69 Tryz.underlying31 Tryz.underlying34 Tryz.underlying120 Tryz.underlying121 Tryz.underlying42 Tryz.underlying113 Tryz.underlying118 Tryz.underlying160 sz3 by3 z3 szB zB szErr zErr szStr byStr zStr szRat zRat szInt zInt szNat zNat szStep byStep zStep szFig zFig szSlI zSlI szSlS zSlS szVar byVar zVar szSlV zSlV szCoord byCoord zCoord szSlC zSlC szFrame zFrame szCBld byCBld zCBld szCVec byCVec zCVec szPoly byPoly zPoly szTerm zTerm szPtrB zPtrB szFnC zFnC Tryz.underlying103 szHVec byHVec zHVec Tryz.underlying140 szSlP zSlP Tryz.underlying57 Tryz.underlying23 szL byL zL szFact byFact zFact szSlF zSlF Tryz.underlying28 Tryz.underlying38 szCond byCond zCond szSlCd zSlCd
attribute [-bool_to_prop] Bool.and_eq_decide Bool.or_eq_decide Bool.decide_beq_decide decide_eq_decide
/-! ### the polynomials of conditions: the law -/
set_option maxHeartbeats 8000000 in
theorem lawCPoly1 (c : RC) (M N C V : List AV) (L : List RC) (h8 : c.ar.length ≤ 8) (hL : L.length ≤ 1000)
    (cf : Pure Tryz.prog 4 [.agg [.sl 6 M, .sl 5 N]] (.v (.bool true)))
    (co : Pure Tryz.prog 6 [.agg [.sl 6 M, .sl 5 N]] (.tup [.agg [.sl 2 C, .sl 3 V], iv 0]))
    (hof : ∀ K σ, ACall Tryz.prog 7 [.agg [.sl 6 M, .sl 5 N]] σ fun r σ' => ∃ sv, r = .tup [.own K sv, iv 0] ∧ σ' = upd σ K (some (.row sv 28 3 (L.map RC.av) 0)))
    (hq : ∀ x ∈ L ++ [c], ∃ (P : AV) (z : Int), ((∃ p, P = .sl 4 p) ∨ P = .v (.slice none 0 0)) ∧ Pure Tryz.prog 8 [.agg [iv x.k, .sl 1 (x.ar.map iv), iv x.st], .agg [.sl 6 M, .sl 5 N], .agg [.sl 2 C, .sl 3 V]] (.tup [P, iv z]) ∧ Pure Tryz.prog 9 [.agg [iv x.k, .sl 1 (x.ar.map iv), iv x.st], .agg [.sl 6 M, .sl 5 N], .agg [.sl 2 C, .sl 3 V]] (.tup [P, iv z]) ∧ Pure Tryz.prog 10 [P, P] (.v (.bool true))) :
    Pure Tryz.prog 3 [.agg [.sl 6 M, .sl 5 N], .agg [iv c.k, .sl 1 (c.ar.map iv), iv c.st]] (.v (.bool true)) := by
  have ca := aw23
  have hla : (c.ar.map iv).length = c.ar.length := List.length_map ..
  have hlL : (L.map RC.av).length = L.length := List.length_map ..
  have hap : L.map RC.av ++ [.agg [iv c.k, .sl 1 (c.ar.map iv), iv c.st]] = (L ++ [c]).map RC.av := by rw [List.map_append]; rfl
  have hlc : ((L ++ [c]).map RC.av).length = L.length + 1 := by simp
  have hll : (L ++ [c]).length = L.length + 1 := by simp
  have hg : ∀ i (h : i < (L ++ [c]).length), ((L ++ [c]).map RC.av).getD i .u = .agg [iv (L ++ [c])[i].k, .sl 1 ((L ++ [c])[i].ar.map iv), iv (L ++ [c])[i].st] := fun i h => map_atB RC.av h
  refine pure_intro (tok := 0) Tryz.func3 rfl Tryz.ntmps3 Tryz.results3 Tryz.call3 (by rfl) (by simp) ?_
  (repeat' (first | (with_reducible first | refine stp ?_ | apply gx1 | apply gx2 | apply gx3 | apply gx4 | apply gx5 | apply gx6 | apply gx7 | apply gy8 | apply gz2 | apply gz3 | refine gw0 (cf) ?_ ?_ | refine gw3 (cf) ?_ ?_ ?_ | refine gw0 (co) ?_ ?_ | refine gw3 (co) ?_ ?_ ?_) | (with_reducible refine all_v ?_; intro _) | ((with_reducible refine gE ?_); (try simp (disch := omega) only [go_sem, hla, hlL, decide_eq_true, decide_eq_false, if_pos, if_neg, Int.reduceAdd, Int.reduceSub, Int.reduceToNat, Int.zero_add]) <;> first | rfl | omega) | with_reducible refine t_in_other (by decide) ?_ | ((with_reducible apply gy1); iterate 3 focus rfl) | ((with_reducible apply gy2); iterate 3 focus rfl) | ((with_reducible apply gy3); iterate 2 focus rfl) | ((with_reducible apply gy4); iterate 1 focus rfl) | ((with_reducible apply gy5); iterate 4 focus rfl) | ((with_reducible apply gy5c); iterate 4 focus rfl) | ((with_reducible apply gy6); iterate 4 focus rfl) | ((with_reducible apply d_bar); iterate 3 focus rfl) | ((with_reducible apply q_pub); iterate 1 focus rfl) | ((with_reducible apply gy7); iterate 1 focus rfl) | ((with_reducible apply gy9); (focus ((with_reducible refine gE ?_); (try simp (disch := omega) only [go_sem, hla, hlL, decide_eq_true, decide_eq_false, if_pos, if_neg, Int.reduceAdd, Int.reduceSub, Int.reduceToNat, Int.zero_add]) <;> rfl))) | ((with_reducible apply gz1); (focus first | rfl | (simp (disch := omega) only [go_sem, hla, hlL, decide_eq_true, decide_eq_false, if_pos, if_neg, Int.reduceAdd, Int.reduceSub, Int.reduceToNat, Int.zero_add]; done))) | ((with_reducible refine o_fresh (hof 41 _) ?_); intro _) | ((with_reducible apply r_drawD (pickR []) [] []); (focus kernel_rfl); (focus rfl); (focus kernel_rfl); (focus (simp only [List.length_cons, List.length_nil, Nat.reduceAdd]; rfl))) | ((with_reducible first | apply og_split | apply dg_split | apply cg_split); all_goals (intro hc; (try simp only [bool_to_prop] at hc); try (exfalso; omega)))))
  rename_i g2 g3 g5 s1 s2 s3
  refine r_loopE (ι := Nat) (fun i e m => i ≤ L.length + 1 ∧ e 2 = .pbox 2 g2 0 ∧ m 2 = some (.box g2 25 [.sl 6 M, .sl 5 N] false) ∧ e 5 = .pbox 5 g5 0 ∧ m 5 = some (.box g5 34 [.sl 2 C, .sl 3 V] false) ∧ (∃ sv, e 41 = .own 41 sv ∧ m 41 = some (.row sv 28 3 ((L ++ [c]).map RC.av) 0)) ∧ e 42 = iv (L.length + 1) ∧ e 43 = iv i) (fun i => L.length + 1 - i) 0 (by rfl) ?_ ?_
  · rintro i e m ⟨hi, e2, m2, e5, m5, ⟨sv, e41, m41⟩, e42, e43⟩
    by_cases hlt : i < L.length + 1
    · have hgi := hg i (by omega)
      obtain ⟨P, z, hP, q1, q2, q3⟩ := hq _ (List.getElem_mem (show i < (L ++ [c]).length by omega))
      clear hq hg cf co hof
      generalize (L ++ [c])[i] = x at *
      generalize (L ++ [c]).map RC.av = LA at *
      obtain ⟨xk, xa, xs⟩ := x
      simp only at *
      generalize xa.map iv = A at *
      rcases hP with ⟨p, rfl⟩ | rfl
      · (focus (refine wkad (w_a e2 (w_a m2 (w_a e5 (w_a m5 (w_a e41 (w_a m41 (w_a e42 (w_a e43 (w_a hlc (w_a hgi w_t)))))))))) (w_a q1 (w_a q2 (w_a q3 w_t))) w_t ?_; (repeat' first | exact w_t | apply w_l); all_goals intros))
        exact ⟨i + 1, ⟨by omega, by exact gW e2, by exact gW m2, by exact gW e5, by exact gW m5, ⟨_, by exact gW e41, by exact gW m41⟩, by exact gW e42, by exact gS⟩, by omega⟩
      · (focus (refine wkad (w_a e2 (w_a m2 (w_a e5 (w_a m5 (w_a e41 (w_a m41 (w_a e42 (w_a e43 (w_a hlc (w_a hgi w_t)))))))))) (w_a q1 (w_a q2 (w_a q3 w_t))) w_t ?_; (repeat' first | exact w_t | apply w_l); all_goals intros))
        exact ⟨i + 1, ⟨by omega, by exact gW e2, by exact gW m2, by exact gW e5, by exact gW m5, ⟨_, by exact gW e41, by exact gW m41⟩, by exact gW e42, by exact gS⟩, by omega⟩
    · clear hq hg cf co hof
      (focus (refine wkad (w_a e2 (w_a m2 (w_a e5 (w_a m5 (w_a e41 (w_a m41 (w_a e42 (w_a e43 w_t)))))))) (w_a ca w_t) w_t ?_; (repeat' first | exact w_t | apply w_l); all_goals intros))
      all_goals (all_goals (try simp (disch := omega) only [go_sem, decide_eq_true, decide_eq_false, if_pos, if_neg, Int.reduceAdd, Int.reduceSub, Int.reduceToNat, Int.zero_add])); (all_goals first | done | rfl | (congr 2; first | done | omega | (rw [Bool.eq_iff_iff]; simp only [bool_to_prop, Bool.false_eq_true, iff_true, true_iff, iff_false, false_iff]; omega)) | skip)
  · exact ⟨Nat.zero_le _, by exact gC, by exact gC, by exact gC, by exact gC, ⟨_, by exact gC, by rw [← hap]; exact gC⟩, by (simp (disch := omega) only [go_sem, hlL, hll]; rw [hap, hlc]; rfl), by exact gC⟩
theorem lawCPolyN (c : RC) (M N : List AV) (f : Bool) (hf : f = true → ¬ c.ar.length ≤ 8) (cf : Pure Tryz.prog 4 [.agg [.sl 6 M, .sl 5 N]] (.v (.bool f))) :
    Pure Tryz.prog 3 [.agg [.sl 6 M, .sl 5 N], .agg [iv c.k, .sl 1 (c.ar.map iv), iv c.st]] (.v (.bool true)) := by
  have ca := aw23
  have hla : (c.ar.map iv).length = c.ar.length := List.length_map ..
  cases f with
  | false =>
    clear hf
    refine pure_intro (tok := 0) Tryz.func3 rfl Tryz.ntmps3 Tryz.results3 Tryz.call3 (by rfl) (by simp) ?_
    (focus (refine wkad (w_a hla w_t) (w_a cf (w_a ca w_t)) w_t ?_; (repeat' first | exact w_t | apply w_l); all_goals intros))
    all_goals (all_goals (try simp (disch := omega) only [go_sem, decide_eq_true, decide_eq_false, if_pos, if_neg, Int.reduceAdd, Int.reduceSub, Int.reduceToNat, Int.zero_add])); (all_goals first | done | rfl | (congr 2; first | done | omega | (rw [Bool.eq_iff_iff]; simp only [bool_to_prop, Bool.false_eq_true, iff_true, true_iff, iff_false, false_iff]; omega)) | skip)
  | true =>
    have h9 := hf rfl
    clear hf
    refine pure_intro (tok := 0) Tryz.func3 rfl Tryz.ntmps3 Tryz.results3 Tryz.call3 (by rfl) (by simp) ?_
    (focus (refine wkad (w_a hla w_t) (w_a cf (w_a ca w_t)) w_t ?_; (repeat' first | exact w_t | apply w_l); all_goals intros))
    all_goals (all_goals (try simp (disch := omega) only [go_sem, decide_eq_true, decide_eq_false, if_pos, if_neg, Int.reduceAdd, Int.reduceSub, Int.reduceToNat, Int.zero_add])); (all_goals first | done | rfl | (congr 2; first | done | omega | (rw [Bool.eq_iff_iff]; simp only [bool_to_prop, Bool.false_eq_true, iff_true, true_iff, iff_false, false_iff]; omega)) | skip)
/-- The polynomial of any condition of a small figure, on both sides. -/
theorem cPolys (c : RC) (ss : List RS) (gs : List RG) (hl : ss.length ≤ 8) (ok : FigOk ss) (ht : thinB ss gs = true) (lR : Pure Tryz.prog 49 [figA ss gs] (iv 0)) (hc : c.ar.length ≤ 1000) :
    ∃ (P : AV) (z : Int), ((∃ p, P = .sl 4 p) ∨ P = .v (.slice none 0 0)) ∧ Pure Tryz.prog 8 [c.av, figA ss gs, frmA (frN ss ss.length).cs (frN ss ss.length).vs] (.tup [P, iv z]) ∧ Pure Tryz.prog 9 [c.av, figA ss gs, frmA (frN ss ss.length).cs (frN ss ss.length).vs] (.tup [P, iv z]) ∧ Pure Tryz.prog 10 [P, P] (.v (.bool true)) := by
  have hk : ∀ i (h : i < ss.length), (ss[i].ar.length : Int) = arS ss[i].k := fun i h => (errS_ok h (ok.er i h)).2.1
  have hai : ∀ i (h : i < ss.length), ∀ k, k < ss[i].ar.length → 0 ≤ gI ss[i].ar k ∧ gI ss[i].ar k < (ss.length : Int) := fun i h k hkk => by
    have := (errS_ok h (ok.er i h)).2.2.1 k hkk
    omega
  have r1 := cnRight c ss gs lR hc (by omega) hk
  have r2 := rkRight c ss gs hc (by omega) hk
  have hcb := (few_cb hl ok ht).2
  have hvl := vs_le ss ss.length
  have h6 : ∀ (i : Nat) (h : i < ss.length), ss[i].k = 6 → ∃ w, fstN (frN ss ss.length).vs i (frN ss ss.length).vs.length = some w ∧ w < 900 := fun i h hk6 => by
    obtain ⟨w, h1, h2⟩ := circ_var h hk6
    exact ⟨w, h1, by omega⟩
  cases hr : cndOk c ss with
  | true =>
    rw [hr] at r1 r2
    have hi := cnd_is hr hk hai
    have hp := cpol_pb c hcb (frN ss ss.length).vs
    refine ⟨_, 0, .inl ⟨_, rfl⟩, cnPoly c ss gs _ _ hi (frN_len ..) hcb (by omega) h6 r1, rkPoly c ss gs _ _ hi (frN_len ..) hcb (by omega) h6 r2, ?_⟩
    have l := hp.l
    have ce := rpEqual _ _ hp.k hp.k hp.s.dom hp.s.dom (by omega) (by omega) (by omega) (by omega) (by omega) (by omega)
    rw [decide_eq_true rfl] at ce
    exact ce
  | false =>
    rw [hr] at r1 r2
    have hp := (PB.nil : PB [] 0 0 0)
    have ce := rpEqual [] [] hp.k hp.k hp.s.dom hp.s.dom (by simp) (by simp) (by omega) (by omega) (by omega) (by omega)
    rw [decide_eq_true rfl] at ce
    exact ⟨_, 1, .inr rfl, cnPolyN c ss gs _ _ r1, rkPolyN c ss gs _ _ r2, pure_vkA ce (.cons (.nil 4) (.cons (.nil 4) .nil))⟩
theorem lawCPoly (c : RC) (ss : List RS) (gs : List RG) (h1 : ss.length ≤ 1000000000) (h2 : gs.length ≤ 1000000000) (hs : ∀ s ∈ ss, s.sm) (hg : ∀ g ∈ gs, g.sm) :
    Pure Tryz.prog 3 [figA ss gs, c.av] (.v (.bool true)) := by
  have cR := rlRight ss gs h1 h2 hs hg
  have lR := lwRight ss gs h1 h2 hs hg
  have cf := rlFew ss gs cR
  by_cases hf : fewB ss gs = true ∧ c.ar.length ≤ 8
  · obtain ⟨hf, h8⟩ := hf
    obtain ⟨hl, he, ok, ht⟩ := few_in hs hf
    rw [hf] at cf
    rw [he] at cR lR
    have hk : ∀ i (h : i < ss.length), (ss[i].ar.length : Int) = arS ss[i].k := fun i h => (errS_ok h (ok.er i h)).2.1
    have hbig := (few_cb hl ok ht).1
    have ro := rcFrame1 ss gs cR ok
    rw [if_neg (by simp only [List.any_eq_true, List.mem_range, not_exists, not_and, Bool.not_eq_true]; exact hbig)] at ro
    have hlen := cndN_len ss ss.length
    refine lawCPoly1 c _ _ _ _ (cndN ss ss.length) h8 (by omega) cf ro (fun K σ => rkOfA ss gs _ _ K σ ro (by omega) hk) fun x hx => ?_
    refine cPolys x ss gs hl ok ht lR ?_
    rcases List.mem_append.1 hx with hx | hx
    · obtain ⟨j, hj, h4, rfl⟩ := cndN_mem hx
      refine cOf_len ?_
      have := hk j hj
      have h5 := arS_le' ss[j].k
      rw [show ss.getD j RS.zero = ss[j] from by rw [List.getD_eq_getElem?_getD, List.getElem?_eq_getElem hj]; rfl]
      omega
    · rw [List.mem_singleton.1 hx]; omega
  · exact lawCPolyN c _ _ (fewB ss gs) (fun h h8 => hf ⟨h, h8⟩) cf
end Go.Proofs.YteiopjkamgmfpaaGreat
end

section
namespace Go.Proofs.YteiopjkamgmfpaaGreat
open Go Go.RowKit Go.Pg
set_option linter.unusedSimpArgs false
set_option linter.unusedVariables false
set_option maxRecDepth 20000
attribute [-bool_to_prop] Bool.and_eq_decide Bool.or_eq_decide Bool.decide_beq_decide decide_eq_decide
section
variable {N n : Nat} {cs : List AV}
theorem shCond (h : Shape Tryz.prog N n 28 cs) : ∃ c : RC, wrapA Tryz.prog 28 cs = c.av ∧ c.ar.length ≤ N := by
  obtain ⟨m, rfl, hs⟩ := shape_struct Tryz.underlying28 (by kernel_rfl) h
  obtain ⟨x, y, rfl, h1, hs⟩ := hs.inv
  obtain ⟨x2, y, rfl, h2, hs⟩ := hs.inv
  obtain ⟨x3, y, rfl, h3, hs⟩ := hs.inv
  obtain rfl := hs.inv0
  obtain ⟨k, rfl, _⟩ := shape_int Tryz.underlying3 h1
  obtain ⟨ar, rfl, ha⟩ := shIvs h2
  obtain ⟨st, rfl, _⟩ := shape_int Tryz.underlying3 h3
  exact ⟨⟨k, ar, st⟩, wrapA_agg Tryz.underlying28 _, ha⟩
end
end Go.Proofs.YteiopjkamgmfpaaGreat
end

section
namespace Go.Proofs.YteiopjkamgmfpaaGreat
open Go Go.RowKit Go.Pg
set_option linter.unusedSimpArgs false
set_option linter.unusedVariables false
set_option maxRecDepth 20000
attribute [-bool_to_prop] Bool.and_eq_decide Bool.or_eq_decide Bool.decide_beq_decide decide_eq_decide
theorem saidCPolys (xs : List AV) (h : ShapeL Tryz.prog 1048576 9 [25, 28] xs) : Pure Tryz.prog 3 xs (.v (.bool true)) := by
  obtain ⟨x, bs, rfl, h1, h⟩ := h.inv
  obtain ⟨y, bs, rfl, h2, h⟩ := h.inv
  obtain rfl := h.inv0
  obtain ⟨ss, gs, e, hl, kl, hq, kq⟩ := shFigure h1
  obtain ⟨c, e1, hc⟩ := shCond h2
  rw [e, e1]
  exact lawCPoly c ss gs (by omega) (by omega) (fun s hs => ⟨lm_mono (hq s hs).1 (by decide), Nat.le_trans (hq s hs).2.1 (by decide), Nat.le_trans (hq s hs).2.2 (by decide)⟩) (fun g hg => ⟨lm_mono (kq g hg).1 (by decide), Nat.le_trans (kq g hg).2 (by decide)⟩)
end Go.Proofs.YteiopjkamgmfpaaGreat
end
