/- Contracts of the functions that the law reaches, and the rules by which they are walked. They say what a call hands back for every input within the bounds that each names; no other condition. -/
import Derived.Test.YtbgmnobnaplmlaaGreatBd5
section
namespace Go.Proofs.YtbgmnobnaplmlaaGreat
open Go Go.RowKit Go.Pg Go.Pol
set_option linter.unusedSimpArgs false
set_option linter.unusedVariables false
set_option maxRecDepth 20000
attribute [-bool_to_prop] Bool.and_eq_decide Bool.or_eq_decide Bool.decide_beq_decide decide_eq_decide
set_option linter.unusedSimpArgs false
set_option linter.unusedVariables false
/-! ### the steps of a small figure -/
theorem few_in {ss : List RS} {gs : List RG} (hs : ∀ s ∈ ss, s.sm) (h : fewB ss gs = true) : ss.length ≤ 8 ∧ figE ss gs = 0 ∧ FigOk ss ∧ thinB ss gs = true := by
  unfold fewB at h
  simp only [Bool.and_eq_true, decide_eq_true_eq, List.all_eq_true] at h
  obtain ⟨h1, h2, h3, h4, h5, h6⟩ := h
  refine ⟨h1, h3, ⟨by omega, figE_steps h3, fun s hm => ?_, ?_⟩, h4⟩
  · have := h5 s hm
    unfold rat2 at this
    simp only [Bool.and_eq_true, decide_eq_true_eq] at this
    obtain ⟨k1, k2, k3, k4⟩ := (hs s hm).1
    exact ⟨k1, k2, this.1, this.2⟩
  · have := nfN_le ss ss.length
    omega
theorem wts_pre (ss : List RS) {i j : Nat} (h : j < i) : ∀ d, gI (wts ss (i + d)) j = gI (wts ss i) j
  | 0 => rfl
  | d + 1 => by
    show gI (wts ss (i + d) ++ [_]) j = _
    rw [gI_app, wts_len, if_pos (by omega)]
    exact wts_pre ss h d
theorem few_cb {ss : List RS} {gs : List RG} (hl : ss.length ≤ 8) (ok : FigOk ss) (ht : thinB ss gs = true) : (∀ j, j < ss.length → bigN ss j = false) ∧ ∀ j, CB ((frN ss ss.length).cs.getD j ([], [])) := by
  have hw : ∀ j, gI (wts ss ss.length) j ≤ 8 := fun j => by
    by_cases h : j < (wts ss ss.length).length
    · unfold thinB at ht
      simp only [Bool.and_eq_true, List.all_eq_true, decide_eq_true_eq] at ht
      rw [gI_at h]
      exact ht.1 _ (List.getElem_mem h)
    · rw [gI_out (by omega)]; omega
  have big : ∀ j, j < ss.length → bigN ss j = false := fun j hj => by
    rw [bigN_at hj]
    have hv := vs_le ss (j + 1)
    rw [frN_succ hj] at hv
    have h1 := frN_w ss (j + 1) j
    have h2 := wts_pre ss (show j < j + 1 by omega) (ss.length - (j + 1))
    rw [show j + 1 + (ss.length - (j + 1)) = ss.length by omega] at h2
    have h3 := hw j
    rw [frN_succ hj, List.getD_eq_getElem?_getD, List.getElem?_append_right (by rw [frN_len]; omega), frN_len, Nat.sub_self] at h1
    simp only [List.getElem?_cons_zero, Option.getD_some] at h1
    simp only [Bool.or_eq_false_iff, decide_eq_false_iff_not]
    simp only at hv
    omega
  refine ⟨big, fun j => ?_⟩
  obtain ⟨D, hD, hn⟩ := ok.fi (Nat.le_refl _) big
  have h1 := frN_w ss ss.length j
  have h3 := hw j
  by_cases hj : j < (frN ss ss.length).cs.length
  · obtain ⟨c1, c2⟩ := hD.co hn _ (getD_mem (d := (([], []) : Pt)) hj)
    exact ⟨⟨c1.st, c1.pk.mono (Nat.le_refl _) (by omega), by omega⟩, ⟨c2.st, c2.pk.mono (Nat.le_refl _) (by omega), by omega⟩⟩
  · rw [List.getD_eq_getElem?_getD, List.getElem?_eq_none (by omega)]
    exact ⟨.nil, .nil⟩
theorem fstN_lt {vs : List Vt} {i : Int} {w : Nat} : ∀ {n : Nat}, fstN vs i n = some w → w < n
  | 0, h => by cases h
  | n + 1, h => by
    unfold fstN at h
    split at h
    · rename_i v hv
      have := fstN_lt hv
      injection h with h
      omega
    · split at h
      · injection h with h; omega
      · cases h
theorem fstN_ne {vs : List Vt} {i : Int} : ∀ {n : Nat}, fstN vs i n = none → ∀ j, j < n → (vs.getD j (0, 0, 0)).2.1 ≠ i
  | 0, _, j, hj => by omega
  | n + 1, h, j, hj => by
    unfold fstN at h
    split at h
    · cases h
    · rename_i hn
      split at h
      · cases h
      · rename_i hx
        by_cases e : j = n
        · rw [e]; exact hx
        · exact fstN_ne hn j (by omega)
theorem vs_pre (ss : List RS) (i : Nat) : ∀ d, ∃ l, (frN ss (i + d)).vs = (frN ss i).vs ++ l
  | 0 => ⟨[], by rw [List.append_nil]; rfl⟩
  | d + 1 => by
    obtain ⟨l, hl⟩ := vs_pre ss i d
    refine ⟨l ++ ((frN ss (i + d)).nxt (i + d) (ss.getD (i + d) RS.zero)).1, ?_⟩
    show (frN ss (i + d)).vs ++ _ = _
    rw [hl, List.append_assoc]
    rfl
/-- A step on a circle has a variable. -/
theorem circ_var {ss : List RS} {i : Nat} (hi : i < ss.length) (hk : ss[i].k = 6) : ∃ w, fstN (frN ss ss.length).vs i (frN ss ss.length).vs.length = some w ∧ w < (frN ss ss.length).vs.length := by
  cases h : fstN (frN ss ss.length).vs i (frN ss ss.length).vs.length with
  | some w => exact ⟨w, rfl, fstN_lt h⟩
  | none =>
    exfalso
    obtain ⟨l, hl⟩ := vs_pre ss (i + 1) (ss.length - (i + 1))
    rw [show i + 1 + (ss.length - (i + 1)) = ss.length by omega, frN_succ hi] at hl
    have hn : ((frN ss i).nxt i ss[i]).1 = [(1, (i : Int), 0), (2, (i : Int), 1), (2, (i : Int), 2)] := by
      unfold FS.nxt
      simp [hk]
    simp only at hl
    rw [hn] at hl
    have hm : ((1, (i : Int), 0) : Vt) ∈ (frN ss ss.length).vs := by rw [hl]; simp
    obtain ⟨j, hj, e⟩ := List.mem_iff_getElem.1 hm
    have := fstN_ne h j hj
    rw [List.getD_eq_getElem?_getD, List.getElem?_eq_getElem hj, e] at this
    exact this rfl
/-- The hypotheses of a figure's step. -/
def eqE (ss : List RS) (i : Nat) : List Po :=
  let f := frN ss ss.length
  let s := ss.getD i RS.zero
  let p := fun k => f.cs.getD (gI s.ar k).toNat ([], [])
  eqsM s.k (p 0) (p 1) (p 2) (p 3) (f.cs.getD i ([], [])) (parM f.vs i)
theorem eqE_at {ss : List RS} {i : Nat} {s : RS} (hi : i < ss.length) (hs : ss[i] = s) : eqE ss i = eqsM s.k ((frN ss ss.length).cs.getD (gI s.ar 0).toNat ([], [])) ((frN ss ss.length).cs.getD (gI s.ar 1).toNat ([], [])) ((frN ss ss.length).cs.getD (gI s.ar 2).toNat ([], [])) ((frN ss ss.length).cs.getD (gI s.ar 3).toNat ([], [])) ((frN ss ss.length).cs.getD i ([], [])) (parM (frN ss ss.length).vs i) := by
  unfold eqE
  rw [show ss.getD i RS.zero = s from by rw [List.getD_eq_getElem?_getD, List.getElem?_eq_getElem hi, hs]; rfl]
theorem parM_some {vs : List Vt} {i : Int} {w : Nat} (h : fstN vs i vs.length = some w) : parM vs i = varM w := by unfold parM; rw [h]
theorem eqs_len (k : Int) (a b c d x : Pt) (t : Po) : (eqsM k a b c d x t).length ≤ 2 := by
  unfold eqsM circM otherM
  repeat' split
  all_goals simp
set_option maxHeartbeats 8000000 in
theorem hySt {ss : List RS} {gs : List RG} (hl : ss.length ≤ 8) (ok : FigOk ss) (ht : thinB ss gs = true) {i : Nat} (hi : i < ss.length) : Pure Tryz.prog 35 [figA ss gs, frmA (frN ss ss.length).cs (frN ss ss.length).vs, iv i] (.tup [.sl 1 ((eqE ss i).map poA), iv 0]) := by
  have hcb := (few_cb hl ok ht).2
  have hvl := vs_le ss ss.length
  have hcl := frN_len ss ss.length
  have hcv := fun hk => circ_var (ss := ss) hi hk
  obtain ⟨h0, hal, hai, -⟩ := errS_ok hi (ok.er i hi)
  have hai : ∀ k, k < ss[i].ar.length → 0 ≤ gI ss[i].ar k ∧ gI ss[i].ar k < (ss.length : Int) := fun k hk => by have := hai k hk; omega
  generalize hs : ss[i] = s at *
  rw [eqE_at hi hs]
  have cp := hyParam (frN ss ss.length).cs (frN ss ss.length).vs (i : Int) (by omega)
  have har : ∀ k, k < s.ar.length → 0 ≤ gI s.ar k ∧ gI s.ar k < ((frN ss ss.length).cs.length : Int) := fun k hk => by rw [hcl]; exact hai k hk
  have h4 : s.ar.length ≤ 4 := by have := arS_le s.k; omega
  have kk : s.k = 1 ∨ s.k = 2 ∨ s.k = 3 ∨ s.k = 4 ∨ s.k = 5 ∨ s.k = 6 ∨ s.k = 7 ∨ s.k = 8 ∨ s.k = 9 ∨ s.k = 10 ∨ s.k = 11 ∨ s.k = 12 ∨ s.k = 13 ∨ s.k = 14 := by
    unfold arS at h0
    repeat' split at h0
    all_goals omega
  generalize hf : frN ss ss.length = f at *
  obtain ⟨k, nm, ar, r⟩ := s
  simp only at *
  rcases kk with rfl | rfl | rfl | rfl | rfl | rfl | rfl | rfl | rfl | rfl | rfl | rfl | rfl | rfl
  · obtain rfl : ar = [] := List.length_eq_zero_iff.1 (by rw [show arS 1 = 0 from rfl] at hal; omega)
    refine hyStepC ss gs f.cs f.vs i _ _ _ _ hi hs hcl rfl har h4 cp ?_
    rw [show (ptsN f.cs []).map coA = [] from by simp [ptsN]]
    exact hyE0 1 _ _ _ (.inl (by omega))
  · obtain ⟨a, b, rfl, la, lb⟩ := ar2 (n := ss.length) (by rw [hal]; rfl) hai
    refine hyStepC ss gs f.cs f.vs i _ _ _ _ hi hs hcl rfl har h4 cp ?_
    simp only [gI, List.getD_cons_zero, List.getD_cons_succ, Int.toNat_natCast, List.getD_nil]
    rw [show (ptsN f.cs [((a : Nat) : Int), ((b : Nat) : Int)]).map coA = [coA (f.cs.getD a ([], [])), coA (f.cs.getD b ([], []))] from by simp [ptsN]]
    exact hyE0 2 _ _ _ (.inl (by omega))
  · obtain ⟨a, b, c, rfl, la, lb, lc⟩ := ar3 (n := ss.length) (by rw [hal]; rfl) hai
    refine hyStepC ss gs f.cs f.vs i _ _ _ _ hi hs hcl rfl har h4 cp ?_
    simp only [gI, List.getD_cons_zero, List.getD_cons_succ, Int.toNat_natCast, List.getD_nil]
    rw [show (ptsN f.cs [((a : Nat) : Int), ((b : Nat) : Int), ((c : Nat) : Int)]).map coA = [coA (f.cs.getD a ([], [])), coA (f.cs.getD b ([], [])), coA (f.cs.getD c ([], []))] from by simp [ptsN]]
    exact hyE0 3 _ _ _ (.inl (by omega))
  · obtain ⟨a, b, c, rfl, la, lb, lc⟩ := ar3 (n := ss.length) (by rw [hal]; rfl) hai
    refine hyStepC ss gs f.cs f.vs i _ _ _ _ hi hs hcl rfl har h4 cp ?_
    simp only [gI, List.getD_cons_zero, List.getD_cons_succ, Int.toNat_natCast, List.getD_nil]
    rw [show (ptsN f.cs [((a : Nat) : Int), ((b : Nat) : Int), ((c : Nat) : Int)]).map coA = [coA (f.cs.getD a ([], [])), coA (f.cs.getD b ([], [])), coA (f.cs.getD c ([], []))] from by simp [ptsN]]
    exact hyE0 4 _ _ _ (.inl (by omega))
  · obtain ⟨a, b, rfl, la, lb⟩ := ar2 (n := ss.length) (by rw [hal]; rfl) hai
    refine hyStepC ss gs f.cs f.vs i _ _ _ _ hi hs hcl rfl har h4 cp ?_
    simp only [gI, List.getD_cons_zero, List.getD_cons_succ, Int.toNat_natCast, List.getD_nil]
    rw [show (ptsN f.cs [((a : Nat) : Int), ((b : Nat) : Int)]).map coA = [coA (f.cs.getD a ([], [])), coA (f.cs.getD b ([], []))] from by simp [ptsN]]
    exact hyE0 5 _ _ _ (.inl (by omega))
  · obtain ⟨a, b, rfl, la, lb⟩ := ar2 (n := ss.length) (by rw [hal]; rfl) hai
    refine hyStepC ss gs f.cs f.vs i _ _ _ _ hi hs hcl rfl har h4 cp ?_
    simp only [gI, List.getD_cons_zero, List.getD_cons_succ, Int.toNat_natCast, List.getD_nil]
    rw [show (ptsN f.cs [((a : Nat) : Int), ((b : Nat) : Int)]).map coA = [coA (f.cs.getD a ([], [])), coA (f.cs.getD b ([], []))] from by simp [ptsN]]
    obtain ⟨w, hw, hw2⟩ := hcv rfl
    rw [parM_some hw]
    exact hyE6 (varM w) (var_pb w) (hcb a) (hcb b) (hcb i)
  · obtain ⟨a, b, c, rfl, la, lb, lc⟩ := ar3 (n := ss.length) (by rw [hal]; rfl) hai
    refine hyStepC ss gs f.cs f.vs i _ _ _ _ hi hs hcl rfl har h4 cp ?_
    simp only [gI, List.getD_cons_zero, List.getD_cons_succ, Int.toNat_natCast, List.getD_nil]
    rw [show (ptsN f.cs [((a : Nat) : Int), ((b : Nat) : Int), ((c : Nat) : Int)]).map coA = [coA (f.cs.getD a ([], [])), coA (f.cs.getD b ([], [])), coA (f.cs.getD c ([], []))] from by simp [ptsN]]
    exact hyE7 _ (hcb a) (hcb b) (hcb c) (hcb i)
  · obtain ⟨a, b, c, rfl, la, lb, lc⟩ := ar3 (n := ss.length) (by rw [hal]; rfl) hai
    refine hyStepC ss gs f.cs f.vs i _ _ _ _ hi hs hcl rfl har h4 cp ?_
    simp only [gI, List.getD_cons_zero, List.getD_cons_succ, Int.toNat_natCast, List.getD_nil]
    rw [show (ptsN f.cs [((a : Nat) : Int), ((b : Nat) : Int), ((c : Nat) : Int)]).map coA = [coA (f.cs.getD a ([], [])), coA (f.cs.getD b ([], [])), coA (f.cs.getD c ([], []))] from by simp [ptsN]]
    exact hyE8 _ (hcb a) (hcb b) (hcb c) (hcb i)
  · obtain ⟨a, b, c, d, rfl, la, lb, lc, ld⟩ := ar4 (n := ss.length) (by rw [hal]; rfl) hai
    refine hyStepC ss gs f.cs f.vs i _ _ _ _ hi hs hcl rfl har h4 cp ?_
    simp only [gI, List.getD_cons_zero, List.getD_cons_succ, Int.toNat_natCast, List.getD_nil]
    rw [show (ptsN f.cs [((a : Nat) : Int), ((b : Nat) : Int), ((c : Nat) : Int), ((d : Nat) : Int)]).map coA = [coA (f.cs.getD a ([], [])), coA (f.cs.getD b ([], [])), coA (f.cs.getD c ([], [])), coA (f.cs.getD d ([], []))] from by simp [ptsN]]
    exact hyE9 _ (hcb a) (hcb b) (hcb c) (hcb d) (hcb i)
  · obtain ⟨a, b, c, rfl, la, lb, lc⟩ := ar3 (n := ss.length) (by rw [hal]; rfl) hai
    refine hyStepC ss gs f.cs f.vs i _ _ _ _ hi hs hcl rfl har h4 cp ?_
    simp only [gI, List.getD_cons_zero, List.getD_cons_succ, Int.toNat_natCast, List.getD_nil]
    rw [show (ptsN f.cs [((a : Nat) : Int), ((b : Nat) : Int), ((c : Nat) : Int)]).map coA = [coA (f.cs.getD a ([], [])), coA (f.cs.getD b ([], [])), coA (f.cs.getD c ([], []))] from by simp [ptsN]]
    exact hyE10 _ (hcb a) (hcb b) (hcb c) (hcb i)
  · obtain ⟨a, b, c, rfl, la, lb, lc⟩ := ar3 (n := ss.length) (by rw [hal]; rfl) hai
    refine hyStepC ss gs f.cs f.vs i _ _ _ _ hi hs hcl rfl har h4 cp ?_
    simp only [gI, List.getD_cons_zero, List.getD_cons_succ, Int.toNat_natCast, List.getD_nil]
    rw [show (ptsN f.cs [((a : Nat) : Int), ((b : Nat) : Int), ((c : Nat) : Int)]).map coA = [coA (f.cs.getD a ([], [])), coA (f.cs.getD b ([], [])), coA (f.cs.getD c ([], []))] from by simp [ptsN]]
    exact hyE11 _ (hcb a) (hcb b) (hcb c) (hcb i)
  · obtain ⟨a, b, c, d, rfl, la, lb, lc, ld⟩ := ar4 (n := ss.length) (by rw [hal]; rfl) hai
    refine hyStepC ss gs f.cs f.vs i _ _ _ _ hi hs hcl rfl har h4 cp ?_
    simp only [gI, List.getD_cons_zero, List.getD_cons_succ, Int.toNat_natCast, List.getD_nil]
    rw [show (ptsN f.cs [((a : Nat) : Int), ((b : Nat) : Int), ((c : Nat) : Int), ((d : Nat) : Int)]).map coA = [coA (f.cs.getD a ([], [])), coA (f.cs.getD b ([], [])), coA (f.cs.getD c ([], [])), coA (f.cs.getD d ([], []))] from by simp [ptsN]]
    exact hyE12 _ (hcb a) (hcb b) (hcb c) (hcb d) (hcb i)
  · obtain ⟨a, b, c, d, rfl, la, lb, lc, ld⟩ := ar4 (n := ss.length) (by rw [hal]; rfl) hai
    refine hyStepC ss gs f.cs f.vs i _ _ _ _ hi hs hcl rfl har h4 cp ?_
    simp only [gI, List.getD_cons_zero, List.getD_cons_succ, Int.toNat_natCast, List.getD_nil]
    rw [show (ptsN f.cs [((a : Nat) : Int), ((b : Nat) : Int), ((c : Nat) : Int), ((d : Nat) : Int)]).map coA = [coA (f.cs.getD a ([], [])), coA (f.cs.getD b ([], [])), coA (f.cs.getD c ([], [])), coA (f.cs.getD d ([], []))] from by simp [ptsN]]
    exact hyE13 _ (hcb a) (hcb b) (hcb c) (hcb d) (hcb i)
  · obtain ⟨a, b, rfl, la, lb⟩ := ar2 (n := ss.length) (by rw [hal]; rfl) hai
    refine hyStepC ss gs f.cs f.vs i _ _ _ _ hi hs hcl rfl har h4 cp ?_
    simp only [gI, List.getD_cons_zero, List.getD_cons_succ, Int.toNat_natCast, List.getD_nil]
    rw [show (ptsN f.cs [((a : Nat) : Int), ((b : Nat) : Int)]).map coA = [coA (f.cs.getD a ([], [])), coA (f.cs.getD b ([], []))] from by simp [ptsN]]
    exact hyE14 _ (hcb a) (hcb b) (hcb i)
set_option maxHeartbeats 8000000 in
theorem rhSt {ss : List RS} {gs : List RG} (hl : ss.length ≤ 8) (ok : FigOk ss) (ht : thinB ss gs = true) {i : Nat} (hi : i < ss.length) : Pure Tryz.prog 36 [figA ss gs, frmA (frN ss ss.length).cs (frN ss ss.length).vs, iv i] (.tup [.sl 1 ((eqE ss i).map poA), iv 0]) := by
  have hcb := (few_cb hl ok ht).2
  have hvl := vs_le ss ss.length
  have hcl := frN_len ss ss.length
  have hcv := fun hk => circ_var (ss := ss) hi hk
  obtain ⟨h0, hal, hai, -⟩ := errS_ok hi (ok.er i hi)
  have hai : ∀ k, k < ss[i].ar.length → 0 ≤ gI ss[i].ar k ∧ gI ss[i].ar k < (ss.length : Int) := fun k hk => by have := hai k hk; omega
  generalize hs : ss[i] = s at *
  rw [eqE_at hi hs]
  have kk : s.k = 1 ∨ s.k = 2 ∨ s.k = 3 ∨ s.k = 4 ∨ s.k = 5 ∨ s.k = 6 ∨ s.k = 7 ∨ s.k = 8 ∨ s.k = 9 ∨ s.k = 10 ∨ s.k = 11 ∨ s.k = 12 ∨ s.k = 13 ∨ s.k = 14 := by
    unfold arS at h0
    repeat' split at h0
    all_goals omega
  generalize hf : frN ss ss.length = f at *
  obtain ⟨k, nm, ar, r⟩ := s
  simp only at *
  rcases kk with rfl | rfl | rfl | rfl | rfl | rfl | rfl | rfl | rfl | rfl | rfl | rfl | rfl | rfl
  · obtain rfl : ar = [] := List.length_eq_zero_iff.1 (by rw [show arS 1 = 0 from rfl] at hal; omega)
    refine rhStep0 ss gs f.cs f.vs i _ _ _ hi hs hcl rfl (by rfl)  ?_
    exact rhE0_0 ss gs f.cs f.vs i _ hi hs (.inl (by show (1 : Int) < 6; omega))  _
  · obtain ⟨a, b, rfl, la, lb⟩ := ar2 (n := ss.length) (by rw [hal]; rfl) hai
    refine rhStep2 ss gs f.cs f.vs i _ _ _ hi hs hcl rfl (by rfl) (show a < f.cs.length by omega) rfl (show b < f.cs.length by omega) rfl ?_
    simp only [gI, List.getD_cons_zero, List.getD_cons_succ, Int.toNat_natCast, List.getD_nil]
    exact rhE0_2 ss gs f.cs f.vs i _ hi hs (.inl (by show (2 : Int) < 6; omega)) _ _ _
  · obtain ⟨a, b, c, rfl, la, lb, lc⟩ := ar3 (n := ss.length) (by rw [hal]; rfl) hai
    refine rhStep3 ss gs f.cs f.vs i _ _ _ hi hs hcl rfl (by rfl) (show a < f.cs.length by omega) rfl (show b < f.cs.length by omega) rfl (show c < f.cs.length by omega) rfl ?_
    simp only [gI, List.getD_cons_zero, List.getD_cons_succ, Int.toNat_natCast, List.getD_nil]
    exact rhE0_3 ss gs f.cs f.vs i _ hi hs (.inl (by show (3 : Int) < 6; omega)) _ _ _ _
  · obtain ⟨a, b, c, rfl, la, lb, lc⟩ := ar3 (n := ss.length) (by rw [hal]; rfl) hai
    refine rhStep3 ss gs f.cs f.vs i _ _ _ hi hs hcl rfl (by rfl) (show a < f.cs.length by omega) rfl (show b < f.cs.length by omega) rfl (show c < f.cs.length by omega) rfl ?_
    simp only [gI, List.getD_cons_zero, List.getD_cons_succ, Int.toNat_natCast, List.getD_nil]
    exact rhE0_3 ss gs f.cs f.vs i _ hi hs (.inl (by show (4 : Int) < 6; omega)) _ _ _ _
  · obtain ⟨a, b, rfl, la, lb⟩ := ar2 (n := ss.length) (by rw [hal]; rfl) hai
    refine rhStep2 ss gs f.cs f.vs i _ _ _ hi hs hcl rfl (by rfl) (show a < f.cs.length by omega) rfl (show b < f.cs.length by omega) rfl ?_
    simp only [gI, List.getD_cons_zero, List.getD_cons_succ, Int.toNat_natCast, List.getD_nil]
    exact rhE0_2 ss gs f.cs f.vs i _ hi hs (.inl (by show (5 : Int) < 6; omega)) _ _ _
  · obtain ⟨a, b, rfl, la, lb⟩ := ar2 (n := ss.length) (by rw [hal]; rfl) hai
    refine rhStep2 ss gs f.cs f.vs i _ _ _ hi hs hcl rfl (by rfl) (show a < f.cs.length by omega) rfl (show b < f.cs.length by omega) rfl ?_
    simp only [gI, List.getD_cons_zero, List.getD_cons_succ, Int.toNat_natCast, List.getD_nil]
    obtain ⟨w, hw, hw2⟩ := hcv rfl
    rw [parM_some hw]
    exact rhE6 ss gs f.cs f.vs i _ hi hs rfl w (by omega) (by omega) hw (hcb a) (hcb b) (hcb i)
  · obtain ⟨a, b, c, rfl, la, lb, lc⟩ := ar3 (n := ss.length) (by rw [hal]; rfl) hai
    refine rhStep3 ss gs f.cs f.vs i _ _ _ hi hs hcl rfl (by rfl) (show a < f.cs.length by omega) rfl (show b < f.cs.length by omega) rfl (show c < f.cs.length by omega) rfl ?_
    simp only [gI, List.getD_cons_zero, List.getD_cons_succ, Int.toNat_natCast, List.getD_nil]
    exact rhE7 ss gs f.cs f.vs i _ hi hs rfl (hcb a) (hcb b) (hcb c) (hcb i)
  · obtain ⟨a, b, c, rfl, la, lb, lc⟩ := ar3 (n := ss.length) (by rw [hal]; rfl) hai
    refine rhStep3 ss gs f.cs f.vs i _ _ _ hi hs hcl rfl (by rfl) (show a < f.cs.length by omega) rfl (show b < f.cs.length by omega) rfl (show c < f.cs.length by omega) rfl ?_
    simp only [gI, List.getD_cons_zero, List.getD_cons_succ, Int.toNat_natCast, List.getD_nil]
    exact rhE8 ss gs f.cs f.vs i _ hi hs rfl (hcb a) (hcb b) (hcb c) (hcb i)
  · obtain ⟨a, b, c, d, rfl, la, lb, lc, ld⟩ := ar4 (n := ss.length) (by rw [hal]; rfl) hai
    refine rhStep4 ss gs f.cs f.vs i _ _ _ hi hs hcl rfl (by rfl) (show a < f.cs.length by omega) rfl (show b < f.cs.length by omega) rfl (show c < f.cs.length by omega) rfl (show d < f.cs.length by omega) rfl ?_
    simp only [gI, List.getD_cons_zero, List.getD_cons_succ, Int.toNat_natCast, List.getD_nil]
    exact rhE9 ss gs f.cs f.vs i _ hi hs rfl (hcb a) (hcb b) (hcb c) (hcb d) (hcb i)
  · obtain ⟨a, b, c, rfl, la, lb, lc⟩ := ar3 (n := ss.length) (by rw [hal]; rfl) hai
    refine rhStep3 ss gs f.cs f.vs i _ _ _ hi hs hcl rfl (by rfl) (show a < f.cs.length by omega) rfl (show b < f.cs.length by omega) rfl (show c < f.cs.length by omega) rfl ?_
    simp only [gI, List.getD_cons_zero, List.getD_cons_succ, Int.toNat_natCast, List.getD_nil]
    exact rhE10 ss gs f.cs f.vs i _ hi hs rfl (hcb a) (hcb b) (hcb c) (hcb i)
  · obtain ⟨a, b, c, rfl, la, lb, lc⟩ := ar3 (n := ss.length) (by rw [hal]; rfl) hai
    refine rhStep3 ss gs f.cs f.vs i _ _ _ hi hs hcl rfl (by rfl) (show a < f.cs.length by omega) rfl (show b < f.cs.length by omega) rfl (show c < f.cs.length by omega) rfl ?_
    simp only [gI, List.getD_cons_zero, List.getD_cons_succ, Int.toNat_natCast, List.getD_nil]
    exact rhE11 ss gs f.cs f.vs i _ hi hs rfl (hcb a) (hcb b) (hcb c) (hcb i)
  · obtain ⟨a, b, c, d, rfl, la, lb, lc, ld⟩ := ar4 (n := ss.length) (by rw [hal]; rfl) hai
    refine rhStep4 ss gs f.cs f.vs i _ _ _ hi hs hcl rfl (by rfl) (show a < f.cs.length by omega) rfl (show b < f.cs.length by omega) rfl (show c < f.cs.length by omega) rfl (show d < f.cs.length by omega) rfl ?_
    simp only [gI, List.getD_cons_zero, List.getD_cons_succ, Int.toNat_natCast, List.getD_nil]
    exact rhE12 ss gs f.cs f.vs i _ hi hs rfl (hcb a) (hcb b) (hcb c) (hcb d) (hcb i)
  · obtain ⟨a, b, c, d, rfl, la, lb, lc, ld⟩ := ar4 (n := ss.length) (by rw [hal]; rfl) hai
    refine rhStep4 ss gs f.cs f.vs i _ _ _ hi hs hcl rfl (by rfl) (show a < f.cs.length by omega) rfl (show b < f.cs.length by omega) rfl (show c < f.cs.length by omega) rfl (show d < f.cs.length by omega) rfl ?_
    simp only [gI, List.getD_cons_zero, List.getD_cons_succ, Int.toNat_natCast, List.getD_nil]
    exact rhE13 ss gs f.cs f.vs i _ hi hs rfl (hcb a) (hcb b) (hcb c) (hcb d) (hcb i)
  · obtain ⟨a, b, rfl, la, lb⟩ := ar2 (n := ss.length) (by rw [hal]; rfl) hai
    refine rhStep2 ss gs f.cs f.vs i _ _ _ hi hs hcl rfl (by rfl) (show a < f.cs.length by omega) rfl (show b < f.cs.length by omega) rfl ?_
    simp only [gI, List.getD_cons_zero, List.getD_cons_succ, Int.toNat_natCast, List.getD_nil]
    exact rhE14 ss gs f.cs f.vs i _ hi hs rfl (hcb a) (hcb b) (hcb i)
end Go.Proofs.YtbgmnobnaplmlaaGreat
end

section
namespace Go.Proofs.YtbgmnobnaplmlaaGreat
open Go Go.RowKit Go.Pg Go.Pol
set_option linter.unusedSimpArgs false
set_option linter.unusedVariables false
set_option maxRecDepth 20000
attribute [local go_sem] Tryz.underlying3 Tryz.underlying4 Tryz.underlying178 Tryz.underlying9 Tryz.underlying48 Tryz.underlying31 Tryz.underlying43 Tryz.underlying41 Tryz.underlying39 Tryz.underlying50 Tryz.underlying22 Tryz.underlying25 Tryz.underlying56 Tryz.underlying28 Tryz.underlying72 Tryz.underlying27 Tryz.underlying30 Tryz.underlying105 Tryz.underlying107 Tryz.underlying70 Tryz.underlying63 Tryz.underlying103 Tryz.underlying154 sz3 by3 z3 szB zB szErr zErr szStr byStr zStr szRat zRat szInt zInt szNat zNat szStep byStep zStep szFig zFig szSlI zSlI szSlS zSlS szVar byVar zVar szSlV zSlV szCoord byCoord zCoord szSlC zSlC szFrame zFrame szCBld byCBld zCBld szCVec byCVec zCVec szPoly byPoly zPoly szTerm zTerm szPtrB zPtrB szFnC zFnC Tryz.underlying135 szHVec byHVec zHVec Tryz.underlying78 szSlP zSlP Tryz.underlying124 Tryz.underlying23 szL byL zL szFact byFact zFact szSlF zSlF
attribute [-bool_to_prop] Bool.and_eq_decide Bool.or_eq_decide Bool.decide_beq_decide decide_eq_decide
/-! ### the hypotheses of all steps -/
def bigE (E : Nat → List Po) (i : Nat) : Bool := (E i).any fun p => decide (4000 < p.length)
def hypL (E : Nat → List Po) : Nat → List Po
  | 0 => []
  | i + 1 => hypL E i ++ E i
theorem any_yes {E : Nat → List Po} {i n : Nat} (hi : i < n) (h : bigE E i = true) : (List.range n).any (bigE E) = true := List.any_eq_true.2 ⟨i, List.mem_range.2 hi, h⟩
theorem any_no {E : Nat → List Po} {n : Nat} (h : ∀ j, j < n → bigE E j = false) : (List.range n).any (bigE E) = false := by
  rw [List.any_eq_false]
  intro j hj
  rw [h j (List.mem_range.1 hj)]; simp
set_option maxHeartbeats 8000000 in
theorem hyOf (ss : List RS) (gs : List RG) (cs : List Pt) (vs : List Vt) (E : Nat → List Po) (hE : ∀ i, (E i).length ≤ 10) (hl : ss.length ≤ 1000)
    (co : Pure Tryz.prog 15 [figA ss gs] (.tup [frmA cs vs, iv 0]))
    (hst : ∀ i, i < ss.length → Pure Tryz.prog 35 [figA ss gs, frmA cs vs, iv i] (.tup [.sl 1 ((E i).map poA), iv 0])) :
    Pure Tryz.prog 38 [figA ss gs] (if (List.range ss.length).any (bigE E) = true then .tup [.v (.slice none 0 0), iv 4] else .tup [.sl 1 ((hypL E ss.length).map poA), iv 0]) := by
  have co : Pure Tryz.prog 15 [.agg [.sl 6 (ss.map RS.av), .sl 5 (gs.map RG.av)]] (.tup [.agg [.sl 2 (cs.map coA), .sl 3 (vs.map Vt.av)], iv 0]) := co
  have hst : ∀ i, i < ss.length → Pure Tryz.prog 35 [.agg [.sl 6 (ss.map RS.av), .sl 5 (gs.map RG.av)], .agg [.sl 2 (cs.map coA), .sl 3 (vs.map Vt.av)], iv i] (.tup [.sl 1 ((E i).map poA), iv 0]) := hst
  have hls : (ss.map RS.av).length = ss.length := List.length_map ..
  have hhl : ∀ i, i ≤ ss.length → (hypL E i).length ≤ 10 * i := fun i => by
    induction i with
    | zero => intro _; simp [hypL]
    | succ i ih =>
      intro h
      have h1 := ih (by omega)
      have h2 := hE i
      have h3 : hypL E (i + 1) = hypL E i ++ E i := rfl
      rw [h3, List.length_append]; omega
  show Pure _ _ [.agg [.sl 6 (ss.map RS.av), .sl 5 (gs.map RG.av)]] _
  generalize ss.map RS.av = M at *
  generalize gs.map RG.av = N at *
  generalize cs.map coA = C at *
  generalize vs.map Vt.av = V at *
  refine pure_intro (tok := 0) Tryz.func38 rfl Tryz.ntmps38 Tryz.results38 Tryz.call38 (by rfl) (by simp) ?_
  (focus (refine wkap (w_a hls w_t) (w_a co w_t) (w_r 0) ?_; (repeat' first | exact w_t | apply w_l); all_goals intros))
  rename_i g1 g4
  refine r_frz (Frz.nilOwn (d := 6) 48 1 70 (by exact gC)) ?_
  refine r_loopE (ι := Nat) (fun i e m => i ≤ ss.length ∧ e 1 = .pbox 1 g1 0 ∧ m 1 = some (.box g1 25 [.sl 6 M, .sl 5 N] false) ∧ e 4 = .pbox 4 g4 0 ∧ m 4 = some (.box g4 30 [.sl 2 C, .sl 3 V] false) ∧ e 21 = .sl 6 M ∧ e 22 = iv ss.length ∧ e 23 = iv i ∧ (∃ sv, e 6 = .own 48 sv ∧ m 48 = some (.row sv 70 1 ((hypL E i).map poA) 0)) ∧ ∀ j, j < i → bigE E j = false) (fun i => ss.length - i) 0 (by rfl) ?_ ?_
  · rintro i e m ⟨hi, e1, m1, e4, m4, e21, e22, e23, ⟨sv, e6, m6⟩, hj⟩
    by_cases hlt : i < ss.length
    · have cst := hst i hlt
      have hyes : bigE E i = true → (List.range ss.length).any (bigE E) = true := any_yes hlt
      have hnx : bigE E i = false → ∀ j, j < i + 1 → bigE E j = false := fun h j hjj => by
        by_cases e : j = i
        · rw [e]; exact h
        · exact hj j (by omega)
      have hrow : (hypL E (i + 1)).map poA = (hypL E i).map poA ++ (E i).map poA := by show (hypL E i ++ E i).map poA = _; rw [List.map_append]
      have hll : ((hypL E i).map poA).length ≤ 10000 := by rw [List.length_map]; have := hhl i hi; omega
      have hbig : bigE E i = (E i).any fun p => decide (4000 < p.length) := rfl
      have hle := hE i
      have hgE : ∀ y (h : y < (E i).length), ((E i).map poA).getD y .u = .sl 4 ((E i)[y].map tmA) := fun y h => map_atB poA h
      have hlE : ((E i).map poA).length = (E i).length := List.length_map ..
      clear hst hhl hj co
      generalize bigE E i = b at *
      generalize (hypL E i).map poA = R at *
      generalize (E i).map poA = LA at *
      generalize hL : E i = L at *
      (focus (refine wkap (w_a e1 (w_a m1 (w_a e4 (w_a m4 (w_a e21 (w_a e22 (w_a e23 (w_a e6 (w_a m6 (w_a hls (w_a hlE w_t))))))))))) (w_a cst w_t) (w_r 0) ?_; (repeat' first | exact w_t | apply w_l); all_goals intros))
      refine r_loopE (ι := Nat) (fun y e m => y ≤ L.length ∧ e 1 = .pbox 1 g1 0 ∧ m 1 = some (.box g1 25 [.sl 6 M, .sl 5 N] false) ∧ e 4 = .pbox 4 g4 0 ∧ m 4 = some (.box g4 30 [.sl 2 C, .sl 3 V] false) ∧ e 21 = .sl 6 M ∧ e 22 = iv ss.length ∧ e 23 = iv i ∧ e 6 = .own 48 sv ∧ m 48 = some (.row sv 70 1 R 0) ∧ e 8 = .sl 1 LA ∧ e 36 = .sl 1 LA ∧ e 37 = iv L.length ∧ e 38 = iv y ∧ ∀ j (h : j < L.length), j < y → ¬ 4000 < L[j].length) (fun y => L.length - y) 0 (by rfl) ?_ ?_
      · rintro y e m ⟨hy, e1, m1, e4, m4, e21, e22, e23, e6, m6, e8, e36, e37, e38, hq⟩
        by_cases hly : y < L.length
        · have hgy := hgE y hly
          have hpl : (L[y].map tmA).length = L[y].length := List.length_map ..
          have hby : 4000 < L[y].length → b = true := fun h => by rw [hbig, List.any_eq_true]; exact ⟨L[y], List.getElem_mem hly, by simpa using h⟩
          have hqx : ¬ 4000 < L[y].length → ∀ j (h : j < L.length), j < y + 1 → ¬ 4000 < L[j].length := fun h j hjj h2 => by
            by_cases e : j = y
            · subst e; exact h
            · exact hq j hjj (by omega)
          clear hq hbig hgE hrow
          generalize L[y].map tmA = P at *
          by_cases h4 : 4000 < L[y].length
          · rw [if_pos (hyes (hby h4))]
            clear hqx hby hnx hyes
            (focus (refine wklp (w_a e1 (w_a m1 (w_a e4 (w_a m4 (w_a e21 (w_a e22 (w_a e23 (w_a e6 (w_a m6 (w_a e8 (w_a e36 (w_a e37 (w_a e38 (w_a hls (w_a hlE (w_a hgy (w_a hpl w_t))))))))))))))))) w_t w_t (w_r 0) ?_; (repeat' first | exact w_t | apply w_l); all_goals intros))
          · have := hqx h4
            clear hqx hby hnx hyes
            (focus (refine wkap (w_a e1 (w_a m1 (w_a e4 (w_a m4 (w_a e21 (w_a e22 (w_a e23 (w_a e6 (w_a m6 (w_a e8 (w_a e36 (w_a e37 (w_a e38 (w_a hls (w_a hlE (w_a hgy (w_a hpl w_t))))))))))))))))) w_t (w_r 0) ?_; (repeat' first | exact w_t | apply w_l); all_goals intros))
            exact ⟨y + 1, ⟨by omega, by exact gW e1, by exact gW m1, by exact gW e4, by exact gW m4, by exact gW e21, by exact gW e22, by exact gW e23, by exact gW e6, by exact gW m6, by exact gW e8, by exact gW e36, by exact gW e37, by exact gS, this⟩, by omega⟩
        · have hb : b = false := by
            rw [hbig, List.any_eq_false]
            intro x hx
            obtain ⟨j, hjl, rfl⟩ := List.mem_iff_getElem.1 hx
            have := hq j hjl (by omega)
            simpa using this
          have := hnx hb
          clear hq hbig hgE hnx hyes hb
          (focus (refine wkap (w_a e1 (w_a m1 (w_a e4 (w_a m4 (w_a e21 (w_a e22 (w_a e23 (w_a e6 (w_a m6 (w_a e8 (w_a e36 (w_a e37 (w_a e38 (w_a hls (w_a hlE w_t))))))))))))))) w_t (w_r 0) ?_; (repeat' first | exact w_t | apply w_l); all_goals intros))
          exact ⟨i + 1, ⟨by omega, by exact gW e1, by exact gW m1, by exact gW e4, by exact gW m4, by exact gW e21, by exact gW e22, by exact gS, ⟨_, by exact gC, by rw [hrow]; exact gC⟩, this⟩, by omega⟩
      · exact ⟨Nat.zero_le _, by exact gW e1, by exact gW m1, by exact gW e4, by exact gW m4, by exact gW e21, by exact gW e22, by exact gW e23, by exact gW e6, by exact gW m6, by exact gC, by exact gC, by (simp (disch := omega) only [go_sem, hlE] <;> repeat' first | rfl | refine ⟨?_, ?_⟩), by exact gC, fun j h h2 => by omega⟩
    · have hin : i = ss.length := by omega
      subst hin
      rw [if_neg (by rw [any_no hj]; simp)]
      clear hst hhl hj co
      generalize (hypL E ss.length).map poA = R at *
      (focus (refine wklp (w_a e1 (w_a m1 (w_a e4 (w_a m4 (w_a e21 (w_a e22 (w_a e23 (w_a e6 (w_a m6 (w_a hls w_t)))))))))) w_t (w_a m6 w_t) (w_r 0) ?_; (repeat' first | exact w_t | apply w_l); all_goals intros))
  · exact ⟨Nat.zero_le _, by exact gC, by exact gC, by exact gC, by exact gC, by exact gC, by exact gW hls, by exact gC, ⟨_, by exact gC, by (simp (disch := omega) only [go_sem, hypL, List.map_nil] <;> repeat' first | rfl | refine ⟨?_, ?_⟩)⟩, fun j h => by omega⟩
set_option maxHeartbeats 8000000 in
theorem rhOf (ss : List RS) (gs : List RG) (cs : List Pt) (vs : List Vt) (E : Nat → List Po) (hE : ∀ i, (E i).length ≤ 10) (hl : ss.length ≤ 1000)
    (co : Pure Tryz.prog 16 [figA ss gs] (.tup [frmA cs vs, iv 0]))
    (hst : ∀ i, i < ss.length → Pure Tryz.prog 36 [figA ss gs, frmA cs vs, iv i] (.tup [.sl 1 ((E i).map poA), iv 0])) :
    Pure Tryz.prog 39 [figA ss gs] (if (List.range ss.length).any (bigE E) = true then .tup [.v (.slice none 0 0), iv 4] else .tup [.sl 1 ((hypL E ss.length).map poA), iv 0]) := by
  have co : Pure Tryz.prog 16 [.agg [.sl 6 (ss.map RS.av), .sl 5 (gs.map RG.av)]] (.tup [.agg [.sl 2 (cs.map coA), .sl 3 (vs.map Vt.av)], iv 0]) := co
  have hst : ∀ i, i < ss.length → Pure Tryz.prog 36 [.agg [.sl 6 (ss.map RS.av), .sl 5 (gs.map RG.av)], .agg [.sl 2 (cs.map coA), .sl 3 (vs.map Vt.av)], iv i] (.tup [.sl 1 ((E i).map poA), iv 0]) := hst
  have hls : (ss.map RS.av).length = ss.length := List.length_map ..
  have hhl : ∀ i, i ≤ ss.length → (hypL E i).length ≤ 10 * i := fun i => by
    induction i with
    | zero => intro _; simp [hypL]
    | succ i ih =>
      intro h
      have h1 := ih (by omega)
      have h2 := hE i
      have h3 : hypL E (i + 1) = hypL E i ++ E i := rfl
      rw [h3, List.length_append]; omega
  show Pure _ _ [.agg [.sl 6 (ss.map RS.av), .sl 5 (gs.map RG.av)]] _
  generalize ss.map RS.av = M at *
  generalize gs.map RG.av = N at *
  generalize cs.map coA = C at *
  generalize vs.map Vt.av = V at *
  refine pure_intro (tok := 0) Tryz.func39 rfl Tryz.ntmps39 Tryz.results39 Tryz.call39 (by rfl) (by simp) ?_
  (focus (refine wkap (w_a hls w_t) (w_a co w_t) (w_r 0) ?_; (repeat' first | exact w_t | apply w_l); all_goals intros))
  rename_i g1 g4
  refine r_frz (Frz.nilOwn (d := 6) 47 1 70 (by exact gC)) ?_
  refine r_loopE (ι := Nat) (fun i e m => i ≤ ss.length ∧ e 1 = .pbox 1 g1 0 ∧ m 1 = some (.box g1 25 [.sl 6 M, .sl 5 N] false) ∧ e 4 = .pbox 4 g4 0 ∧ m 4 = some (.box g4 30 [.sl 2 C, .sl 3 V] false) ∧ e 7 = iv i ∧ (∃ sv, e 6 = .own 47 sv ∧ m 47 = some (.row sv 70 1 ((hypL E i).map poA) 0)) ∧ ∀ j, j < i → bigE E j = false) (fun i => ss.length - i) 0 (by rfl) ?_ ?_
  · rintro i e m ⟨hi, e1, m1, e4, m4, e7, ⟨sv, e6, m6⟩, hj⟩
    by_cases hlt : i < ss.length
    · have cst := hst i hlt
      have hyes : bigE E i = true → (List.range ss.length).any (bigE E) = true := any_yes hlt
      have hnx : bigE E i = false → ∀ j, j < i + 1 → bigE E j = false := fun h j hjj => by
        by_cases e : j = i
        · rw [e]; exact h
        · exact hj j (by omega)
      have hrow : (hypL E (i + 1)).map poA = (hypL E i).map poA ++ (E i).map poA := by show (hypL E i ++ E i).map poA = _; rw [List.map_append]
      have hll : ((hypL E i).map poA).length ≤ 10000 := by rw [List.length_map]; have := hhl i hi; omega
      have hbig : bigE E i = (E i).any fun p => decide (4000 < p.length) := rfl
      have hle := hE i
      have hgE : ∀ y (h : y < (E i).length), ((E i).map poA).getD y .u = .sl 4 ((E i)[y].map tmA) := fun y h => map_atB poA h
      have hlE : ((E i).map poA).length = (E i).length := List.length_map ..
      clear hst hhl hj co
      generalize bigE E i = b at *
      generalize (hypL E i).map poA = R at *
      generalize (E i).map poA = LA at *
      generalize hL : E i = L at *
      (focus (refine wkap (w_a e1 (w_a m1 (w_a e4 (w_a m4 (w_a e7 (w_a e6 (w_a m6 (w_a hls (w_a hlE w_t))))))))) (w_a cst w_t) (w_r 0) ?_; (repeat' first | exact w_t | apply w_l); all_goals intros))
      refine r_loopE (ι := Nat) (fun y e m => y ≤ L.length ∧ e 1 = .pbox 1 g1 0 ∧ m 1 = some (.box g1 25 [.sl 6 M, .sl 5 N] false) ∧ e 4 = .pbox 4 g4 0 ∧ m 4 = some (.box g4 30 [.sl 2 C, .sl 3 V] false) ∧ e 7 = iv i ∧ e 6 = .own 47 sv ∧ m 47 = some (.row sv 70 1 R 0) ∧ e 8 = .sl 1 LA ∧ e 10 = iv y ∧ ∀ j (h : j < L.length), j < y → ¬ 4000 < L[j].length) (fun y => L.length - y) 0 (by rfl) ?_ ?_
      · rintro y e m ⟨hy, e1, m1, e4, m4, e7, e6, m6, e8, e10, hq⟩
        by_cases hly : y < L.length
        · have hgy := hgE y hly
          have hpl : (L[y].map tmA).length = L[y].length := List.length_map ..
          have hby : 4000 < L[y].length → b = true := fun h => by rw [hbig, List.any_eq_true]; exact ⟨L[y], List.getElem_mem hly, by simpa using h⟩
          have hqx : ¬ 4000 < L[y].length → ∀ j (h : j < L.length), j < y + 1 → ¬ 4000 < L[j].length := fun h j hjj h2 => by
            by_cases e : j = y
            · subst e; exact h
            · exact hq j hjj (by omega)
          clear hq hbig hgE hrow
          generalize L[y].map tmA = P at *
          by_cases h4 : 4000 < L[y].length
          · rw [if_pos (hyes (hby h4))]
            clear hqx hby hnx hyes
            (focus (refine wklp (w_a e1 (w_a m1 (w_a e4 (w_a m4 (w_a e7 (w_a e6 (w_a m6 (w_a e8 (w_a e10 (w_a hls (w_a hlE (w_a hgy (w_a hpl w_t))))))))))))) w_t w_t (w_r 0) ?_; (repeat' first | exact w_t | apply w_l); all_goals intros))
          · have := hqx h4
            clear hqx hby hnx hyes
            (focus (refine wkap (w_a e1 (w_a m1 (w_a e4 (w_a m4 (w_a e7 (w_a e6 (w_a m6 (w_a e8 (w_a e10 (w_a hls (w_a hlE (w_a hgy (w_a hpl w_t))))))))))))) w_t (w_r 0) ?_; (repeat' first | exact w_t | apply w_l); all_goals intros))
            exact ⟨y + 1, ⟨by omega, by exact gW e1, by exact gW m1, by exact gW e4, by exact gW m4, by exact gW e7, by exact gW e6, by exact gW m6, by exact gW e8, by exact gS, this⟩, by omega⟩
        · have hb : b = false := by
            rw [hbig, List.any_eq_false]
            intro x hx
            obtain ⟨j, hjl, rfl⟩ := List.mem_iff_getElem.1 hx
            have := hq j hjl (by omega)
            simpa using this
          have := hnx hb
          clear hq hbig hgE hnx hyes hb
          (focus (refine wkap (w_a e1 (w_a m1 (w_a e4 (w_a m4 (w_a e7 (w_a e6 (w_a m6 (w_a e8 (w_a e10 (w_a hls (w_a hlE w_t))))))))))) w_t (w_r 0) ?_; (repeat' first | exact w_t | apply w_l); all_goals intros))
          exact ⟨i + 1, ⟨by omega, by exact gW e1, by exact gW m1, by exact gW e4, by exact gW m4, by exact gS, ⟨_, by exact gC, by rw [hrow]; exact gC⟩, this⟩, by omega⟩
      · exact ⟨Nat.zero_le _, by exact gW e1, by exact gW m1, by exact gW e4, by exact gW m4, by exact gW e7, by exact gW e6, by exact gW m6, by exact gC, by exact gC, fun j h h2 => by omega⟩
    · have hin : i = ss.length := by omega
      subst hin
      rw [if_neg (by rw [any_no hj]; simp)]
      clear hst hhl hj co
      generalize (hypL E ss.length).map poA = R at *
      (focus (refine wklp (w_a e1 (w_a m1 (w_a e4 (w_a m4 (w_a e7 (w_a e6 (w_a m6 (w_a hls w_t)))))))) w_t (w_a m6 w_t) (w_r 0) ?_; (repeat' first | exact w_t | apply w_l); all_goals intros))
  · exact ⟨Nat.zero_le _, by exact gC, by exact gC, by exact gC, by exact gC, by exact gC, ⟨_, by exact gC, by (simp (disch := omega) only [go_sem, hypL, List.map_nil] <;> repeat' first | rfl | refine ⟨?_, ?_⟩)⟩, fun j h => by omega⟩
set_option maxHeartbeats 4000000 in
theorem lwSame (L : List Po) (hl : L.length ≤ 100000) (he : ∀ p ∈ L, Pure Tryz.prog 29 [poA p, poA p] (.v (.bool true))) : Pure Tryz.prog 37 [.sl 1 (L.map poA), .sl 1 (L.map poA)] (.v (.bool true)) := by
  have hlL : (L.map poA).length = L.length := List.length_map ..
  have hg : ∀ y (h : y < L.length), (L.map poA).getD y .u = poA L[y] := fun y h => map_atB poA h
  generalize L.map poA = LA at *
  refine pure_intro (tok := 0) Tryz.func37 rfl Tryz.ntmps37 Tryz.results37 Tryz.call37 (by rfl) (by simp) ?_
  (focus (refine wkad (w_a hlL w_t) w_t w_t ?_; (repeat' first | exact w_t | apply w_l); all_goals intros))
  refine r_loopE (ι := Nat) (fun i e m => i ≤ L.length ∧ e 0 = .sl 1 LA ∧ e 1 = .sl 1 LA ∧ e 5 = iv i) (fun i => L.length - i) 0 (by rfl) ?_ ?_
  · rintro i e m ⟨hi, e0, e1, e5⟩
    by_cases hlt : i < L.length
    · have hgi := hg i hlt
      have ce := he _ (List.getElem_mem hlt)
      clear he hg
      generalize L[i] = p at *
      (focus (refine wkad (w_a e0 (w_a e1 (w_a e5 (w_a hlL (w_a hgi w_t))))) (w_a ce w_t) (w_a (w_d 4 [(8, .v (.bool true))] [] []) w_t) ?_; (repeat' first | exact w_t | apply w_l); all_goals intros))
      exact ⟨i + 1, ⟨by omega, by exact gW e0, by exact gW e1, by exact gS⟩, by omega⟩
    · clear he hg
      (focus (refine wkld (w_a e0 (w_a e1 (w_a e5 (w_a hlL w_t)))) w_t w_t w_t ?_; (repeat' first | exact w_t | apply w_l); all_goals intros))
  · exact ⟨Nat.zero_le _, by exact gC, by exact gC, by exact gC⟩
end Go.Proofs.YtbgmnobnaplmlaaGreat
end

section
namespace Go.Proofs.YtbgmnobnaplmlaaGreat
open Go Go.RowKit Go.Pg Go.Pol
set_option linter.unusedSimpArgs false
set_option linter.unusedVariables false
set_option maxRecDepth 20000
attribute [local go_sem] Tryz.underlying3 Tryz.underlying4 Tryz.underlying43 Tryz.underlying41 Tryz.underlying39 Tryz.underlying63 Tryz.underlying69 Tryz.underlying61 Tryz.underlying70 Tryz.underlying78 sz3 by3 z3 szRat zRat szInt zInt szNat zNat szTerm byTerm zTerm szMono byMono zMono szPoly byPoly zPoly
attribute [-bool_to_prop] Bool.and_eq_decide Bool.or_eq_decide Bool.decide_beq_decide decide_eq_decide
/-! ### polynomials as they come in -/
structure RT where
  r : RQ
  m : List Int
abbrev RT.av (t : RT) : AV := .agg [.v (.bool t.r.s), lim t.r.l, lim t.r.d, ivs t.m]
abbrev RT.tm (t : RT) : Tm := (t.r.q, t.m)
abbrev RT.zero : RT := ⟨⟨false, [], []⟩, []⟩
def RT.ok (t : RT) : Bool := t.r.ok && (decide (t.r.q ≠ 0) && rightB t.m)
def trmOk (l : List RT) (i : Nat) : Bool := (l.getD i RT.zero).ok && (decide (i = 0) || decide (ltM (l.getD i RT.zero).m (l.getD (i - 1) RT.zero).m))
def polOk (l : List RT) : Bool := (List.range l.length).all (trmOk l)
theorem rawAt {l : List RT} {i : Nat} (h : i < l.length) : l.getD i RT.zero = l[i] := by rw [List.getD_eq_getElem?_getD, List.getElem?_eq_getElem h]; rfl
theorem right_in {m : List Int} (h : rightB m = true) : Can m ∧ m.length ≤ 64 ∧ ∀ j, gI m j ≤ 1048576 := by
  unfold rightB at h
  simp only [Bool.and_eq_true, decide_eq_true_eq, Bool.not_eq_true', List.all_eq_true] at h
  obtain ⟨⟨h1, h2⟩, h3⟩ := h
  have hj : ∀ j, 0 ≤ gI m j ∧ gI m j ≤ 1048576 := fun j => by
    by_cases hl : j < m.length
    · have := h3 m[j] (List.getElem_mem hl)
      rw [gI_at hl]
      unfold expOk at this
      simp at this; omega
    · rw [gI_out (by omega)]; omega
  refine ⟨⟨fun j => (hj j).1, ?_⟩, h1, fun j => (hj j).2⟩
  by_cases h0 : m.length = 0
  · exact .inl h0
  · rw [getLast_at (by omega)] at h2
    exact .inr (by simpa using h2)
theorem pol_in {l : List RT} {k : Nat} (h : polOk l = true) (hs : ∀ t ∈ l, t.r.lm k) :
    .sl 4 (l.map RT.av) = poA (l.map RT.tm) ∧ SrtM (l.map RT.tm) ∧ PK (l.map RT.tm) k 1048576 ∧ ∀ t ∈ l, t.m.length ≤ 64 := by
  have hall : ∀ i (hi : i < l.length), l[i].ok = true ∧ (i = 0 ∨ ltM l[i].m (l.getD (i - 1) RT.zero).m) := fun i hi => by
    have := List.all_eq_true.1 h i (List.mem_range.2 hi)
    unfold trmOk at this
    rw [rawAt hi] at this
    simpa using this
  have hok : ∀ t ∈ l, t.r.ok = true ∧ t.r.q ≠ 0 ∧ rightB t.m = true := fun t ht => by
    obtain ⟨i, hi, rfl⟩ := List.mem_iff_getElem.1 ht
    have := (hall i hi).1
    unfold RT.ok at this
    simp only [Bool.and_eq_true, decide_eq_true_eq] at this
    exact this
  refine ⟨?_, ⟨fun u hu => ?_, ?_⟩, fun u hu => ?_, fun t ht => (right_in (hok t ht).2.2).2.1⟩
  · rw [poA, List.map_map]
    congr 1
    refine List.map_congr_left fun t ht => ?_
    have := (RQ.ok_av (hs t ht) (hok t ht).1).1
    simp only [AV.agg.injEq, List.cons.injEq] at this
    show AV.agg [_, _, _, _] = AV.agg [_, _, _, _]
    rw [this.1, this.2.1, this.2.2.1]
  · obtain ⟨t, ht, rfl⟩ := List.mem_map.1 hu
    exact ⟨(hok t ht).2.1, (right_in (hok t ht).2.2).1⟩
  · have key : ∀ d i, i + d + 1 < l.length → ltM (l.getD (i + d + 1) RT.zero).m (l.getD i RT.zero).m := by
      intro d
      induction d with
      | zero =>
        intro i hi
        have := (hall (i + 1) hi).2
        rw [rawAt hi]
        rcases this with h0 | h0
        · omega
        · exact h0
      | succ d ih =>
        intro i hi
        have h1 := ih i (by omega)
        have h2 := (hall (i + (d + 1) + 1) hi).2
        rw [rawAt hi]
        rcases h2 with h0 | h0
        · omega
        · exact ordM.tr _ _ _ h0 h1
    rw [List.pairwise_map, List.pairwise_iff_getElem]
    intro i j hi hj hij
    have := key (j - i - 1) i (by omega)
    rw [show i + (j - i - 1) + 1 = j by omega, rawAt hi, rawAt hj] at this
    exact this
  · obtain ⟨t, ht, rfl⟩ := List.mem_map.1 hu
    obtain ⟨h1, h2, h3⟩ := right_in (hok t ht).2.2
    exact ⟨(RQ.ok_av (hs t ht) (hok t ht).1).2, by show t.m.length ≤ 1000; omega, fun j => ⟨h1.1 j, h3 j⟩⟩
end Go.Proofs.YtbgmnobnaplmlaaGreat
end

section
namespace Go.Proofs.YtbgmnobnaplmlaaGreat
open Go Go.RowKit Go.Pg Go.Pol
set_option linter.unusedSimpArgs false
set_option linter.unusedVariables false
set_option maxRecDepth 20000
attribute [local go_sem] Tryz.underlying3 Tryz.underlying4 Tryz.underlying178 Tryz.underlying9 Tryz.underlying48 Tryz.underlying31 Tryz.underlying43 Tryz.underlying41 Tryz.underlying39 Tryz.underlying50 Tryz.underlying22 Tryz.underlying25 Tryz.underlying56 Tryz.underlying28 Tryz.underlying72 Tryz.underlying27 Tryz.underlying30 Tryz.underlying105 Tryz.underlying107 Tryz.underlying70 Tryz.underlying63 Tryz.underlying103 Tryz.underlying154 sz3 by3 z3 szB zB szErr zErr szStr byStr zStr szRat zRat szInt zInt szNat zNat szStep byStep zStep szFig zFig szSlI zSlI szSlS zSlS szVar byVar zVar szSlV zSlV szCoord byCoord zCoord szSlC zSlC szFrame zFrame szCBld byCBld zCBld szCVec byCVec zCVec szPoly byPoly zPoly szTerm zTerm szPtrB zPtrB szFnC zFnC Tryz.underlying135 szHVec byHVec zHVec Tryz.underlying78 szSlP zSlP Tryz.underlying61 szMono zMono szL byL zL
attribute [-bool_to_prop] Bool.and_eq_decide Bool.or_eq_decide Bool.decide_beq_decide decide_eq_decide
/-! ### small coordinates as they come in -/
def degM (p : Po) : Int := p.foldl (fun n t => max n (sumT t.2 t.2.length)) (-1)
theorem degM_take {p : Po} {i : Nat} (hi : i < p.length) : degM (p.take (i + 1)) = max (degM (p.take i)) (sumT p[i].2 p[i].2.length) := by
  unfold degM
  rw [List.take_succ_eq_append_getElem hi, List.foldl_append]; rfl
theorem sumT_b2 {l : List Int} {e : Nat} (h : ∀ j, 0 ≤ gI l j ∧ gI l j ≤ (e : Int)) : ∀ n, 0 ≤ sumT l n ∧ sumT l n ≤ ((n * e : Nat) : Int)
  | 0 => by simp [sumT]
  | n + 1 => by
    have := sumT_b2 h n
    have h1 := h n
    have h2 : sumT l (n + 1) = sumT l n + gI l n := rfl
    rw [h2, Nat.succ_mul]; omega
def RT.two (t : RT) : Bool := decide (t.m.length ≤ 4) && (decide (t.r.l.length ≤ 2) && decide (t.r.d.length ≤ 2))
def cooP (l : List RT) : Bool := decide (l.length ≤ 6) && (polOk l && l.all fun t => t.two && decide (degM (l.map RT.tm) ≤ 8))
/-- What small coordinates are. -/
theorem coo_in {l : List RT} {k : Nat} (hs : ∀ t ∈ l, t.r.lm k) (h : cooP l = true) : .sl 4 (l.map RT.av) = poA (l.map RT.tm) ∧ PB (l.map RT.tm) 8 110 8 := by
  unfold cooP at h
  simp only [Bool.and_eq_true, decide_eq_true_eq, List.all_eq_true] at h
  obtain ⟨h6, ho, h2⟩ := h
  have h3 : ∀ t ∈ l, t.r.lm 2 := fun t ht => by
    have := (h2 t ht).1
    unfold RT.two at this
    simp only [Bool.and_eq_true, decide_eq_true_eq] at this
    exact ⟨(hs t ht).1, (hs t ht).2.1, this.2.1, this.2.2⟩
  obtain ⟨e, st, pk, -⟩ := pol_in ho h3
  refine ⟨e, st, fun u hu => ?_, by rw [List.length_map]; omega⟩
  obtain ⟨t, ht, rfl⟩ := List.mem_map.1 hu
  have hp := pk _ hu
  refine ⟨hp.1.mono (by omega), hp.2.1, fun j => ⟨(hp.2.2 j).1, ?_⟩⟩
  have hd : sumT t.m t.m.length ≤ 8 := by
    have h4 := (h2 t ht).2
    obtain ⟨i, hi, e⟩ := List.mem_iff_getElem.1 hu
    have h5 : ∀ n, n ≤ (l.map RT.tm).length → i < n → sumT t.m t.m.length ≤ degM ((l.map RT.tm).take n) := fun n => by
      induction n with
      | zero => intro _ h; omega
      | succ n ih =>
        intro hn hin
        rw [degM_take (by omega)]
        by_cases e2 : i = n
        · subst e2
          rw [e]
          exact Int.le_max_right _ _
        · exact Int.le_trans (ih (by omega) (by omega)) (Int.le_max_left _ _)
    have := h5 (l.map RT.tm).length (Nat.le_refl _) hi
    rw [List.take_length] at this
    omega
  have key : ∀ n j, j < n → gI t.m j ≤ sumT t.m n := fun n => by
    induction n with
    | zero => intro j h; omega
    | succ n ih =>
      intro j hj
      have e1 : sumT t.m (n + 1) = sumT t.m n + gI t.m n := rfl
      rw [e1]
      have h0 := (hp.2.2 n).1
      have hb := (sumT_b2 (fun j => (hp.2.2 j)) n).1
      by_cases e2 : j = n
      · subst e2; simp only at *; omega
      · have := ih j (by omega); simp only at *; omega
  by_cases hj : j < t.m.length
  · have := key _ _ hj; simp only; omega
  · show gI t.m j ≤ _; rw [gI_out (by omega)]; omega
end Go.Proofs.YtbgmnobnaplmlaaGreat
end

section
namespace Go.Proofs.YtbgmnobnaplmlaaGreat
open Go Go.RowKit Go.Pg Go.Pol
set_option linter.unusedSimpArgs false
set_option linter.unusedVariables false
set_option maxRecDepth 20000
attribute [local go_sem] Tryz.underlying3 Tryz.underlying4 Tryz.underlying178 Tryz.underlying9 Tryz.underlying48 Tryz.underlying31 Tryz.underlying43 Tryz.underlying41 Tryz.underlying39 Tryz.underlying50 Tryz.underlying22 Tryz.underlying25 Tryz.underlying56 Tryz.underlying28 Tryz.underlying72 Tryz.underlying27 Tryz.underlying30 Tryz.underlying105 Tryz.underlying107 Tryz.underlying70 Tryz.underlying63 Tryz.underlying103 Tryz.underlying154 sz3 by3 z3 szB zB szErr zErr szStr byStr zStr szRat zRat szInt zInt szNat zNat szStep byStep zStep szFig zFig szSlI zSlI szSlS zSlS szVar byVar zVar szSlV zSlV szCoord byCoord zCoord szSlC zSlC szFrame zFrame szCBld byCBld zCBld szCVec byCVec zCVec szPoly byPoly zPoly szTerm zTerm szPtrB zPtrB szFnC zFnC Tryz.underlying135 szHVec byHVec zHVec Tryz.underlying78 szSlP zSlP Tryz.underlying124 Tryz.underlying23 szL byL zL szFact byFact zFact szSlF zSlF
attribute [-bool_to_prop] Bool.and_eq_decide Bool.or_eq_decide Bool.decide_beq_decide decide_eq_decide
/-! ### the chapter's example -/
def ssF : List RS := [⟨1, ⟨#[65]⟩, [], ⟨false, [], []⟩⟩, ⟨1, ⟨#[66]⟩, [], ⟨false, [], []⟩⟩, ⟨1, ⟨#[67]⟩, [], ⟨false, [], []⟩⟩, ⟨7, ⟨#[70]⟩, [2, 0, 1], ⟨false, [], []⟩⟩]
theorem figF : figE ssF [] = 0 := by decide +kernel
theorem bigF : (List.range ssF.length).any (bigN ssF) = false := by decide +kernel
theorem csF : (frN ssF ssF.length).cs = [([], []), (varM 0, []), (varM 1, varM 2), (varM 3, varM 4)] := by kernel_rfl
theorem vsF : (frN ssF ssF.length).vs.length ≤ 64 := by decide +kernel
theorem okF : FigOk ssF := by
  obtain ⟨h1, h2⟩ := figE_ok figF
  refine ⟨h1, h2, fun s hs => ?_, by decide +kernel⟩
  have : ∀ s ∈ ssF, s.r.l = [] ∧ s.r.d = [] := by decide
  obtain ⟨e1, e2⟩ := this s hs
  refine ⟨?_, ?_, by rw [e1]; simp, by rw [e2]; simp⟩
  · rw [e1]; exact fun x hx => by cases hx
  · rw [e2]; exact fun x hx => by cases hx
theorem nil_cb : PB [] 8 110 8 := .nil
theorem var_cb (v : Nat) : PB (varM v) 8 110 8 := (var_pb v).mono (by omega) (by omega) (by omega)
theorem sub_nil (p : Po) : subM p [] = p := addP_nil p
theorem crossF : crossM ([], []) (varM 0, []) ([], []) (varM 3, varM 4) = mlM (varM 0) (varM 4) := by
  unfold crossM
  simp only [sub_nil]
  rw [show mlM [] (varM 3) = [] from mulR_nil _, sub_nil]
theorem dotF : dotM ([], []) (varM 0, []) (varM 1, varM 2) (varM 3, varM 4) = subM (mlM (varM 0) (varM 3)) (mlM (varM 0) (varM 1)) := by
  unfold dotM
  simp only [sub_nil]
  rw [show mlM [] (subM (varM 4) (varM 2)) = [] from mulR_nil _, show ∀ p : Po, addM p [] = p from addP_nil, mul_subR (varM_srt 3) (varM_srt 1) (varM_srt 0)]
theorem coF : Pure Tryz.prog 15 [figA ssF []] (.tup [frmA (frN ssF ssF.length).cs (frN ssF ssF.length).vs, iv 0]) := by
  have sm : ∀ s ∈ ssF, s.sm := fun s hs => by
    have h := okF.lm s hs
    have h2 : ∀ s ∈ ssF, s.nm.size ≤ 1 ∧ s.ar.length ≤ 3 := by decide
    obtain ⟨a, b⟩ := h2 s hs
    exact ⟨lm_mono h (by decide), Nat.le_trans a (by decide), Nat.le_trans b (by decide)⟩
  have cr := lwRight ssF [] (by decide) (by decide) sm (fun g hg => by cases hg)
  rw [figF] at cr
  have := coFrame1 ssF [] cr okF
  rwa [if_neg (by rw [bigF]; decide)] at this
theorem awFoot : Pure Tryz.prog 70 [] (figA ssF []) := by
  refine pure_vkR (r := .agg [.sl 6 [.agg [iv 1, strA ⟨#[65]⟩, .v (.slice none 0 0), .v (.bool false), .v (.slice none 0 0), .v (.slice none 0 0)], .agg [iv 1, strA ⟨#[66]⟩, .v (.slice none 0 0), .v (.bool false), .v (.slice none 0 0), .v (.slice none 0 0)], .agg [iv 1, strA ⟨#[67]⟩, .v (.slice none 0 0), .v (.bool false), .v (.slice none 0 0), .v (.slice none 0 0)], .agg [iv 7, strA ⟨#[70]⟩, .sl 1 [iv 2, iv 0, iv 1], .v (.bool false), .v (.slice none 0 0), .v (.slice none 0 0)]], .v (.slice none 0 0)]) ?_ (Vk.aggL (.cons (Vk.slL (by rfl) (by decide) (by decide) ?_) (.cons (.nil 5) .nil)))
  · refine pure_intro (tok := 0) Tryz.func70 rfl Tryz.ntmps70 Tryz.results70 Tryz.call70 (by rfl) (by simp) ?_
    (focus (refine wklp w_t w_t w_t (w_r 0) ?_; (repeat' first | exact w_t | apply w_l); all_goals intros))
  · exact (.cons (.refl _) (.cons (.refl _) (.cons (.nil 1) (.cons (.refl _) (.cons (.nil 1) (.cons (.nil 1) (.cons (.refl _) (.cons (.refl _) (.cons (.nil 1) (.cons (.refl _) (.cons (.nil 1) (.cons (.nil 1) (.cons (.refl _) (.cons (.refl _) (.cons (.nil 1) (.cons (.refl _) (.cons (.nil 1) (.cons (.nil 1) (.cons (.refl _) (.cons (.refl _) (.cons (.refl _) (.cons (.refl _) (.cons (.nil 1) (.cons (.nil 1) .nil))))))))))))))))))))))))
def EF (i : Nat) : List Po := if i = 3 then [mlM (varM 0) (varM 4), subM (mlM (varM 0) (varM 3)) (mlM (varM 0) (varM 1))] else []
set_option maxHeartbeats 4000000 in
theorem ofF : Pure Tryz.prog 38 [figA ssF []] (.tup [.sl 1 [poA (mlM (varM 0) (varM 4)), poA (subM (mlM (varM 0) (varM 3)) (mlM (varM 0) (varM 1)))], iv 0]) := by
  have hc := csF
  have st : ∀ i, i < ssF.length → Pure Tryz.prog 35 [figA ssF [], frmA (frN ssF ssF.length).cs (frN ssF ssF.length).vs, iv i] (.tup [.sl 1 ((EF i).map poA), iv 0]) := fun i hi => by
    have cp := hyParam (frN ssF ssF.length).cs (frN ssF ssF.length).vs i (by have := vsF; omega)
    have har : ∀ k, k < ssF[i].ar.length → 0 ≤ gI ssF[i].ar k ∧ gI ssF[i].ar k < ((frN ssF ssF.length).cs.length : Int) := fun k hk => by
      have := (errS_ok hi (okF.er i hi)).2.2.1 k hk
      rw [frN_len]; omega
    have h4 : ssF[i].ar.length ≤ 4 := by have h1 := (errS_ok hi (okF.er i hi)).2.1; have := arS_le ssF[i].k; omega
    by_cases h3 : i = 3
    · subst h3
      refine hyStepC ssF [] _ _ 3 ssF[3] (varM 3, varM 4) _ (EF 3) hi rfl (frN_len ssF _) (by rw [hc]; rfl) har h4 cp ?_
      have := hyE7 (a := (varM 1, varM 2)) (b := ([], [])) (c := (varM 0, [])) (x := (varM 3, varM 4)) (parM (frN ssF ssF.length).vs 3) ⟨var_cb 1, var_cb 2⟩ ⟨nil_cb, nil_cb⟩ ⟨var_cb 0, nil_cb⟩ ⟨var_cb 3, var_cb 4⟩
      rw [crossF, dotF] at this
      rw [hc]
      exact this
    · have hk : ssF[i].k = 1 := by
        have : ∀ i (h : i < ssF.length), i ≠ 3 → ssF[i].k = 1 := by decide
        exact this i hi h3
      refine hyStepC ssF [] _ _ i ssF[i] _ _ (EF i) hi rfl (frN_len ssF _) rfl har h4 cp ?_
      rw [hk, show EF i = [] from if_neg h3]
      exact hyE0 1 _ _ _ (.inl (by omega))
  have z04 : PB (mlM (varM 0) (varM 4)) 1 3 2 := ((var_pb 0).mul (var_pb 4)).mono (by omega) (by omega) (by omega)
  have z03 : PB (mlM (varM 0) (varM 3)) 1 3 2 := ((var_pb 0).mul (var_pb 3)).mono (by omega) (by omega) (by omega)
  have z01 : PB (mlM (varM 0) (varM 1)) 1 3 2 := ((var_pb 0).mul (var_pb 1)).mono (by omega) (by omega) (by omega)
  have hb : (List.range ssF.length).any (bigE EF) = false := any_no fun j hj => by
    unfold bigE EF
    split
    · have h1 := z04.l
      have h2 := (z03.sub z01).l
      simp; omega
    · rfl
  have := hyOf ssF [] _ _ EF (fun i => by unfold EF; split <;> simp) (by decide) coF st
  rw [if_neg (by rw [hb]; simp)] at this
  exact this
theorem awV (a b : Nat) (ha : a < 64) (hb : b < 64) : Pure Tryz.prog 71 [iv a, iv b] (poA (mlM (varM a) (varM b))) := by
  have c1 := rpVar a (by omega)
  have c2 := rpVar b (by omega)
  have c3 := (hpMul (var_pb a) (var_pb b) (by omega) (by omega) (by omega) (by omega) (by omega) (by omega) (by omega) (by omega) (by omega)).2
  generalize mlM (varM a) (varM b) = r at *
  generalize varM a = p at *
  generalize varM b = q at *
  refine pure_intro (tok := 0) Tryz.func71 rfl Tryz.ntmps71 Tryz.results71 Tryz.call71 (by rfl) (by simp) ?_
  (focus (refine wkax w_t (w_a c3 w_t) w_t w_t (w_a c1 (w_a c2 w_t)) w_t (w_r 0) ?_; (repeat' first | exact w_t | apply w_l); all_goals intros))
  (all_goals (try simp (disch := omega) only [go_sem, decide_eq_true, decide_eq_false, if_pos, if_neg, Int.reduceAdd, Int.reduceSub, Int.reduceToNat, Int.zero_add])); (all_goals first | done | rfl | (congr 2; first | done | omega | (rw [Bool.eq_iff_iff]; simp only [bool_to_prop, Bool.false_eq_true, iff_true, true_iff, iff_false, false_iff]; omega)) | skip)
set_option maxHeartbeats 4000000 in
theorem aw22 : Pure Tryz.prog 28 [] (.v (.bool true)) := by
  have cF := awFoot
  have cO := ofF
  have k1 : Pure Tryz.prog 71 [iv 0, iv 4] (poA (mlM (varM 0) (varM 4))) := awV 0 4 (by omega) (by omega)
  have k2 : Pure Tryz.prog 71 [iv 0, iv 3] (poA (mlM (varM 0) (varM 3))) := awV 0 3 (by omega) (by omega)
  have k3 : Pure Tryz.prog 71 [iv 0, iv 1] (poA (mlM (varM 0) (varM 1))) := awV 0 1 (by omega) (by omega)
  have z04 : PB (mlM (varM 0) (varM 4)) 1 3 2 := ((var_pb 0).mul (var_pb 4)).mono (by omega) (by omega) (by omega)
  have z03 : PB (mlM (varM 0) (varM 3)) 1 3 2 := ((var_pb 0).mul (var_pb 3)).mono (by omega) (by omega) (by omega)
  have z01 : PB (mlM (varM 0) (varM 1)) 1 3 2 := ((var_pb 0).mul (var_pb 1)).mono (by omega) (by omega) (by omega)
  have cs := (hpSub z03 z01 (by omega) (by omega) (by omega) (by omega) (by omega) (by omega)).2
  have eqs : ∀ {p : Po} {n j e : Nat}, PB p n j e → n ≤ 1000 → j ≤ 1000 → e ≤ 100 → Pure Tryz.prog 29 [poA p, poA p] (.v (.bool true)) := fun {p n j e} h hn hj he => by
    have l := h.l
    have := rpEqual p p h.k h.k h.s.dom h.s.dom (by omega) (by omega) (by omega) (by omega) (by omega) (by omega)
    rwa [decide_eq_true rfl] at this
  have sm := lwSame [mlM (varM 0) (varM 4), subM (mlM (varM 0) (varM 3)) (mlM (varM 0) (varM 1))] (by simp) (fun p hp => by
    rcases List.mem_cons.1 hp with rfl | hp
    · exact eqs z04 (by omega) (by omega) (by omega)
    · rw [List.mem_singleton] at hp
      subst hp
      exact eqs (z03.sub z01) (by omega) (by omega) (by omega))
  have sm : Pure Tryz.prog 37 [.sl 1 [poA (mlM (varM 0) (varM 4)), poA (subM (mlM (varM 0) (varM 3)) (mlM (varM 0) (varM 1)))], .sl 1 [poA (mlM (varM 0) (varM 4)), poA (subM (mlM (varM 0) (varM 3)) (mlM (varM 0) (varM 1)))]] (.v (.bool true)) := sm
  have cF : Pure Tryz.prog 70 [] (.agg [.sl 6 (ssF.map RS.av), .sl 5 []]) := cF
  have cO : Pure Tryz.prog 38 [.agg [.sl 6 (ssF.map RS.av), .sl 5 []]] (.tup [.sl 1 [poA (mlM (varM 0) (varM 4)), poA (subM (mlM (varM 0) (varM 3)) (mlM (varM 0) (varM 1)))], iv 0]) := cO
  clear eqs z04 z03 z01
  generalize ssF.map RS.av = M at *
  generalize subM (mlM (varM 0) (varM 3)) (mlM (varM 0) (varM 1)) = q at *
  generalize mlM (varM 0) (varM 4) = p at *
  generalize mlM (varM 0) (varM 3) = u at *
  generalize mlM (varM 0) (varM 1) = w at *
  refine pure_intro (tok := 0) Tryz.func28 rfl Tryz.ntmps28 Tryz.results28 Tryz.call28 (by rfl) (by simp) ?_
  (focus (refine wkax w_t (w_a cF (w_a cO (w_a cs w_t))) w_t (w_a sm w_t) (w_a k1 (w_a k2 (w_a k3 w_t))) w_t (w_r 0) ?_; (repeat' first | exact w_t | apply w_l); all_goals intros))
  (all_goals (try simp (disch := omega) only [go_sem, decide_eq_true, decide_eq_false, if_pos, if_neg, Int.reduceAdd, Int.reduceSub, Int.reduceToNat, Int.zero_add])); (all_goals first | done | rfl | (congr 2; first | done | omega | (rw [Bool.eq_iff_iff]; simp only [bool_to_prop, Bool.false_eq_true, iff_true, true_iff, iff_false, false_iff]; omega)) | skip)
/-! ### the law -/
/-- A coordinate as it comes in. -/
structure RCo where
  x : List RT
  y : List RT
abbrev RCo.av (c : RCo) : AV := .agg [.sl 4 (c.x.map RT.av), .sl 4 (c.y.map RT.av)]
def RCo.lm (c : RCo) (k : Nat) : Prop := (∀ t ∈ c.x, t.r.lm k) ∧ ∀ t ∈ c.y, t.r.lm k
def RCo.ok (c : RCo) : Bool := cooP c.x && cooP c.y
def RCo.pt (c : RCo) : Pt := (c.x.map RT.tm, c.y.map RT.tm)
theorem RCo.in {c : RCo} {k : Nat} (h : c.lm k) (ho : c.ok = true) : c.av = coA c.pt ∧ CB c.pt := by
  unfold RCo.ok at ho
  rw [Bool.and_eq_true] at ho
  obtain ⟨e1, p1⟩ := coo_in h.1 ho.1
  obtain ⟨e2, p2⟩ := coo_in h.2 ho.2
  exact ⟨by show AV.agg [_, _] = AV.agg [_, _]; rw [e1, e2]; rfl, p1, p2⟩
end Go.Proofs.YtbgmnobnaplmlaaGreat
end

section
namespace Go.Proofs.YtbgmnobnaplmlaaGreat
open Go Go.RowKit Go.Pg Go.Pol
set_option linter.unusedSimpArgs false
set_option linter.unusedVariables false
set_option maxRecDepth 20000
attribute [local go_sem] Tryz.underlying3 Tryz.underlying4 Tryz.underlying178 Tryz.underlying9 Tryz.underlying48 Tryz.underlying31 Tryz.underlying43 Tryz.underlying41 Tryz.underlying39 Tryz.underlying50 Tryz.underlying22 Tryz.underlying25 Tryz.underlying56 Tryz.underlying28 Tryz.underlying72 Tryz.underlying27 Tryz.underlying30 Tryz.underlying105 Tryz.underlying107 Tryz.underlying70 Tryz.underlying63 Tryz.underlying103 Tryz.underlying154 sz3 by3 z3 szB zB szErr zErr szStr byStr zStr szRat zRat szInt zInt szNat zNat szStep byStep zStep szFig zFig szSlI zSlI szSlS zSlS szVar byVar zVar szSlV zSlV szCoord byCoord zCoord szSlC zSlC szFrame zFrame szCBld byCBld zCBld szCVec byCVec zCVec szPoly byPoly zPoly szTerm zTerm szPtrB zPtrB szFnC zFnC
attribute [-bool_to_prop] Bool.and_eq_decide Bool.or_eq_decide Bool.decide_beq_decide decide_eq_decide
set_option maxHeartbeats 16000000 in
theorem rcFrame1 (ss : List RS) (gs : List RG) (cR : Pure Tryz.prog 24 [figA ss gs] (iv 0)) (ho : FigOk ss) :
    Pure Tryz.prog 16 [figA ss gs] (if (List.range ss.length).any (bigN ss) = true then .tup [.agg [.v (.slice none 0 0), .v (.slice none 0 0)], iv 4] else .tup [frmA (frN ss ss.length).cs (frN ss ss.length).vs, iv 0]) := by
  have cR : Pure Tryz.prog 24 [.agg [.sl 6 (ss.map RS.av), .sl 5 (gs.map RG.av)]] (iv 0) := cR
  show Pure _ _ [.agg [.sl 6 (ss.map RS.av), .sl 5 (gs.map RG.av)]] _
  have hg : ∀ i (h : i < ss.length), (ss.map RS.av).getD i .u = ss[i].av := fun i h => map_atB RS.av h
  have hls : (ss.map RS.av).length = ss.length := List.length_map ..
  have hlen := ho.len
  have hN : ∀ (i : Nat) (hlt : i < ss.length) (svC svV : Value) (m' : Mem), m' 21 = some (.row svV 56 3 ((frN ss i).vs.map Vt.av) 0) → m' 20 = some (.row svC 72 2 ((frN ss i).cs.map coA) 0) → (frN ss i).vs.length ≤ 64 → StOk (frN ss i).cs ss[i] → (∀ c ∈ (frN ss i).cs, Co c.1 ∧ Co c.2) →
      ACall Tryz.prog 53 [.agg [.own 20 svC, .own 21 svV], .agg [.sl 6 (ss.map RS.av), .sl 5 (gs.map RG.av)], iv i, iv (frN ss i).fr] m' fun r σ' => ∃ sv, r = .tup [.agg [.own 20 svC, .own 21 sv], coA ((frN ss i).nxt i ss[i]).2] ∧ σ' = upd m' 21 (some (.row sv 56 3 (((frN ss i).vs ++ ((frN ss i).nxt i ss[i]).1).map Vt.av) 0)) :=
    fun i hlt svC svV m' hV hC h1 h2 h3 => rcNext m' 20 21 svC svV (frN ss i).cs (frN ss i).vs (frN ss i).fr i ss gs ss[i] hlt rfl hV hC (by omega) h1 (by have := frN_fr ss i; omega) (by omega) h2 h3
  generalize ss.map RS.av = M at *
  generalize gs.map RG.av = N at *
  refine pure_intro (tok := 0) Tryz.func16 rfl Tryz.ntmps16 Tryz.results16 Tryz.call16 (by rfl) (by simp) ?_
  (focus (refine wkap (w_a hls w_t) (w_a cR w_t) (w_r 0) ?_; (repeat' first | exact w_t | apply w_l); all_goals intros))
  rename_i g1 g2 g5
  refine r_frz (Frz.nilBox (k := 5) 0 20 2 72 (by exact gC) rfl (by omega)) ?_
  refine r_frz (Frz.nilBox (k := 5) 1 21 3 56 (by exact gC) rfl (by omega)) ?_
  refine r_loopE (ι := Nat) (fun i e m => i ≤ ss.length ∧ e 1 = .pbox 1 g1 0 ∧ m 1 = some (.box g1 25 [.sl 6 M, .sl 5 N] false) ∧ e 2 = .pbox 2 g2 0 ∧ m 2 = some (.box g2 30 [.v (.slice none 0 0), .v (.slice none 0 0)] false) ∧ e 5 = .pbox 5 g5 0 ∧ e 6 = iv (frN ss i).fr ∧ e 18 = .sl 6 M ∧ e 19 = iv ss.length ∧ e 20 = iv i ∧ (∃ svC svV, m 5 = some (.box g5 30 [.own 20 svC, .own 21 svV] false) ∧ m 20 = some (.row svC 72 2 ((frN ss i).cs.map coA) 0) ∧ m 21 = some (.row svV 56 3 ((frN ss i).vs.map Vt.av) 0)) ∧ ∀ j, j < i → bigN ss j = false) (fun i => ss.length - i) 0 (by rfl) ?_ ?_
  · rintro i e m ⟨hi, e1, m1, e2, m2, e5, e6, e18, e19, e20, ⟨svC, svV, m5, m20, m21⟩, hbig⟩
    by_cases hlt : i < ss.length
    · have hgi := hg i hlt
      obtain ⟨D, hD, hn⟩ := ho.fi hi hbig
      have hco := hD.co hn
      have hst := ho.st hlt
      have hfr := frN_fr ss i
      have hnv := hD.nv
      have hb := bigN_at hlt
      have hsu := frN_succ hlt
      have hn3 := nxt_vars (frN ss i) i ss[i]
      have hcl := frN_len ss i
      have hst2 := fun m' hV hC => hN i hlt svC svV m' hV hC hnv hst hco
      clear hD hco hst hN hg cR
      generalize hs : ss[i] = s at *
      generalize hf : frN ss i = f at *
      generalize hx : f.nxt i s = nx at *
      obtain ⟨nv, c1, c2⟩ := nx
      obtain ⟨k, nm, ar, ⟨rs, rl, rd⟩⟩ := s
      obtain ⟨cs, vs, fr⟩ := f
      simp only at *
      (focus (refine wkap (w_a e1 (w_a m1 (w_a e2 (w_a m2 (w_a e5 (w_a e6 (w_a e18 (w_a e19 (w_a e20 (w_a m5 (w_a m20 (w_a m21 (w_a hgi (w_a hls w_t)))))))))))))) w_t (w_r 0) ?_; (repeat' first | exact w_t | apply w_l); all_goals intros))
      refine o_fresh (hst2 _ (by exact gW m21) (by exact gW m20)) ?_
      intro sv
      have hvl : ((vs ++ nv).map Vt.av).length = (vs ++ nv).length := List.length_map ..
      have hvl2 : (vs ++ nv).length ≤ 67 := by rw [List.length_append]; omega
      have hnx : ∀ j, j < i + 1 → bigN ss i = false → bigN ss j = false := fun j hj h => by
        by_cases e : j = i
        · rw [e]; exact h
        · exact hbig j (by omega)
      have hany : bigN ss i = true → (List.range ss.length).any (bigN ss) = true := fun h => List.any_eq_true.2 ⟨i, List.mem_range.2 hlt, h⟩
      generalize vs ++ nv = vs2 at *
      have hc1 : (c1.map tmA).length = c1.length := List.length_map ..
      have hc2 : (c2.map tmA).length = c2.length := List.length_map ..
      have hcsl : (cs.map coA).length = cs.length := List.length_map ..
      by_cases b1 : 64 < vs2.length
      · rw [if_pos (hany (by rw [hb]; simp [b1]))]
        (focus (refine wklp (w_a e1 (w_a e2 (w_a m2 (w_a e5 (w_a e6 (w_a e18 (w_a e19 (w_a e20 (w_a m5 (w_a m20 (w_a hvl (w_a hls w_t)))))))))))) w_t (w_a e2 w_t) (w_r 0) ?_; (repeat' first | exact w_t | apply w_l); all_goals intros))
      · by_cases b2 : 4000 < c1.length
        · rw [if_pos (hany (by rw [hb]; simp [b2]))]
          (focus (refine wklp (w_a e1 (w_a e2 (w_a m2 (w_a e5 (w_a e6 (w_a e18 (w_a e19 (w_a e20 (w_a m5 (w_a m20 (w_a hvl (w_a hc1 (w_a hls w_t))))))))))))) w_t (w_a e2 w_t) (w_r 0) ?_; (repeat' first | exact w_t | apply w_l); all_goals intros))
        · by_cases b3 : 4000 < c2.length
          · rw [if_pos (hany (by rw [hb]; simp [b3]))]
            (focus (refine wklp (w_a e1 (w_a e2 (w_a m2 (w_a e5 (w_a e6 (w_a e18 (w_a e19 (w_a e20 (w_a m5 (w_a m20 (w_a hvl (w_a hc1 (w_a hc2 (w_a hls w_t)))))))))))))) w_t (w_a e2 w_t) (w_r 0) ?_; (repeat' first | exact w_t | apply w_l); all_goals intros))
          · have hbf : bigN ss i = false := by rw [hb]; simp [b1, b2, b3]
            clear hany
            by_cases k1 : k = 1
            · subst k1
              (focus (refine wkap (w_a e1 (w_a e2 (w_a m2 (w_a e5 (w_a e6 (w_a e18 (w_a e19 (w_a e20 (w_a m5 (w_a m20 (w_a hvl (w_a hc1 (w_a hc2 (w_a hcsl (w_a hls w_t))))))))))))))) w_t (w_r 0) ?_; (repeat' first | exact w_t | apply w_l); all_goals intros))
              rename_i svC2
              refine ⟨i + 1, ⟨by omega, by exact gW e1, by exact gW m1, by exact gW e2, by exact gW m2, by exact gW e5, by (rw [hsu]; exact gS), by exact gW e18, by exact gW e19, by exact gS, ⟨svC2, sv, ?_, ?_, ?_⟩, fun j hj => hnx j hj hbf⟩, by omega⟩
              · (simp (disch := omega) only [go_sem, List.set_cons_zero] <;> repeat' first | rfl | refine ⟨?_, ?_⟩)
              · rw [hsu, List.map_append]; exact gC
              · rw [hsu]; exact gC
            · (focus (refine wkap (w_a e1 (w_a e2 (w_a m2 (w_a e5 (w_a e6 (w_a e18 (w_a e19 (w_a e20 (w_a m5 (w_a m20 (w_a hvl (w_a hc1 (w_a hc2 (w_a hcsl (w_a hls w_t))))))))))))))) w_t (w_r 0) ?_; (repeat' first | exact w_t | apply w_l); all_goals intros))
              rename_i svC2
              refine ⟨i + 1, ⟨by omega, by exact gW e1, by exact gW m1, by exact gW e2, by exact gW m2, by exact gW e5, by (rw [hsu]; simp only [if_neg k1]; exact gW e6), by exact gW e18, by exact gW e19, by exact gS, ⟨svC2, sv, ?_, ?_, ?_⟩, fun j hj => hnx j hj hbf⟩, by omega⟩
              · (simp (disch := omega) only [go_sem, List.set_cons_zero] <;> repeat' first | rfl | refine ⟨?_, ?_⟩)
              · rw [hsu, List.map_append]; exact gC
              · rw [hsu]; exact gC
    · have hin : i = ss.length := by omega
      subst hin
      have hno : ¬ (List.range ss.length).any (bigN ss) = true := by
        rw [List.any_eq_true]
        rintro ⟨j, hj, hb⟩
        rw [hbig j (List.mem_range.1 hj)] at hb
        cases hb
      rw [if_neg hno]
      clear hN hg
      generalize (frN ss ss.length).fr = fr at *
      generalize (frN ss ss.length).cs = cs at *
      generalize (frN ss ss.length).vs = vs at *
      (focus (refine wklp (w_a e1 (w_a e2 (w_a m2 (w_a e5 (w_a e6 (w_a e18 (w_a e19 (w_a e20 (w_a m5 (w_a m20 (w_a m21 (w_a hls w_t)))))))))))) w_t (w_a e2 (w_a m2 (w_a m5 (w_a m20 (w_a m21 w_t))))) (w_r 0) ?_; (repeat' first | exact w_t | apply w_l); all_goals intros))
  · exact ⟨Nat.zero_le _, by exact gC, by exact gC, by exact gC, by exact gC, by exact gC, by (simp (disch := omega) only [go_sem, frN] <;> repeat' first | rfl | refine ⟨?_, ?_⟩), by exact gC, by exact gW hls, by exact gC, ⟨_, _, by (simp (disch := omega) only [go_sem, List.set_cons_zero, List.set_cons_succ, frN] <;> repeat' first | rfl | refine ⟨?_, ?_⟩), by (simp (disch := omega) only [go_sem, frN, List.map_nil] <;> repeat' first | rfl | refine ⟨?_, ?_⟩), by (simp (disch := omega) only [go_sem, frN, List.map_nil] <;> repeat' first | rfl | refine ⟨?_, ?_⟩)⟩, fun j hj => by omega⟩
end Go.Proofs.YtbgmnobnaplmlaaGreat
end

section
namespace Go.Proofs.YtbgmnobnaplmlaaGreat
open Go Go.RowKit Go.Pg Go.Pol
set_option linter.unusedSimpArgs false
set_option linter.unusedVariables false
set_option maxRecDepth 20000
attribute [local go_sem] Tryz.underlying3 Tryz.underlying4 Tryz.underlying178 Tryz.underlying9 Tryz.underlying48 Tryz.underlying31 Tryz.underlying43 Tryz.underlying41 Tryz.underlying39 Tryz.underlying50 Tryz.underlying22 Tryz.underlying25 Tryz.underlying56 Tryz.underlying28 Tryz.underlying72 Tryz.underlying27 Tryz.underlying30 Tryz.underlying105 Tryz.underlying107 Tryz.underlying70 Tryz.underlying63 Tryz.underlying103 Tryz.underlying154 sz3 by3 z3 szB zB szErr zErr szStr byStr zStr szRat zRat szInt zInt szNat zNat szStep byStep zStep szFig zFig szSlI zSlI szSlS zSlS szVar byVar zVar szSlV zSlV szCoord byCoord zCoord szSlC zSlC szFrame zFrame szCBld byCBld zCBld szCVec byCVec zCVec szPoly byPoly zPoly szTerm zTerm szPtrB zPtrB szFnC zFnC
attribute [-bool_to_prop] Bool.and_eq_decide Bool.or_eq_decide Bool.decide_beq_decide decide_eq_decide
end Go.Proofs.YtbgmnobnaplmlaaGreat
end

section
namespace Go.Proofs.YtbgmnobnaplmlaaGreat
open Go Go.RowKit Go.Pg Go.Pol
set_option linter.unusedSimpArgs false
set_option linter.unusedVariables false
set_option maxRecDepth 20000
attribute [local go_sem] Tryz.underlying3 Tryz.underlying4 Tryz.underlying178 Tryz.underlying9 Tryz.underlying48 Tryz.underlying31 Tryz.underlying43 Tryz.underlying41 Tryz.underlying39 Tryz.underlying50 Tryz.underlying22 Tryz.underlying25 Tryz.underlying56 Tryz.underlying28 Tryz.underlying72 Tryz.underlying27 Tryz.underlying30 Tryz.underlying105 Tryz.underlying107 Tryz.underlying70 Tryz.underlying63 Tryz.underlying103 Tryz.underlying154 sz3 by3 z3 szB zB szErr zErr szStr byStr zStr szRat zRat szInt zInt szNat zNat szStep byStep zStep szFig zFig szSlI zSlI szSlS zSlS szVar byVar zVar szSlV zSlV szCoord byCoord zCoord szSlC zSlC szFrame zFrame szCBld byCBld zCBld szCVec byCVec zCVec szPoly byPoly zPoly szTerm zTerm szPtrB zPtrB szFnC zFnC Tryz.underlying135 szHVec byHVec zHVec Tryz.underlying78 szSlP zSlP Tryz.underlying124 Tryz.underlying23 szL byL zL szFact byFact zFact szSlF zSlF
attribute [-bool_to_prop] Bool.and_eq_decide Bool.or_eq_decide Bool.decide_beq_decide decide_eq_decide
/-- The hypotheses are polynomials of a bounded size. -/
theorem eqs_pb {k : Int} {a b c d x : Pt} {t : Po} (ha : CB a) (hb : CB b) (hc : CB c) (hd : CB d) (hx : CB x) (ht : PB t 1 1 1) : ∀ p ∈ eqsM k a b c d x t, PB p 30000 800000 24 := by
  have cr : ∀ {a b c d : Pt}, CB a → CB b → CB c → CB d → PB (crossM a b c d) 30000 800000 24 := fun h1 h2 h3 h4 => (h1.cross h2 h3 h4).mono (by omega) (by omega) (by omega)
  have dt : ∀ {a b c d : Pt}, CB a → CB b → CB c → CB d → PB (dotM a b c d) 30000 800000 24 := fun h1 h2 h3 h4 => (h1.dot h2 h3 h4).mono (by omega) (by omega) (by omega)
  have df : ∀ {a b c d : Pt}, CB a → CB b → CB c → CB d → PB (diffM a b c d) 30000 800000 24 := fun h1 h2 h3 h4 => ((h1.dot h2 h1 h2).sub (h3.dot h4 h3 h4)).mono (by omega) (by omega) (by omega)
  have two : ∀ {p q : Po}, PB p 30000 800000 24 → PB q 30000 800000 24 → ∀ u ∈ [p, q], PB u 30000 800000 24 := fun h1 h2 u hu => by
    rcases List.mem_cons.1 hu with rfl | hu
    · exact h1
    · rw [List.mem_singleton] at hu; subst hu; exact h2
  unfold eqsM
  split
  · unfold circM
    obtain ⟨x1, y1⟩ := hb.df ha
    obtain ⟨x2, y2⟩ := hb.df hx
    have zt : PB (mlM t (subM a.2 b.2)) 16 3600 9 := (ht.mul y1).mono (by omega) (by omega) (by omega)
    have zd : PB (addM (subM a.1 b.1) (mlM t (subM a.2 b.2))) 32 3822 9 := (x1.add zt).mono (by omega) (by omega) (by omega)
    have zs : PB (dblM (addM (subM a.1 b.1) (mlM t (subM a.2 b.2)))) 64 7645 9 := zd.dbl.mono (by omega) (by omega) (by omega)
    have zl : PB (slopeM t) 2 5 2 := (one_pb.add (ht.mul ht)).mono (by omega) (by omega) (by omega)
    exact two (((zl.mul x2).sub zs).mono (by omega) (by omega) (by omega)) (((zl.mul y2).sub (ht.mul zs)).mono (by omega) (by omega) (by omega))
  · split
    · exact two (cr hb hc hb hx) (dt hb hc ha hx)
    · split
      · exact two (dt hb hc ha hx) (((hb.cross hc hb ha).add (hb.cross hc hb hx)).mono (by omega) (by omega) (by omega))
      · split
        · exact two (cr ha hb ha hx) (cr hc hd hc hx)
        · split
          · unfold otherM
            obtain ⟨w1, w2⟩ := ha.df hx
            obtain ⟨u1, u2⟩ := ha.df hb
            have zn := ha.dot hb ha hb
            have zs := (ha.dot hc ha hb).dbl
            exact two (((zn.mul w1).sub (zs.mul u1)).mono (by omega) (by omega) (by omega)) (((zn.mul w2).sub (zs.mul u2)).mono (by omega) (by omega) (by omega))
          · split
            · exact two (df ha hx hb hx) (df ha hx hc hx)
            · split
              · exact two (cr ha hb ha hx) (df hc hx hc hd)
              · split
                · exact two (df ha hx ha hb) (df hc hx hc hd)
                · split
                  · exact two (df ha hx ha hb) (df hb hx ha hb)
                  · exact fun u hu => by cases hu
theorem eqE_eq {ss : List RS} {gs : List RG} (hl : ss.length ≤ 8) (ok : FigOk ss) (ht : thinB ss gs = true) (i : Nat) : ∀ p ∈ eqE ss i, Pure Tryz.prog 29 [poA p, poA p] (.v (.bool true)) := fun p hp => by
  have hcb := (few_cb hl ok ht).2
  have := eqs_pb (hcb _) (hcb _) (hcb _) (hcb _) (hcb _) (parM_pb _ _) p hp
  have l := this.l
  have := rpEqual p p this.k this.k this.s.dom this.s.dom (by omega) (by omega) (by omega) (by omega) (by omega) (by omega)
  rwa [decide_eq_true rfl] at this
theorem eqE_len (ss : List RS) (i : Nat) : (eqE ss i).length ≤ 2 := eqs_len ..
set_option maxHeartbeats 4000000 in
theorem lawSteps1 (ss : List RS) (gs : List RG) (cs : List Pt) (vs : List Vt) (i : Int) (L : List Po) (z : Int)
    (cf : Pure Tryz.prog 34 [figA ss gs] (.v (.bool true)))
    (co : Pure Tryz.prog 16 [figA ss gs] (.tup [frmA cs vs, iv 0]))
    (c1 : Pure Tryz.prog 35 [figA ss gs, frmA cs vs, iv i] (.tup [.sl 1 (L.map poA), iv z])) (c2 : Pure Tryz.prog 36 [figA ss gs, frmA cs vs, iv i] (.tup [.sl 1 (L.map poA), iv z]))
    (sm : Pure Tryz.prog 37 [.sl 1 (L.map poA), .sl 1 (L.map poA)] (.v (.bool true))) : Pure Tryz.prog 8 [figA ss gs, iv i] (.v (.bool true)) := by
  have ca := aw22
  have cf : Pure Tryz.prog 34 [.agg [.sl 6 (ss.map RS.av), .sl 5 (gs.map RG.av)]] (.v (.bool true)) := cf
  have co : Pure Tryz.prog 16 [.agg [.sl 6 (ss.map RS.av), .sl 5 (gs.map RG.av)]] (.tup [.agg [.sl 2 (cs.map coA), .sl 3 (vs.map Vt.av)], iv 0]) := co
  have c1 : Pure Tryz.prog 35 [.agg [.sl 6 (ss.map RS.av), .sl 5 (gs.map RG.av)], .agg [.sl 2 (cs.map coA), .sl 3 (vs.map Vt.av)], iv i] (.tup [.sl 1 (L.map poA), iv z]) := c1
  have c2 : Pure Tryz.prog 36 [.agg [.sl 6 (ss.map RS.av), .sl 5 (gs.map RG.av)], .agg [.sl 2 (cs.map coA), .sl 3 (vs.map Vt.av)], iv i] (.tup [.sl 1 (L.map poA), iv z]) := c2
  show Pure _ _ [.agg [.sl 6 (ss.map RS.av), .sl 5 (gs.map RG.av)], iv i] _
  generalize ss.map RS.av = M at *
  generalize gs.map RG.av = N at *
  generalize cs.map coA = C at *
  generalize vs.map Vt.av = V at *
  generalize L.map poA = LA at *
  refine pure_intro (tok := 0) Tryz.func8 rfl Tryz.ntmps8 Tryz.results8 Tryz.call8 (by rfl) (by simp) ?_
  (focus (refine wkad w_t (w_a cf (w_a co (w_a c1 (w_a c2 (w_a sm (w_a ca w_t)))))) w_t ?_; (repeat' first | exact w_t | apply w_l); all_goals intros))
  all_goals (all_goals (try simp (disch := omega) only [go_sem, decide_eq_true, decide_eq_false, if_pos, if_neg, Int.reduceAdd, Int.reduceSub, Int.reduceToNat, Int.zero_add])); (all_goals first | done | rfl | (congr 2; first | done | omega | (rw [Bool.eq_iff_iff]; simp only [bool_to_prop, Bool.false_eq_true, iff_true, true_iff, iff_false, false_iff]; omega)) | skip)
theorem lawStepsN (ss : List RS) (gs : List RG) (i : Int) (b : Bool) (z : Int) (cs : List Pt) (vs : List Vt) (cf : Pure Tryz.prog 34 [figA ss gs] (.v (.bool b)))
    (co : b = true → Pure Tryz.prog 16 [figA ss gs] (.tup [frmA cs vs, iv z])) (h : b = true → z ≠ 0) : Pure Tryz.prog 8 [figA ss gs, iv i] (.v (.bool true)) := by
  have ca := aw22
  have cf : Pure Tryz.prog 34 [.agg [.sl 6 (ss.map RS.av), .sl 5 (gs.map RG.av)]] (.v (.bool b)) := cf
  have co : b = true → Pure Tryz.prog 16 [.agg [.sl 6 (ss.map RS.av), .sl 5 (gs.map RG.av)]] (.tup [.agg [.sl 2 (cs.map coA), .sl 3 (vs.map Vt.av)], iv z]) := co
  show Pure _ _ [.agg [.sl 6 (ss.map RS.av), .sl 5 (gs.map RG.av)], iv i] _
  generalize ss.map RS.av = M at *
  generalize gs.map RG.av = N at *
  generalize cs.map coA = C at *
  generalize vs.map Vt.av = V at *
  cases b with
  | false =>
    clear co h
    refine pure_intro (tok := 0) Tryz.func8 rfl Tryz.ntmps8 Tryz.results8 Tryz.call8 (by rfl) (by simp) ?_
    (focus (refine wklp w_t (w_a cf (w_a ca w_t)) w_t (w_r 0) ?_; (repeat' first | exact w_t | apply w_l); all_goals intros))
  | true =>
    have co := co rfl
    have h := h rfl
    refine pure_intro (tok := 0) Tryz.func8 rfl Tryz.ntmps8 Tryz.results8 Tryz.call8 (by rfl) (by simp) ?_
    (focus (refine wklp (w_a h w_t) (w_a cf (w_a co (w_a ca w_t))) w_t (w_r 0) ?_; (repeat' first | exact w_t | apply w_l); all_goals intros))
theorem lawSteps (ss : List RS) (gs : List RG) (i : Int) (h1 : ss.length ≤ 1000000000) (h2 : gs.length ≤ 1000000000) (hs : ∀ s ∈ ss, s.sm) (hg : ∀ g ∈ gs, g.sm) : Pure Tryz.prog 8 [figA ss gs, iv i] (.v (.bool true)) := by
  have cR := rlRight ss gs h1 h2 hs hg
  have cf := rlFew ss gs cR
  cases hf : fewB ss gs with
  | false =>
    rw [hf] at cf
    exact lawStepsN ss gs i false 0 [] [] cf (fun h => by cases h) (fun h => by cases h)
  | true =>
    rw [hf] at cf
    obtain ⟨hl, he, ok, ht⟩ := few_in hs hf
    rw [he] at cR
    have ro := rcFrame1 ss gs cR ok
    have hb : ¬ (List.range ss.length).any (bigN ss) = true := by
      rw [List.any_eq_true]
      rintro ⟨j, hj, hb⟩
      rw [(few_cb hl ok ht).1 j (List.mem_range.1 hj)] at hb
      cases hb
    rw [if_neg hb] at ro
    by_cases hi : 0 ≤ i ∧ i < (ss.length : Int)
    · obtain ⟨n, rfl⟩ : ∃ n : Nat, i = n := ⟨i.toNat, by omega⟩
      have hn : n < ss.length := by omega
      exact lawSteps1 ss gs _ _ n (eqE ss n) 0 cf ro (hySt hl ok ht hn) (rhSt hl ok ht hn) (lwSame (eqE ss n) (by have := eqE_len ss n; omega) (eqE_eq hl ok ht n))
    · have hi2 : i < 0 ∨ (ss.length : Int) ≤ i := by omega
      exact lawSteps1 ss gs _ _ i [] 2 cf ro (hyStepE ss gs _ _ i (frN_len ss _) hi2) (rhStepE ss gs _ _ i (frN_len ss _) hi2) (lwSame [] (by simp) (fun p hp => by cases hp))
set_option maxHeartbeats 4000000 in
theorem lawAll1 (ss : List RS) (gs : List RG) (L : AV) (z : Int) (hL : (∃ es, L = .sl 1 es) ∨ L = .v (.slice none 0 0))
    (cf : Pure Tryz.prog 34 [figA ss gs] (.v (.bool true)))
    (c1 : Pure Tryz.prog 38 [figA ss gs] (.tup [L, iv z])) (c2 : Pure Tryz.prog 39 [figA ss gs] (.tup [L, iv z]))
    (sm : Pure Tryz.prog 37 [L, L] (.v (.bool true))) : Pure Tryz.prog 9 [figA ss gs] (.v (.bool true)) := by
  have ca := aw22
  have cf : Pure Tryz.prog 34 [.agg [.sl 6 (ss.map RS.av), .sl 5 (gs.map RG.av)]] (.v (.bool true)) := cf
  have c1 : Pure Tryz.prog 38 [.agg [.sl 6 (ss.map RS.av), .sl 5 (gs.map RG.av)]] (.tup [L, iv z]) := c1
  have c2 : Pure Tryz.prog 39 [.agg [.sl 6 (ss.map RS.av), .sl 5 (gs.map RG.av)]] (.tup [L, iv z]) := c2
  show Pure _ _ [.agg [.sl 6 (ss.map RS.av), .sl 5 (gs.map RG.av)]] _
  generalize ss.map RS.av = M at *
  generalize gs.map RG.av = N at *
  rcases hL with ⟨es, rfl⟩ | rfl
  all_goals
    refine pure_intro (tok := 0) Tryz.func9 rfl Tryz.ntmps9 Tryz.results9 Tryz.call9 (by rfl) (by simp) ?_
    (focus (refine wkap w_t (w_a cf (w_a c1 (w_a c2 (w_a sm (w_a ca w_t))))) (w_r 0) ?_; (repeat' first | exact w_t | apply w_l); all_goals intros))
    all_goals (all_goals (try simp (disch := omega) only [go_sem, decide_eq_true, decide_eq_false, if_pos, if_neg, Int.reduceAdd, Int.reduceSub, Int.reduceToNat, Int.zero_add])); (all_goals first | done | rfl | (congr 2; first | done | omega | (rw [Bool.eq_iff_iff]; simp only [bool_to_prop, Bool.false_eq_true, iff_true, true_iff, iff_false, false_iff]; omega)) | skip)
theorem lawAllN (ss : List RS) (gs : List RG) (cf : Pure Tryz.prog 34 [figA ss gs] (.v (.bool false))) : Pure Tryz.prog 9 [figA ss gs] (.v (.bool true)) := by
  have ca := aw22
  have cf : Pure Tryz.prog 34 [.agg [.sl 6 (ss.map RS.av), .sl 5 (gs.map RG.av)]] (.v (.bool false)) := cf
  show Pure _ _ [.agg [.sl 6 (ss.map RS.av), .sl 5 (gs.map RG.av)]] _
  generalize ss.map RS.av = M at *
  generalize gs.map RG.av = N at *
  refine pure_intro (tok := 0) Tryz.func9 rfl Tryz.ntmps9 Tryz.results9 Tryz.call9 (by rfl) (by simp) ?_
  (focus (refine wklp w_t (w_a cf (w_a ca w_t)) w_t (w_r 0) ?_; (repeat' first | exact w_t | apply w_l); all_goals intros))
theorem hypL_mem {E : Nat → List Po} {p : Po} : ∀ {n : Nat}, p ∈ hypL E n → ∃ i, p ∈ E i
  | 0, h => by cases h
  | n + 1, h => by
    rcases List.mem_append.1 (show p ∈ hypL E n ++ E n from h) with h1 | h1
    · exact hypL_mem h1
    · exact ⟨n, h1⟩
theorem hypL_len {E : Nat → List Po} (h : ∀ i, (E i).length ≤ 2) : ∀ n, (hypL E n).length ≤ 2 * n
  | 0 => by simp [hypL]
  | n + 1 => by
    have h1 := hypL_len h n
    have h2 := h n
    have h3 : hypL E (n + 1) = hypL E n ++ E n := rfl
    rw [h3, List.length_append]; omega
theorem lawAll (ss : List RS) (gs : List RG) (h1 : ss.length ≤ 1000000000) (h2 : gs.length ≤ 1000000000) (hs : ∀ s ∈ ss, s.sm) (hg : ∀ g ∈ gs, g.sm) : Pure Tryz.prog 9 [figA ss gs] (.v (.bool true)) := by
  have cR := rlRight ss gs h1 h2 hs hg
  have lR := lwRight ss gs h1 h2 hs hg
  have cf := rlFew ss gs cR
  cases hf : fewB ss gs with
  | false =>
    rw [hf] at cf
    exact lawAllN ss gs cf
  | true =>
    rw [hf] at cf
    obtain ⟨hl, he, ok, ht⟩ := few_in hs hf
    rw [he] at cR lR
    have ro := rcFrame1 ss gs cR ok
    have co := coFrame1 ss gs lR ok
    have hb : ¬ (List.range ss.length).any (bigN ss) = true := by
      rw [List.any_eq_true]
      rintro ⟨j, hj, hb⟩
      rw [(few_cb hl ok ht).1 j (List.mem_range.1 hj)] at hb
      cases hb
    rw [if_neg hb] at ro co
    have k1 := hyOf ss gs _ _ (eqE ss) (fun i => by have := eqE_len ss i; omega) (by omega) co (fun i hi => hySt hl ok ht hi)
    have k2 := rhOf ss gs _ _ (eqE ss) (fun i => by have := eqE_len ss i; omega) (by omega) ro (fun i hi => rhSt hl ok ht hi)
    by_cases hbig : (List.range ss.length).any (bigE (eqE ss)) = true
    · rw [if_pos hbig] at k1 k2
      have sm := lwSame [] (by simp) (fun p hp => by cases hp)
      exact lawAll1 ss gs _ 4 (.inr rfl) cf k1 k2 (pure_vkA sm (.cons (.nil 1) (.cons (.nil 1) .nil)))
    · rw [if_neg hbig] at k1 k2
      have sm := lwSame (hypL (eqE ss) ss.length) (by have := hypL_len (eqE_len ss) ss.length; omega) (fun p hp => by
        obtain ⟨i, hi⟩ := hypL_mem hp
        exact eqE_eq hl ok ht i p hi)
      exact lawAll1 ss gs _ 0 (.inl ⟨_, rfl⟩) cf k1 k2 sm
/-! ### whatever comes in -/
theorem saidSteps (xs : List AV) (h : ShapeL Tryz.prog 1048576 9 [25, 3] xs) : Pure Tryz.prog 8 xs (.v (.bool true)) := by
  obtain ⟨x, bs, rfl, h1, h⟩ := h.inv
  obtain ⟨y, bs, rfl, h2, h⟩ := h.inv
  obtain rfl := h.inv0
  obtain ⟨ss, gs, e, hl, kl, hq, kq⟩ := shFigure h1
  obtain ⟨k, rfl, _⟩ := shape_int Tryz.underlying3 h2
  rw [e, wrapA_one agInt]
  exact lawSteps ss gs k (by omega) (by omega) (fun s hs => ⟨lm_mono (hq s hs).1 (by decide), Nat.le_trans (hq s hs).2.1 (by decide), Nat.le_trans (hq s hs).2.2 (by decide)⟩) (fun g hg => ⟨lm_mono (kq g hg).1 (by decide), Nat.le_trans (kq g hg).2 (by decide)⟩)
theorem saidAll (xs : List AV) (h : ShapeL Tryz.prog 1048576 9 [25] xs) : Pure Tryz.prog 9 xs (.v (.bool true)) := by
  obtain ⟨x, bs, rfl, h1, h⟩ := h.inv
  obtain rfl := h.inv0
  obtain ⟨ss, gs, e, hl, kl, hq, kq⟩ := shFigure h1
  rw [e]
  exact lawAll ss gs (by omega) (by omega) (fun s hs => ⟨lm_mono (hq s hs).1 (by decide), Nat.le_trans (hq s hs).2.1 (by decide), Nat.le_trans (hq s hs).2.2 (by decide)⟩) (fun g hg => ⟨lm_mono (kq g hg).1 (by decide), Nat.le_trans (kq g hg).2 (by decide)⟩)
end Go.Proofs.YtbgmnobnaplmlaaGreat
end
