/- Contracts of the functions that the law reaches, and the rules by which they are walked. They say what a call hands back for every input within the bounds that each names; no other condition. -/
import Derived.Test.YteiopjkamgmfpaaGreatDoorBq4
section
namespace Go.Proofs.YteiopjkamgmfpaaGreatDoor
open Go Go.RowKit Go.Pg Go.Pol
set_option linter.unusedSimpArgs false
set_option linter.unusedVariables false
set_option maxRecDepth 20000
attribute [-bool_to_prop] Bool.and_eq_decide Bool.or_eq_decide Bool.decide_beq_decide decide_eq_decide
set_option linter.unusedSimpArgs false
set_option linter.unusedVariables false
/-! ### the equations, as plain polynomials -/
abbrev Pt := Po × Po
abbrev dfM (a b : Pt) : Pt := (subM b.1 a.1, subM b.2 a.2)
def crossM (a b c d : Pt) : Po := subM (mlM (subM b.1 a.1) (subM d.2 c.2)) (mlM (subM b.2 a.2) (subM d.1 c.1))
def dotM (a b c d : Pt) : Po := addM (mlM (subM b.1 a.1) (subM d.1 c.1)) (mlM (subM b.2 a.2) (subM d.2 c.2))
def dblM (p : Po) : Po := addM p p
abbrev oneM : Po := [(1, [])]
def slopeM (t : Po) : Po := addM oneM (mlM t t)
def circM (o a x : Pt) (t : Po) : List Po :=
  let s := dblM (addM (subM o.1 a.1) (mlM t (subM o.2 a.2)))
  [subM (mlM (slopeM t) (subM x.1 a.1)) s, subM (mlM (slopeM t) (subM x.2 a.2)) (mlM t s)]
def otherM (p q o x : Pt) : List Po :=
  let n := dotM p q p q
  let s := dblM (dotM p o p q)
  [subM (mlM n (subM x.1 p.1)) (mlM s (subM q.1 p.1)), subM (mlM n (subM x.2 p.2)) (mlM s (subM q.2 p.2))]
def diffM (a b c d : Pt) : Po := subM (dotM a b a b) (dotM c d c d)
def eqsM (k : Int) (a b c d x : Pt) (t : Po) : List Po :=
  if k = 6 then circM a b x t
  else if k = 7 then [crossM b c b x, dotM b c a x]
  else if k = 8 then [dotM b c a x, addM (crossM b c b a) (crossM b c b x)]
  else if k = 9 then [crossM a b a x, crossM c d c x]
  else if k = 10 then otherM a b c x
  else if k = 11 then [diffM a x b x, diffM a x c x]
  else if k = 12 then [crossM a b a x, diffM c x c d]
  else if k = 13 then [diffM a x a b, diffM c x c d]
  else if k = 14 then [diffM a x a b, diffM b x a b]
  else []
/-! ### bounds -/
structure CB (c : Pt) : Prop where
  x : PB c.1 8 110 8
  y : PB c.2 8 110 8
theorem CB.df {a b : Pt} (h : CB a) (g : CB b) : PB (subM b.1 a.1) 16 221 8 ∧ PB (subM b.2 a.2) 16 221 8 := ⟨(g.x.sub h.x).mono (by omega) (by omega) (by omega), (g.y.sub h.y).mono (by omega) (by omega) (by omega)⟩
theorem PB.m2 {p q : Po} (h : PB p 16 221 8) (g : PB q 16 221 8) : PB (mlM p q) 256 7088 16 := (h.mul g).mono (by omega) (by omega) (by omega)
theorem CB.cross {a b c d : Pt} (ha : CB a) (hb : CB b) (hc : CB c) (hd : CB d) : PB (crossM a b c d) 512 14177 16 :=
  (((ha.df hb).1.m2 (hc.df hd).2).sub ((ha.df hb).2.m2 (hc.df hd).1)).mono (by omega) (by omega) (by omega)
theorem CB.dot {a b c d : Pt} (ha : CB a) (hb : CB b) (hc : CB c) (hd : CB d) : PB (dotM a b c d) 512 14177 16 :=
  (((ha.df hb).1.m2 (hc.df hd).1).add ((ha.df hb).2.m2 (hc.df hd).2)).mono (by omega) (by omega) (by omega)
theorem var_pb (v : Nat) : PB (varM v) 1 1 1 := ⟨varM_srt v, varM_pk v, by unfold varM; split <;> simp⟩
theorem one_mul {p : Po} (h : SrtM p) : mlM oneM p = p := by
  rw [mul_const (by decide) h]
  unfold scaleP
  conv => rhs; rw [← List.map_id p]
  exact List.map_congr_left fun t ht => by show (t.1 * 1, t.2) = t; rw [Rat.mul_one]
end Go.Proofs.YteiopjkamgmfpaaGreatDoor
end

section
namespace Go.Proofs.YteiopjkamgmfpaaGreatDoor
open Go Go.RowKit Go.Pg
set_option linter.unusedSimpArgs false
set_option linter.unusedVariables false
set_option maxRecDepth 20000
attribute [-bool_to_prop] Bool.and_eq_decide Bool.or_eq_decide Bool.decide_beq_decide decide_eq_decide
end Go.Proofs.YteiopjkamgmfpaaGreatDoor
end

section
namespace Go.Proofs.YteiopjkamgmfpaaGreatDoor
open Go Go.RowKit Go.Pg
set_option linter.unusedSimpArgs false
set_option linter.unusedVariables false
set_option maxRecDepth 20000
attribute [-bool_to_prop] Bool.and_eq_decide Bool.or_eq_decide Bool.decide_beq_decide decide_eq_decide
theorem szHVec : szOf Tryz.prog 133 = some 2 := by kernel_rfl
theorem byHVec : bytOf Tryz.prog 133 = some 48 := by kernel_rfl
theorem zHVec : zeroOf Tryz.prog 133 = some (.agg #[.slice none 0 0, .slice none 0 0]) := by kernel_rfl
theorem szA2P : szOf Tryz.prog 132 = some 2 := by kernel_rfl
theorem zA2P : zeroOf Tryz.prog 132 = some (.agg #[.slice none 0 0, .slice none 0 0]) := by kernel_rfl
end Go.Proofs.YteiopjkamgmfpaaGreatDoor
end

section
namespace Go.Proofs.YteiopjkamgmfpaaGreatDoor
open Go Go.RowKit Go.Pg Go.Pol
set_option linter.unusedSimpArgs false
set_option linter.unusedVariables false
set_option maxRecDepth 20000
attribute [local go_sem] Tryz.underlying3 Tryz.underlying4 Tryz.underlying156 Tryz.underlying9 Tryz.underlying75 Tryz.underlying34 Tryz.underlying49 Tryz.underlying47 Tryz.underlying45 Tryz.underlying77 Tryz.underlying22 Tryz.underlying25 Tryz.underlying129 Tryz.underlying31 Tryz.underlying79 Tryz.underlying30 Tryz.underlying33 Tryz.underlying38 Tryz.underlying138 sz3 by3 z3 szB zB szErr zErr szStr byStr zStr szRat zRat szInt zInt szNat zNat szStep byStep zStep szFig zFig szSlI zSlI szSlS zSlS szVar byVar zVar szSlV zSlV szCoord byCoord zCoord szSlC zSlC szFrame zFrame szPoly byPoly zPoly szTerm zTerm Tryz.underlying133 szHVec byHVec zHVec
attribute [-bool_to_prop] Bool.and_eq_decide Bool.or_eq_decide Bool.decide_beq_decide decide_eq_decide
/-! ### package hypotheses: vectors -/
theorem CB.subs {a b : Pt} (ha : CB a) (hb : CB b) : (Pure Tryz.prog 93 [poA b.1, poA a.1] (poA (subM b.1 a.1)) ∧ Pure Tryz.prog 100 [poA b.1, poA a.1] (poA (subM b.1 a.1))) ∧ (Pure Tryz.prog 93 [poA b.2, poA a.2] (poA (subM b.2 a.2)) ∧ Pure Tryz.prog 100 [poA b.2, poA a.2] (poA (subM b.2 a.2))) :=
  ⟨hpSub hb.x ha.x (by omega) (by omega) (by omega) (by omega) (by omega) (by omega), hpSub hb.y ha.y (by omega) (by omega) (by omega) (by omega) (by omega) (by omega)⟩
theorem hpM2 {p q : Po} (h : PB p 16 221 8) (g : PB q 16 221 8) : Pure Tryz.prog 94 [poA p, poA q] (poA (mlM p q)) ∧ Pure Tryz.prog 101 [poA p, poA q] (poA (mlM p q)) :=
  hpMul h g (by omega) (by omega) (by omega) (by omega) (by omega) (by omega) (by omega) (by omega) (by omega)
theorem hyBetween {a b : Pt} (ha : CB a) (hb : CB b) : Pure Tryz.prog 92 [coA a, coA b] (coA (dfM a b)) := by
  obtain ⟨⟨h1, -⟩, h2, -⟩ := ha.subs hb
  clear ha hb
  obtain ⟨a1, a2⟩ := a
  obtain ⟨b1, b2⟩ := b
  unfold dfM
  simp only at *
  generalize subM b1 a1 = d1 at *
  generalize subM b2 a2 = d2 at *
  refine pure_intro (tok := 0) Tryz.func92 rfl Tryz.ntmps92 Tryz.results92 Tryz.call92 (by rfl) (by simp) ?_
  (focus (refine wkld w_t (w_a h1 (w_a h2 w_t)) w_t (w_a (w_d 1 [(4, poA d1), (9, poA d2)] [] [4]) w_t) ?_; (repeat' first | exact w_t | apply w_l); all_goals intros))
theorem hyDotC (u v : Pt) (p q r : Po) (m1 : Pure Tryz.prog 94 [poA u.1, poA v.1] (poA p)) (m2 : Pure Tryz.prog 94 [poA u.2, poA v.2] (poA q)) (ad : Pure Tryz.prog 156 [poA p, poA q] (poA r)) : Pure Tryz.prog 96 [coA u, coA v] (poA r) := by
  obtain ⟨u1, u2⟩ := u
  obtain ⟨v1, v2⟩ := v
  simp only at *
  refine pure_intro (tok := 0) Tryz.func96 rfl Tryz.ntmps96 Tryz.results96 Tryz.call96 (by rfl) (by simp) ?_
  (focus (refine wkld w_t (w_a m1 (w_a m2 (w_a ad w_t))) w_t (w_a (w_d 1 [(4, poA p), (9, poA q), (10, poA r)] [] []) w_t) ?_; (repeat' first | exact w_t | apply w_l); all_goals intros))
theorem hyDot {a b c d : Pt} (ha : CB a) (hb : CB b) (hc : CB c) (hd : CB d) : Pure Tryz.prog 37 [coA a, coA b, coA c, coA d] (poA (dotM a b c d)) := by
  have b1 := hyBetween ha hb
  have b2 := hyBetween hc hd
  obtain ⟨x1, y1⟩ := ha.df hb
  obtain ⟨x2, y2⟩ := hc.df hd
  have cd := hyDotC (dfM a b) (dfM c d) _ _ _ (hpM2 x1 x2).1 (hpM2 y1 y2).1 (hpAdd (x1.m2 x2) (y1.m2 y2) (by omega) (by omega) (by omega) (by omega) (by omega) (by omega)).1
  rw [show addM (mlM (subM b.1 a.1) (subM d.1 c.1)) (mlM (subM b.2 a.2) (subM d.2 c.2)) = dotM a b c d from rfl] at cd
  generalize dotM a b c d = r at *
  clear x1 y1 x2 y2 ha hb hc hd
  obtain ⟨a1, a2⟩ := a
  obtain ⟨b1, b2⟩ := b
  obtain ⟨c1, c2⟩ := c
  obtain ⟨d1, d2⟩ := d
  generalize dfM _ _ = u at *
  generalize dfM _ _ = v at *
  obtain ⟨u1, u2⟩ := u
  obtain ⟨v1, v2⟩ := v
  refine pure_intro (tok := 0) Tryz.func37 rfl Tryz.ntmps37 Tryz.results37 Tryz.call37 (by rfl) (by simp) ?_
  (focus (refine wkld w_t (w_a b1 (w_a b2 (w_a cd w_t))) w_t (w_a (w_d 1 [(2, coA (u1, u2)), (5, coA (v1, v2)), (6, poA r)] [] []) w_t) ?_; (repeat' first | exact w_t | apply w_l); all_goals intros))
theorem hyCross {a b c d : Pt} (ha : CB a) (hb : CB b) (hc : CB c) (hd : CB d) : Pure Tryz.prog 35 [coA a, coA b, coA c, coA d] (poA (crossM a b c d)) := by
  have k1 := hyBetween ha hb
  have k2 := hyBetween hc hd
  obtain ⟨x1, y1⟩ := ha.df hb
  obtain ⟨x2, y2⟩ := hc.df hd
  have m1 := (hpM2 x1 y2).1
  have m2 := (hpM2 y1 x2).1
  have s := (hpSub (x1.m2 y2) (y1.m2 x2) (by omega) (by omega) (by omega) (by omega) (by omega) (by omega)).1
  rw [show subM (mlM (subM b.1 a.1) (subM d.2 c.2)) (mlM (subM b.2 a.2) (subM d.1 c.1)) = crossM a b c d from rfl] at s
  generalize crossM a b c d = r at *
  clear x1 y1 x2 y2 ha hb hc hd
  unfold dfM at k1 k2
  generalize mlM (subM b.1 a.1) (subM d.2 c.2) = p at *
  generalize mlM (subM b.2 a.2) (subM d.1 c.1) = q at *
  generalize subM b.1 a.1 = u1 at *
  generalize subM b.2 a.2 = u2 at *
  generalize subM d.1 c.1 = v1 at *
  generalize subM d.2 c.2 = v2 at *
  obtain ⟨a1, a2⟩ := a
  obtain ⟨b1, b2⟩ := b
  obtain ⟨c1, c2⟩ := c
  obtain ⟨d1, d2⟩ := d
  refine pure_intro (tok := 0) Tryz.func35 rfl Tryz.ntmps35 Tryz.results35 Tryz.call35 (by rfl) (by simp) ?_
  (focus (refine wkld w_t (w_a k1 (w_a k2 (w_a m1 (w_a m2 (w_a s w_t))))) w_t (w_a (w_d 1 [(2, coA (u1, u2)), (5, coA (v1, v2))] [] [9, 10]) (w_a (w_d 2 [(4, poA p), (9, poA q), (10, poA r)] [] []) w_t)) ?_; (repeat' first | exact w_t | apply w_l); all_goals intros))
theorem rhCross {a b c d : Pt} (ha : CB a) (hb : CB b) (hc : CB c) (hd : CB d) : Pure Tryz.prog 42 [coA a, coA b, coA c, coA d] (poA (crossM a b c d)) := by
  obtain ⟨⟨-, s1⟩, -, s2⟩ := ha.subs hb
  obtain ⟨⟨-, t1⟩, -, t2⟩ := hc.subs hd
  obtain ⟨x1, y1⟩ := ha.df hb
  obtain ⟨x2, y2⟩ := hc.df hd
  have m1 := (hpM2 x1 y2).2
  have m2 := (hpM2 y1 x2).2
  have s := (hpSub (x1.m2 y2) (y1.m2 x2) (by omega) (by omega) (by omega) (by omega) (by omega) (by omega)).2
  rw [show subM (mlM (subM b.1 a.1) (subM d.2 c.2)) (mlM (subM b.2 a.2) (subM d.1 c.1)) = crossM a b c d from rfl] at s
  generalize crossM a b c d = r at *
  clear x1 y1 x2 y2 ha hb hc hd
  generalize mlM (subM b.1 a.1) (subM d.2 c.2) = p at *
  generalize mlM (subM b.2 a.2) (subM d.1 c.1) = q at *
  generalize subM b.1 a.1 = u1 at *
  generalize subM b.2 a.2 = u2 at *
  generalize subM d.1 c.1 = v1 at *
  generalize subM d.2 c.2 = v2 at *
  obtain ⟨a1, a2⟩ := a
  obtain ⟨b1, b2⟩ := b
  obtain ⟨c1, c2⟩ := c
  obtain ⟨d1, d2⟩ := d
  try simp only at *
  refine pure_intro (tok := 0) Tryz.func42 rfl Tryz.ntmps42 Tryz.results42 Tryz.call42 (by rfl) (by simp) ?_
  (focus (refine wkld w_t (w_a s1 (w_a s2 (w_a t1 (w_a t2 (w_a m1 (w_a m2 (w_a s w_t))))))) w_t (w_a (w_d 1 [(4, poA u1), (9, poA v2), (10, poA p), (15, poA u2), (20, poA v1), (21, poA q), (22, poA r)] [] []) w_t) ?_; (repeat' first | exact w_t | apply w_l); all_goals intros))
theorem rhDot {a b c d : Pt} (ha : CB a) (hb : CB b) (hc : CB c) (hd : CB d) : Pure Tryz.prog 44 [coA a, coA b, coA c, coA d] (poA (dotM a b c d)) := by
  obtain ⟨⟨-, s1⟩, -, s2⟩ := ha.subs hb
  obtain ⟨⟨-, t1⟩, -, t2⟩ := hc.subs hd
  obtain ⟨x1, y1⟩ := ha.df hb
  obtain ⟨x2, y2⟩ := hc.df hd
  have m1 := (hpM2 x1 x2).2
  have m2 := (hpM2 y1 y2).2
  have s := (hpAdd (x1.m2 x2) (y1.m2 y2) (by omega) (by omega) (by omega) (by omega) (by omega) (by omega)).2
  rw [show addM (mlM (subM b.1 a.1) (subM d.1 c.1)) (mlM (subM b.2 a.2) (subM d.2 c.2)) = dotM a b c d from rfl] at s
  generalize dotM a b c d = r at *
  clear x1 y1 x2 y2 ha hb hc hd
  generalize mlM (subM b.1 a.1) (subM d.1 c.1) = p at *
  generalize mlM (subM b.2 a.2) (subM d.2 c.2) = q at *
  generalize subM b.1 a.1 = u1 at *
  generalize subM b.2 a.2 = u2 at *
  generalize subM d.1 c.1 = v1 at *
  generalize subM d.2 c.2 = v2 at *
  obtain ⟨a1, a2⟩ := a
  obtain ⟨b1, b2⟩ := b
  obtain ⟨c1, c2⟩ := c
  obtain ⟨d1, d2⟩ := d
  try simp only at *
  refine pure_intro (tok := 0) Tryz.func44 rfl Tryz.ntmps44 Tryz.results44 Tryz.call44 (by rfl) (by simp) ?_
  (focus (refine wkld w_t (w_a s1 (w_a s2 (w_a t1 (w_a t2 (w_a m1 (w_a m2 (w_a s w_t))))))) w_t (w_a (w_d 1 [(4, poA u1), (9, poA v1), (10, poA p), (15, poA u2), (20, poA v2), (21, poA q), (22, poA r)] [] []) w_t) ?_; (repeat' first | exact w_t | apply w_l); all_goals intros))
end Go.Proofs.YteiopjkamgmfpaaGreatDoor
end

section
namespace Go.Proofs.YteiopjkamgmfpaaGreatDoor
open Go Go.RowKit Go.Pg
set_option linter.unusedSimpArgs false
set_option linter.unusedVariables false
set_option maxRecDepth 20000
attribute [-bool_to_prop] Bool.and_eq_decide Bool.or_eq_decide Bool.decide_beq_decide decide_eq_decide
end Go.Proofs.YteiopjkamgmfpaaGreatDoor
end

section
namespace Go.Proofs.YteiopjkamgmfpaaGreatDoor
open Go Go.RowKit Go.Pg
set_option linter.unusedSimpArgs false
set_option linter.unusedVariables false
set_option maxRecDepth 20000
attribute [local go_sem] Tryz.underlying3 Tryz.underlying4 Tryz.underlying5 Tryz.underlying9 Tryz.underlying72 sz3 by3 z3 szStr byStr zStr
attribute [-bool_to_prop] Bool.and_eq_decide Bool.or_eq_decide Bool.decide_beq_decide decide_eq_decide
theorem kwL_len : kwL.length = 29 := rfl
theorem decode_1 (s : ByteArray) (k : Nat) (hk : k < s.size) (h : gB s k < 128) : (Utf8.decode s k).2 = 1 := by
  have e : (s[k]'hk).toNat = gB s k := by
    unfold gB
    rw [List.getD_eq_getElem?_getD, List.getElem?_eq_getElem (by simpa using hk)]
    rfl
  rw [decode_ascii s k hk (by omega)]
theorem ld_ascii {c : Nat} (h : (letB c || digB c) = true) : c < 128 := by
  unfold letB digB at h
  simp only [Bool.or_eq_true, decide_eq_true_eq] at h
  omega
set_option maxHeartbeats 4000000 in
theorem rnName (s : ByteArray) (hs : s.size ≤ 1000000000) : Pure Tryz.prog 153 [strA s] (.v (.bool (namB s))) := by
  have he := str_nil s
  unfold namB
  by_cases h0 : 0 < s.size ∧ s.size ≤ 20
  · rw [decide_eq_true h0, Bool.true_and]
    have h00 : (decide (s.size = 0)) = false := decide_eq_false (by omega)
    rw [h00] at he
    have hk := rnLetter (gB s 0) (gB_lt s 0)
    have hg := gB_at s 0
    cases hl : letB (gB s 0) with
    | false =>
      rw [hl] at hk
      rw [Bool.false_and]
      refine pure_intro (tok := 0) Tryz.func153 rfl Tryz.ntmps153 Tryz.results153 Tryz.call153 (by rfl) (by simp) ?_
      (focus (refine wklp (w_a he (w_a hg w_t)) (w_a hk w_t) w_t (w_r 0) ?_; (repeat' first | exact w_t | apply w_l); all_goals intros))
    | true =>
      rw [hl] at hk
      rw [Bool.true_and]
      obtain ⟨n, h1, h2, h3⟩ := exists_end s s.size (Nat.le_refl _)
      have hall : (List.range s.size).all (fun k => letB (gB s k) || digB (gB s k)) = decide (n = s.size) := by
        rw [Bool.eq_iff_iff, List.all_eq_true, decide_eq_true_eq]
        constructor
        · intro h
          rcases Nat.lt_or_ge n s.size with h4 | h4
          · have := h n (List.mem_range.2 h4)
            rw [h3 h4] at this; cases this
          · omega
        · intro h x hx
          exact h2 x (by rw [h]; exact List.mem_range.1 hx)
      rw [hall]
      have ck := rnKeys
      refine pure_introW (rs := [.tmp 2]) Tryz.func153 rfl Tryz.ntmps153 Tryz.results153 Tryz.call153 (by simp) ?_
      refine awp_seq (aCode_sound (tok := 0) _ _ _ (by rfl) ?_)
      (focus (refine wkap w_t w_t (w_r 0) ?_; (repeat' first | exact w_t | apply w_l); all_goals intros))
      refine awp_seq (aCode_sound (tok := 0) _ _ _ (by rfl) ?_)
      (focus (refine wkap (w_a he (w_a hg w_t)) (w_a hk w_t) (w_r 0) ?_; (repeat' first | exact w_t | apply w_l); all_goals intros))
      refine awp_seq ?_
      clear hk hg he hall
      refine awp_range (s := s) (by exact gC) Tryz.underlying9 (by omega) (by omega) (by omega) (by omega) (by omega) (by omega) (by omega) (by rfl) (fun pos e => pos ≤ n ∧ e 0 = strA s) ?_ ?_ (fun pos _ => decode_pos s pos) ?_
      · intro pv
        exact ⟨Nat.zero_le _, by exact gC⟩
      · rintro pos e pv ⟨hp, e0⟩ epv hlt
        have hkl := rnLetter (gB s pos) (gB_lt s pos)
        have hkd := rnDigit (gB s pos) (gB_lt s pos)
        have hg := gB_at s pos
        by_cases hpn : pos < n
        · have hb := h2 pos hpn
          have hd := decode_1 s pos hlt (ld_ascii hb)
          rw [hd]
          generalize (Utf8.decode s pos).1 = cc
          cases hl2 : letB (gB s pos) with
          | true =>
            rw [hl2] at hkl
            (focus (refine wkap (w_a e0 (w_a hg w_t)) (w_a hkl (w_a hkd w_t)) (w_r 0) ?_; (repeat' first | exact w_t | apply w_l); all_goals intros))
            exact ⟨rfl, ⟨by omega, by exact gW e0⟩, by exact gW epv⟩
          | false =>
            rw [hl2, Bool.false_or] at hb
            rw [hl2] at hkl
            rw [hb] at hkd
            (focus (refine wkap (w_a e0 (w_a hg w_t)) (w_a hkl (w_a hkd w_t)) (w_r 0) ?_; (repeat' first | exact w_t | apply w_l); all_goals intros))
            exact ⟨rfl, ⟨by omega, by exact gW e0⟩, by exact gW epv⟩
        · have hpe : pos = n := by omega
          subst hpe
          have hb := h3 hlt
          rw [Bool.or_eq_false_iff] at hb
          rw [hb.1] at hkl
          rw [hb.2] at hkd
          have hne : decide (pos = s.size) = false := decide_eq_false (by omega)
          rw [hne]
          generalize (Utf8.decode s pos).1 = cc
          generalize (Utf8.decode s pos).2 = cw
          (focus (refine wkap (w_a e0 (w_a hg w_t)) (w_a hkl (w_a hkd w_t)) (w_r 0) ?_; (repeat' first | exact w_t | apply w_l); all_goals intros))
          refine ⟨rfl, ?_⟩
          (focus (refine wklp w_t w_t w_t (w_r 0) ?_; (repeat' first | exact w_t | apply w_l); all_goals intros))
      · rintro pos e pv ⟨hp, e0⟩ epv hlt
        have hpe : n = s.size := by omega
        rw [decide_eq_true hpe, Bool.true_and]
        (focus (refine wkap (w_a e0 w_t) w_t (w_r 0) ?_; (repeat' first | exact w_t | apply w_l); all_goals intros))
        refine ⟨rfl, ?_⟩
        refine t_in_exit (t_then ?_)
        refine aCode_sound (tok := 0) _ _ _ (by rfl) ?_
        (focus (refine wkap (w_a e0 (w_a @l_map (w_a @kwL_len w_t))) (w_a ck w_t) (w_r 0) ?_; (repeat' first | exact w_t | apply w_l); all_goals intros))
        refine r_loopE (ι := Nat) (fun i e m => i ≤ 29 ∧ e 0 = strA s ∧ e 36 = .sl 1 (kwL.map strA) ∧ e 37 = iv 29 ∧ e 38 = iv i ∧ (kwL.take i).any (fun w => w.toList == s.toList) = false) (fun i => 29 - i) 0 (by rfl) ?_ ?_
        · rintro i e m ⟨hi, e0, e25, e26, e27, hno⟩
          by_cases hlt : i < 29
          · have hlt' : i < kwL.length := by rw [kwL_len]; exact hlt
            have hgk := map_atB strA hlt'
            have hsn : kwL.take (i + 1) = kwL.take i ++ [kwL[i]] := List.take_succ_eq_append_getElem hlt'
            have hmem : kwL[i] ∈ kwL := List.getElem_mem hlt'
            generalize kwL[i] = w at *
            have hsy : (s.toList == w.toList) = (w.toList == s.toList) := by rw [Bool.eq_iff_iff, beq_iff_eq, beq_iff_eq]; exact eq_comm
            cases hw : (w.toList == s.toList) with
            | true =>
              have : kwL.any (fun w => w.toList == s.toList) = true := List.any_eq_true.2 ⟨w, hmem, hw⟩
              rw [this]
              rw [hw] at hsy
              (focus (refine wklp (w_a e0 (w_a e25 (w_a e26 (w_a e27 (w_a hgk (w_a hsy (w_a @l_map (w_a @kwL_len w_t)))))))) w_t (w_a @Bool.not_true w_t) (w_r 0) ?_; (repeat' first | exact w_t | apply w_l); all_goals intros))
            | false =>
              rw [hw] at hsy
              (focus (refine wkap (w_a e0 (w_a e25 (w_a e26 (w_a e27 (w_a hgk (w_a hsy (w_a @l_map (w_a @kwL_len w_t)))))))) w_t (w_r 0) ?_; (repeat' first | exact w_t | apply w_l); all_goals intros))
              exact ⟨i + 1, ⟨by omega, by exact gW e0, by exact gW e25, by exact gW e26, by exact gS, by rw [hsn, List.any_append, hno]; simp [hw]⟩, by omega⟩
          · have hi2 : i = 29 := by omega
            subst hi2
            rw [show kwL.take 29 = kwL from by rw [← kwL_len, List.take_length]] at hno
            rw [hno]
            (focus (refine wklp (w_a e0 (w_a e25 (w_a e26 (w_a e27 w_t)))) w_t (w_a @Bool.not_false w_t) (w_r 0) ?_; (repeat' first | exact w_t | apply w_l); all_goals intros))
        · exact ⟨Nat.zero_le _, by exact gW e0, by exact gC, by (simp (disch := omega) only [go_sem, List.length_map, kwL_len] <;> repeat' first | rfl | refine ⟨?_, ?_⟩), by exact gC, by simp⟩
  · rw [decide_eq_false h0, Bool.false_and]
    by_cases h1 : s.size = 0
    · rw [decide_eq_true h1] at he
      refine pure_intro (tok := 0) Tryz.func153 rfl Tryz.ntmps153 Tryz.results153 Tryz.call153 (by rfl) (by simp) ?_
      (focus (refine wklp (w_a he w_t) w_t w_t (w_r 0) ?_; (repeat' first | exact w_t | apply w_l); all_goals intros))
    · rw [decide_eq_false h1] at he
      refine pure_intro (tok := 0) Tryz.func153 rfl Tryz.ntmps153 Tryz.results153 Tryz.call153 (by rfl) (by simp) ?_
      (focus (refine wklp (w_a he w_t) w_t w_t (w_r 0) ?_; (repeat' first | exact w_t | apply w_l); all_goals intros))
end Go.Proofs.YteiopjkamgmfpaaGreatDoor
end

section
namespace Go.Proofs.YteiopjkamgmfpaaGreatDoor
open Go Go.RowKit Go.Pg Go.Pol
set_option linter.unusedSimpArgs false
set_option linter.unusedVariables false
set_option maxRecDepth 20000
attribute [local go_sem] Tryz.underlying3 Tryz.underlying4 Tryz.underlying156 Tryz.underlying9 Tryz.underlying75 Tryz.underlying34 Tryz.underlying49 Tryz.underlying47 Tryz.underlying45 Tryz.underlying77 Tryz.underlying22 Tryz.underlying107 Tryz.underlying23 Tryz.underlying25 sz3 by3 z3 szB zB szL byL zL szErr zErr szStr byStr zStr szRat zRat szInt zInt szNat zNat szStep byStep zStep szFact byFact zFact szFig zFig szSlI zSlI szSlS zSlS szSlF zSlF
attribute [-bool_to_prop] Bool.and_eq_decide Bool.or_eq_decide Bool.decide_beq_decide decide_eq_decide
set_option maxHeartbeats 4000000 in
theorem rlAr (k : Int) : Pure Tryz.prog 151 [iv k] (iv (arS k)) := by
  unfold arS
  refine pure_intro (tok := 0) Tryz.func151 rfl Tryz.ntmps151 Tryz.results151 Tryz.call151 (by rfl) (by simp) ?_
  (focus (refine wklp w_t w_t w_t (w_r 0) ?_; (repeat' first | exact w_t | apply w_l); all_goals intros))
  all_goals (congr 2; repeat' split)
  all_goals (first | rfl | omega)
theorem rlNone (r : RQ) : Pure Tryz.prog 152 [r.av] (.v (.bool r.none)) := by
  obtain ⟨s, l, d⟩ := r
  unfold RQ.none
  simp only
  cases s
  · refine pure_intro (tok := 0) Tryz.func152 rfl Tryz.ntmps152 Tryz.results152 Tryz.call152 (by rfl) (by simp) ?_
    (focus (refine wklp (w_a @u16s_len w_t) w_t w_t (w_r 0) ?_; (repeat' first | exact w_t | apply w_l); all_goals intros))
  · refine pure_intro (tok := 0) Tryz.func152 rfl Tryz.ntmps152 Tryz.results152 Tryz.call152 (by rfl) (by simp) ?_
    (focus (refine wklp (w_a @u16s_len w_t) w_t w_t (w_r 0) ?_; (repeat' first | exact w_t | apply w_l); all_goals intros))
set_option maxHeartbeats 4000000 in
theorem rrAr (k : Int) : Pure Tryz.prog 154 [iv k] (iv (arG k)) := by
  unfold arG
  refine pure_intro (tok := 0) Tryz.func154 rfl Tryz.ntmps154 Tryz.results154 Tryz.call154 (by rfl) (by simp) ?_
  (focus (refine wklp w_t w_t w_t (w_r 0) ?_; (repeat' first | exact w_t | apply w_l); all_goals intros))
  all_goals (congr 2; repeat' split)
  all_goals (first | rfl | omega)
theorem rrNone (r : RQ) : Pure Tryz.prog 155 [r.av] (.v (.bool r.none)) := by
  obtain ⟨s, l, d⟩ := r
  unfold RQ.none
  simp only
  cases s
  · refine pure_intro (tok := 0) Tryz.func155 rfl Tryz.ntmps155 Tryz.results155 Tryz.call155 (by rfl) (by simp) ?_
    (focus (refine wklp (w_a @u16s_len w_t) w_t w_t (w_r 0) ?_; (repeat' first | exact w_t | apply w_l); all_goals intros))
  · refine pure_intro (tok := 0) Tryz.func155 rfl Tryz.ntmps155 Tryz.results155 Tryz.call155 (by rfl) (by simp) ?_
    (focus (refine wklp (w_a @u16s_len w_t) w_t w_t (w_r 0) ?_; (repeat' first | exact w_t | apply w_l); all_goals intros))
end Go.Proofs.YteiopjkamgmfpaaGreatDoor
end

section
namespace Go.Proofs.YteiopjkamgmfpaaGreatDoor
open Go Go.RowKit Go.Pg Go.Pol
set_option linter.unusedSimpArgs false
set_option linter.unusedVariables false
set_option maxRecDepth 20000
attribute [local go_sem] Tryz.underlying3 Tryz.underlying4 Tryz.underlying156 Tryz.underlying9 Tryz.underlying75 Tryz.underlying34 Tryz.underlying49 Tryz.underlying47 Tryz.underlying45 Tryz.underlying77 Tryz.underlying22 Tryz.underlying107 Tryz.underlying23 Tryz.underlying25 sz3 by3 z3 szB zB szL byL zL szErr zErr szStr byStr zStr szRat zRat szInt zInt szNat zNat szStep byStep zStep szFact byFact zFact szFig zFig szSlI zSlI szSlS zSlS szSlF zSlF
attribute [-bool_to_prop] Bool.and_eq_decide Bool.or_eq_decide Bool.decide_beq_decide decide_eq_decide
/-- Sizes that machines hold. -/
def RS.sm (s : RS) : Prop := s.r.lm 100000000 ∧ s.nm.size ≤ 1000000000 ∧ s.ar.length ≤ 1000000000
def RG.sm (g : RG) : Prop := g.r.lm 100000000 ∧ g.ar.length ≤ 1000000000
theorem outB_take {n : Int} {l : List Int} {k : Nat} (hk : k < l.length) : outB n (l.take (k + 1)) = (outB n (l.take k) || (decide (l[k] < 0) || decide (n ≤ l[k]))) := by
  unfold outB
  rw [List.take_succ_eq_append_getElem hk, List.any_append, List.any_cons, List.any_nil, Bool.or_false]
theorem outB_at {n : Int} {l : List Int} {k : Nat} (hk : k < l.length) (h : (decide (l[k] < 0) || decide (n ≤ l[k])) = true) : outB n l = true := List.any_eq_true.2 ⟨l[k], List.getElem_mem hk, h⟩
set_option maxHeartbeats 8000000 in
theorem rrRight (g : RG) (n : Nat) (hn : n ≤ 1000000000) (hs : g.sm) : Pure Tryz.prog 84 [g.av, iv n] (iv (errG g n)) := by
  obtain ⟨h1, h3⟩ := hs
  unfold errG
  have ca := rrAr g.k
  have cr : Pure Tryz.prog 46 [g.r.av] (.v (.bool g.r.ok)) := qRight g.r.s g.r.l g.r.d h1.1 h1.2.1 h1.2.2.1 h1.2.2.2
  have cn := rrNone g.r
  have hla : (g.ar.map iv).length = g.ar.length := List.length_map ..
  obtain ⟨k, ar, r, rl, rd⟩ := g
  simp only at *
  generalize arG k = a at *
  generalize RQ.ok ⟨r, rl, rd⟩ = ok at *
  generalize RQ.none ⟨r, rl, rd⟩ = no at *
  by_cases w1 : a = 0
  · rw [if_pos w1]
    subst w1
    refine pure_intro (tok := 0) Tryz.func84 rfl Tryz.ntmps84 Tryz.results84 Tryz.call84 (by rfl) (by simp) ?_
    (focus (refine wkld (w_a hla w_t) (w_a ca w_t) w_t w_t ?_; (repeat' first | exact w_t | apply w_l); all_goals intros))
  · rw [if_neg w1]
    by_cases w2 : (ar.length : Int) ≠ a
    · rw [if_pos w2]
      refine pure_intro (tok := 0) Tryz.func84 rfl Tryz.ntmps84 Tryz.results84 Tryz.call84 (by rfl) (by simp) ?_
      (focus (refine wkld (w_a hla w_t) (w_a ca w_t) w_t (w_a (w_d 3 [(5, iv a)] [] []) w_t) ?_; (repeat' first | exact w_t | apply w_l); all_goals intros))
    · rw [if_neg w2]
      refine pure_intro (tok := 0) Tryz.func84 rfl Tryz.ntmps84 Tryz.results84 Tryz.call84 (by rfl) (by simp) ?_
      (focus (refine wkad (w_a hla w_t) (w_a ca w_t) (w_a (w_d 3 [(5, iv a)] [] []) w_t) ?_; (repeat' first | exact w_t | apply w_l); all_goals intros))
      rename_i g2
      refine r_loopE (ι := Nat) (fun i e m => i ≤ ar.length ∧ e 1 = iv n ∧ e 2 = .pbox 2 g2 0 ∧ m 2 = some (.box g2 107 [iv k, ivs ar, .v (.bool r), lim rl, lim rd] false) ∧ e 19 = ivs ar ∧ e 20 = iv ar.length ∧ e 21 = iv i ∧ outB n (ar.take i) = false) (fun i => ar.length - i) 0 (by rfl) ?_ ?_
      · rintro i e m ⟨hi, e1, e2, m2, ea, en, ei, hno⟩
        by_cases hlt : i < ar.length
        · have hg := map_atB iv hlt
          have hst := outB_take (n := n) hlt
          have hat := outB_at (n := n) hlt
          rw [hno, Bool.false_or] at hst
          generalize ar[i] = x at *
          by_cases hx : x < 0 ∨ (n : Int) ≤ x
          · have hb : (decide (x < 0) || decide ((n : Int) ≤ x)) = true := by simpa using hx
            rw [if_pos (hat hb)]
            clear hat hst hb
            rcases hx with hx | hx
            · (focus (refine wkld (w_a e1 (w_a e2 (w_a m2 (w_a ea (w_a en (w_a ei (w_a hg (w_a hla w_t)))))))) w_t w_t w_t ?_; (repeat' first | exact w_t | apply w_l); all_goals intros))
            · (focus (refine wkld (w_a e1 (w_a e2 (w_a m2 (w_a ea (w_a en (w_a ei (w_a hg (w_a hla w_t)))))))) w_t w_t w_t ?_; (repeat' first | exact w_t | apply w_l); all_goals intros))
          · have hb : (decide (x < 0) || decide ((n : Int) ≤ x)) = false := by simpa using hx
            rw [hb] at hst
            clear hat hb
            (focus (refine wkad (w_a e1 (w_a e2 (w_a m2 (w_a ea (w_a en (w_a ei (w_a hg (w_a hla w_t)))))))) w_t w_t ?_; (repeat' first | exact w_t | apply w_l); all_goals intros))
            exact ⟨i + 1, ⟨by omega, by exact gW e1, by exact gW e2, by exact gW m2, by exact gW ea, by exact gW en, by exact gS, hst⟩, by omega⟩
        · have hi2 : i = ar.length := by omega
          subst hi2
          rw [List.take_length] at hno
          rw [hno, if_neg (by decide)]
          by_cases hk : k = 9
          · subst hk
            cases ok
            · rw [if_pos (by simp)]
              (focus (refine wkld (w_a e1 (w_a e2 (w_a m2 (w_a ea (w_a en (w_a ei (w_a hla w_t))))))) (w_a cr (w_a cn w_t)) w_t w_t ?_; (repeat' first | exact w_t | apply w_l); all_goals intros))
            · rw [if_neg (by simp)]
              (focus (refine wkld (w_a e1 (w_a e2 (w_a m2 (w_a ea (w_a en (w_a ei (w_a hla w_t))))))) (w_a cr (w_a cn w_t)) w_t w_t ?_; (repeat' first | exact w_t | apply w_l); all_goals intros))
          · cases no
            · rw [if_pos (by simp [hk])]
              (focus (refine wkld (w_a e1 (w_a e2 (w_a m2 (w_a ea (w_a en (w_a ei (w_a hla w_t))))))) (w_a cr (w_a cn w_t)) w_t w_t ?_; (repeat' first | exact w_t | apply w_l); all_goals intros))
            · rw [if_neg (by simp [hk])]
              (focus (refine wkld (w_a e1 (w_a e2 (w_a m2 (w_a ea (w_a en (w_a ei (w_a hla w_t))))))) (w_a cr (w_a cn w_t)) w_t w_t ?_; (repeat' first | exact w_t | apply w_l); all_goals intros))
      · exact ⟨Nat.zero_le _, by exact gC, by exact gC, by exact gC, by exact gC, by exact gW hla, by exact gC, by simp [outB]⟩
set_option maxHeartbeats 8000000 in
theorem rlCheck (ss : List RS) (i : Nat) (hi : i < ss.length) (hl : ss.length ≤ 1000000000) (hs : ∀ s ∈ ss, s.sm) : Pure Tryz.prog 83 [.sl 6 (ss.map RS.av), iv i] (iv (errS ss i)) := by
  have hg := map_atB RS.av hi
  have hsm := hs _ (List.getElem_mem hi)
  unfold errS
  rw [show ss.getD i RS.zero = ss[i] from by rw [List.getD_eq_getElem?_getD, List.getElem?_eq_getElem hi]; rfl]
  have hgt : ∀ k, k < i → ∃ t : RS, ((ss.map RS.av).take i).getD k .u = t.av ∧ (ss.take i)[k]? = some t := fun k hk => by
    refine ⟨ss[k], ?_, ?_⟩
    · rw [List.getD_eq_getElem?_getD, List.getElem?_take, if_pos hk, List.getElem?_map, List.getElem?_eq_getElem (by omega)]; rfl
    · rw [List.getElem?_take, if_pos hk, List.getElem?_eq_getElem (by omega)]
  have hlm : (ss.map RS.av).length = ss.length := List.length_map ..
  have hlt : (ss.take i).length = i := by rw [List.length_take]; omega
  generalize ss.map RS.av = M at *
  generalize ss[i] = s at *
  generalize ss.take i = T at *
  clear hs
  obtain ⟨h1, h2, h3⟩ := hsm
  have ca := rlAr s.k
  have cr : Pure Tryz.prog 46 [s.r.av] (.v (.bool s.r.ok)) := qRight s.r.s s.r.l s.r.d h1.1 h1.2.1 h1.2.2.1 h1.2.2.2
  have cn := rlNone s.r
  have cm := rnName s.nm h2
  have hst := str_nil s.nm
  have hla : (s.ar.map iv).length = s.ar.length := List.length_map ..
  obtain ⟨k, nm, ar, r, rl, rd⟩ := s
  simp only at *
  generalize arS k = a at *
  generalize RQ.ok ⟨r, rl, rd⟩ = ok at *
  generalize RQ.none ⟨r, rl, rd⟩ = no at *
  generalize namB nm = nb at *
  by_cases w1 : a < 0
  · rw [if_pos w1]
    refine pure_intro (tok := 0) Tryz.func83 rfl Tryz.ntmps83 Tryz.results83 Tryz.call83 (by rfl) (by simp) ?_
    (focus (refine wkld (w_a hg (w_a hlm (w_a hla w_t))) (w_a ca w_t) w_t w_t ?_; (repeat' first | exact w_t | apply w_l); all_goals intros))
  · rw [if_neg w1]
    by_cases w2 : (ar.length : Int) ≠ a
    · rw [if_pos w2]
      refine pure_intro (tok := 0) Tryz.func83 rfl Tryz.ntmps83 Tryz.results83 Tryz.call83 (by rfl) (by simp) ?_
      (focus (refine wkld (w_a hg (w_a hlm (w_a hla w_t))) (w_a ca w_t) w_t (w_a (w_d 4 [(5, iv a)] [] []) w_t) ?_; (repeat' first | exact w_t | apply w_l); all_goals intros))
    · rw [if_neg w2]
      refine pure_intro (tok := 0) Tryz.func83 rfl Tryz.ntmps83 Tryz.results83 Tryz.call83 (by rfl) (by simp) ?_
      (focus (refine wkad (w_a hg (w_a hlm (w_a hla w_t))) (w_a ca w_t) (w_a (w_d 4 [(5, iv a)] [] []) w_t) ?_; (repeat' first | exact w_t | apply w_l); all_goals intros))
      rename_i g5
      refine r_loopE (ι := Nat) (fun x e m => x ≤ ar.length ∧ e 0 = .sl 6 M ∧ e 1 = iv i ∧ e 5 = .pbox 5 g5 0 ∧ m 5 = some (.box g5 77 [iv k, strA nm, ivs ar, .v (.bool r), lim rl, lim rd] false) ∧ e 26 = ivs ar ∧ e 27 = iv ar.length ∧ e 28 = iv x ∧ outB i (ar.take x) = false) (fun x => ar.length - x) 0 (by rfl) ?_ ?_
      · rintro x e m ⟨hx, e0, e1, e5, m5, e26, e27, e28, hno⟩
        by_cases hlt2 : x < ar.length
        · have hga := map_atB iv hlt2
          have hso := outB_take (n := (i : Int)) hlt2
          have hat := outB_at (n := (i : Int)) hlt2
          rw [hno, Bool.false_or] at hso
          generalize ar[x] = y at *
          by_cases hy : y < 0 ∨ (i : Int) ≤ y
          · have hb : (decide (y < 0) || decide ((i : Int) ≤ y)) = true := by simpa using hy
            rw [if_pos (hat hb)]
            clear hat hso hb
            rcases hy with hy | hy
            · (focus (refine wkld (w_a e0 (w_a e1 (w_a e5 (w_a m5 (w_a e26 (w_a e27 (w_a e28 (w_a hga (w_a hla w_t))))))))) w_t w_t w_t ?_; (repeat' first | exact w_t | apply w_l); all_goals intros))
            · (focus (refine wkld (w_a e0 (w_a e1 (w_a e5 (w_a m5 (w_a e26 (w_a e27 (w_a e28 (w_a hga (w_a hla w_t))))))))) w_t w_t w_t ?_; (repeat' first | exact w_t | apply w_l); all_goals intros))
          · have hb : (decide (y < 0) || decide ((i : Int) ≤ y)) = false := by simpa using hy
            rw [hb] at hso
            clear hat hb
            (focus (refine wkad (w_a e0 (w_a e1 (w_a e5 (w_a m5 (w_a e26 (w_a e27 (w_a e28 (w_a hga (w_a hla w_t))))))))) w_t w_t ?_; (repeat' first | exact w_t | apply w_l); all_goals intros))
            exact ⟨x + 1, ⟨by omega, by exact gW e0, by exact gW e1, by exact gW e5, by exact gW m5, by exact gW e26, by exact gW e27, by exact gS, hso⟩, by omega⟩
        · have hi2 : x = ar.length := by omega
          subst hi2
          rw [List.take_length] at hno
          rw [hno, if_neg (by decide)]
          by_cases w3 : (k = 2 ∧ ok = false) ∨ (k ≠ 2 ∧ no = false)
          · rw [if_pos w3]
            rcases w3 with ⟨hk, rfl⟩ | ⟨hk, rfl⟩
            · subst hk
              (focus (refine wkld (w_a e0 (w_a e1 (w_a e5 (w_a m5 (w_a e26 (w_a e27 (w_a e28 (w_a hla w_t)))))))) (w_a cr w_t) w_t w_t ?_; (repeat' first | exact w_t | apply w_l); all_goals intros))
            · (focus (refine wkld (w_a e0 (w_a e1 (w_a e5 (w_a m5 (w_a e26 (w_a e27 (w_a e28 (w_a hla w_t)))))))) (w_a cn w_t) w_t w_t ?_; (repeat' first | exact w_t | apply w_l); all_goals intros))
          · rw [if_neg w3]
            have w4 : (k = 2 ∧ ok = true) ∨ (k ≠ 2 ∧ no = true) := by
              by_cases hk : k = 2
              · cases ok
                · exact absurd (.inl ⟨hk, rfl⟩) w3
                · exact .inl ⟨hk, rfl⟩
              · cases no
                · exact absurd (.inr ⟨hk, rfl⟩) w3
                · exact .inr ⟨hk, rfl⟩
            clear w3
            have rest : ∀ (e : Nat → AV) (m : Mem), e 0 = .sl 6 M → e 1 = iv i → e 5 = .pbox 5 g5 0 → m 5 = some (.box g5 77 [iv k, strA nm, ivs ar, .v (.bool r), lim rl, lim rd] false) → True := fun _ _ _ _ _ _ => trivial
            clear rest
            by_cases w5 : nm.size = 0
            · rw [if_pos w5]
              rw [decide_eq_true w5] at hst
              rcases w4 with ⟨hk, rfl⟩ | ⟨hk, rfl⟩
              · subst hk
                (focus (refine wkld (w_a e0 (w_a e1 (w_a e5 (w_a m5 (w_a e26 (w_a e27 (w_a e28 (w_a hla (w_a hst w_t))))))))) (w_a cr w_t) w_t w_t ?_; (repeat' first | exact w_t | apply w_l); all_goals intros))
              · (focus (refine wkld (w_a e0 (w_a e1 (w_a e5 (w_a m5 (w_a e26 (w_a e27 (w_a e28 (w_a hla (w_a hst w_t))))))))) (w_a cn w_t) w_t w_t ?_; (repeat' first | exact w_t | apply w_l); all_goals intros))
            · rw [if_neg w5]
              rw [decide_eq_false w5] at hst
              cases nb with
              | false =>
                rw [if_pos rfl]
                rcases w4 with ⟨hk, rfl⟩ | ⟨hk, rfl⟩
                · subst hk
                  (focus (refine wkld (w_a e0 (w_a e1 (w_a e5 (w_a m5 (w_a e26 (w_a e27 (w_a e28 (w_a hla (w_a hst w_t))))))))) (w_a cr (w_a cm w_t)) w_t w_t ?_; (repeat' first | exact w_t | apply w_l); all_goals intros))
                · (focus (refine wkld (w_a e0 (w_a e1 (w_a e5 (w_a m5 (w_a e26 (w_a e27 (w_a e28 (w_a hla (w_a hst w_t))))))))) (w_a cn (w_a cm w_t)) w_t w_t ?_; (repeat' first | exact w_t | apply w_l); all_goals intros))
              | true =>
                rw [if_neg (by decide)]
                rcases w4 with ⟨hk, rfl⟩ | ⟨hk, rfl⟩
                all_goals first | (subst hk; (focus (refine wkad (w_a e0 (w_a e1 (w_a e5 (w_a m5 (w_a e26 (w_a e27 (w_a e28 (w_a hla (w_a hlm (w_a hst (w_a @l_drop0 (w_a @l_take w_t)))))))))))) (w_a cr (w_a cm w_t)) w_t ?_; (repeat' first | exact w_t | apply w_l); all_goals intros))) | (focus (refine wkad (w_a e0 (w_a e1 (w_a e5 (w_a m5 (w_a e26 (w_a e27 (w_a e28 (w_a hla (w_a hlm (w_a hst (w_a @l_drop0 (w_a @l_take w_t)))))))))))) (w_a cn (w_a cm w_t)) w_t ?_; (repeat' first | exact w_t | apply w_l); all_goals intros))
                all_goals
                  refine r_loopE (ι := Nat) (fun x e m => x ≤ i ∧ e 5 = .pbox 5 g5 0 ∧ (∃ k, m 5 = some (.box g5 77 [iv k, strA nm, ivs ar, .v (.bool r), lim rl, lim rd] false)) ∧ e 69 = .sl 6 (M.take i) ∧ e 70 = iv i ∧ e 71 = iv x ∧ (T.take x).any (fun t => t.nm.toList == nm.toList) = false) (fun x => i - x) 0 (by rfl) ?_ ?_
                  · rintro x e m ⟨hx, e5, ⟨k, m5⟩, e69, e70, e71, hnq⟩
                    by_cases hlt2 : x < i
                    · obtain ⟨t, ht, ht2⟩ := hgt x hlt2
                      have htl : x < T.length := by omega
                      have htx : T[x] = t := by rw [List.getElem?_eq_getElem htl] at ht2; cases ht2; rfl
                      have hsn : T.take (x + 1) = T.take x ++ [t] := by rw [List.take_succ_eq_append_getElem htl, htx]
                      have hmem : t ∈ T := by rw [← htx]; exact List.getElem_mem htl
                      obtain ⟨tk, tn, ta, tr, tl, td⟩ := t
                      have hll : (M.take i).length = i := by rw [List.length_take]; omega
                      cases hw : (tn.toList == nm.toList) with
                      | true =>
                        have hany : T.any (fun t => t.nm.toList == nm.toList) = true := List.any_eq_true.2 ⟨_, hmem, hw⟩
                        rw [if_pos hany]
                        (focus (refine wkld (w_a e5 (w_a m5 (w_a e69 (w_a e70 (w_a e71 (w_a ht (w_a hw (w_a hll w_t)))))))) w_t w_t w_t ?_; (repeat' first | exact w_t | apply w_l); all_goals intros))
                      | false =>
                        (focus (refine wkad (w_a e5 (w_a m5 (w_a e69 (w_a e70 (w_a e71 (w_a ht (w_a hw (w_a hll w_t)))))))) w_t w_t ?_; (repeat' first | exact w_t | apply w_l); all_goals intros))
                        exact ⟨x + 1, ⟨by omega, by exact gW e5, ⟨k, by exact gW m5⟩, by exact gW e69, by exact gW e70, by exact gS, by rw [hsn, List.any_append, hnq]; simp [hw]⟩, by omega⟩
                    · have hxi : x = i := by omega
                      subst hxi
                      rw [show T.take x = T from by rw [← hlt, List.take_length]] at hnq
                      rw [hnq, if_neg (by decide)]
                      (focus (refine wkld (w_a e5 (w_a m5 (w_a e69 (w_a e70 (w_a e71 w_t))))) w_t w_t w_t ?_; (repeat' first | exact w_t | apply w_l); all_goals intros))
                  · exact ⟨Nat.zero_le _, by exact gW e5, ⟨_, by exact gW m5⟩, by exact gC, by (simp (disch := omega) only [go_sem, List.length_take, hlm, Nat.min_eq_left] <;> repeat' first | rfl | refine ⟨?_, ?_⟩), by exact gC, by simp⟩
      · exact ⟨Nat.zero_le _, by exact gC, by exact gC, by exact gC, by exact gC, by exact gC, by exact gW hla, by exact gC, by simp [outB]⟩
set_option maxHeartbeats 8000000 in
theorem rlRight (ss : List RS) (gs : List RG) (h1 : ss.length ≤ 1000000000) (h2 : gs.length ≤ 1000000000) (hs : ∀ s ∈ ss, s.sm) (hg : ∀ g ∈ gs, g.sm) : Pure Tryz.prog 30 [figA ss gs] (iv (figE ss gs)) := by
  have hls : (ss.map RS.av).length = ss.length := List.length_map ..
  have hlg : (gs.map RG.av).length = gs.length := List.length_map ..
  have eg : ∀ i (h : i < gs.length), (gs.map RG.av).getD i .u = gs[i].av := fun i h => map_atB RG.av h
  have eg2 : ∀ i (h : i < gs.length), gs.getD i ⟨0, [], ⟨false, [], []⟩⟩ = gs[i] := fun i h => by rw [List.getD_eq_getElem?_getD, List.getElem?_eq_getElem h]; rfl
  have cc : ∀ i, i < ss.length → Pure Tryz.prog 83 [.sl 6 (ss.map RS.av), iv i] (iv (errS ss i)) := fun i hi => rlCheck ss i hi h1 hs
  have cg : ∀ i (h : i < gs.length), Pure Tryz.prog 84 [gs[i].av, iv ss.length] (iv (errG gs[i] ss.length)) := fun i h => rrRight gs[i] ss.length h1 (hg _ (List.getElem_mem h))
  unfold figE
  show Pure _ _ [.agg [.sl 6 (ss.map RS.av), .sl 5 (gs.map RG.av)]] _
  generalize ss.map RS.av = M at *
  generalize gs.map RG.av = N at *
  by_cases hb : 40 < ss.length ∨ 8 < gs.length
  · rw [if_pos hb]
    refine pure_intro (tok := 0) Tryz.func30 rfl Tryz.ntmps30 Tryz.results30 Tryz.call30 (by rfl) (by simp) ?_
    (focus (refine wklp (w_a hls (w_a hlg w_t)) w_t w_t (w_r 0) ?_; (repeat' first | exact w_t | apply w_l); all_goals intros))
  · rw [if_neg hb]
    refine pure_intro (tok := 0) Tryz.func30 rfl Tryz.ntmps30 Tryz.results30 Tryz.call30 (by rfl) (by simp) ?_
    (focus (refine wkap (w_a hls (w_a hlg w_t)) w_t (w_r 0) ?_; (repeat' first | exact w_t | apply w_l); all_goals intros))
    rename_i g1
    refine r_loopE (ι := Nat) (fun i e m => i ≤ ss.length ∧ e 1 = .pbox 1 g1 0 ∧ m 1 = some (.box g1 25 [.sl 6 M, .sl 5 N] false) ∧ e 20 = iv ss.length ∧ e 21 = iv i ∧ ∀ j, j < i → errS ss j = 0) (fun i => ss.length - i) 0 (by rfl) ?_ ?_
    · rintro i e m ⟨hi, e1, m1, e20, e21, hz⟩
      by_cases hlt : i < ss.length
      · have c := cc i hlt
        by_cases he : errS ss i = 0
        · rw [he] at c
          (focus (refine wkap (w_a e1 (w_a m1 (w_a e20 (w_a e21 (w_a hls (w_a hlg w_t)))))) (w_a c w_t) (w_r 0) ?_; (repeat' first | exact w_t | apply w_l); all_goals intros))
          exact ⟨i + 1, ⟨by omega, by exact gW e1, by exact gW m1, by exact gW e20, by exact gS, fun j hj => by by_cases e : j = i; rw [e]; exact he; exact hz j (by omega)⟩, by omega⟩
        · rw [fstE_at hz he hlt, if_pos he]
          generalize errS ss i = z at *
          (focus (refine wklp (w_a e1 (w_a m1 (w_a e20 (w_a e21 (w_a hls (w_a hlg w_t)))))) (w_a c w_t) w_t (w_r 0) ?_; (repeat' first | exact w_t | apply w_l); all_goals intros))
      · have hi2 : i = ss.length := by omega
        subst hi2
        rw [fstE_zero hz, if_neg (by simp)]
        (focus (refine wkap (w_a e1 (w_a m1 (w_a e20 (w_a e21 (w_a hls (w_a hlg w_t)))))) w_t (w_r 0) ?_; (repeat' first | exact w_t | apply w_l); all_goals intros))
        refine r_loopE (ι := Nat) (fun i e m => i ≤ gs.length ∧ e 1 = .pbox 1 g1 0 ∧ m 1 = some (.box g1 25 [.sl 6 M, .sl 5 N] false) ∧ e 33 = .sl 5 N ∧ e 34 = iv gs.length ∧ e 35 = iv i ∧ ∀ j, j < i → errG (gs.getD j ⟨0, [], ⟨false, [], []⟩⟩) ss.length = 0) (fun i => gs.length - i) 0 (by rfl) ?_ ?_
        · rintro i e m ⟨hi, e1, m1, e33, e34, e35, hz⟩
          by_cases hlt : i < gs.length
          · have c := cg i hlt
            have hgi := eg i hlt
            have hgj := eg2 i hlt
            have hfa := @fstE_at (fun i => errG (gs.getD i ⟨0, [], ⟨false, [], []⟩⟩) ss.length) i hz
            simp only [hgj] at hfa
            generalize gs[i] = G at *
            by_cases he : errG G ss.length = 0
            · rw [he] at c
              clear hfa
              obtain ⟨k, ar, r, rl, rd⟩ := G
              (focus (refine wkap (w_a e1 (w_a m1 (w_a e33 (w_a e34 (w_a e35 (w_a hls (w_a hlg (w_a hgi w_t)))))))) (w_a c w_t) (w_r 0) ?_; (repeat' first | exact w_t | apply w_l); all_goals intros))
              exact ⟨i + 1, ⟨by omega, by exact gW e1, by exact gW m1, by exact gW e33, by exact gW e34, by exact gS, fun j hj => by by_cases e : j = i; rw [e, hgj]; exact he; exact hz j (by omega)⟩, by omega⟩
            · rw [hfa he hlt]
              clear hfa
              generalize errG G ss.length = z at *
              obtain ⟨k, ar, r, rl, rd⟩ := G
              (focus (refine wklp (w_a e1 (w_a m1 (w_a e33 (w_a e34 (w_a e35 (w_a hls (w_a hlg (w_a hgi w_t)))))))) (w_a c w_t) w_t (w_r 0) ?_; (repeat' first | exact w_t | apply w_l); all_goals intros))
          · have hi2 : i = gs.length := by omega
            subst hi2
            rw [fstE_zero hz]
            (focus (refine wklp (w_a e1 (w_a m1 (w_a e33 (w_a e34 (w_a e35 (w_a hls (w_a hlg w_t))))))) w_t w_t (w_r 0) ?_; (repeat' first | exact w_t | apply w_l); all_goals intros))
        · exact ⟨Nat.zero_le _, by exact gW e1, by exact gW m1, by exact gC, by exact gW hlg, by exact gC, fun j hj => by omega⟩
    · exact ⟨Nat.zero_le _, by exact gC, by exact gC, by exact gW hls, by exact gC, fun j hj => by omega⟩
end Go.Proofs.YteiopjkamgmfpaaGreatDoor
end

section
namespace Go.Proofs.YteiopjkamgmfpaaGreatDoor
open Go Go.RowKit Go.Pg Go.Pol
set_option linter.unusedSimpArgs false
set_option linter.unusedVariables false
set_option maxRecDepth 20000
attribute [local go_sem] Tryz.underlying3 Tryz.underlying4 Tryz.underlying156 Tryz.underlying9 Tryz.underlying75 Tryz.underlying34 Tryz.underlying49 Tryz.underlying47 Tryz.underlying45 Tryz.underlying77 Tryz.underlying22 Tryz.underlying25 Tryz.underlying129 Tryz.underlying31 Tryz.underlying79 Tryz.underlying30 Tryz.underlying33 Tryz.underlying38 Tryz.underlying138 sz3 by3 z3 szB zB szErr zErr szStr byStr zStr szRat zRat szInt zInt szNat zNat szStep byStep zStep szFig zFig szSlI zSlI szSlS zSlS szVar byVar zVar szSlV zSlV szCoord byCoord zCoord szSlC zSlC szFrame zFrame szPoly byPoly zPoly szTerm zTerm
attribute [-bool_to_prop] Bool.and_eq_decide Bool.or_eq_decide Bool.decide_beq_decide decide_eq_decide
theorem Sub.nil (m : Nat) : Sub (.v (.slice none 0 0)) (.sl m []) := fun w imm x h => by
  rw [h.v_inv]
  exact .pure ((Wk.nil m).rd (.v _))
theorem Sub.agg2 {a b a' b' : AV} (h : Sub a a') (k : Sub b b') : Sub (.agg [a, b]) (.agg [a', b']) := Sub.agg _ _ rfl fun j x y h1 h2 => by
  match j with
  | 0 => simp at h1 h2; subst h1; subst h2; exact h
  | 1 => simp at h1 h2; subst h1; subst h2; exact k
  | j + 2 => simp at h1
theorem upd_same' {σ : Mem} {k : Nat} {e : Ent} (h : σ k = some e) : upd σ k (some e) = σ := by
  funext j; rw [upd_at]; split
  · subst_vars; exact h.symm
  · rfl
end Go.Proofs.YteiopjkamgmfpaaGreatDoor
end

section
namespace Go.Proofs.YteiopjkamgmfpaaGreatDoor
open Go Go.RowKit Go.Pg Go.Pol
set_option linter.unusedSimpArgs false
set_option linter.unusedVariables false
set_option maxRecDepth 20000
attribute [local go_sem] Tryz.underlying3 Tryz.underlying4 Tryz.underlying156 Tryz.underlying9 Tryz.underlying75 Tryz.underlying34 Tryz.underlying49 Tryz.underlying47 Tryz.underlying45 Tryz.underlying77 Tryz.underlying22 Tryz.underlying25 Tryz.underlying129 Tryz.underlying31 Tryz.underlying79 Tryz.underlying30 Tryz.underlying33 Tryz.underlying38 Tryz.underlying138 sz3 by3 z3 szB zB szErr zErr szStr byStr zStr szRat zRat szInt zInt szNat zNat szStep byStep zStep szFig zFig szSlI zSlI szSlS zSlS szVar byVar zVar szSlV zSlV szCoord byCoord zCoord szSlC zSlC szFrame zFrame szPoly byPoly zPoly szTerm zTerm
attribute [-bool_to_prop] Bool.and_eq_decide Bool.or_eq_decide Bool.decide_beq_decide decide_eq_decide
theorem lents_beq {K c : Nat} (h : c < 1000) : (K + 1000 == c) = false := by rw [beq_eq_false_iff_ne]; omega
theorem u16s_inj {a b : List Nat} (h : u16s a = u16s b) : a = b := by
  induction a generalizing b with
  | nil => cases b with
    | nil => rfl
    | cons y b => simp [u16s] at h
  | cons x a ih => cases b with
    | nil => simp [u16s] at h
    | cons y b =>
      rw [u16s_c, u16s_c] at h
      simp only [List.cons.injEq, AV.v.injEq, Value.int.injEq, true_and] at h
      rw [ih h.2, show x = y by omega]
theorem RQ.ok_eq {r : RQ} {k : Nat} (hl : r.lm k) (h : r.ok = true) : r = ⟨decide (r.q.num < 0), toL r.q.num.natAbs, toL r.q.den⟩ := by
  have h1 := (RQ.ok_av hl h).1
  simp only [RQ.av, ratQ, AV.agg.injEq, List.cons.injEq, AV.v.injEq, Value.bool.injEq, lim, AV.sl.injEq, true_and, and_true] at h1
  obtain ⟨s, l, d⟩ := r
  simp only at h1
  rw [RQ.mk.injEq]
  exact ⟨h1.1, u16s_inj h1.2.1, u16s_inj h1.2.2⟩
end Go.Proofs.YteiopjkamgmfpaaGreatDoor
end

section
namespace Go.Proofs.YteiopjkamgmfpaaGreatDoor
open Go Go.RowKit Go.Pg Go.Pol
set_option linter.unusedSimpArgs false
set_option linter.unusedVariables false
set_option maxRecDepth 20000
attribute [local go_sem] Tryz.underlying3 Tryz.underlying4 Tryz.underlying156 Tryz.underlying9 Tryz.underlying75 Tryz.underlying34 Tryz.underlying49 Tryz.underlying47 Tryz.underlying45 Tryz.underlying77 Tryz.underlying22 Tryz.underlying25 Tryz.underlying129 Tryz.underlying31 Tryz.underlying79 Tryz.underlying30 Tryz.underlying33 Tryz.underlying38 Tryz.underlying138 sz3 by3 z3 szErr zErr szStr byStr zStr szStep byStep zStep szFig zFig szSlI zSlI szSlS zSlS szVar byVar zVar szSlV zSlV szCoord byCoord zCoord szSlC zSlC szFrame zFrame szPoly byPoly zPoly szTerm zTerm
attribute [-bool_to_prop] Bool.and_eq_decide Bool.or_eq_decide Bool.decide_beq_decide decide_eq_decide
/-! ### the parameters of a frame -/
abbrev frmA (cs : List (Po × Po)) (vs : List Vt) : AV := .agg [.sl 2 (cs.map coA), .sl 3 (vs.map Vt.av)]
def parsN (l : List Vt) (i : Nat) : List Int := ((List.range i).filter fun j => decide ((l.getD j (0, 0, 0)).1 = 1)).map fun n : Nat => (n : Int)
theorem parsN_len (l : List Vt) (i : Nat) : (parsN l i).length ≤ i := by
  unfold parsN
  rw [List.length_map]
  exact Nat.le_trans (List.length_filter_le _ _) (by simp)
theorem parsN_y {l : List Vt} {i : Nat} (h : (l.getD i (0, 0, 0)).1 = 1) : parsN l (i + 1) = parsN l i ++ [(i : Int)] := by
  unfold parsN
  rw [List.range_succ, List.filter_append, List.filter_cons, if_pos (decide_eq_true h), List.map_append]; rfl
theorem parsN_n {l : List Vt} {i : Nat} (h : (l.getD i (0, 0, 0)).1 ≠ 1) : parsN l (i + 1) = parsN l i := by
  unfold parsN
  rw [List.range_succ, List.filter_append, List.filter_cons, if_neg (by rw [decide_eq_false h]; simp), List.map_append]; simp
set_option maxHeartbeats 2000000 in
theorem coParams (cs : List (Po × Po)) (l : List Vt) (hl : l.length ≤ 70) : Pure Tryz.prog 32 [frmA cs l] (ivs (parsN l l.length)) := by
  show Pure _ _ [.agg [.sl 2 (cs.map coA), .sl 3 (l.map Vt.av)]] _
  generalize cs.map coA = C
  refine pure_intro (tok := 0) Tryz.func32 rfl Tryz.ntmps32 Tryz.results32 Tryz.call32 (by rfl) (by simp) ?_
  (focus (refine wkap (w_a @l_map w_t) w_t (w_r 0) ?_; (repeat' first | exact w_t | apply w_l); all_goals intros))
  refine r_frz (Frz.nilOwn (d := 3) 20 1 3 (by exact gC)) ?_
  refine r_loopE (ι := Nat) (fun i e m => i ≤ l.length ∧ e 7 = .sl 3 (l.map Vt.av) ∧ e 8 = iv l.length ∧ e 9 = iv i ∧ ∃ sv, e 3 = .own 20 sv ∧ m 20 = some (.row sv 3 1 ((parsN l i).map iv) 0)) (fun i => l.length - i) 0 (by rfl) ?_ ?_
  · rintro i e m ⟨hi, e7, e8, e9, sv, e3, em⟩
    have hpl := parsN_len l i
    by_cases hlt : i < l.length
    · have hg : (l.map Vt.av).getD i .u = Vt.av (l.getD i (0, 0, 0)) := by rw [List.getD_eq_getElem?_getD, List.getElem?_map, List.getElem?_eq_getElem hlt, List.getD_eq_getElem?_getD, List.getElem?_eq_getElem hlt]; rfl
      by_cases h1 : (l.getD i (0, 0, 0)).1 = 1
      · have hs := parsN_y h1
        generalize parsN l i = ps at *
        generalize l.getD i (0, 0, 0) = v at *
        obtain ⟨v1, v2, v3⟩ := v
        (focus (refine wkap (w_a e7 (w_a e8 (w_a e9 (w_a e3 (w_a em (w_a hg (w_a h1 (w_a @l_map w_t)))))))) w_t (w_r 0) ?_; (repeat' first | exact w_t | apply w_l); all_goals intros))
        all_goals refine ⟨i + 1, ⟨by omega, by exact gW e7, by exact gW e8, by exact gS, _, by exact gW e3, ?_⟩, by omega⟩
        all_goals (rw [hs, List.map_append]; exact gC)
      · have hs := parsN_n h1
        generalize parsN l i = ps at *
        generalize l.getD i (0, 0, 0) = v at *
        obtain ⟨v1, v2, v3⟩ := v
        (focus (refine wkap (w_a e7 (w_a e8 (w_a e9 (w_a e3 (w_a em (w_a hg (w_a @l_map w_t))))))) w_t (w_r 0) ?_; (repeat' first | exact w_t | apply w_l); all_goals intros))
        all_goals refine ⟨i + 1, ⟨by omega, by exact gW e7, by exact gW e8, by exact gS, _, by exact gW e3, ?_⟩, by omega⟩
        all_goals (rw [hs]; exact gW em)
    · have hi2 : i = l.length := by omega
      subst hi2
      (focus (refine wkap (w_a e7 (w_a e8 (w_a e9 (w_a e3 (w_a em (w_a @l_map w_t)))))) w_t (w_r 0) ?_; (repeat' first | exact w_t | apply w_l); all_goals intros))
      simp (disch := omega) only [go_sem, em, List.length_map]
  · exact ⟨by omega, by exact gC, by (simp (disch := omega) only [go_sem, List.length_map] <;> repeat' first | rfl | refine ⟨?_, ?_⟩), by exact gC, _, by exact gC, by (simp (disch := omega) only [go_sem, parsN, List.range_zero, List.filter_nil] <;> repeat' first | rfl | refine ⟨?_, ?_⟩)⟩
/-! ### how many there are -/
def cnt1 (l : List Vt) : Nat := (l.filter fun v => decide (v.1 = 1)).length
def cF (ss : List RS) : Nat → Nat
  | 0 => 0
  | i + 1 => cF ss i + if (ss.getD i RS.zero).k = 1 then 1 else 0
def cP (ss : List RS) : Nat → Nat
  | 0 => 0
  | i + 1 => cP ss i + if (ss.getD i RS.zero).k = 5 ∨ (ss.getD i RS.zero).k = 6 then 1 else 0
def cD (ss : List RS) : Nat → Nat
  | 0 => 0
  | i + 1 => cD ss i + if (ss.getD i RS.zero).k = 1 ∨ (ss.getD i RS.zero).k = 2 ∨ (ss.getD i RS.zero).k = 3 ∨ (ss.getD i RS.zero).k = 4 ∨ (ss.getD i RS.zero).k = 5 then 0 else 2
end Go.Proofs.YteiopjkamgmfpaaGreatDoor
end

section
namespace Go.Proofs.YteiopjkamgmfpaaGreatDoor
open Go Go.RowKit Go.Pg Go.Pol
set_option linter.unusedSimpArgs false
set_option linter.unusedVariables false
set_option maxRecDepth 20000
attribute [local go_sem] Tryz.underlying3 Tryz.underlying4 Tryz.underlying156 Tryz.underlying9 Tryz.underlying75 Tryz.underlying34 Tryz.underlying49 Tryz.underlying47 Tryz.underlying45 Tryz.underlying77 Tryz.underlying22 Tryz.underlying25 Tryz.underlying129 Tryz.underlying31 Tryz.underlying79 Tryz.underlying30 Tryz.underlying33 Tryz.underlying38 Tryz.underlying138 sz3 by3 z3 szB zB szErr zErr szStr byStr zStr szRat zRat szInt zInt szNat zNat szStep byStep zStep szFig zFig szSlI zSlI szSlS zSlS szVar byVar zVar szSlV zSlV szCoord byCoord zCoord szSlC zSlC szFrame zFrame szPoly byPoly zPoly szTerm zTerm
attribute [-bool_to_prop] Bool.and_eq_decide Bool.or_eq_decide Bool.decide_beq_decide decide_eq_decide
theorem Sub.tup2 {a b a' b' : AV} (h : Sub a a') (k : Sub b b') : Sub (.tup [a, b]) (.tup [a', b']) := Sub.tup _ _ rfl fun j x y h1 h2 => by
  match j with
  | 0 => simp at h1 h2; subst h1; subst h2; exact h
  | 1 => simp at h1 h2; subst h1; subst h2; exact k
  | j + 2 => simp at h1
theorem Agr.re {m σ : Mem} {t k : Nat} {e1 e e' : Ent} (h : Agr m (upd σ k (some e1))) (ht : t = k + 1000) (he : e' = e.sh) : Agr (upd m t (some e')) (upd σ k (some e)) := by
  have := h.put (k := k) (e := e) ht he
  rwa [upd_over] at this
/-- A frame's handles under other names. -/
theorem Sub.frame (KC KV KC' KV' : Nat) (svC svV : Value) : Sub (.agg [.own KC svC, .own KV svV]) (.agg [.own KC' svC, .own KV' svV]) := Sub.agg2 (Sub.own _ _ _) (Sub.own _ _ _)
set_option maxHeartbeats 2000000 in
theorem rcParam (σ : Mem) (KC KV : Nat) (svC svV : Value) (vs : List Vt) (kind step number : Int) (hV : σ KV = some (.row svV 129 3 (vs.map Vt.av) 0)) (hl : vs.length ≤ 200) :
    ACall Tryz.prog 89 [.agg [.own KC svC, .own KV svV], iv kind, iv step, iv number] σ fun r σ' => ∃ sv, r = .tup [.agg [.own KC svC, .own KV sv], poA (varM vs.length)] ∧ σ' = upd σ KV (some (.row sv 129 3 ((vs ++ [(kind, step, number)]).map Vt.av) 0)) := by
  have mV := lents_at hV
  have cv := rpVar vs.length (by omega)
  have hln : (vs.map Vt.av).length = vs.length := List.length_map ..
  have hm1 : ((vs.length + 1 : Nat) : Int) - 1 = (vs.length : Int) := by omega
  simp only [Ent.sh, AV.shL, AV.sh] at mV
  simp only [List.map_append, List.map_cons, List.map_nil]
  refine acall_lents Tryz.func89 rfl Tryz.ntmps89 Tryz.results89 Tryz.call89 (by rfl) (by simp) ?_
  (focus (refine wkad (w_a mV (w_a hln (w_a hm1 (w_a @l_app (w_a @lents_lt (w_a @lents_beq w_t)))))) (w_a cv w_t) (w_a (w_d 2 [(5, poA (varM vs.length))] [] [8]) w_t) ?_; (repeat' first | exact w_t | apply w_l); all_goals intros))
  simp (disch := omega) only [go_sem]
  rename_i sv1
  refine backS (Sub.tup2 (Sub.frame _ _ _ _ _ _) (Sub.refl _)) ⟨sv1, rfl, rfl⟩ ?_
  (repeat (refine Agr.own ?_ (by omega)))
  refine Agr.put ?_ rfl rfl
  (repeat' (first | exact Agr.start _ | (refine Agr.own ?_ (by omega))))
set_option maxHeartbeats 4000000 in
theorem rcFree (σ : Mem) (KC KV : Nat) (svC svV : Value) (vs : List Vt) (i fr : Nat) (hV : σ KV = some (.row svV 129 3 (vs.map Vt.av) 0)) (hl : vs.length ≤ 100) (hf : fr ≤ 1000) :
    ACall Tryz.prog 85 [.agg [.own KC svC, .own KV svV], iv i, iv fr] σ fun r σ' => ∃ sv, r = .tup [.agg [.own KC svC, .own KV sv], coA (if fr = 0 then ([], []) else if fr = 1 then (varM vs.length, []) else (varM vs.length, varM (vs.length + 1)))] ∧
      σ' = upd σ KV (some (.row sv 129 3 ((vs ++ (if fr = 0 then [] else if fr = 1 then [(1, (i : Int), 0)] else [(1, (i : Int), 0), (1, (i : Int), 1)])).map Vt.av) 0)) := by
  have mV := lents_at hV
  simp only [Ent.sh, AV.shL, AV.sh] at mV
  by_cases h0 : fr = 0
  · subst h0
    simp only [if_true, List.append_nil]
    refine acall_lents Tryz.func85 rfl Tryz.ntmps85 Tryz.results85 Tryz.call85 (by rfl) (by simp) ?_
    (focus (refine wkad (w_a mV w_t) w_t (w_a (w_d 6 [] [] [6, 7]) w_t) ?_; (repeat' first | exact w_t | apply w_l); all_goals intros))
    simp (disch := omega) only [go_sem]
    refine backS (Sub.tup2 (Sub.frame _ _ _ _ _ _) (Sub.agg2 (Sub.nil 4) (Sub.nil 4))) ⟨svV, rfl, rfl⟩ ?_
    rw [upd_same' hV]
    (repeat' (first | exact Agr.start _ | (refine Agr.own ?_ (by omega))))
  · by_cases h1 : fr = 1
    · subst h1
      simp only [if_neg h0, if_true]
      refine acall_lents Tryz.func85 rfl Tryz.ntmps85 Tryz.results85 Tryz.call85 (by rfl) (by simp) ?_
      (focus (refine wkad (w_a mV w_t) w_t w_t ?_; (repeat' first | exact w_t | apply w_l); all_goals intros))
      refine o_fresh (rcParam _ (KC + 1000) (KV + 1000) svC svV vs 1 (i : Int) 0 (by (simp (disch := omega) only [go_sem, mV, if_neg, if_pos, List.map_append, List.map_cons, List.map_nil] <;> repeat' first | rfl | refine ⟨?_, ?_⟩)) (by first | omega | (simp; omega))) ?_
      intro sv1
      (focus (refine wkad (w_a mV w_t) w_t (w_a (w_d 6 [] [] [6, 7]) w_t) ?_; (repeat' first | exact w_t | apply w_l); all_goals intros))
      simp (disch := omega) only [go_sem]
      refine backS (Sub.tup2 (Sub.frame _ _ _ _ _ _) (Sub.agg2 (Sub.refl _) (Sub.nil 4))) ⟨sv1, rfl, rfl⟩ ?_
      simp only [List.map_append, List.map_cons, List.map_nil]
      (repeat (refine Agr.own ?_ (by omega)))
      refine Agr.put ?_ rfl rfl
      (repeat' (first | exact Agr.start _ | (refine Agr.own ?_ (by omega))))
    · simp only [if_neg h0, if_neg h1]
      have hl1 : (vs ++ [((1 : Int), (i : Int), (0 : Int))]).length = vs.length + 1 := by simp
      refine acall_lents Tryz.func85 rfl Tryz.ntmps85 Tryz.results85 Tryz.call85 (by rfl) (by simp) ?_
      (focus (refine wkad (w_a mV w_t) w_t w_t ?_; (repeat' first | exact w_t | apply w_l); all_goals intros))
      refine o_fresh (rcParam _ (KC + 1000) (KV + 1000) svC svV vs 1 (i : Int) 0 (by (simp (disch := omega) only [go_sem, mV, if_neg, if_pos, List.map_append, List.map_cons, List.map_nil] <;> repeat' first | rfl | refine ⟨?_, ?_⟩)) (by first | omega | (simp; omega))) ?_
      intro sv1
      (focus (refine wkad (w_a mV w_t) w_t w_t ?_; (repeat' first | exact w_t | apply w_l); all_goals intros))
      refine o_fresh (rcParam _ (KC + 1000) (KV + 1000) svC sv1 (vs ++ [(1, (i : Int), 0)]) 1 (i : Int) 1 (by (simp (disch := omega) only [go_sem, mV, if_neg, if_pos, List.map_append, List.map_cons, List.map_nil] <;> repeat' first | rfl | refine ⟨?_, ?_⟩)) (by first | omega | (simp; omega))) ?_
      intro sv2
      (focus (refine wkad (w_a mV (w_a hl1 w_t)) w_t (w_a (w_d 6 [] [] [6, 7]) w_t) ?_; (repeat' first | exact w_t | apply w_l); all_goals intros))
      simp (disch := omega) only [go_sem, hl1]
      refine backS (Sub.tup2 (Sub.frame _ _ _ _ _ _) (Sub.refl _)) ⟨sv2, rfl, rfl⟩ ?_
      simp only [List.append_assoc, List.cons_append, List.nil_append]
      (repeat (refine Agr.own ?_ (by omega)))
      refine Agr.re (e1 := .row sv1 129 3 ((vs ++ [(1, (i : Int), 0)]).map Vt.av) 0) ?_ rfl rfl
      (repeat (refine Agr.own ?_ (by omega)))
      refine Agr.put ?_ rfl rfl
      (repeat' (first | exact Agr.start _ | (refine Agr.own ?_ (by omega))))
set_option maxHeartbeats 4000000 in
theorem rcDep (σ : Mem) (KC KV : Nat) (svC svV : Value) (vs : List Vt) (i : Nat) (num : Int) (hV : σ KV = some (.row svV 129 3 (vs.map Vt.av) 0)) (hl : vs.length ≤ 100) (hn : 0 ≤ num ∧ num ≤ 10) :
    ACall Tryz.prog 90 [.agg [.own KC svC, .own KV svV], iv i, iv num] σ fun r σ' => ∃ sv, r = .tup [.agg [.own KC svC, .own KV sv], coA (varM vs.length, varM (vs.length + 1))] ∧
      σ' = upd σ KV (some (.row sv 129 3 ((vs ++ [(2, (i : Int), num), (2, (i : Int), num + 1)]).map Vt.av) 0)) := by
  have mV := lents_at hV
  simp only [Ent.sh, AV.shL, AV.sh] at mV
  have hl1 : (vs ++ [((2 : Int), (i : Int), num)]).length = vs.length + 1 := by simp
  refine acall_lents Tryz.func90 rfl Tryz.ntmps90 Tryz.results90 Tryz.call90 (by rfl) (by simp) ?_
  (focus (refine wkad (w_a mV w_t) w_t w_t ?_; (repeat' first | exact w_t | apply w_l); all_goals intros))
  refine o_fresh (rcParam _ (KC + 1000) (KV + 1000) svC svV vs 2 (i : Int) num (by (simp (disch := omega) only [go_sem, mV, if_neg, if_pos, List.map_append, List.map_cons, List.map_nil] <;> repeat' first | rfl | refine ⟨?_, ?_⟩)) (by first | omega | (simp; omega))) ?_
  intro sv1
  (focus (refine wkad (w_a mV w_t) w_t w_t ?_; (repeat' first | exact w_t | apply w_l); all_goals intros))
  refine o_fresh (rcParam _ (KC + 1000) (KV + 1000) svC sv1 (vs ++ [(2, (i : Int), num)]) 2 (i : Int) (num + 1) (by (simp (disch := omega) only [go_sem, mV, if_neg, if_pos, List.map_append, List.map_cons, List.map_nil] <;> repeat' first | rfl | refine ⟨?_, ?_⟩)) (by first | omega | (simp; omega))) ?_
  intro sv2
  (focus (refine wkad (w_a mV (w_a hl1 w_t)) w_t (w_a (w_d 4 [] [] [6, 7]) w_t) ?_; (repeat' first | exact w_t | apply w_l); all_goals intros))
  simp (disch := omega) only [go_sem, hl1]
  refine backS (Sub.tup2 (Sub.frame _ _ _ _ _ _) (Sub.refl _)) ⟨sv2, rfl, rfl⟩ ?_
  simp only [List.append_assoc, List.cons_append, List.nil_append]
  (repeat (refine Agr.own ?_ (by omega)))
  refine Agr.re (e1 := .row sv1 129 3 ((vs ++ [(2, (i : Int), num)]).map Vt.av) 0) ?_ rfl rfl
  (repeat (refine Agr.own ?_ (by omega)))
  refine Agr.put ?_ rfl rfl
  (repeat' (first | exact Agr.start _ | (refine Agr.own ?_ (by omega))))
theorem rcAlong (a b : Po × Po) (m d1 d2 e1 e2 f1 f2 : Po) (s1 : Pure Tryz.prog 100 [poA b.1, poA a.1] (poA d1)) (s2 : Pure Tryz.prog 100 [poA b.2, poA a.2] (poA d2))
    (m1 : Pure Tryz.prog 101 [poA m, poA d1] (poA e1)) (m2 : Pure Tryz.prog 101 [poA m, poA d2] (poA e2)) (a1 : Pure Tryz.prog 102 [poA a.1, poA e1] (poA f1)) (a2 : Pure Tryz.prog 102 [poA a.2, poA e2] (poA f2)) :
    Pure Tryz.prog 86 [coA a, coA b, poA m] (coA (f1, f2)) := by
  obtain ⟨x1, x2⟩ := a
  obtain ⟨y1, y2⟩ := b
  simp only at *
  refine pure_intro (tok := 0) Tryz.func86 rfl Tryz.ntmps86 Tryz.results86 Tryz.call86 (by rfl) (by simp) ?_
  (focus (refine wkld w_t (w_a s1 (w_a s2 (w_a m1 (w_a m2 (w_a a1 (w_a a2 w_t)))))) w_t (w_a (w_d 1 [(7, poA d1), (8, poA e1), (9, poA f1), (17, poA d2), (18, poA e2), (19, poA f2)] [] [6]) w_t) ?_; (repeat' first | exact w_t | apply w_l); all_goals intros))
theorem rcPlus (p q r d f : Po) (s : Pure Tryz.prog 100 [poA q, poA r] (poA d)) (a : Pure Tryz.prog 102 [poA p, poA d] (poA f)) : Pure Tryz.prog 88 [poA p, poA q, poA r] (poA f) := by
  refine pure_intro (tok := 0) Tryz.func88 rfl Tryz.ntmps88 Tryz.results88 Tryz.call88 (by rfl) (by simp) ?_
  (focus (refine wklp w_t (w_a s (w_a a w_t)) w_t (w_r 0) ?_; (repeat' first | exact w_t | apply w_l); all_goals intros))
end Go.Proofs.YteiopjkamgmfpaaGreatDoor
end

section
namespace Go.Proofs.YteiopjkamgmfpaaGreatDoor
open Go Go.RowKit Go.Pg Go.Pol
set_option linter.unusedSimpArgs false
set_option linter.unusedVariables false
set_option maxRecDepth 20000
attribute [local go_sem] Tryz.underlying3 Tryz.underlying4 Tryz.underlying156 Tryz.underlying9 Tryz.underlying75 Tryz.underlying34 Tryz.underlying49 Tryz.underlying47 Tryz.underlying45 Tryz.underlying77 Tryz.underlying22 Tryz.underlying25 Tryz.underlying129 Tryz.underlying31 Tryz.underlying79 Tryz.underlying30 Tryz.underlying33 Tryz.underlying38 Tryz.underlying138 sz3 by3 z3 szB zB szErr zErr szStr byStr zStr szRat zRat szInt zInt szNat zNat szStep byStep zStep szFig zFig szSlI zSlI szSlS zSlS szVar byVar zVar szSlV zSlV szCoord byCoord zCoord szSlC zSlC szFrame zFrame szPoly byPoly zPoly szTerm zTerm
attribute [-bool_to_prop] Bool.and_eq_decide Bool.or_eq_decide Bool.decide_beq_decide decide_eq_decide
end Go.Proofs.YteiopjkamgmfpaaGreatDoor
end

section
namespace Go.Proofs.YteiopjkamgmfpaaGreatDoor
open Go Go.RowKit Go.Pg Go.Pol
set_option linter.unusedSimpArgs false
set_option linter.unusedVariables false
set_option maxRecDepth 20000
attribute [local go_sem] Tryz.underlying3 Tryz.underlying4 Tryz.underlying156 Tryz.underlying9 Tryz.underlying75 Tryz.underlying34 Tryz.underlying49 Tryz.underlying47 Tryz.underlying45 Tryz.underlying77 Tryz.underlying22 Tryz.underlying25 Tryz.underlying129 Tryz.underlying31 Tryz.underlying79 Tryz.underlying30 Tryz.underlying33 Tryz.underlying38 Tryz.underlying138 sz3 by3 z3 szB zB szErr zErr szStr byStr zStr szRat zRat szInt zInt szNat zNat szStep byStep zStep szFig zFig szSlI zSlI szSlS zSlS szVar byVar zVar szSlV zSlV szCoord byCoord zCoord szSlC zSlC szFrame zFrame szPoly byPoly zPoly szTerm zTerm
attribute [-bool_to_prop] Bool.and_eq_decide Bool.or_eq_decide Bool.decide_beq_decide decide_eq_decide
/-! ### sizes of what a step computes -/
theorem PK.sub {p q : Po} {j k e : Nat} (hp : PK p j e) (hq : PK q k e) : PK (subM p q) (j + k + 1) e := hp.add hq.neg
theorem PK.scl {p : Po} {j k e : Nat} {a : Rat} (hp : PK p j e) (ha : Sz a k) : PK (sclM a p) (j + k) e := by
  unfold sclM; split
  · exact .nil
  · exact hp.scale ha
theorem PK.mulV {p : Po} {j e v : Nat} (hp : PK p j e) : PK (mlM p (varM v)) (j + 1) (e + 1) := by
  rw [mul_var]; split
  · refine hp.times (t := (1, unitM v)) fun u hu => ?_
    rw [List.mem_singleton] at hu
    subst hu
    have h := varM_pk v (1, unitM v) (by unfold varM; rw [if_pos (by assumption)]; exact .head _)
    exact h
  · exact .nil
theorem scl_srt {a : Rat} {p : Po} (h : SrtM p) : SrtM (sclM a p) := by
  unfold sclM; split
  · exact .nil
  · exact scale_srt h ‹_›
theorem scl_len (a : Rat) (p : Po) : (sclM a p).length ≤ p.length := by
  unfold sclM; split
  · simp
  · rw [scale_len]; exact Nat.le_refl _
theorem mulV_len (p : Po) (v : Nat) : (mlM p (varM v)).length ≤ p.length := by
  rw [mul_var]; split
  · rw [timesP_len]; exact Nat.le_refl _
  · simp
theorem sub_len (p q : Po) : (subM p q).length ≤ p.length + q.length := by
  have := addP_len (lt := ltM) p (scaleP (-1) q)
  rw [scale_len] at this; exact this
/-- A coordinate of a frame in order. -/
structure Co (p : Po) : Prop where
  pk : PK p 110 1
  st : SrtM p
  ln : p.length ≤ 4000
/-- A step in order. -/
structure StOk (cs : List (Po × Po)) (s : RS) : Prop where
  k0 : 0 ≤ arS s.k
  al : (s.ar.length : Int) = arS s.k
  ai : ∀ k, k < s.ar.length → 0 ≤ gI s.ar k ∧ gI s.ar k < (cs.length : Int)
  r2 : s.k = 2 → s.r.ok = true
  rl : s.r.lm 2
end Go.Proofs.YteiopjkamgmfpaaGreatDoor
end

section
namespace Go.Proofs.YteiopjkamgmfpaaGreatDoor
open Go Go.RowKit Go.Pg Go.Pol
set_option linter.unusedSimpArgs false
set_option linter.unusedVariables false
set_option maxRecDepth 20000
attribute [local go_sem] Tryz.underlying3 Tryz.underlying4 Tryz.underlying156 Tryz.underlying9 Tryz.underlying75 Tryz.underlying34 Tryz.underlying49 Tryz.underlying47 Tryz.underlying45 Tryz.underlying77 Tryz.underlying22 Tryz.underlying25 Tryz.underlying129 Tryz.underlying31 Tryz.underlying79 Tryz.underlying30 Tryz.underlying33 Tryz.underlying38 Tryz.underlying138 sz3 by3 z3 szB zB szErr zErr szStr byStr zStr szRat zRat szInt zInt szNat zNat szStep byStep zStep szFig zFig szSlI zSlI szSlS zSlS szVar byVar zVar szSlV zSlV szCoord byCoord zCoord szSlC zSlC szFrame zFrame szPoly byPoly zPoly szTerm zTerm
attribute [-bool_to_prop] Bool.and_eq_decide Bool.or_eq_decide Bool.decide_beq_decide decide_eq_decide
end Go.Proofs.YteiopjkamgmfpaaGreatDoor
end

section
namespace Go.Pg
open Go Go.RowKit
set_option linter.unusedSimpArgs false
set_option linter.unusedVariables false
section
variable {P : Program} {all rest : List Oper} {K : St → Prop} {e : Nat → AV} {m : Mem} {dst : Option Nat} {d t j : Nat} {op : Op} {ty : TypeId} {pos : String} {af : Array Edge} {r : Res} {rs : Nat → AV} {bar : List Nat} {fu k : Nat} {σs : Mem}
end
end Go.Pg
end

section
namespace Go.Proofs.YteiopjkamgmfpaaGreatDoor
open Go Go.RowKit Go.Pg Go.Pol
set_option linter.unusedSimpArgs false
set_option linter.unusedVariables false
set_option maxRecDepth 20000
attribute [local go_sem] Tryz.underlying3 Tryz.underlying4 Tryz.underlying156 Tryz.underlying9 Tryz.underlying75 Tryz.underlying34 Tryz.underlying49 Tryz.underlying47 Tryz.underlying45 Tryz.underlying77 Tryz.underlying22 Tryz.underlying25 Tryz.underlying129 Tryz.underlying31 Tryz.underlying79 Tryz.underlying30 Tryz.underlying33 Tryz.underlying38 Tryz.underlying138 sz3 by3 z3 szB zB szErr zErr szStr byStr zStr szRat zRat szInt zInt szNat zNat szStep byStep zStep szFig zFig szSlI zSlI szSlS zSlS szVar byVar zVar szSlV zSlV szCoord byCoord zCoord szSlC zSlC szFrame zFrame szPoly byPoly zPoly szTerm zTerm
attribute [-bool_to_prop] Bool.and_eq_decide Bool.or_eq_decide Bool.decide_beq_decide decide_eq_decide
theorem frN_fr (ss : List RS) : ∀ i, (frN ss i).fr ≤ i
  | 0 => Nat.le_refl _
  | i + 1 => by
    have := frN_fr ss i
    unfold frN
    simp only [FS.push]
    split <;> omega
theorem nfN_mono (ss : List RS) : ∀ i k, nfN ss i ≤ nfN ss (i + k)
  | i, 0 => Nat.le_refl _
  | i, k + 1 => Nat.le_trans (nfN_mono ss i k) (by show _ ≤ nfN ss (i + k) + _; omega)
/-- What is known of a figure in order. -/
structure FigOk (ss : List RS) : Prop where
  len : ss.length ≤ 40
  er : ∀ i, i < ss.length → errS ss i = 0
  lm : ∀ s ∈ ss, s.r.lm 2
  nf : nfN ss ss.length ≤ 20
theorem FigOk.fi {ss : List RS} (h : FigOk ss) {i : Nat} (hi : i ≤ ss.length) (hj : ∀ j, j < i → bigN ss j = false) : ∃ D, FI (frN ss i) (nfN ss i) D ∧ nfN ss i ≤ 20 := by
  have hr : ∀ s ∈ ss, s.k = 2 → s.r.ok = true := fun s hs => by
    obtain ⟨j, hj, rfl⟩ := List.mem_iff_getElem.1 hs
    exact (errS_ok hj (h.er j hj)).2.2.2
  obtain ⟨D, hD⟩ := frN_ok ss hr (fun s hs => lm_bd (h.lm s hs)) i hi hj
  refine ⟨D, hD, Nat.le_trans ?_ h.nf⟩
  have := nfN_mono ss i (ss.length - i)
  rwa [show i + (ss.length - i) = ss.length by omega] at this
theorem FI.co {f : FS} {n D : Nat} (h : FI f n D) (hn : n ≤ 20) : ∀ c ∈ f.cs, Co c.1 ∧ Co c.2 := fun c hc => by
  obtain ⟨h1, h2⟩ := h.cs c hc
  obtain ⟨l1, l2⟩ := h.ln c hc
  have hv := h.nv
  exact ⟨⟨h1.pk (by omega) h.D0 h.Dl hn, h1.1, l1⟩, ⟨h2.pk (by omega) h.D0 h.Dl hn, h2.1, l2⟩⟩
theorem FigOk.st {ss : List RS} (h : FigOk ss) {i : Nat} (hi : i < ss.length) : StOk (frN ss i).cs ss[i] := by
  obtain ⟨h1, h2, h3, h4⟩ := errS_ok hi (h.er i hi)
  exact ⟨h1, h2, fun k hk => by rw [frN_len]; exact h3 k hk, h4, h.lm _ (List.getElem_mem hi)⟩
/-- What the next frame is. -/
theorem frN_succ {ss : List RS} {i : Nat} (hi : i < ss.length) : frN ss (i + 1) = ⟨(frN ss i).cs ++ [((frN ss i).nxt i ss[i]).2], (frN ss i).vs ++ ((frN ss i).nxt i ss[i]).1, if ss[i].k = 1 then (frN ss i).fr + 1 else (frN ss i).fr⟩ := by
  show (frN ss i).push i (ss.getD i RS.zero) = _
  rw [show ss.getD i RS.zero = ss[i] from by rw [List.getD_eq_getElem?_getD, List.getElem?_eq_getElem hi]; rfl]; rfl
theorem bigN_at {ss : List RS} {i : Nat} (hi : i < ss.length) : bigN ss i = (decide (64 < ((frN ss i).vs ++ ((frN ss i).nxt i ss[i]).1).length) || decide (4000 < ((frN ss i).nxt i ss[i]).2.1.length) || decide (4000 < ((frN ss i).nxt i ss[i]).2.2.length)) := by
  unfold bigN
  rw [frN_succ hi, show ss.getD i ⟨0, .empty, [], ⟨false, [], []⟩⟩ = ss[i] from by rw [List.getD_eq_getElem?_getD, List.getElem?_eq_getElem hi]; rfl]
theorem nxt_vars (f : FS) (i : Nat) (s : RS) : (f.nxt i s).1.length ≤ 3 := by
  unfold FS.nxt; simp only
  repeat' split
  all_goals simp
end Go.Proofs.YteiopjkamgmfpaaGreatDoor
end

section
namespace Go.Proofs.YteiopjkamgmfpaaGreatDoor
open Go Go.RowKit Go.Pg Go.Pol
set_option linter.unusedSimpArgs false
set_option linter.unusedVariables false
set_option maxRecDepth 20000
attribute [-bool_to_prop] Bool.and_eq_decide Bool.or_eq_decide Bool.decide_beq_decide decide_eq_decide
abbrev cstM (q : Rat) : Po := if q = 0 then [] else [(q, [])]
theorem cst_pk (q : Rat) {k : Nat} (h : Sz q k) : PK (cstM q) k 1 := by
  unfold cstM
  split
  · exact PK.nil
  · intro t ht
    rw [List.mem_singleton] at ht
    subst ht
    exact ⟨h, Nat.zero_le _, fun j => by rw [gI_out (Nat.zero_le _)]; omega⟩
theorem cst_srt (q : Rat) : SrtM (cstM q) := by
  unfold cstM
  split
  · exact .nil
  · rename_i h
    exact Srt.nil.cons h can_nil (by simp)
theorem cst_len (q : Rat) : (cstM q).length ≤ 1 := by
  unfold cstM
  split <;> simp
theorem cst_mul (q : Rat) {d : Po} (sd : SrtM d) : mlM (cstM q) d = sclM q d := by
  unfold sclM cstM
  by_cases h : q = 0
  · rw [if_pos h, if_pos h]; exact mulR_nil d
  · rw [if_neg h, if_neg h]; exact mul_const h sd
theorem PK.take {p : Po} {k e : Nat} (h : PK p k e) (i : Nat) : PK (p.take i) k e := fun t ht => h t (List.mem_of_mem_take ht)
theorem var_mul (v : Nat) {d : Po} (sd : SrtM d) : mlM (varM v) d = mlM d (varM v) := mulR_comm ordM mulK (varM_srt v) sd
theorem var_len (v : Nat) : (varM v).length ≤ 1 := by unfold varM; split <;> simp
theorem rcMulC (q : Rat) (d : Po) (hq : Sz q 2) (hd : PK d 221 1) (sd : SrtM d) (ld : d.length ≤ 8000) : Pure Tryz.prog 101 [poA (cstM q), poA d] (poA (sclM q d)) := by
  rw [← cst_mul q sd]
  have := cst_len q
  refine rpMul (cstM q) d (cst_pk q hq) hd (cst_srt q) sd (by omega) (by omega) (by omega) (by omega) (by omega) (by omega) (K := 223) (E := 1) (fun i => ?_) (by omega) (by omega)
  rw [cst_mul q (srt_take sd i)]
  have h1 := scl_len q (d.take i)
  have h2 : (d.take i).length ≤ d.length := by rw [List.length_take]; omega
  exact ⟨((hd.take i).scl hq).mono (by omega) (by omega), by omega⟩
theorem rcMulV (v : Nat) (d : Po) (hd : PK d 221 1) (sd : SrtM d) (ld : d.length ≤ 8000) : Pure Tryz.prog 101 [poA (varM v), poA d] (poA (mlM d (varM v))) := by
  rw [← var_mul v sd]
  have := var_len v
  refine rpMul (varM v) d (varM_pk v) hd (varM_srt v) sd (by omega) (by omega) (by omega) (by omega) (by omega) (by omega) (K := 222) (E := 2) (fun i => ?_) (by omega) (by omega)
  rw [var_mul v (srt_take sd i)]
  have h1 := mulV_len (d.take i) v
  have h2 : (d.take i).length ≤ d.length := by rw [List.length_take]; omega
  exact ⟨(hd.take i).mulV.mono (by omega) (by omega), by omega⟩
/-- A point on the way between two, by a share that is a number. -/
theorem rcAlongS (a b : Po × Po) (q : Rat) (hq : Sz q 2) (a1 : Co a.1) (a2 : Co a.2) (b1 : Co b.1) (b2 : Co b.2) : Pure Tryz.prog 86 [coA a, coA b, poA (cstM q)] (coA (addM a.1 (sclM q (subM b.1 a.1)), addM a.2 (sclM q (subM b.2 a.2)))) := by
  have n1 := a1.ln
  have n2 := a2.ln
  have n3 := b1.ln
  have n4 := b2.ln
  have s1 := rpSub b.1 a.1 b1.pk a1.pk b1.st a1.st (by omega) (by omega) (by omega) (by omega) (by omega)
  have s2 := rpSub b.2 a.2 b2.pk a2.pk b2.st a2.st (by omega) (by omega) (by omega) (by omega) (by omega)
  have d1 := b1.pk.sub a1.pk
  have d2 := b2.pk.sub a2.pk
  have t1 := sub_srt ordM b1.st a1.st
  have t2 := sub_srt ordM b2.st a2.st
  have l1 := sub_len b.1 a.1
  have l2 := sub_len b.2 a.2
  have m1 := rcMulC q (subM b.1 a.1) hq d1 t1 (by omega)
  have m2 := rcMulC q (subM b.2 a.2) hq d2 t2 (by omega)
  have e1 := rpAdd a.1 (sclM q (subM b.1 a.1)) a1.pk (d1.scl hq) a1.st (scl_srt t1) (by omega) (by have := scl_len q (subM b.1 a.1); omega) (by omega) (by omega) (by omega)
  have e2 := rpAdd a.2 (sclM q (subM b.2 a.2)) a2.pk (d2.scl hq) a2.st (scl_srt t2) (by omega) (by have := scl_len q (subM b.2 a.2); omega) (by omega) (by omega) (by omega)
  exact rcAlong a b (cstM q) _ _ _ _ _ _ s1 s2 m1 m2 e1 e2
/-- The same, by a share that is a variable. -/
theorem rcAlongM (a b : Po × Po) (v : Nat) (a1 : Co a.1) (a2 : Co a.2) (b1 : Co b.1) (b2 : Co b.2) : Pure Tryz.prog 86 [coA a, coA b, poA (varM v)] (coA (addM a.1 (mlM (subM b.1 a.1) (varM v)), addM a.2 (mlM (subM b.2 a.2) (varM v)))) := by
  have n1 := a1.ln
  have n2 := a2.ln
  have n3 := b1.ln
  have n4 := b2.ln
  have s1 := rpSub b.1 a.1 b1.pk a1.pk b1.st a1.st (by omega) (by omega) (by omega) (by omega) (by omega)
  have s2 := rpSub b.2 a.2 b2.pk a2.pk b2.st a2.st (by omega) (by omega) (by omega) (by omega) (by omega)
  have d1 := b1.pk.sub a1.pk
  have d2 := b2.pk.sub a2.pk
  have t1 := sub_srt ordM b1.st a1.st
  have t2 := sub_srt ordM b2.st a2.st
  have l1 := sub_len b.1 a.1
  have l2 := sub_len b.2 a.2
  have m1 := rcMulV v (subM b.1 a.1) d1 t1 (by omega)
  have m2 := rcMulV v (subM b.2 a.2) d2 t2 (by omega)
  have e1 := rpAdd a.1 (mlM (subM b.1 a.1) (varM v)) (a1.pk.mono (Nat.le_refl 110) (show 1 ≤ 1 + 1 by omega)) d1.mulV a1.st (mulR_srt ordM mulK t1 (varM_srt v)) (by omega) (by have := mulV_len (subM b.1 a.1) v; omega) (by omega) (by omega) (by omega)
  have e2 := rpAdd a.2 (mlM (subM b.2 a.2) (varM v)) (a2.pk.mono (Nat.le_refl 110) (show 1 ≤ 1 + 1 by omega)) d2.mulV a2.st (mulR_srt ordM mulK t2 (varM_srt v)) (by omega) (by have := mulV_len (subM b.2 a.2) v; omega) (by omega) (by omega) (by omega)
  exact rcAlong a b (varM v) _ _ _ _ _ _ s1 s2 m1 m2 e1 e2
theorem rcPlusC (p q r : Po) (hp : Co p) (hq : Co q) (hr : Co r) : Pure Tryz.prog 88 [poA p, poA q, poA r] (poA (addM p (subM q r))) := by
  have n1 := hp.ln
  have n2 := hq.ln
  have n3 := hr.ln
  have l1 := sub_len q r
  have s := rpSub q r hq.pk hr.pk hq.st hr.st (by omega) (by omega) (by omega) (by omega) (by omega)
  have a := rpAdd p (subM q r) hp.pk (hq.pk.sub hr.pk) hp.st (sub_srt ordM hq.st hr.st) (by omega) (by omega) (by omega) (by omega) (by omega)
  exact rcPlus p q r _ _ s a
end Go.Proofs.YteiopjkamgmfpaaGreatDoor
end

section
namespace Go.Proofs.YteiopjkamgmfpaaGreatDoor
open Go Go.RowKit Go.Pg Go.Pol
set_option linter.unusedSimpArgs false
set_option linter.unusedVariables false
set_option maxRecDepth 20000
attribute [local go_sem] Tryz.underlying3 Tryz.underlying4 Tryz.underlying156 Tryz.underlying9 Tryz.underlying75 Tryz.underlying34 Tryz.underlying49 Tryz.underlying47 Tryz.underlying45 Tryz.underlying77 Tryz.underlying22 Tryz.underlying25 Tryz.underlying129 Tryz.underlying31 Tryz.underlying79 Tryz.underlying30 Tryz.underlying33 Tryz.underlying38 Tryz.underlying138 sz3 by3 z3 szB zB szErr zErr szStr byStr zStr szRat zRat szInt zInt szNat zNat szStep byStep zStep szFig zFig szSlI zSlI szSlS zSlS szVar byVar zVar szSlV zSlV szCoord byCoord zCoord szSlC zSlC szFrame zFrame szPoly byPoly zPoly szTerm zTerm
attribute [-bool_to_prop] Bool.and_eq_decide Bool.or_eq_decide Bool.decide_beq_decide decide_eq_decide
theorem Agr.at {m σ : Mem} (h : Agr m σ) {k : Nat} {e : Ent} (hk : σ k = some e) : m (k + 1000) = some e.sh := by rw [h k, hk]; rfl
def ptsN (cs : List (Po × Po)) (ar : List Int) : List (Po × Po) := ar.map fun a => cs.getD a.toNat ([], [])
theorem ptsN_len (cs : List (Po × Po)) (ar : List Int) : (ptsN cs ar).length = ar.length := by unfold ptsN; simp
theorem ptsN_get {cs : List (Po × Po)} {ar : List Int} {k : Nat} (h : k < ar.length) : (ptsN cs ar)[k]'(by rw [ptsN_len]; exact h) = cs.getD (gI ar k).toNat ([], []) := by
  unfold ptsN
  rw [List.getElem_map, gI_at h]
theorem pts_at {cs : List (Po × Po)} {ar : List Int} {k : Nat} (h : k < ar.length) : ((ptsN cs ar).map coA).getD k .u = coA (cs.getD (gI ar k).toNat ([], [])) := by
  rw [map_atB coA (by rw [ptsN_len]; exact h), ptsN_get h]
theorem ptsN_take {cs : List (Po × Po)} {ar : List Int} {k : Nat} (h : k < ar.length) : (ptsN cs ar).take (k + 1) = (ptsN cs ar).take k ++ [cs.getD (gI ar k).toNat ([], [])] := by
  rw [List.take_add_one, List.getElem?_eq_getElem (by rw [ptsN_len]; exact h), ptsN_get h]; rfl
theorem arS_le (k : Int) : arS k ≤ 4 := by
  unfold arS
  repeat' split
  all_goals omega
set_option maxHeartbeats 16000000 in
theorem rcNext (σ : Mem) (KC KV : Nat) (svC svV : Value) (cs : List (Po × Po)) (vs : List Vt) (fr i : Nat) (ss : List RS) (gs : List RG) (s : RS) (hi : i < ss.length) (hs : ss[i] = s) (hV : σ KV = some (.row svV 129 3 (vs.map Vt.av) 0)) (hC : σ KC = some (.row svC 79 2 (cs.map coA) 0)) (hVC : KV ≠ KC) (hl : vs.length ≤ 64) (hf : fr ≤ 100) (hi1 : i ≤ 1000) (hok : StOk cs s) (hco : ∀ c ∈ cs, Co c.1 ∧ Co c.2) :
    ACall Tryz.prog 31 [.agg [.own KC svC, .own KV svV], figA ss gs, iv i, iv fr] σ fun r σ' => ∃ sv, r = .tup [.agg [.own KC svC, .own KV sv], coA (FS.nxt ⟨cs, vs, fr⟩ i s).2] ∧
      σ' = upd σ KV (some (.row sv 129 3 ((vs ++ (FS.nxt ⟨cs, vs, fr⟩ i s).1).map Vt.av) 0)) := by
  have hgi : (ss.map RS.av).getD i .u = s.av := by rw [← hs]; exact map_atB RS.av hi
  have hls : (ss.map RS.av).length = ss.length := List.length_map ..
  have hcl : (cs.map coA).length = cs.length := List.length_map ..
  show ACall _ _ [.agg [.own KC svC, .own KV svV], .agg [.sl 6 (ss.map RS.av), .sl 5 (gs.map RG.av)], iv i, iv fr] _ _
  generalize ss.map RS.av = M at *
  generalize gs.map RG.av = N at *
  clear hs
  obtain ⟨k0, nm, ar, ⟨rs, rl, rd⟩⟩ := s
  have hll : (ar.map iv).length = ar.length := List.length_map ..
  refine acall_lents Tryz.func31 rfl Tryz.ntmps31 Tryz.results31 Tryz.call31 (by rfl) (by simp) ?_
  (focus (refine wkad (w_a hgi (w_a hls (w_a hll w_t))) w_t w_t ?_; (repeat' first | exact w_t | apply w_l); all_goals intros))
  rename_i g4 g5 g8 g9 g10
  refine r_frz (Frz.nilOwn (d := 11) 37 2 79 (by exact gC)) ?_
  refine r_loopE (ι := Nat) (fun k e m => k ≤ ar.length ∧ e 2 = iv i ∧ e 3 = iv fr ∧ e 4 = .pbox 4 g4 0 ∧ m 4 = some (.box g4 33 [.own (KC + 1000) svC, .own (KV + 1000) svV] false) ∧ e 8 = .pbox 8 g8 0 ∧ m 8 = some (.box g8 33 [.v (.slice none 0 0), .v (.slice none 0 0)] false) ∧ e 9 = .pbox 9 g9 0 ∧ m 9 = some (.box g9 79 [.v (.slice none 0 0), .v (.slice none 0 0)] false) ∧ e 10 = .pbox 10 g10 0 ∧ m 10 = some (.box g10 77 [iv k0, strA nm, ivs ar, .v (.bool rs), lim rl, lim rd] false) ∧ e 24 = ivs ar ∧ e 25 = iv ar.length ∧ e 26 = iv k ∧ (∃ sv, e 11 = .own 37 sv ∧ m 37 = some (.row sv 79 2 (((ptsN cs ar).take k).map coA) 0)) ∧ Agr m σ) (fun k => ar.length - k) 0 (by rfl) ?_ ?_
  · rintro k e m ⟨hk, hA2, hA3, e4, m4, e8, m8, e9, m9, e10, m10, e24, e25, e26, ⟨sv, e11, m37⟩, hAg⟩
    have mV := Agr.at hAg hV
    have mC := Agr.at hAg hC
    simp only [Ent.sh, AV.shL, AV.sh] at mV mC
    by_cases hlt : k < ar.length
    · have h0 := hok.ai k hlt
      simp only at h0
      have hga : (ar.map iv).getD k .u = iv (gI ar k) := by rw [map_atB iv hlt, gI_at hlt]
      have hgc : (cs.map coA).getD (gI ar k).toNat .u = coA (cs.getD (gI ar k).toNat ([], [])) := getD_mapA (by omega)
      have htk := ptsN_take (cs := cs) hlt
      have har4 : ar.length ≤ 4 := by
        have h1 : (ar.length : Int) = arS k0 := hok.al
        have h2 := arS_le k0
        omega
      have hL : ((ptsN cs ar).take k).length ≤ 4 := by
        have h1 : (ar.length : Int) = arS k0 := hok.al
        have h2 := arS_le k0
        rw [List.length_take]
        omega
      generalize (ptsN cs ar).take k = L at *
      generalize cs.getD (gI ar k).toNat ([], []) = c at *
      generalize gI ar k = a at *
      obtain ⟨c1, c2⟩ := c
      (focus (refine wkad (w_a hA2 (w_a hA3 (w_a e4 (w_a m4 (w_a e8 (w_a m8 (w_a e9 (w_a m9 (w_a e10 (w_a m10 (w_a e11 (w_a e24 (w_a e25 (w_a e26 (w_a m37 (w_a mV (w_a mC (w_a hll (w_a hcl (w_a hga (w_a hgc w_t))))))))))))))))))))) w_t w_t ?_; (repeat' first | exact w_t | apply w_l); all_goals intros))
      rename_i sv2
      refine ⟨k + 1, ⟨by omega, by (simp (disch := omega) only [go_sem, hA2] <;> repeat' first | rfl | refine ⟨?_, ?_⟩), by (simp (disch := omega) only [go_sem, hA3] <;> repeat' first | rfl | refine ⟨?_, ?_⟩), by exact gW e4, by exact gW m4, by exact gW e8, by exact gW m8, by exact gW e9, by exact gW m9, by exact gW e10, by exact gW m10, by exact gW e24, by exact gW e25, by exact gS, ⟨_, by exact gC, by (rw [htk, List.map_append]; exact gC)⟩, ?_⟩, by omega⟩
      (repeat' (first | exact hAg | (refine Agr.own ?_ (by omega))))
    · have hkk : k = ar.length := by omega
      subst hkk
      rw [show (ptsN cs ar).take ar.length = ptsN cs ar from List.take_of_length_le (by rw [ptsN_len]; exact Nat.le_refl _)] at m37
      have hlp : ((ptsN cs ar).map coA).length = ar.length := by rw [List.length_map, ptsN_len]
      by_cases k1 : k0 = 1
      · subst k1
        have en : FS.nxt ⟨cs, vs, fr⟩ i ⟨1, nm, ar, ⟨rs, rl, rd⟩⟩ = (if fr = 0 then [] else if fr = 1 then [(1, (i : Int), 0)] else [(1, (i : Int), 0), (1, (i : Int), 1)], if fr = 0 then ([], []) else if fr = 1 then (varM vs.length, []) else (varM vs.length, varM (vs.length + 1))) := by
          unfold FS.nxt
          simp only [if_true]
          by_cases f0 : fr = 0
          · simp only [if_pos f0]
          · by_cases f1 : fr = 1
            · simp only [if_neg f0, if_pos f1]
            · simp only [if_neg f0, if_neg f1]
        rw [en]
        have cF := rcFree m (KC + 1000) (KV + 1000) svC svV vs i fr mV (by omega) (by omega)
        generalize (if fr = 0 then (([], []) : Po × Po) else if fr = 1 then (varM vs.length, []) else (varM vs.length, varM (vs.length + 1))) = x at *
        generalize (if fr = 0 then ([] : List Vt) else if fr = 1 then [(1, (i : Int), 0)] else [(1, (i : Int), 0), (1, (i : Int), 1)]) = nv at *
        obtain ⟨x1, x2⟩ := x
        (focus (refine wkad (w_a hA2 (w_a hA3 (w_a e4 (w_a m4 (w_a e8 (w_a m8 (w_a e9 (w_a m9 (w_a e10 (w_a m10 (w_a e11 (w_a e24 (w_a e25 (w_a e26 (w_a m37 (w_a mV (w_a mC (w_a hll (w_a hlp (w_a @lents_lt (w_a @lents_beq w_t))))))))))))))))))))) w_t w_t ?_; (repeat' first | exact w_t | apply w_l); all_goals intros))
        refine o_fresh cF ?_
        intro sv1
        (focus (refine wkad (w_a hA2 (w_a hA3 (w_a e4 (w_a m4 (w_a e8 (w_a m8 (w_a e9 (w_a m9 (w_a e10 (w_a m10 (w_a e11 (w_a e24 (w_a e25 (w_a e26 (w_a m37 (w_a mV (w_a mC (w_a hll (w_a hlp (w_a @lents_lt (w_a @lents_beq w_t))))))))))))))))))))) w_t w_t ?_; (repeat' first | exact w_t | apply w_l); all_goals intros))
        simp (disch := omega) only [go_sem, e8, e9]
        refine backS (Sub.tup2 (Sub.frame _ _ _ _ _ _) (Sub.refl _)) ⟨sv1, rfl, rfl⟩ ?_
        (repeat (refine Agr.own ?_ (by omega)))
        refine Agr.put ?_ rfl rfl
        (repeat' (first | exact hAg | (refine Agr.own ?_ (by omega))))
      · by_cases k2 : k0 = 2
        · subst k2
          have hal2 : ar.length = 2 := by have h1 : (ar.length : Int) = arS 2 := hok.al; have h2 : arS 2 = 2 := rfl; omega
          have h0 : 0 ≤ gI ar 0 ∧ gI ar 0 < (cs.length : Int) := hok.ai 0 (show 0 < ar.length by omega)
          obtain ⟨a1, a2⟩ : Co (cs.getD (gI ar 0).toNat ([], [])).1 ∧ Co (cs.getD (gI ar 0).toNat ([], [])).2 := hco _ (getD_mem (by omega))
          have p0 : ((ptsN cs ar).map coA).getD 0 .u = coA (cs.getD (gI ar 0).toNat ([], [])) := pts_at (by omega)
          generalize ha : cs.getD (gI ar 0).toNat ([], []) = a at *
          have h1 : 0 ≤ gI ar 1 ∧ gI ar 1 < (cs.length : Int) := hok.ai 1 (show 1 < ar.length by omega)
          obtain ⟨b1, b2⟩ : Co (cs.getD (gI ar 1).toNat ([], [])).1 ∧ Co (cs.getD (gI ar 1).toNat ([], [])).2 := hco _ (getD_mem (by omega))
          have p1 : ((ptsN cs ar).map coA).getD 1 .u = coA (cs.getD (gI ar 1).toNat ([], [])) := pts_at (by omega)
          generalize hb : cs.getD (gI ar 1).toNat ([], []) = b at *
          have ro := hok.r2 rfl
          have zr := (RQ.ok_av hok.rl ro).2
          have re := RQ.ok_eq hok.rl ro
          have en : FS.nxt ⟨cs, vs, fr⟩ i ⟨2, nm, ar, ⟨rs, rl, rd⟩⟩ = ([], (addM a.1 (sclM (RQ.q ⟨rs, rl, rd⟩) (subM b.1 a.1)), addM a.2 (sclM (RQ.q ⟨rs, rl, rd⟩) (subM b.2 a.2)))) := by
            rw [← ha, ← hb]; rfl
          rw [en]
          simp only at zr re
          generalize hq : RQ.q ⟨rs, rl, rd⟩ = q at *
          simp only [RQ.mk.injEq] at re
          obtain ⟨rfl, rfl, rfl⟩ := re
          have al := rcAlongS a b q zr a1 a2 b1 b2
          have cc := rpConst q zr (by omega)
          generalize addM a.1 (sclM q (subM b.1 a.1)) = x1 at *
          generalize addM a.2 (sclM q (subM b.2 a.2)) = x2 at *
          clear a1 a2 b1 b2 ha hb hok hco en
          obtain ⟨aa, ab⟩ := a
          obtain ⟨ba, bb⟩ := b
          (focus (refine wkad (w_a hA2 (w_a hA3 (w_a e4 (w_a m4 (w_a e8 (w_a m8 (w_a e9 (w_a m9 (w_a e10 (w_a m10 (w_a e11 (w_a e24 (w_a e25 (w_a e26 (w_a m37 (w_a mV (w_a mC (w_a hll (w_a hlp (w_a @lents_lt (w_a @lents_beq (w_a hal2 (w_a p0 (w_a p1 w_t)))))))))))))))))))))))) (w_a cc (w_a al w_t)) (w_a (w_d 12 [(9, poA (cstM q)), (10, coA (x1, x2))] [] [8, 9]) w_t) ?_; (repeat' first | exact w_t | apply w_l); all_goals intros))
          simp (disch := omega) only [go_sem, e8, e9]
          refine backS (Sub.tup2 (Sub.frame _ _ _ _ _ _) (Sub.refl _)) ⟨svV, rfl, rfl⟩ ?_
          simp only [List.append_nil, upd_same' hV]
          (repeat' (first | exact hAg | (refine Agr.own ?_ (by omega))))
        · by_cases k3 : k0 = 3
          · subst k3
            have hal2 : ar.length = 3 := by have h1 : (ar.length : Int) = arS 3 := hok.al; have h2 : arS 3 = 3 := rfl; omega
            have h0 : 0 ≤ gI ar 0 ∧ gI ar 0 < (cs.length : Int) := hok.ai 0 (show 0 < ar.length by omega)
            obtain ⟨a1, a2⟩ : Co (cs.getD (gI ar 0).toNat ([], [])).1 ∧ Co (cs.getD (gI ar 0).toNat ([], [])).2 := hco _ (getD_mem (by omega))
            have p0 : ((ptsN cs ar).map coA).getD 0 .u = coA (cs.getD (gI ar 0).toNat ([], [])) := pts_at (by omega)
            generalize ha : cs.getD (gI ar 0).toNat ([], []) = a at *
            have h1 : 0 ≤ gI ar 1 ∧ gI ar 1 < (cs.length : Int) := hok.ai 1 (show 1 < ar.length by omega)
            obtain ⟨b1, b2⟩ : Co (cs.getD (gI ar 1).toNat ([], [])).1 ∧ Co (cs.getD (gI ar 1).toNat ([], [])).2 := hco _ (getD_mem (by omega))
            have p1 : ((ptsN cs ar).map coA).getD 1 .u = coA (cs.getD (gI ar 1).toNat ([], [])) := pts_at (by omega)
            generalize hb : cs.getD (gI ar 1).toNat ([], []) = b at *
            have h2 : 0 ≤ gI ar 2 ∧ gI ar 2 < (cs.length : Int) := hok.ai 2 (show 2 < ar.length by omega)
            obtain ⟨c1, c2⟩ : Co (cs.getD (gI ar 2).toNat ([], [])).1 ∧ Co (cs.getD (gI ar 2).toNat ([], [])).2 := hco _ (getD_mem (by omega))
            have p2 : ((ptsN cs ar).map coA).getD 2 .u = coA (cs.getD (gI ar 2).toNat ([], [])) := pts_at (by omega)
            generalize hc : cs.getD (gI ar 2).toNat ([], []) = c at *
            have en : FS.nxt ⟨cs, vs, fr⟩ i ⟨3, nm, ar, ⟨rs, rl, rd⟩⟩ = ([], (addM a.1 (subM c.1 b.1), addM a.2 (subM c.2 b.2))) := by
              rw [← ha, ← hb, ← hc]; rfl
            rw [en]
            have q1 := rcPlusC a.1 c.1 b.1 a1 c1 b1
            have q2 := rcPlusC a.2 c.2 b.2 a2 c2 b2
            generalize addM a.1 (subM c.1 b.1) = x1 at *
            generalize addM a.2 (subM c.2 b.2) = x2 at *
            clear a1 a2 b1 b2 c1 c2 ha hb hc hok hco en
            obtain ⟨aa, ab⟩ := a
            obtain ⟨ba, bb⟩ := b
            obtain ⟨ca, cb⟩ := c
            (focus (refine wkad (w_a hA2 (w_a hA3 (w_a e4 (w_a m4 (w_a e8 (w_a m8 (w_a e9 (w_a m9 (w_a e10 (w_a m10 (w_a e11 (w_a e24 (w_a e25 (w_a e26 (w_a m37 (w_a mV (w_a mC (w_a hll (w_a hlp (w_a @lents_lt (w_a @lents_beq (w_a hal2 (w_a p0 (w_a p1 (w_a p2 w_t))))))))))))))))))))))))) (w_a q1 (w_a q2 w_t)) (w_a (w_d 14 [(13, poA x1), (26, poA x2)] [] [8, 9]) w_t) ?_; (repeat' first | exact w_t | apply w_l); all_goals intros))
            simp (disch := omega) only [go_sem, e8, e9]
            refine backS (Sub.tup2 (Sub.frame _ _ _ _ _ _) (Sub.refl _)) ⟨svV, rfl, rfl⟩ ?_
            simp only [List.append_nil, upd_same' hV]
            (repeat' (first | exact hAg | (refine Agr.own ?_ (by omega))))
          · by_cases k4 : k0 = 4
            · subst k4
              have hal2 : ar.length = 3 := by have h1 : (ar.length : Int) = arS 4 := hok.al; have h2 : arS 4 = 3 := rfl; omega
              have h0 : 0 ≤ gI ar 0 ∧ gI ar 0 < (cs.length : Int) := hok.ai 0 (show 0 < ar.length by omega)
              obtain ⟨a1, a2⟩ : Co (cs.getD (gI ar 0).toNat ([], [])).1 ∧ Co (cs.getD (gI ar 0).toNat ([], [])).2 := hco _ (getD_mem (by omega))
              have p0 : ((ptsN cs ar).map coA).getD 0 .u = coA (cs.getD (gI ar 0).toNat ([], [])) := pts_at (by omega)
              generalize ha : cs.getD (gI ar 0).toNat ([], []) = a at *
              have h1 : 0 ≤ gI ar 1 ∧ gI ar 1 < (cs.length : Int) := hok.ai 1 (show 1 < ar.length by omega)
              obtain ⟨b1, b2⟩ : Co (cs.getD (gI ar 1).toNat ([], [])).1 ∧ Co (cs.getD (gI ar 1).toNat ([], [])).2 := hco _ (getD_mem (by omega))
              have p1 : ((ptsN cs ar).map coA).getD 1 .u = coA (cs.getD (gI ar 1).toNat ([], [])) := pts_at (by omega)
              generalize hb : cs.getD (gI ar 1).toNat ([], []) = b at *
              have h2 : 0 ≤ gI ar 2 ∧ gI ar 2 < (cs.length : Int) := hok.ai 2 (show 2 < ar.length by omega)
              obtain ⟨c1, c2⟩ : Co (cs.getD (gI ar 2).toNat ([], [])).1 ∧ Co (cs.getD (gI ar 2).toNat ([], [])).2 := hco _ (getD_mem (by omega))
              have p2 : ((ptsN cs ar).map coA).getD 2 .u = coA (cs.getD (gI ar 2).toNat ([], [])) := pts_at (by omega)
              generalize hc : cs.getD (gI ar 2).toNat ([], []) = c at *
              have en : FS.nxt ⟨cs, vs, fr⟩ i ⟨4, nm, ar, ⟨rs, rl, rd⟩⟩ = ([], (addM a.1 (subM b.2 c.2), addM a.2 (subM c.1 b.1))) := by
                rw [← ha, ← hb, ← hc]; rfl
              rw [en]
              have q1 := rcPlusC a.1 b.2 c.2 a1 b2 c2
              have q2 := rcPlusC a.2 c.1 b.1 a2 c1 b1
              generalize addM a.1 (subM b.2 c.2) = x1 at *
              generalize addM a.2 (subM c.1 b.1) = x2 at *
              clear a1 a2 b1 b2 c1 c2 ha hb hc hok hco en
              obtain ⟨aa, ab⟩ := a
              obtain ⟨ba, bb⟩ := b
              obtain ⟨ca, cb⟩ := c
              (focus (refine wkad (w_a hA2 (w_a hA3 (w_a e4 (w_a m4 (w_a e8 (w_a m8 (w_a e9 (w_a m9 (w_a e10 (w_a m10 (w_a e11 (w_a e24 (w_a e25 (w_a e26 (w_a m37 (w_a mV (w_a mC (w_a hll (w_a hlp (w_a @lents_lt (w_a @lents_beq (w_a hal2 (w_a p0 (w_a p1 (w_a p2 w_t))))))))))))))))))))))))) (w_a q1 (w_a q2 w_t)) (w_a (w_d 16 [(13, poA x1), (26, poA x2)] [] [8, 9]) w_t) ?_; (repeat' first | exact w_t | apply w_l); all_goals intros))
              simp (disch := omega) only [go_sem, e8, e9]
              refine backS (Sub.tup2 (Sub.frame _ _ _ _ _ _) (Sub.refl _)) ⟨svV, rfl, rfl⟩ ?_
              simp only [List.append_nil, upd_same' hV]
              (repeat' (first | exact hAg | (refine Agr.own ?_ (by omega))))
            · by_cases k5 : k0 = 5
              · subst k5
                have hal2 : ar.length = 2 := by have h1 : (ar.length : Int) = arS 5 := hok.al; have h2 : arS 5 = 2 := rfl; omega
                have h0 : 0 ≤ gI ar 0 ∧ gI ar 0 < (cs.length : Int) := hok.ai 0 (show 0 < ar.length by omega)
                obtain ⟨a1, a2⟩ : Co (cs.getD (gI ar 0).toNat ([], [])).1 ∧ Co (cs.getD (gI ar 0).toNat ([], [])).2 := hco _ (getD_mem (by omega))
                have p0 : ((ptsN cs ar).map coA).getD 0 .u = coA (cs.getD (gI ar 0).toNat ([], [])) := pts_at (by omega)
                generalize ha : cs.getD (gI ar 0).toNat ([], []) = a at *
                have h1 : 0 ≤ gI ar 1 ∧ gI ar 1 < (cs.length : Int) := hok.ai 1 (show 1 < ar.length by omega)
                obtain ⟨b1, b2⟩ : Co (cs.getD (gI ar 1).toNat ([], [])).1 ∧ Co (cs.getD (gI ar 1).toNat ([], [])).2 := hco _ (getD_mem (by omega))
                have p1 : ((ptsN cs ar).map coA).getD 1 .u = coA (cs.getD (gI ar 1).toNat ([], [])) := pts_at (by omega)
                generalize hb : cs.getD (gI ar 1).toNat ([], []) = b at *
                have en : FS.nxt ⟨cs, vs, fr⟩ i ⟨5, nm, ar, ⟨rs, rl, rd⟩⟩ = ([(1, (i : Int), 0)], (addM a.1 (mlM (subM b.1 a.1) (varM vs.length)), addM a.2 (mlM (subM b.2 a.2) (varM vs.length)))) := by
                  rw [← ha, ← hb]; rfl
                rw [en]
                have al := rcAlongM a b vs.length a1 a2 b1 b2
                have cP := rcParam m (KC + 1000) (KV + 1000) svC svV vs 1 (i : Int) 0 mV (by omega)
                generalize addM a.1 (mlM (subM b.1 a.1) (varM vs.length)) = x1 at *
                generalize addM a.2 (mlM (subM b.2 a.2) (varM vs.length)) = x2 at *
                clear a1 a2 b1 b2 ha hb hok hco en
                obtain ⟨aa, ab⟩ := a
                obtain ⟨ba, bb⟩ := b
                generalize varM vs.length = vv at *
                (focus (refine wkad (w_a hA2 (w_a hA3 (w_a e4 (w_a m4 (w_a e8 (w_a m8 (w_a e9 (w_a m9 (w_a e10 (w_a m10 (w_a e11 (w_a e24 (w_a e25 (w_a e26 (w_a m37 (w_a mV (w_a mC (w_a hll (w_a hlp (w_a @lents_lt (w_a @lents_beq (w_a hal2 w_t)))))))))))))))))))))) w_t w_t ?_; (repeat' first | exact w_t | apply w_l); all_goals intros))
                refine o_fresh cP ?_
                intro sv1
                (focus (refine wkad (w_a hA2 (w_a hA3 (w_a e4 (w_a m4 (w_a e8 (w_a m8 (w_a e9 (w_a m9 (w_a e10 (w_a m10 (w_a e11 (w_a e24 (w_a e25 (w_a e26 (w_a m37 (w_a mV (w_a mC (w_a hll (w_a hlp (w_a @lents_lt (w_a @lents_beq (w_a hal2 (w_a p0 (w_a p1 w_t)))))))))))))))))))))))) (w_a al w_t) (w_a (w_d 19 [(8, coA (x1, x2))] [] [8, 9]) w_t) ?_; (repeat' first | exact w_t | apply w_l); all_goals intros))
                simp (disch := omega) only [go_sem, e8, e9]
                refine backS (Sub.tup2 (Sub.frame _ _ _ _ _ _) (Sub.refl _)) ⟨sv1, rfl, rfl⟩ ?_
                (repeat (refine Agr.own ?_ (by omega)))
                refine Agr.put ?_ rfl rfl
                (repeat' (first | exact hAg | (refine Agr.own ?_ (by omega))))
              · by_cases k6 : k0 = 6
                · subst k6
                  have en : FS.nxt ⟨cs, vs, fr⟩ i ⟨6, nm, ar, ⟨rs, rl, rd⟩⟩ = ([(1, (i : Int), 0), (2, (i : Int), 1), (2, (i : Int), 2)], (varM (vs.length + 1), varM (vs.length + 2))) := rfl
                  rw [en]
                  have hl1 : (vs ++ [((1 : Int), (i : Int), (0 : Int))]).length = vs.length + 1 := by simp
                  have cP := rcParam m (KC + 1000) (KV + 1000) svC svV vs 1 (i : Int) 0 mV (by omega)
                  (focus (refine wkad (w_a hA2 (w_a hA3 (w_a e4 (w_a m4 (w_a e8 (w_a m8 (w_a e9 (w_a m9 (w_a e10 (w_a m10 (w_a e11 (w_a e24 (w_a e25 (w_a e26 (w_a m37 (w_a mV (w_a mC (w_a hll (w_a hlp (w_a @lents_lt (w_a @lents_beq w_t))))))))))))))))))))) w_t w_t ?_; (repeat' first | exact w_t | apply w_l); all_goals intros))
                  refine o_fresh cP ?_
                  intro sv1
                  (focus (refine wkad (w_a hA2 (w_a hA3 (w_a e4 (w_a m4 (w_a e8 (w_a m8 (w_a e9 (w_a m9 (w_a e10 (w_a m10 (w_a e11 (w_a e24 (w_a e25 (w_a e26 (w_a m37 (w_a mV (w_a mC (w_a hll (w_a hlp (w_a @lents_lt (w_a @lents_beq w_t))))))))))))))))))))) w_t w_t ?_; (repeat' first | exact w_t | apply w_l); all_goals intros))
                  refine o_fresh (rcDep _ (KC + 1000) (KV + 1000) svC sv1 (vs ++ [(1, (i : Int), 0)]) i 1 (by (simp (disch := omega) only [go_sem, mV, if_neg, if_pos, List.map_append, List.map_cons, List.map_nil] <;> repeat' first | rfl | refine ⟨?_, ?_⟩)) (by first | omega | (simp; omega)) (by omega)) ?_
                  intro sv2
                  (focus (refine wkad (w_a hA2 (w_a hA3 (w_a e4 (w_a m4 (w_a e8 (w_a m8 (w_a e9 (w_a m9 (w_a e10 (w_a m10 (w_a e11 (w_a e24 (w_a e25 (w_a e26 (w_a m37 (w_a mV (w_a mC (w_a hll (w_a hlp (w_a @lents_lt (w_a @lents_beq (w_a hl1 w_t)))))))))))))))))))))) w_t w_t ?_; (repeat' first | exact w_t | apply w_l); all_goals intros))
                  simp (disch := omega) only [go_sem, hl1, e8, e9]
                  refine backS (Sub.tup2 (Sub.frame _ _ _ _ _ _) (Sub.refl _)) ⟨sv2, rfl, rfl⟩ ?_
                  simp only [List.append_assoc, List.cons_append, List.nil_append]
                  (repeat (refine Agr.own ?_ (by omega)))
                  refine Agr.re (e1 := .row sv1 129 3 ((vs ++ [(1, (i : Int), 0)]).map Vt.av) 0) ?_ rfl rfl
                  (repeat (refine Agr.own ?_ (by omega)))
                  refine Agr.put ?_ rfl rfl
                  (repeat' (first | exact hAg | (refine Agr.own ?_ (by omega))))
                · have en : FS.nxt ⟨cs, vs, fr⟩ i ⟨k0, nm, ar, ⟨rs, rl, rd⟩⟩ = ([(2, (i : Int), 0), (2, (i : Int), 1)], (varM vs.length, varM (vs.length + 1))) := by
                    unfold FS.nxt
                    simp only [if_neg k1, if_neg k2, if_neg k3, if_neg k4, if_neg k5, if_neg k6]
                  rw [en]
                  have cD := rcDep m (KC + 1000) (KV + 1000) svC svV vs i 0 mV (by omega) (by omega)
                  (focus (refine wkad (w_a hA2 (w_a hA3 (w_a e4 (w_a m4 (w_a e8 (w_a m8 (w_a e9 (w_a m9 (w_a e10 (w_a m10 (w_a e11 (w_a e24 (w_a e25 (w_a e26 (w_a m37 (w_a mV (w_a mC (w_a hll (w_a hlp (w_a @lents_lt (w_a @lents_beq w_t))))))))))))))))))))) w_t w_t ?_; (repeat' first | exact w_t | apply w_l); all_goals intros))
                  refine o_fresh cD ?_
                  intro sv1
                  (focus (refine wkad (w_a hA2 (w_a hA3 (w_a e4 (w_a m4 (w_a e8 (w_a m8 (w_a e9 (w_a m9 (w_a e10 (w_a m10 (w_a e11 (w_a e24 (w_a e25 (w_a e26 (w_a m37 (w_a mV (w_a mC (w_a hll (w_a hlp (w_a @lents_lt (w_a @lents_beq w_t))))))))))))))))))))) w_t w_t ?_; (repeat' first | exact w_t | apply w_l); all_goals intros))
                  simp (disch := omega) only [go_sem, e8, e9]
                  refine backS (Sub.tup2 (Sub.frame _ _ _ _ _ _) (Sub.refl _)) ⟨sv1, rfl, rfl⟩ ?_
                  (repeat (refine Agr.own ?_ (by omega)))
                  refine Agr.put ?_ rfl rfl
                  (repeat' (first | exact hAg | (refine Agr.own ?_ (by omega))))
  · refine ⟨Nat.zero_le _, by exact gC, by exact gC, by exact gC, by exact gC, by exact gC, by exact gC, by exact gC, by exact gC, by exact gC, by exact gC, by exact gC, by exact gW hll, by exact gC, ⟨_, by exact gC, by (simp (disch := omega) only [go_sem, List.take_zero, List.map_nil] <;> repeat' first | rfl | refine ⟨?_, ?_⟩)⟩, ?_⟩
    (repeat' (first | exact Agr.start _ | (refine Agr.own ?_ (by omega))))
end Go.Proofs.YteiopjkamgmfpaaGreatDoor
end

section
namespace Go.Proofs.YteiopjkamgmfpaaGreatDoor
open Go Go.RowKit Go.Pg Go.Pol
set_option linter.unusedSimpArgs false
set_option linter.unusedVariables false
set_option maxRecDepth 20000
attribute [local go_sem] Tryz.underlying3 Tryz.underlying4 Tryz.underlying156 Tryz.underlying9 Tryz.underlying75 Tryz.underlying34 Tryz.underlying49 Tryz.underlying47 Tryz.underlying45 Tryz.underlying77 Tryz.underlying22 Tryz.underlying25 Tryz.underlying129 Tryz.underlying31 Tryz.underlying79 Tryz.underlying30 Tryz.underlying33 Tryz.underlying38 Tryz.underlying138 sz3 by3 z3 szB zB szErr zErr szStr byStr zStr szRat zRat szInt zInt szNat zNat szStep byStep zStep szFig zFig szSlI zSlI szSlS zSlS szVar byVar zVar szSlV zSlV szCoord byCoord zCoord szSlC zSlC szFrame zFrame szPoly byPoly zPoly szTerm zTerm Tryz.underlying133 szHVec byHVec zHVec Tryz.underlying189 szSlP zSlP Tryz.underlying107 Tryz.underlying23 szL byL zL szFact byFact zFact szSlF zSlF
attribute [-bool_to_prop] Bool.and_eq_decide Bool.or_eq_decide Bool.decide_beq_decide decide_eq_decide
/-! ### the first variable of a step -/
def fstN (vs : List Vt) (i : Int) : Nat → Option Nat
  | 0 => none
  | y + 1 => match fstN vs i y with
    | some v => some v
    | none => if (vs.getD y (0, 0, 0)).2.1 = i then some y else none
def parM (vs : List Vt) (i : Int) : Po := match fstN vs i vs.length with
  | some v => varM v
  | none => []
end Go.Proofs.YteiopjkamgmfpaaGreatDoor
end

section
namespace Go.Proofs.YteiopjkamgmfpaaGreatDoor
open Go Go.RowKit Go.Pg Go.Pol
set_option linter.unusedSimpArgs false
set_option linter.unusedVariables false
set_option maxRecDepth 20000
attribute [local go_sem] Tryz.underlying3 Tryz.underlying4 Tryz.underlying156 Tryz.underlying9 Tryz.underlying75 Tryz.underlying34 Tryz.underlying49 Tryz.underlying47 Tryz.underlying45 Tryz.underlying77 Tryz.underlying22 Tryz.underlying107 Tryz.underlying23 Tryz.underlying25 sz3 by3 z3 szB zB szL byL zL szErr zErr szStr byStr zStr szRat zRat szInt zInt szNat zNat szStep byStep zStep szFact byFact zFact szFig zFig szSlI zSlI szSlS zSlS szSlF zSlF
attribute [-bool_to_prop] Bool.and_eq_decide Bool.or_eq_decide Bool.decide_beq_decide decide_eq_decide
/-! ### the sizes that the laws of figures take -/
def fitS (s : RS) : Bool := !(decide (2 < s.r.l.length) || decide (2 < s.r.d.length) || decide (8 < s.ar.length))
def fitsB (ss : List RS) (gs : List RG) : Bool := ss.all fitS && (decide (nfN ss ss.length ≤ 12) && (decide (ss.length ≤ 42) && decide (gs.length ≤ 10)))
theorem all_at {α : Type} {p : α → Bool} {l : List α} {i : Nat} (h : i < l.length) (hp : p l[i] = false) : l.all p = false := by
  rw [Bool.eq_false_iff]
  intro ha
  rw [List.all_eq_true] at ha
  rw [ha _ (List.getElem_mem h)] at hp
  cases hp
theorem all_of {α : Type} {p : α → Bool} {l : List α} (h : ∀ j (hj : j < l.length), p l[j] = true) : l.all p = true := by
  rw [List.all_eq_true]
  intro x hx
  obtain ⟨j, hj, rfl⟩ := List.mem_iff_getElem.1 hx
  exact h j hj
theorem nfN_le (ss : List RS) : ∀ i, nfN ss i ≤ i
  | 0 => Nat.le_refl _
  | i + 1 => by
    have := nfN_le ss i
    unfold nfN
    split <;> omega
end Go.Proofs.YteiopjkamgmfpaaGreatDoor
end

section
namespace Go.Proofs.YteiopjkamgmfpaaGreatDoor
open Go Go.RowKit Go.Pg Go.Pol
set_option linter.unusedSimpArgs false
set_option linter.unusedVariables false
set_option maxRecDepth 20000
attribute [local go_sem] Tryz.underlying3 Tryz.underlying4 Tryz.underlying156 Tryz.underlying9 Tryz.underlying75 Tryz.underlying34 Tryz.underlying49 Tryz.underlying47 Tryz.underlying45 Tryz.underlying77 Tryz.underlying22 Tryz.underlying25 Tryz.underlying129 Tryz.underlying31 Tryz.underlying79 Tryz.underlying30 Tryz.underlying33 Tryz.underlying38 Tryz.underlying138 sz3 by3 z3 szB zB szErr zErr szStr byStr zStr szRat zRat szInt zInt szNat zNat szStep byStep zStep szFig zFig szSlI zSlI szSlS zSlS szVar byVar zVar szSlV zSlV szCoord byCoord zCoord szSlC zSlC szFrame zFrame szPoly byPoly zPoly szTerm zTerm Tryz.underlying107 Tryz.underlying23 szL byL zL szFact byFact zFact szSlF zSlF
attribute [-bool_to_prop] Bool.and_eq_decide Bool.or_eq_decide Bool.decide_beq_decide decide_eq_decide
end Go.Proofs.YteiopjkamgmfpaaGreatDoor
end

section
namespace Go.Proofs.YteiopjkamgmfpaaGreatDoor
open Go Go.RowKit Go.Pg Go.Pol
set_option linter.unusedSimpArgs false
set_option linter.unusedVariables false
set_option maxRecDepth 20000
attribute [-bool_to_prop] Bool.and_eq_decide Bool.or_eq_decide Bool.decide_beq_decide decide_eq_decide
section
variable {N n : Nat} {cs : List AV}
theorem agInt : aggTy Tryz.prog 3 = false := by kernel_rfl
theorem csInt : Tryz.prog.cellsOf 3 = 1 := by kernel_rfl
theorem shIvs (h : Shape Tryz.prog N n 75 cs) : ∃ l : List Int, cs = [ivs l] ∧ l.length ≤ N := by
  obtain ⟨bs, rfl, hl, _⟩ := shape_sliceOf (g := fun k : Int => [iv k]) (Q := fun _ => True) Tryz.underlying75 h fun m x hx => by
    obtain ⟨i, rfl, _⟩ := shape_int Tryz.underlying3 hx
    exact ⟨i, rfl, trivial⟩
  refine ⟨bs, ?_, hl⟩
  rw [csInt]
  have : (bs.map fun b : Int => wrapA Tryz.prog 3 [iv b]) = bs.map iv := List.map_congr_left fun b _ => wrapA_one agInt _
  rw [this]
theorem shStep (h : Shape Tryz.prog N n 77 cs) : ∃ s : RS, cs = [iv s.k, strA s.nm, ivs s.ar, .v (.bool s.r.s), lim s.r.l, lim s.r.d] ∧ s.r.lm N ∧ s.nm.size ≤ N ∧ s.ar.length ≤ N := by
  obtain ⟨m, rfl, hs⟩ := shape_struct Tryz.underlying77 (by kernel_rfl) h
  obtain ⟨x, y, rfl, h1, hs⟩ := hs.inv
  obtain ⟨x2, y, rfl, h2, hs⟩ := hs.inv
  obtain ⟨x3, y, rfl, h3, hs⟩ := hs.inv
  obtain ⟨x4, y, rfl, h4, hs⟩ := hs.inv
  obtain rfl := hs.inv0
  obtain ⟨k, rfl, _⟩ := shape_int Tryz.underlying3 h1
  obtain ⟨nm, rfl, hn⟩ := shape_string Tryz.underlying9 h2
  obtain ⟨ar, rfl, ha⟩ := shIvs h3
  obtain ⟨r, rfl, hr⟩ := shRat h4
  exact ⟨⟨k, nm, ar, r⟩, rfl, hr, hn, ha⟩
theorem shFact (h : Shape Tryz.prog N n 107 cs) : ∃ g : RG, cs = [iv g.k, ivs g.ar, .v (.bool g.r.s), lim g.r.l, lim g.r.d] ∧ g.r.lm N ∧ g.ar.length ≤ N := by
  obtain ⟨m, rfl, hs⟩ := shape_struct Tryz.underlying107 (by kernel_rfl) h
  obtain ⟨x, y, rfl, h1, hs⟩ := hs.inv
  obtain ⟨x3, y, rfl, h3, hs⟩ := hs.inv
  obtain ⟨x4, y, rfl, h4, hs⟩ := hs.inv
  obtain rfl := hs.inv0
  obtain ⟨k, rfl, _⟩ := shape_int Tryz.underlying3 h1
  obtain ⟨ar, rfl, ha⟩ := shIvs h3
  obtain ⟨r, rfl, hr⟩ := shRat h4
  exact ⟨⟨k, ar, r⟩, rfl, hr, ha⟩
theorem shSteps (h : Shape Tryz.prog N n 22 cs) : ∃ l : List RS, cs = [.sl 6 (l.map RS.av)] ∧ l.length ≤ N ∧ ∀ s ∈ l, s.r.lm N ∧ s.nm.size ≤ N ∧ s.ar.length ≤ N := by
  obtain ⟨bs, rfl, hl, hq⟩ := shape_sliceOf (g := fun s : RS => [iv s.k, strA s.nm, ivs s.ar, .v (.bool s.r.s), lim s.r.l, lim s.r.d]) (Q := fun s => s.r.lm N ∧ s.nm.size ≤ N ∧ s.ar.length ≤ N) Tryz.underlying22 h fun m x hx => shStep hx
  refine ⟨bs, ?_, hl, hq⟩
  rw [show Tryz.prog.cellsOf 77 = 6 from by kernel_rfl]
  have : (bs.map fun s : RS => wrapA Tryz.prog 77 [iv s.k, strA s.nm, ivs s.ar, .v (.bool s.r.s), lim s.r.l, lim s.r.d]) = bs.map RS.av := List.map_congr_left fun b _ => wrapA_agg Tryz.underlying77 _
  rw [this]
theorem shFacts (h : Shape Tryz.prog N n 23 cs) : ∃ l : List RG, cs = [.sl 5 (l.map RG.av)] ∧ l.length ≤ N ∧ ∀ s ∈ l, s.r.lm N ∧ s.ar.length ≤ N := by
  obtain ⟨bs, rfl, hl, hq⟩ := shape_sliceOf (g := fun s : RG => [iv s.k, ivs s.ar, .v (.bool s.r.s), lim s.r.l, lim s.r.d]) (Q := fun s => s.r.lm N ∧ s.ar.length ≤ N) Tryz.underlying23 h fun m x hx => shFact hx
  refine ⟨bs, ?_, hl, hq⟩
  rw [show Tryz.prog.cellsOf 107 = 5 from by kernel_rfl]
  have : (bs.map fun s : RG => wrapA Tryz.prog 107 [iv s.k, ivs s.ar, .v (.bool s.r.s), lim s.r.l, lim s.r.d]) = bs.map RG.av := List.map_congr_left fun b _ => wrapA_agg Tryz.underlying107 _
  rw [this]
theorem shFigure (h : Shape Tryz.prog N n 25 cs) : ∃ (ss : List RS) (gs : List RG), wrapA Tryz.prog 25 cs = figA ss gs ∧ ss.length ≤ N ∧ gs.length ≤ N ∧ (∀ s ∈ ss, s.r.lm N ∧ s.nm.size ≤ N ∧ s.ar.length ≤ N) ∧ ∀ s ∈ gs, s.r.lm N ∧ s.ar.length ≤ N := by
  obtain ⟨m, rfl, hs⟩ := shape_struct Tryz.underlying25 (by kernel_rfl) h
  obtain ⟨x, y, rfl, h1, hs⟩ := hs.inv
  obtain ⟨x3, y, rfl, h3, hs⟩ := hs.inv
  obtain rfl := hs.inv0
  obtain ⟨ss, rfl, hl, hq⟩ := shSteps h1
  obtain ⟨gs, rfl, kl, kq⟩ := shFacts h3
  exact ⟨ss, gs, wrapA_agg Tryz.underlying25 _, hl, kl, hq, kq⟩
end
theorem lm_mono {r : RQ} {a b : Nat} (h : r.lm a) (hab : a ≤ b) : r.lm b := ⟨h.1, h.2.1, Nat.le_trans h.2.2.1 hab, Nat.le_trans h.2.2.2 hab⟩
end Go.Proofs.YteiopjkamgmfpaaGreatDoor
end

section
namespace Go.Proofs.YteiopjkamgmfpaaGreatDoor
open Go Go.RowKit Go.Pg Go.Pol
set_option linter.unusedSimpArgs false
set_option linter.unusedVariables false
set_option maxRecDepth 20000
attribute [-bool_to_prop] Bool.and_eq_decide Bool.or_eq_decide Bool.decide_beq_decide decide_eq_decide
set_option linter.unusedSimpArgs false
set_option linter.unusedVariables false
/-! ### figures with few terms -/
theorem nodup_len {α : Type} [DecidableEq α] : ∀ (l m : List α), l.Nodup → (∀ x ∈ l, x ∈ m) → l.length ≤ m.length
  | [], _, _, _ => Nat.zero_le _
  | x :: l, m, h, hs => by
    obtain ⟨h1, h2⟩ := List.nodup_cons.1 h
    have hx := hs x (.head _)
    have := nodup_len l (m.erase x) h2 fun y hy => (List.mem_erase_of_ne (show y ≠ x from fun e => h1 (by rw [← e]; exact hy))).2 (hs y (.tail _ hy))
    rw [List.length_erase_of_mem hx] at this
    have hp := List.length_pos_of_mem hx
    rw [List.length_cons]; omega
theorem srt_nodup {p : Po} (h : SrtM p) : (p.map (·.2)).Nodup := by
  rw [List.Nodup, List.pairwise_map]
  refine List.Pairwise.imp ?_ h.2
  intro s t hst e
  rw [e] at hst
  exact ordM.irr _ hst
theorem len_of {r a b : Po} (hr : SrtM r) (h : ∀ t ∈ r, t.2 ∈ a.map (·.2) ∨ t.2 ∈ b.map (·.2)) : r.length ≤ a.length + b.length := by
  have := nodup_len (r.map (·.2)) (a.map (·.2) ++ b.map (·.2)) (srt_nodup hr) fun x hx => by
    obtain ⟨t, ht, rfl⟩ := List.mem_map.1 hx
    exact List.mem_append.2 (h t ht)
  simpa using this
theorem mem_scl {q : Rat} {p : Po} {t : Tm} (h : t ∈ sclM q p) : t.2 ∈ p.map (·.2) := by
  unfold sclM at h
  split at h
  · cases h
  · obtain ⟨s, hs, rfl⟩ := List.mem_map.1 h
    exact List.mem_map.2 ⟨s, hs, rfl⟩
theorem mem_add {p q : Po} {t : Tm} (h : t ∈ addM p q) : t.2 ∈ p.map (·.2) ∨ t.2 ∈ q.map (·.2) := by
  obtain ⟨s, hs, e⟩ := mem_addP h
  rcases List.mem_append.1 hs with h1 | h1
  · exact .inl (List.mem_map.2 ⟨s, h1, e.symm⟩)
  · exact .inr (List.mem_map.2 ⟨s, h1, e.symm⟩)
theorem mem_neg {p : Po} {x : List Int} (h : x ∈ (scaleP (-1) p).map (·.2)) : x ∈ p.map (·.2) := by
  unfold scaleP at h
  rw [List.map_map] at h
  exact h
theorem len_div {a b : Po} (q : Rat) (ha : SrtM a) (hb : SrtM b) : (addM a (sclM q (subM b a))).length ≤ a.length + b.length :=
  len_of (addP_srt ordM ha (scl_srt (sub_srt ordM hb ha))) fun t ht => by
    rcases mem_add ht with h | h
    · exact .inl h
    · obtain ⟨s, hs, e⟩ := List.mem_map.1 h
      have h1 := mem_scl hs
      obtain ⟨u, hu, e2⟩ := List.mem_map.1 h1
      rcases mem_add hu with h2 | h2
      · exact .inr (by rw [← e, ← e2]; exact h2)
      · exact .inl (by rw [← e, ← e2]; exact mem_neg h2)
/-- Coordinates are in order, whatever the steps. -/
theorem at_srt {f : FS} (h : ∀ c ∈ f.cs, SrtM c.1 ∧ SrtM c.2) (s : RS) (k : Nat) : SrtM (f.at s k).1 ∧ SrtM (f.at s k).2 := by
  unfold FS.at
  by_cases hk : (gI s.ar k).toNat < f.cs.length
  · exact h _ (getD_mem hk)
  · rw [List.getD_eq_getElem?_getD, List.getElem?_eq_none (by omega)]
    exact ⟨.nil, .nil⟩
theorem nxt_srt {f : FS} (h : ∀ c ∈ f.cs, SrtM c.1 ∧ SrtM c.2) (i : Nat) (s : RS) : SrtM (f.nxt i s).2.1 ∧ SrtM (f.nxt i s).2.2 := by
  obtain ⟨a1, a2⟩ := at_srt h s 0
  obtain ⟨b1, b2⟩ := at_srt h s 1
  obtain ⟨c1, c2⟩ := at_srt h s 2
  have hv := varM_srt
  unfold FS.nxt
  simp only
  split
  · split
    · exact ⟨.nil, .nil⟩
    · split
      · exact ⟨hv _, .nil⟩
      · exact ⟨hv _, hv _⟩
  · split
    · exact ⟨addP_srt ordM a1 (scl_srt (sub_srt ordM b1 a1)), addP_srt ordM a2 (scl_srt (sub_srt ordM b2 a2))⟩
    · split
      · exact ⟨addP_srt ordM a1 (sub_srt ordM c1 b1), addP_srt ordM a2 (sub_srt ordM c2 b2)⟩
      · split
        · exact ⟨addP_srt ordM a1 (sub_srt ordM b2 c2), addP_srt ordM a2 (sub_srt ordM c1 b1)⟩
        · split
          · exact ⟨addP_srt ordM a1 (mulR_srt ordM mulK (sub_srt ordM b1 a1) (hv _)), addP_srt ordM a2 (mulR_srt ordM mulK (sub_srt ordM b2 a2) (hv _))⟩
          · split
            · exact ⟨hv _, hv _⟩
            · exact ⟨hv _, hv _⟩
theorem frN_srt (ss : List RS) : ∀ i, ∀ c ∈ (frN ss i).cs, SrtM c.1 ∧ SrtM c.2
  | 0, c, h => by simp [frN] at h
  | i + 1, c, h => by
    rcases List.mem_append.1 (show c ∈ (frN ss i).cs ++ [_] from h) with h1 | h1
    · exact frN_srt ss i c h1
    · rw [List.mem_singleton] at h1
      subst h1
      exact nxt_srt (frN_srt ss i) i _
/-! the bounds of the numbers of terms -/
def wOf (w : List Int) (s : RS) : Int :=
  if s.k = 2 then gI w (gI s.ar 0).toNat + gI w (gI s.ar 1).toNat
  else if s.k = 3 ∨ s.k = 4 then gI w (gI s.ar 0).toNat + gI w (gI s.ar 1).toNat + gI w (gI s.ar 2).toNat
  else if s.k = 5 then 2 * gI w (gI s.ar 0).toNat + gI w (gI s.ar 1).toNat
  else 1
def wts (ss : List RS) : Nat → List Int
  | 0 => []
  | i + 1 => wts ss i ++ [wOf (wts ss i) (ss.getD i RS.zero)]
theorem wts_len (ss : List RS) : ∀ i, (wts ss i).length = i
  | 0 => rfl
  | i + 1 => by show (wts ss i ++ [_]).length = i + 1; rw [List.length_append, wts_len ss i]; rfl
theorem gI_app (l : List Int) (x : Int) (n : Nat) : gI (l ++ [x]) n = if n < l.length then gI l n else if n = l.length then x else 0 := by
  split
  · rename_i h
    rw [gI_at (by simp; omega), gI_at h, List.getElem_append_left h]
  · split
    · rename_i h1 h2
      subst h2
      rw [gI_at (by simp)]
      simp
    · rw [gI_out (by simp; omega)]
theorem wts_bd (ss : List RS) : ∀ i n, 0 ≤ gI (wts ss i) n ∧ gI (wts ss i) n ≤ ((3 ^ i : Nat) : Int)
  | 0, n => by rw [gI_out (Nat.zero_le _)]; omega
  | i + 1, n => by
    show 0 ≤ gI (wts ss i ++ [_]) n ∧ gI (wts ss i ++ [_]) n ≤ _
    have hp : (3 ^ (i + 1) : Nat) = 3 * 3 ^ i := by rw [Nat.pow_succ, Nat.mul_comm]
    have hq : 1 ≤ 3 ^ i := Nat.one_le_pow _ _ (by omega)
    rw [gI_app, hp]
    have h0 := wts_bd ss i n
    have h1 := wts_bd ss i (gI (ss.getD i RS.zero).ar 0).toNat
    have h2 := wts_bd ss i (gI (ss.getD i RS.zero).ar 1).toNat
    have h3 := wts_bd ss i (gI (ss.getD i RS.zero).ar 2).toNat
    unfold wOf
    generalize (3 ^ i : Nat) = z at *
    split
    · omega
    · split
      · split
        · omega
        · split
          · omega
          · split <;> omega
      · omega
theorem at_w {f : FS} {w : List Int} (h : ∀ n, ((f.cs.getD n ([], [])).1.length : Int) ≤ gI w n ∧ ((f.cs.getD n ([], [])).2.length : Int) ≤ gI w n) (s : RS) (k : Nat) : ((f.at s k).1.length : Int) ≤ gI w (gI s.ar k).toNat ∧ ((f.at s k).2.length : Int) ≤ gI w (gI s.ar k).toNat := h _
theorem nxt_w {f : FS} {w : List Int} (h0 : ∀ c ∈ f.cs, SrtM c.1 ∧ SrtM c.2) (h : ∀ n, ((f.cs.getD n ([], [])).1.length : Int) ≤ gI w n ∧ ((f.cs.getD n ([], [])).2.length : Int) ≤ gI w n) (i : Nat) (s : RS) :
    ((f.nxt i s).2.1.length : Int) ≤ wOf w s ∧ ((f.nxt i s).2.2.length : Int) ≤ wOf w s := by
  obtain ⟨a1, a2⟩ := at_w h s 0
  obtain ⟨b1, b2⟩ := at_w h s 1
  obtain ⟨c1, c2⟩ := at_w h s 2
  obtain ⟨r1, r2⟩ := at_srt h0 s 0
  obtain ⟨t1, t2⟩ := at_srt h0 s 1
  have hv := fun v => (var_pb v).l
  have d1 := len_div s.r.q r1 t1
  have d2 := len_div s.r.q r2 t2
  unfold FS.nxt wOf
  simp only
  generalize f.at s 0 = a at *
  generalize f.at s 1 = b at *
  generalize f.at s 2 = c at *
  have hw : ∀ p q r : Po, (addM p (subM q r)).length ≤ p.length + (q.length + r.length) := fun (p q r : Po) => Nat.le_trans (addP_len (lt := ltM) p (subM q r)) (Nat.add_le_add_left (sub_len q r) _)
  have hw' : ∀ (p q : Po) (v : Nat), (addM p (mlM (subM q p) (varM v))).length ≤ p.length + (q.length + p.length) := fun (p q : Po) (v : Nat) => Nat.le_trans (addP_len (lt := ltM) p (mlM (subM q p) (varM v))) (Nat.add_le_add_left (Nat.le_trans (mulV_len (subM q p) v) (sub_len q p)) _)
  have two : ∀ {x y : Po} {v : Int}, (x.length : Int) ≤ v → (y.length : Int) ≤ v → (x.length : Int) ≤ v ∧ (y.length : Int) ≤ v := fun h k => ⟨h, k⟩
  have v1 := hv f.vs.length
  have v2 := hv (f.vs.length + 1)
  have v3 := hv (f.vs.length + 2)
  have n0 : ((([] : Po)).length : Int) ≤ 1 := by simp
  by_cases k1 : s.k = 1
  · rw [if_pos k1, if_neg (show ¬ s.k = 2 by omega), if_neg (show ¬ (s.k = 3 ∨ s.k = 4) by omega), if_neg (show ¬ s.k = 5 by omega)]
    split
    · exact two n0 n0
    · split
      · exact two (x := varM f.vs.length) (by omega) n0
      · exact two (x := varM f.vs.length) (y := varM (f.vs.length + 1)) (by omega) (by omega)
  · rw [if_neg k1]
    by_cases k2 : s.k = 2
    · rw [if_pos k2, if_pos k2]
      exact two (x := addM a.1 (sclM s.r.q (subM b.1 a.1))) (y := addM a.2 (sclM s.r.q (subM b.2 a.2))) (by omega) (by omega)
    · rw [if_neg k2, if_neg k2]
      by_cases k3 : s.k = 3
      · rw [if_pos k3, if_pos (Or.inl k3)]
        have h1 := hw a.1 c.1 b.1
        have h2 := hw a.2 c.2 b.2
        exact two (x := addM a.1 (subM c.1 b.1)) (y := addM a.2 (subM c.2 b.2)) (by omega) (by omega)
      · rw [if_neg k3]
        by_cases k4 : s.k = 4
        · rw [if_pos k4, if_pos (Or.inr k4)]
          have h1 := hw a.1 b.2 c.2
          have h2 := hw a.2 c.1 b.1
          exact two (x := addM a.1 (subM b.2 c.2)) (y := addM a.2 (subM c.1 b.1)) (by omega) (by omega)
        · rw [if_neg k4, if_neg (show ¬ (s.k = 3 ∨ s.k = 4) by omega)]
          by_cases k5 : s.k = 5
          · rw [if_pos k5, if_pos k5]
            have h1 := hw' a.1 b.1 f.vs.length
            have h2 := hw' a.2 b.2 f.vs.length
            exact two (x := addM a.1 (mlM (subM b.1 a.1) (varM f.vs.length))) (y := addM a.2 (mlM (subM b.2 a.2) (varM f.vs.length))) (by omega) (by omega)
          · rw [if_neg k5, if_neg k5]
            split
            · exact two (x := varM (f.vs.length + 1)) (y := varM (f.vs.length + 2)) (by omega) (by omega)
            · exact two (x := varM f.vs.length) (y := varM (f.vs.length + 1)) (by omega) (by omega)
theorem frN_w (ss : List RS) : ∀ i n, (((frN ss i).cs.getD n ([], [])).1.length : Int) ≤ gI (wts ss i) n ∧ (((frN ss i).cs.getD n ([], [])).2.length : Int) ≤ gI (wts ss i) n
  | 0, n => by simp [frN, wts, gI]
  | i + 1, n => by
    have ih := frN_w ss i
    show ((((frN ss i).cs ++ [_]).getD n ([], [])).1.length : Int) ≤ gI (wts ss i ++ [_]) n ∧ ((((frN ss i).cs ++ [_]).getD n ([], [])).2.length : Int) ≤ gI (wts ss i ++ [_]) n
    rw [gI_app, wts_len]
    have hl := frN_len ss i
    by_cases h1 : n < i
    · rw [if_pos h1, List.getD_eq_getElem?_getD, List.getElem?_append_left (by omega), ← List.getD_eq_getElem?_getD]
      exact ih n
    · rw [if_neg h1]
      by_cases h2 : n = i
      · rw [if_pos h2, List.getD_eq_getElem?_getD, List.getElem?_append_right (by omega), hl, h2, Nat.sub_self]
        exact nxt_w (frN_srt ss i) ih i _
      · rw [if_neg h2, List.getD_eq_getElem?_getD, List.getElem?_eq_none (by simp; omega)]
        simp
theorem vs_le (ss : List RS) : ∀ i, (frN ss i).vs.length ≤ 3 * i
  | 0 => by simp [frN]
  | i + 1 => by
    show ((frN ss i).vs ++ ((frN ss i).nxt i (ss.getD i RS.zero)).1).length ≤ _
    rw [List.length_append]
    have := vs_le ss i
    have := nxt_vars (frN ss i) i (ss.getD i RS.zero)
    omega
def thinB (ss : List RS) (gs : List RG) : Bool :=
  (wts ss ss.length).all (fun w => decide (w ≤ 8)) && gs.all fun g => !(decide (g.k = 6) || decide (g.k = 7)) || g.ar.all fun a => decide (gI (wts ss ss.length) a.toNat ≤ 3)
def rat2 (r : RQ) : Bool := decide (r.l.length ≤ 2) && decide (r.d.length ≤ 2)
def fewB (ss : List RS) (gs : List RG) : Bool :=
  decide (ss.length ≤ 8) && (decide (gs.length ≤ 3) && (decide (figE ss gs = 0) && (thinB ss gs && (ss.all (fun s => rat2 s.r) && gs.all fun g => rat2 g.r))))
end Go.Proofs.YteiopjkamgmfpaaGreatDoor
end

section
namespace Go.Proofs.YteiopjkamgmfpaaGreatDoor
open Go Go.RowKit Go.Pg Go.Pol
set_option linter.unusedSimpArgs false
set_option linter.unusedVariables false
set_option maxRecDepth 20000
attribute [-bool_to_prop] Bool.and_eq_decide Bool.or_eq_decide Bool.decide_beq_decide decide_eq_decide
set_option linter.unusedSimpArgs false
set_option linter.unusedVariables false
/-! ### degrees in some variables -/
/-- The sum of a monomial's exponents at the first n variables that are in S. -/
def dgS (S : Nat → Bool) (m : List Int) : Nat → Int
  | 0 => 0
  | n + 1 => dgS S m n + if S n then gI m n else 0
theorem dgS_mul (S : Nat → Bool) (a b : List Int) : ∀ n, dgS S (mulM a b) n = dgS S a n + dgS S b n
  | 0 => rfl
  | n + 1 => by
    show dgS S (mulM a b) n + _ = (dgS S a n + _) + (dgS S b n + _)
    rw [dgS_mul S a b n, show gI (mulM a b) n = gI a n + gI b n from gI_zip _ rfl a b n]
    split <;> omega
/-- Polynomials in the first V variables, of a degree of at most d in those of S. -/
def DP (S : Nat → Bool) (V : Nat) (d : Int) (p : Po) : Prop := ∀ t ∈ p, t.2.length ≤ V ∧ dgS S t.2 V ≤ d
theorem DP.mono {S : Nat → Bool} {V : Nat} {d e : Int} {p : Po} (h : DP S V d p) (hd : d ≤ e) : DP S V e p := fun t ht => ⟨(h t ht).1, by have := (h t ht).2; omega⟩
theorem DP.add {S : Nat → Bool} {V : Nat} {d : Int} {p q : Po} (h : DP S V d p) (g : DP S V d q) : DP S V d (addM p q) := fun t ht => by
  rcases mem_add ht with h1 | h1
  · obtain ⟨u, hu, e⟩ := List.mem_map.1 h1
    rw [← e]; exact h u hu
  · obtain ⟨u, hu, e⟩ := List.mem_map.1 h1
    rw [← e]; exact g u hu
theorem DP.neg {S : Nat → Bool} {V : Nat} {d : Int} {p : Po} (h : DP S V d p) : DP S V d (scaleP (-1) p) := fun t ht => by
  obtain ⟨u, hu, rfl⟩ := List.mem_map.1 ht
  exact h u hu
theorem DP.sub {S : Nat → Bool} {V : Nat} {d : Int} {p q : Po} (h : DP S V d p) (g : DP S V d q) : DP S V d (subM p q) := h.add g.neg
theorem DP.mul {S : Nat → Bool} {V : Nat} {d e : Int} {p q : Po} (h : DP S V d p) (g : DP S V e q) : DP S V (d + e) (mlM p q) := by
  have key : ∀ (q out : Po), DP S V e q → DP S V (d + e) out → DP S V (d + e) (q.foldl (fun out t => addP ltM out (timesP mulM p t)) out) := by
    intro q
    induction q with
    | nil => exact fun out _ h2 => h2
    | cons t q ih =>
      intro out h1 h2
      rw [List.foldl_cons]
      refine ih _ (fun u hu => h1 u (.tail _ hu)) (h2.add fun u hu => ?_)
      obtain ⟨s, hs, rfl⟩ := List.mem_map.1 hu
      obtain ⟨a1, a2⟩ := h s hs
      obtain ⟨b1, b2⟩ := h1 t (.head _)
      exact ⟨by show (mulM s.2 t.2).length ≤ V; rw [mulM_len]; omega, by show dgS S (mulM s.2 t.2) V ≤ _; rw [dgS_mul]; omega⟩
  exact key q [] g fun t ht => by cases ht
/-! ### distributing -/
end Go.Proofs.YteiopjkamgmfpaaGreatDoor
end

section
namespace Go.Proofs.YteiopjkamgmfpaaGreatDoor
open Go Go.RowKit Go.Pg Go.Pol
set_option linter.unusedSimpArgs false
set_option linter.unusedVariables false
set_option maxRecDepth 20000
attribute [local go_sem] Tryz.underlying3 Tryz.underlying4 Tryz.underlying156 Tryz.underlying9 Tryz.underlying75 Tryz.underlying34 Tryz.underlying49 Tryz.underlying47 Tryz.underlying45 Tryz.underlying77 Tryz.underlying22 Tryz.underlying25 Tryz.underlying129 Tryz.underlying31 Tryz.underlying79 Tryz.underlying30 Tryz.underlying33 Tryz.underlying38 Tryz.underlying138 sz3 by3 z3 szB zB szErr zErr szStr byStr zStr szRat zRat szInt zInt szNat zNat szStep byStep zStep szFig zFig szSlI zSlI szSlS zSlS szVar byVar zVar szSlV zSlV szCoord byCoord zCoord szSlC zSlC szFrame zFrame szPoly byPoly zPoly szTerm zTerm Tryz.underlying133 szHVec byHVec zHVec Tryz.underlying189 szSlP zSlP Tryz.underlying107 Tryz.underlying23 szL byL zL szFact byFact zFact szSlF zSlF Tryz.underlying132 szA2P zA2P
attribute [-bool_to_prop] Bool.and_eq_decide Bool.or_eq_decide Bool.decide_beq_decide decide_eq_decide
/-! ### package hypotheses: the equations -/
end Go.Proofs.YteiopjkamgmfpaaGreatDoor
end

section
namespace Go.Proofs.YteiopjkamgmfpaaGreatDoor
open Go Go.RowKit Go.Pg Go.Pol
set_option linter.unusedSimpArgs false
set_option linter.unusedVariables false
set_option maxRecDepth 20000
attribute [local go_sem] Tryz.underlying3 Tryz.underlying4 Tryz.underlying156 Tryz.underlying9 Tryz.underlying75 Tryz.underlying34 Tryz.underlying49 Tryz.underlying47 Tryz.underlying45 Tryz.underlying77 Tryz.underlying22 Tryz.underlying25 Tryz.underlying129 Tryz.underlying31 Tryz.underlying79 Tryz.underlying30 Tryz.underlying33 Tryz.underlying38 Tryz.underlying138 sz3 by3 z3 szB zB szErr zErr szStr byStr zStr szRat zRat szInt zInt szNat zNat szStep byStep zStep szFig zFig szSlI zSlI szSlS zSlS szVar byVar zVar szSlV zSlV szCoord byCoord zCoord szSlC zSlC szFrame zFrame szPoly byPoly zPoly szTerm zTerm Tryz.underlying133 szHVec byHVec zHVec Tryz.underlying189 szSlP zSlP Tryz.underlying107 Tryz.underlying23 szL byL zL szFact byFact zFact szSlF zSlF
attribute [-bool_to_prop] Bool.and_eq_decide Bool.or_eq_decide Bool.decide_beq_decide decide_eq_decide
/-! ### the reference's equations -/
abbrev nilC : AV := .agg [.v (.slice none 0 0), .v (.slice none 0 0)]
end Go.Proofs.YteiopjkamgmfpaaGreatDoor
end

section
namespace Go.Proofs.YteiopjkamgmfpaaGreatDoor
open Go Go.RowKit Go.Pg Go.Pol
set_option linter.unusedSimpArgs false
set_option linter.unusedVariables false
set_option maxRecDepth 20000
attribute [-bool_to_prop] Bool.and_eq_decide Bool.or_eq_decide Bool.decide_beq_decide decide_eq_decide
/-! ### arguments of a known number -/
theorem ar2 {ar : List Int} {n : Nat} (hl : (ar.length : Int) = 2) (h : ∀ k, k < ar.length → 0 ≤ gI ar k ∧ gI ar k < (n : Int)) : ∃ a b : Nat, ar = [(a : Int), (b : Int)] ∧ a < n ∧ b < n := by
  match ar, hl, h with
  | [x, y], _, h =>
    have h0 := h 0 (by simp)
    have h1 := h 1 (by simp)
    simp only [gI, List.getD_cons_zero, List.getD_cons_succ] at h0 h1
    exact ⟨x.toNat, y.toNat, by rw [Int.toNat_of_nonneg h0.1, Int.toNat_of_nonneg h1.1], by omega, by omega⟩
theorem ar3 {ar : List Int} {n : Nat} (hl : (ar.length : Int) = 3) (h : ∀ k, k < ar.length → 0 ≤ gI ar k ∧ gI ar k < (n : Int)) : ∃ a b c : Nat, ar = [(a : Int), (b : Int), (c : Int)] ∧ a < n ∧ b < n ∧ c < n := by
  match ar, hl, h with
  | [x, y, z], _, h =>
    have h0 := h 0 (by simp)
    have h1 := h 1 (by simp)
    have h2 := h 2 (by simp)
    simp only [gI, List.getD_cons_zero, List.getD_cons_succ] at h0 h1 h2
    exact ⟨x.toNat, y.toNat, z.toNat, by rw [Int.toNat_of_nonneg h0.1, Int.toNat_of_nonneg h1.1, Int.toNat_of_nonneg h2.1], by omega, by omega, by omega⟩
end Go.Proofs.YteiopjkamgmfpaaGreatDoor
end

section
namespace Go.Proofs.YteiopjkamgmfpaaGreatDoor
open Go Go.RowKit Go.Pg Go.Pol
set_option linter.unusedSimpArgs false
set_option linter.unusedVariables false
set_option maxRecDepth 20000
attribute [local go_sem] Tryz.underlying3 Tryz.underlying4 Tryz.underlying156 Tryz.underlying9 Tryz.underlying75 Tryz.underlying34 Tryz.underlying49 Tryz.underlying47 Tryz.underlying45 Tryz.underlying77 Tryz.underlying22 Tryz.underlying25 Tryz.underlying107 Tryz.underlying23 sz3 by3 z3 szB zB szErr zErr szStr byStr zStr szL byL zL szRat zRat szInt zInt szNat zNat szStep byStep zStep szFig zFig szSlI zSlI szSlS zSlS szFact byFact zFact szSlF zSlF
attribute [-bool_to_prop] Bool.and_eq_decide Bool.or_eq_decide Bool.decide_beq_decide decide_eq_decide
theorem wts_at {ss : List RS} {i a : Nat} (h : a < i) : ((wts ss i).map iv).getD a .u = iv (gI (wts ss i) a) := by
  rw [map_atB iv (by rw [wts_len]; exact h), gI_at (by rw [wts_len]; exact h)]
theorem wts_succ {ss : List RS} {i : Nat} (hi : i < ss.length) : (wts ss (i + 1)).map iv = (wts ss i).map iv ++ [iv (wOf (wts ss i) ss[i])] := by
  show (wts ss i ++ [_]).map iv = _
  rw [List.map_append, show ss.getD i RS.zero = ss[i] from by rw [List.getD_eq_getElem?_getD, List.getElem?_eq_getElem hi]; rfl]; rfl
set_option maxHeartbeats 8000000 in
theorem rlWeights (ss : List RS) (gs : List RG) (hl : ss.length ≤ 8) (he : ∀ i, i < ss.length → errS ss i = 0) : Pure Tryz.prog 139 [figA ss gs] (ivs (wts ss ss.length)) := by
  have hg : ∀ i (h : i < ss.length), (ss.map RS.av).getD i .u = ss[i].av := fun i h => map_atB RS.av h
  have hls : (ss.map RS.av).length = ss.length := List.length_map ..
  have hok : ∀ i (h : i < ss.length), (ss[i].ar.length : Int) = arS ss[i].k ∧ ∀ k, k < ss[i].ar.length → 0 ≤ gI ss[i].ar k ∧ gI ss[i].ar k < (i : Int) := fun i h => ⟨(errS_ok h (he i h)).2.1, (errS_ok h (he i h)).2.2.1⟩
  have hws : ∀ i (h : i < ss.length), (wts ss (i + 1)).map iv = (wts ss i).map iv ++ [iv (wOf (wts ss i) ss[i])] := fun i h => wts_succ h
  have hwl : ∀ i, ((wts ss i).map iv).length = i := fun i => by rw [List.length_map, wts_len]
  have hbd : ∀ i n, i ≤ 8 → 0 ≤ gI (wts ss i) n ∧ gI (wts ss i) n ≤ 6561 := fun i n h => by
    have := wts_bd ss i n
    have h3 : (3 ^ i : Nat) ≤ 3 ^ 8 := Nat.pow_le_pow_right (by omega) h
    omega
  show Pure _ _ [.agg [.sl 6 (ss.map RS.av), .sl 5 (gs.map RG.av)]] (.sl 1 ((wts ss ss.length).map iv))
  generalize ss.map RS.av = M at *
  generalize gs.map RG.av = N at *
  refine pure_intro (tok := 0) Tryz.func139 rfl Tryz.ntmps139 Tryz.results139 Tryz.call139 (by rfl) (by simp) ?_
  (focus (refine wkad (w_a hls w_t) w_t w_t ?_; (repeat' first | exact w_t | apply w_l); all_goals intros))
  rename_i g1
  refine r_frz (Frz.nilOwn (d := 3) 83 1 3 (by exact gC)) ?_
  refine r_loopE (ι := Nat) (fun i e m => i ≤ ss.length ∧ e 1 = .pbox 1 g1 0 ∧ m 1 = some (.box g1 25 [.sl 6 M, .sl 5 N] false) ∧ e 4 = iv i ∧ ∃ sv, e 3 = .own 83 sv ∧ m 83 = some (.row sv 3 1 ((wts ss i).map iv) 0)) (fun i => ss.length - i) 0 (by rfl) ?_ ?_
  · rintro i e m ⟨hi, e1, m1, e4, sv, e3, m83⟩
    by_cases hlt : i < ss.length
    · have hgi := hg i hlt
      obtain ⟨ha, hr⟩ := hok i hlt
      have hwi := hwl i
      have hn := hws i hlt
      have hx := fun a (h : a < i) => wts_at (ss := ss) h
      have hb := fun n => hbd i n (by omega)
      clear hg hok hws hwl hbd
      generalize wts ss i = w at *
      generalize ss[i] = s at *
      obtain ⟨k, nm, ar, ⟨rs, rl, rd⟩⟩ := s
      unfold wOf at hn
      unfold arS at ha
      simp only at *
      generalize w.map iv = W at *
      by_cases k2 : k = 2
      · subst k2
        obtain ⟨a, b, rfl, h1, h2⟩ := ar2 (by simpa using ha) hr
        have b1 := hb a
        have b2 := hb b
        have x1 := hx a h1
        have x2 := hx b h2
        simp only [if_pos, gI, List.getD_cons_zero, List.getD_cons_succ, Int.toNat_natCast] at hn x1 x2 b1 b2
        generalize w.getD a 0 = x at *
        generalize w.getD b 0 = y at *
        clear hb hx hr ha
        (focus (refine wkad (w_a e1 (w_a m1 (w_a e4 (w_a e3 (w_a m83 (w_a hls (w_a hgi (w_a hwi (w_a x1 (w_a x2 w_t)))))))))) w_t w_t ?_; (repeat' first | exact w_t | apply w_l); all_goals intros))
        exact ⟨i + 1, ⟨by omega, by exact gW e1, by exact gW m1, by exact gS, _, by exact gC, by rw [hn]; exact gC⟩, by omega⟩
      · by_cases k34 : k = 3 ∨ k = 4
        · obtain ⟨a, b, c, rfl, h1, h2, h3⟩ := ar3 (by rcases k34 with rfl | rfl <;> simpa using ha) hr
          have b1 := hb a
          have b2 := hb b
          have b3 := hb c
          have x1 := hx a h1
          have x2 := hx b h2
          have x3 := hx c h3
          rw [if_neg k2, if_pos k34] at hn
          simp only [gI, List.getD_cons_zero, List.getD_cons_succ, Int.toNat_natCast] at hn x1 x2 x3 b1 b2 b3
          generalize w.getD a 0 = x at *
          generalize w.getD b 0 = y at *
          generalize w.getD c 0 = z at *
          clear hb hx hr ha k2
          rcases k34 with rfl | rfl
          all_goals
            (focus (refine wkad (w_a e1 (w_a m1 (w_a e4 (w_a e3 (w_a m83 (w_a hls (w_a hgi (w_a hwi (w_a x1 (w_a x2 (w_a x3 w_t))))))))))) w_t w_t ?_; (repeat' first | exact w_t | apply w_l); all_goals intros))
            exact ⟨i + 1, ⟨by omega, by exact gW e1, by exact gW m1, by exact gS, _, by exact gC, by rw [hn]; exact gC⟩, by omega⟩
        · rw [if_neg k2, if_neg k34] at hn
          by_cases k5 : k = 5
          · subst k5
            obtain ⟨a, b, rfl, h1, h2⟩ := ar2 (by simpa using ha) hr
            have b1 := hb a
            have b2 := hb b
            have x1 := hx a h1
            have x2 := hx b h2
            simp only [if_pos, gI, List.getD_cons_zero, List.getD_cons_succ, Int.toNat_natCast] at hn x1 x2 b1 b2
            generalize w.getD a 0 = x at *
            generalize w.getD b 0 = y at *
            clear hb hx hr ha k2 k34
            (focus (refine wkad (w_a e1 (w_a m1 (w_a e4 (w_a e3 (w_a m83 (w_a hls (w_a hgi (w_a hwi (w_a x1 (w_a x2 w_t)))))))))) w_t w_t ?_; (repeat' first | exact w_t | apply w_l); all_goals intros))
            exact ⟨i + 1, ⟨by omega, by exact gW e1, by exact gW m1, by exact gS, _, by exact gC, by rw [hn]; exact gC⟩, by omega⟩
          · have k3 : ¬ k = 3 := fun h => k34 (.inl h)
            have k4 : ¬ k = 4 := fun h => k34 (.inr h)
            rw [if_neg k5] at hn
            clear hb hx hr ha k34
            (focus (refine wkad (w_a e1 (w_a m1 (w_a e4 (w_a e3 (w_a m83 (w_a hls (w_a hgi (w_a hwi w_t)))))))) w_t w_t ?_; (repeat' first | exact w_t | apply w_l); all_goals intros))
            exact ⟨i + 1, ⟨by omega, by exact gW e1, by exact gW m1, by exact gS, _, by exact gC, by rw [hn]; exact gC⟩, by omega⟩
    · have hin : i = ss.length := by omega
      subst hin
      clear hws hg hok hbd
      have hwi := hwl ss.length
      generalize (wts ss ss.length).map iv = W at *
      (focus (refine wkld (w_a e1 (w_a m1 (w_a e4 (w_a e3 (w_a m83 (w_a hls (w_a hwi w_t))))))) w_t (w_a m83 w_t) w_t ?_; (repeat' first | exact w_t | apply w_l); all_goals intros))
  · exact ⟨Nat.zero_le _, by exact gC, by exact gC, by exact gC, _, by exact gC, by (simp (disch := omega) only [go_sem, wts, List.map_nil] <;> repeat' first | rfl | refine ⟨?_, ?_⟩)⟩
def thinG (w : List Int) (g : RG) : Bool := !(decide (g.k = 6) || decide (g.k = 7)) || g.ar.all fun a => decide (gI w a.toNat ≤ 3)
theorem all_take {α : Type} {p : α → Bool} {l : List α} (h : ∀ j (hj : j < l.length), p l[j] = true) : l.all p = true := all_of h
set_option maxHeartbeats 8000000 in
theorem rlThin (ss : List RS) (gs : List RG) (hl : ss.length ≤ 8) (hlg : gs.length ≤ 1000) (he : ∀ i, i < ss.length → errS ss i = 0) (heg : ∀ g ∈ gs, g.ar.length ≤ 100 ∧ ∀ k, k < g.ar.length → 0 ≤ gI g.ar k ∧ gI g.ar k < (ss.length : Int)) : Pure Tryz.prog 72 [figA ss gs] (.v (.bool (thinB ss gs))) := by
  have cw : Pure Tryz.prog 139 [.agg [.sl 6 (ss.map RS.av), .sl 5 (gs.map RG.av)]] (.sl 1 ((wts ss ss.length).map iv)) := rlWeights ss gs hl he
  have hlen := wts_len ss ss.length
  have hbd : ∀ n, 0 ≤ gI (wts ss ss.length) n ∧ gI (wts ss ss.length) n ≤ 6561 := fun n => by
    have := wts_bd ss ss.length n
    have h3 : (3 ^ ss.length : Nat) ≤ 3 ^ 8 := Nat.pow_le_pow_right (by omega) hl
    omega
  have hg : ∀ i (h : i < gs.length), (gs.map RG.av).getD i .u = gs[i].av := fun i h => map_atB RG.av h
  have hlm : (gs.map RG.av).length = gs.length := List.length_map ..
  show Pure _ _ [.agg [.sl 6 (ss.map RS.av), .sl 5 (gs.map RG.av)]] _
  have hT : thinB ss gs = ((wts ss ss.length).all (fun w => decide (w ≤ 8)) && gs.all (thinG (wts ss ss.length))) := rfl
  rw [hT]
  have hx : ∀ a, a < ss.length → ((wts ss ss.length).map iv).getD a .u = iv (gI (wts ss ss.length) a) := fun a h => wts_at h
  clear hT
  generalize ss.map RS.av = M at *
  generalize gs.map RG.av = N at *
  generalize wts ss ss.length = w at *
  generalize ss.length = n at *
  have hwl : (w.map iv).length = n := by rw [List.length_map, hlen]
  generalize hW : w.map iv = W at *
  refine pure_intro (tok := 0) Tryz.func72 rfl Tryz.ntmps72 Tryz.results72 Tryz.call72 (by rfl) (by simp) ?_
  (focus (refine wkap w_t (w_a cw w_t) (w_r 0) ?_; (repeat' first | exact w_t | apply w_l); all_goals intros))
  rename_i g1
  refine r_loopE (ι := Nat) (fun i e m => i ≤ n ∧ e 1 = .pbox 1 g1 0 ∧ m 1 = some (.box g1 25 [.sl 6 M, .sl 5 N] false) ∧ e 3 = .sl 1 W ∧ e 4 = iv i ∧ ∀ j, j < i → gI w j ≤ 8) (fun i => n - i) 0 (by rfl) ?_ ?_
  · rintro i e m ⟨hi, e1, m1, e3, e4, hj⟩
    by_cases hlt : i < n
    · have x1 := hx i hlt
      have b1 := hbd i
      have hgw : gI w i = w[i]'(by omega) := gI_at (by omega)
      by_cases h8 : 8 < gI w i
      · have : (w.all fun w => decide (w ≤ 8)) = false := all_at (i := i) (by omega) (by rw [← hgw]; simpa using h8)
        rw [this, Bool.false_and]
        generalize gI w i = x at *
        (focus (refine wklp (w_a e1 (w_a m1 (w_a e3 (w_a e4 (w_a hwl (w_a x1 w_t)))))) w_t w_t (w_r 0) ?_; (repeat' first | exact w_t | apply w_l); all_goals intros))
      · have hnx : ∀ j, j < i + 1 → gI w j ≤ 8 := fun j hjj => by
          by_cases e : j = i
          · rw [e]; omega
          · exact hj j (by omega)
        clear hj hgw
        generalize gI w i = x at *
        (focus (refine wkap (w_a e1 (w_a m1 (w_a e3 (w_a e4 (w_a hwl (w_a x1 w_t)))))) w_t (w_r 0) ?_; (repeat' first | exact w_t | apply w_l); all_goals intros))
        exact ⟨i + 1, ⟨by omega, by exact gW e1, by exact gW m1, by exact gW e3, by exact gS, hnx⟩, by omega⟩
    · have hin : n = i := by omega
      subst hin
      have : (w.all fun w => decide (w ≤ 8)) = true := all_take fun j hjj => by have := hj j (by omega); rw [gI_at hjj] at this; simpa using this
      rw [this, Bool.true_and]
      clear hj
      (focus (refine wkap (w_a e1 (w_a m1 (w_a e3 (w_a e4 (w_a hwl w_t))))) w_t (w_r 0) ?_; (repeat' first | exact w_t | apply w_l); all_goals intros))
      refine r_loopE (ι := Nat) (fun i e m => i ≤ gs.length ∧ e 1 = .pbox 1 g1 0 ∧ m 1 = some (.box g1 25 [.sl 6 M, .sl 5 N] false) ∧ e 3 = .sl 1 W ∧ e 5 = iv i ∧ ∀ j (hj : j < gs.length), j < i → thinG w gs[j] = true) (fun i => gs.length - i) 0 (by rfl) ?_ ?_
      · rintro i e m ⟨hi, e1, m1, e3, e5, hj⟩
        by_cases hlt : i < gs.length
        · have hgi := hg i hlt
          obtain ⟨ha, hr⟩ := heg _ (List.getElem_mem hlt)
          have hno : thinG w gs[i] = false → gs.all (thinG w) = false := fun h => all_at hlt h
          have hnx : thinG w gs[i] = true → ∀ j (hj : j < gs.length), j < i + 1 → thinG w gs[j] = true := fun h j hjj h2 => by
            by_cases e : j = i
            · subst e; exact h
            · exact hj j hjj (by omega)
          clear hj hg heg
          generalize gs.all (thinG w) = v at *
          generalize gs[i] = g at *
          obtain ⟨k, ar, ⟨rs, rl, rd⟩⟩ := g
          simp only at *
          have hla : (ar.map iv).length = ar.length := List.length_map ..
          have hga : ∀ j (h : j < ar.length), (ar.map iv).getD j .u = iv ar[j] := fun j h => map_atB iv h
          (focus (refine wkap (w_a e1 (w_a m1 (w_a e3 (w_a e5 (w_a hlm (w_a hgi w_t)))))) w_t (w_r 0) ?_; (repeat' first | exact w_t | apply w_l); all_goals intros))
          rename_i g6
          refine r_loopE (ι := Nat) (fun y e m => y ≤ ar.length ∧ e 1 = .pbox 1 g1 0 ∧ m 1 = some (.box g1 25 [.sl 6 M, .sl 5 N] false) ∧ e 3 = .sl 1 W ∧ e 5 = iv i ∧ e 6 = .pbox 6 g6 0 ∧ m 6 = some (.box g6 107 [iv k, ivs ar, .v (.bool rs), lim rl, lim rd] false) ∧ e 7 = iv y ∧ ((k = 6 ∨ k = 7) → ∀ j (hj : j < ar.length), j < y → gI w ar[j].toNat ≤ 3)) (fun y => ar.length - y) 0 (by rfl) ?_ ?_
          · rintro y e m ⟨hy, e1, m1, e3, e5, e6, m6, e7, hq⟩
            by_cases hly : y < ar.length
            · have hgy := hga y hly
              have hry := hr y hly
              rw [gI_at hly] at hry
              obtain ⟨a, hae⟩ : ∃ a : Nat, ar[y] = a := ⟨ar[y].toNat, by omega⟩
              have han : a < n := by omega
              have hxa := hx a han
              have hba := hbd a
              rw [hae] at hgy
              by_cases hk : k = 6 ∨ k = 7
              · by_cases h3 : 3 < gI w a
                · have : thinG w ⟨k, ar, ⟨rs, rl, rd⟩⟩ = false := by
                    unfold thinG
                    have h1 : (decide (k = 6) || decide (k = 7)) = true := by simpa using hk
                    have h2 : (ar.all fun a => decide (gI w a.toNat ≤ 3)) = false := all_at hly (by rw [hae, Int.toNat_natCast]; simpa using h3)
                    simp only [h1, h2]; rfl
                  rw [hno this]
                  clear hq hno hnx hga hr hx hbd this
                  generalize gI w a = x at *
                  rcases hk with rfl | rfl
                  all_goals
                    (focus (refine wklp (w_a e1 (w_a m1 (w_a e3 (w_a e5 (w_a e6 (w_a m6 (w_a e7 (w_a hla (w_a hgy (w_a hwl (w_a hxa w_t))))))))))) w_t w_t (w_r 0) ?_; (repeat' first | exact w_t | apply w_l); all_goals intros))
                · have hq2 : ∀ j (hj : j < ar.length), j < y + 1 → gI w ar[j].toNat ≤ 3 := fun j hjj h2 => by
                    by_cases e : j = y
                    · subst e; rw [hae, Int.toNat_natCast]; omega
                    · exact hq hk j hjj (by omega)
                  clear hq hno hnx hga hr hx hbd
                  generalize gI w a = x at *
                  rcases hk with rfl | rfl
                  all_goals
                    (focus (refine wkap (w_a e1 (w_a m1 (w_a e3 (w_a e5 (w_a e6 (w_a m6 (w_a e7 (w_a hla (w_a hgy (w_a hwl (w_a hxa w_t))))))))))) w_t (w_r 0) ?_; (repeat' first | exact w_t | apply w_l); all_goals intros))
                    exact ⟨y + 1, ⟨by omega, by exact gW e1, by exact gW m1, by exact gW e3, by exact gW e5, by exact gW e6, by exact gW m6, by exact gS, fun _ => hq2⟩, by omega⟩
              · have k6 : ¬ k = 6 := fun h => hk (.inl h)
                have k7 : ¬ k = 7 := fun h => hk (.inr h)
                clear hq hno hnx hga hr hx hbd
                (focus (refine wkap (w_a e1 (w_a m1 (w_a e3 (w_a e5 (w_a e6 (w_a m6 (w_a e7 (w_a hla w_t)))))))) w_t (w_r 0) ?_; (repeat' first | exact w_t | apply w_l); all_goals intros))
                exact ⟨y + 1, ⟨by omega, by exact gW e1, by exact gW m1, by exact gW e3, by exact gW e5, by exact gW e6, by exact gW m6, by exact gS, fun h => absurd h hk⟩, by omega⟩
            · have : thinG w ⟨k, ar, ⟨rs, rl, rd⟩⟩ = true := by
                unfold thinG
                by_cases hk : k = 6 ∨ k = 7
                · have h2 : (ar.all fun a => decide (gI w a.toNat ≤ 3)) = true := all_take fun j hjj => by have := hq hk j hjj (by omega); simpa using this
                  simp only [h2, Bool.or_true]
                · have h1 : (decide (k = 6) || decide (k = 7)) = false := by simpa using hk
                  simp only [h1]; rfl
              have := hnx this
              clear hq hno hnx hga hr hx hbd
              (focus (refine wkap (w_a e1 (w_a m1 (w_a e3 (w_a e5 (w_a e6 (w_a m6 (w_a e7 (w_a hla w_t)))))))) w_t (w_r 0) ?_; (repeat' first | exact w_t | apply w_l); all_goals intros))
              exact ⟨i + 1, ⟨by omega, by exact gW e1, by exact gW m1, by exact gW e3, by exact gS, this⟩, by omega⟩
          · exact ⟨Nat.zero_le _, by exact gW e1, by exact gW m1, by exact gW e3, by exact gW e5, by exact gC, by exact gC, by exact gC, fun _ j _ h => by omega⟩
        · have : gs.all (thinG w) = true := all_take fun j hjj => hj j hjj (by omega)
          rw [this]
          clear hj hg heg hx hbd
          (focus (refine wklp (w_a e1 (w_a m1 (w_a e3 (w_a e5 (w_a hlm w_t))))) w_t w_t (w_r 0) ?_; (repeat' first | exact w_t | apply w_l); all_goals intros))
      · exact ⟨Nat.zero_le _, by exact gW e1, by exact gW m1, by exact gW e3, by exact gC, fun j _ h => by omega⟩
  · exact ⟨Nat.zero_le _, by exact gC, by exact gC, by exact gC, by exact gC, fun j h => by omega⟩
/-! ### the figures of few terms -/
theorem arG_le (k : Int) : arG k ≤ 8 := by
  unfold arG
  repeat' split
  all_goals omega
theorem figE_goals {ss : List RS} {gs : List RG} (h : figE ss gs = 0) : ∀ g ∈ gs, g.ar.length ≤ 100 ∧ ∀ k, k < g.ar.length → 0 ≤ gI g.ar k ∧ gI g.ar k < (ss.length : Int) := fun g hg => by
  unfold figE at h
  split at h
  · omega
  · split at h
    · rename_i h2; exact absurd h h2
    · obtain ⟨j, hj, rfl⟩ := List.mem_iff_getElem.1 hg
      have h1 := fstE_all h j hj
      rw [show gs.getD j ⟨0, [], ⟨false, [], []⟩⟩ = gs[j] from by rw [List.getD_eq_getElem?_getD, List.getElem?_eq_getElem hj]; rfl] at h1
      have hle := arG_le gs[j].k
      generalize gs[j] = g at *
      unfold errG at h1
      split at h1
      · omega
      · split at h1
        · omega
        · split at h1
          · omega
          · rename_i h2 h3 h4
            exact ⟨by omega, fun k hk => outB_in (by simpa using h4) hk⟩
theorem figE_steps {ss : List RS} {gs : List RG} (h : figE ss gs = 0) : ∀ i, i < ss.length → errS ss i = 0 := by
  unfold figE at h
  split at h
  · omega
  · split at h
    · rename_i h2; exact absurd h h2
    · rename_i h2
      exact fstE_all (Decidable.byContradiction fun h3 => h2 h3)
set_option maxHeartbeats 8000000 in
theorem rlFew (ss : List RS) (gs : List RG) (cR : Pure Tryz.prog 30 [figA ss gs] (iv (figE ss gs))) : Pure Tryz.prog 22 [figA ss gs] (.v (.bool (fewB ss gs))) := by
  have cR : Pure Tryz.prog 30 [.agg [.sl 6 (ss.map RS.av), .sl 5 (gs.map RG.av)]] (iv (figE ss gs)) := cR
  have hls : (ss.map RS.av).length = ss.length := List.length_map ..
  have hlg : (gs.map RG.av).length = gs.length := List.length_map ..
  have hgS : ∀ i (h : i < ss.length), (ss.map RS.av).getD i .u = ss[i].av := fun i h => map_atB RS.av h
  have hgG : ∀ i (h : i < gs.length), (gs.map RG.av).getD i .u = gs[i].av := fun i h => map_atB RG.av h
  have cT : ss.length ≤ 8 → gs.length ≤ 3 → figE ss gs = 0 → Pure Tryz.prog 72 [.agg [.sl 6 (ss.map RS.av), .sl 5 (gs.map RG.av)]] (.v (.bool (thinB ss gs))) := fun a b h => rlThin ss gs a (by omega) (figE_steps h) (figE_goals h)
  show Pure _ _ [.agg [.sl 6 (ss.map RS.av), .sl 5 (gs.map RG.av)]] _
  unfold fewB
  have noS : ∀ i (h : i < ss.length), rat2 ss[i].r = false → (ss.all fun s => rat2 s.r) = false := fun i h e => all_at h e
  have noG : ∀ i (h : i < gs.length), rat2 gs[i].r = false → (gs.all fun s => rat2 s.r) = false := fun i h e => all_at h e
  have yeS : (∀ i (h : i < ss.length), rat2 ss[i].r = true) → (ss.all fun s => rat2 s.r) = true := fun e => all_take e
  have yeG : (∀ i (h : i < gs.length), rat2 gs[i].r = true) → (gs.all fun s => rat2 s.r) = true := fun e => all_take e
  generalize (ss.all fun s => rat2 s.r) = vS at *
  generalize (gs.all fun s => rat2 s.r) = vG at *
  generalize thinB ss gs = vT at *
  generalize figE ss gs = z at *
  generalize ss.map RS.av = M at *
  generalize gs.map RG.av = N at *
  by_cases h8 : ss.length ≤ 8
  · by_cases h3 : gs.length ≤ 3
    · rw [decide_eq_true h8, decide_eq_true h3, Bool.true_and, Bool.true_and]
      by_cases hz : z = 0
      · subst hz
        have cT := cT h8 h3 rfl
        rw [decide_eq_true rfl, Bool.true_and]
        cases vT with
        | false =>
          rw [Bool.false_and]
          refine pure_intro (tok := 0) Tryz.func22 rfl Tryz.ntmps22 Tryz.results22 Tryz.call22 (by rfl) (by simp) ?_
          (focus (refine wklp (w_a hls (w_a hlg w_t)) (w_a cR (w_a cT w_t)) w_t (w_r 0) ?_; (repeat' first | exact w_t | apply w_l); all_goals intros))
        | true =>
          rw [Bool.true_and]
          refine pure_intro (tok := 0) Tryz.func22 rfl Tryz.ntmps22 Tryz.results22 Tryz.call22 (by rfl) (by simp) ?_
          (focus (refine wkap (w_a hls (w_a hlg w_t)) (w_a cR (w_a cT w_t)) (w_r 0) ?_; (repeat' first | exact w_t | apply w_l); all_goals intros))
          rename_i g1
          clear cR cT
          refine r_loopE (ι := Nat) (fun i e m => i ≤ ss.length ∧ e 1 = .pbox 1 g1 0 ∧ m 1 = some (.box g1 25 [.sl 6 M, .sl 5 N] false) ∧ e 3 = iv i ∧ ∀ j (h : j < ss.length), j < i → rat2 ss[j].r = true) (fun i => ss.length - i) 0 (by rfl) ?_ ?_
          · rintro i e m ⟨hi, e1, m1, e3, hj⟩
            by_cases hlt : i < ss.length
            · have hg := hgS i hlt
              have no := noS i hlt
              have nx : rat2 ss[i].r = true → ∀ j (h : j < ss.length), j < i + 1 → rat2 ss[j].r = true := fun h j hjj h2 => by
                by_cases e : j = i
                · subst e; exact h
                · exact hj j hjj (by omega)
              clear hj noS yeS hgS hgG noG yeG
              unfold rat2 at no nx
              generalize ss[i] = s at *
              obtain ⟨k, nm, ar, ⟨rs, rl, rd⟩⟩ := s
              simp only at *
              by_cases a1 : rl.length ≤ 2 ∧ rd.length ≤ 2
              · have := nx (by simp [a1.1, a1.2])
                obtain ⟨a1, a2⟩ := a1
                clear nx no
                (focus (refine wkap (w_a e1 (w_a m1 (w_a e3 (w_a hls (w_a hg (w_a @u16s_len w_t)))))) w_t (w_r 0) ?_; (repeat' first | exact w_t | apply w_l); all_goals intros))
                exact ⟨i + 1, ⟨by omega, by exact gW e1, by exact gW m1, by exact gS, this⟩, by omega⟩
              · rw [no (by simp only [Bool.and_eq_false_iff, decide_eq_false_iff_not]; omega), Bool.false_and]
                clear nx no
                (focus (refine wkap (w_a e1 (w_a m1 (w_a e3 (w_a hls (w_a hg (w_a @u16s_len w_t)))))) w_t (w_r 0) ?_; (repeat' first | exact w_t | apply w_l); all_goals intros))
                all_goals first | ((all_goals (try simp (disch := omega) only [go_sem, decide_eq_true, decide_eq_false, if_pos, if_neg, Int.reduceAdd, Int.reduceSub, Int.reduceToNat, Int.zero_add])); (all_goals first | done | rfl | (congr 2; first | done | omega | (rw [Bool.eq_iff_iff]; simp only [bool_to_prop, Bool.false_eq_true, iff_true, true_iff, iff_false, false_iff]; omega)) | skip)) | omega
            · rw [yeS fun j h => hj j h (by omega), Bool.true_and]
              clear hj noS yeS hgS
              (focus (refine wkap (w_a e1 (w_a m1 (w_a e3 (w_a hls w_t)))) w_t (w_r 0) ?_; (repeat' first | exact w_t | apply w_l); all_goals intros))
              refine r_loopE (ι := Nat) (fun i e m => i ≤ gs.length ∧ e 1 = .pbox 1 g1 0 ∧ m 1 = some (.box g1 25 [.sl 6 M, .sl 5 N] false) ∧ e 4 = iv i ∧ ∀ j (h : j < gs.length), j < i → rat2 gs[j].r = true) (fun i => gs.length - i) 0 (by rfl) ?_ ?_
              · rintro i e m ⟨hi, e1, m1, e4, hj⟩
                by_cases hlt : i < gs.length
                · have hg := hgG i hlt
                  have no := noG i hlt
                  have nx : rat2 gs[i].r = true → ∀ j (h : j < gs.length), j < i + 1 → rat2 gs[j].r = true := fun h j hjj h2 => by
                    by_cases e : j = i
                    · subst e; exact h
                    · exact hj j hjj (by omega)
                  clear hj hgG noG yeG
                  unfold rat2 at no nx
                  generalize gs[i] = s at *
                  obtain ⟨k, ar, ⟨rs, rl, rd⟩⟩ := s
                  simp only at *
                  by_cases a1 : rl.length ≤ 2 ∧ rd.length ≤ 2
                  · have := nx (by simp [a1.1, a1.2])
                    obtain ⟨a1, a2⟩ := a1
                    clear nx no
                    (focus (refine wkap (w_a e1 (w_a m1 (w_a e4 (w_a hlg (w_a hg (w_a @u16s_len w_t)))))) w_t (w_r 0) ?_; (repeat' first | exact w_t | apply w_l); all_goals intros))
                    exact ⟨i + 1, ⟨by omega, by exact gW e1, by exact gW m1, by exact gS, this⟩, by omega⟩
                  · rw [no (by simp only [Bool.and_eq_false_iff, decide_eq_false_iff_not]; omega)]
                    clear nx no
                    (focus (refine wkap (w_a e1 (w_a m1 (w_a e4 (w_a hlg (w_a hg (w_a @u16s_len w_t)))))) w_t (w_r 0) ?_; (repeat' first | exact w_t | apply w_l); all_goals intros))
                    all_goals first | ((all_goals (try simp (disch := omega) only [go_sem, decide_eq_true, decide_eq_false, if_pos, if_neg, Int.reduceAdd, Int.reduceSub, Int.reduceToNat, Int.zero_add])); (all_goals first | done | rfl | (congr 2; first | done | omega | (rw [Bool.eq_iff_iff]; simp only [bool_to_prop, Bool.false_eq_true, iff_true, true_iff, iff_false, false_iff]; omega)) | skip)) | omega
                · rw [yeG fun j h => hj j h (by omega)]
                  clear hj hgG noG yeG
                  (focus (refine wklp (w_a e1 (w_a m1 (w_a e4 (w_a hlg w_t)))) w_t w_t (w_r 0) ?_; (repeat' first | exact w_t | apply w_l); all_goals intros))
              · exact ⟨Nat.zero_le _, by exact gW e1, by exact gW m1, by exact gC, fun j h h2 => by omega⟩
          · exact ⟨Nat.zero_le _, by exact gC, by exact gC, by exact gC, fun j h h2 => by omega⟩
      · rw [decide_eq_false hz, Bool.false_and]
        clear cT
        refine pure_intro (tok := 0) Tryz.func22 rfl Tryz.ntmps22 Tryz.results22 Tryz.call22 (by rfl) (by simp) ?_
        (focus (refine wklp (w_a hls (w_a hlg (w_a hz w_t))) (w_a cR w_t) w_t (w_r 0) ?_; (repeat' first | exact w_t | apply w_l); all_goals intros))
    · rw [decide_eq_true h8, decide_eq_false h3, Bool.true_and, Bool.false_and]
      clear cT
      refine pure_intro (tok := 0) Tryz.func22 rfl Tryz.ntmps22 Tryz.results22 Tryz.call22 (by rfl) (by simp) ?_
      (focus (refine wklp (w_a hls (w_a hlg w_t)) (w_a cR w_t) w_t (w_r 0) ?_; (repeat' first | exact w_t | apply w_l); all_goals intros))
  · rw [decide_eq_false h8, Bool.false_and]
    clear cT
    refine pure_intro (tok := 0) Tryz.func22 rfl Tryz.ntmps22 Tryz.results22 Tryz.call22 (by rfl) (by simp) ?_
    (focus (refine wklp (w_a hls (w_a hlg w_t)) (w_a cR w_t) w_t (w_r 0) ?_; (repeat' first | exact w_t | apply w_l); all_goals intros))
end Go.Proofs.YteiopjkamgmfpaaGreatDoor
end

section
namespace Go.Proofs.YteiopjkamgmfpaaGreatDoor
open Go Go.RowKit Go.Pg Go.Pol
set_option linter.unusedSimpArgs false
set_option linter.unusedVariables false
set_option maxRecDepth 20000
attribute [-bool_to_prop] Bool.and_eq_decide Bool.or_eq_decide Bool.decide_beq_decide decide_eq_decide
set_option linter.unusedSimpArgs false
set_option linter.unusedVariables false
/-! ### the steps of a small figure -/
theorem few_in {ss : List RS} {gs : List RG} (hs : ∀ s ∈ ss, s.sm) (h : fewB ss gs = true) : ss.length ≤ 8 ∧ figE ss gs = 0 ∧ FigOk ss ∧ thinB ss gs = true := by
  unfold fewB at h
  simp only [Bool.and_eq_true, decide_eq_true_eq, List.all_eq_true] at h
  obtain ⟨h1, h2, h3, h4, h5, h6⟩ := h
  refine ⟨h1, h3, ⟨by omega, figE_steps h3, fun s hm => ?_, ?_⟩, h4⟩
  · have := h5 s hm
    unfold rat2 at this
    simp only [Bool.and_eq_true, decide_eq_true_eq] at this
    obtain ⟨k1, k2, k3, k4⟩ := (hs s hm).1
    exact ⟨k1, k2, this.1, this.2⟩
  · have := nfN_le ss ss.length
    omega
theorem wts_pre (ss : List RS) {i j : Nat} (h : j < i) : ∀ d, gI (wts ss (i + d)) j = gI (wts ss i) j
  | 0 => rfl
  | d + 1 => by
    show gI (wts ss (i + d) ++ [_]) j = _
    rw [gI_app, wts_len, if_pos (by omega)]
    exact wts_pre ss h d
theorem few_cb {ss : List RS} {gs : List RG} (hl : ss.length ≤ 8) (ok : FigOk ss) (ht : thinB ss gs = true) : (∀ j, j < ss.length → bigN ss j = false) ∧ ∀ j, CB ((frN ss ss.length).cs.getD j ([], [])) := by
  have hw : ∀ j, gI (wts ss ss.length) j ≤ 8 := fun j => by
    by_cases h : j < (wts ss ss.length).length
    · unfold thinB at ht
      simp only [Bool.and_eq_true, List.all_eq_true, decide_eq_true_eq] at ht
      rw [gI_at h]
      exact ht.1 _ (List.getElem_mem h)
    · rw [gI_out (by omega)]; omega
  have big : ∀ j, j < ss.length → bigN ss j = false := fun j hj => by
    rw [bigN_at hj]
    have hv := vs_le ss (j + 1)
    rw [frN_succ hj] at hv
    have h1 := frN_w ss (j + 1) j
    have h2 := wts_pre ss (show j < j + 1 by omega) (ss.length - (j + 1))
    rw [show j + 1 + (ss.length - (j + 1)) = ss.length by omega] at h2
    have h3 := hw j
    rw [frN_succ hj, List.getD_eq_getElem?_getD, List.getElem?_append_right (by rw [frN_len]; omega), frN_len, Nat.sub_self] at h1
    simp only [List.getElem?_cons_zero, Option.getD_some] at h1
    simp only [Bool.or_eq_false_iff, decide_eq_false_iff_not]
    simp only at hv
    omega
  refine ⟨big, fun j => ?_⟩
  obtain ⟨D, hD, hn⟩ := ok.fi (Nat.le_refl _) big
  have h1 := frN_w ss ss.length j
  have h3 := hw j
  by_cases hj : j < (frN ss ss.length).cs.length
  · obtain ⟨c1, c2⟩ := hD.co hn _ (getD_mem (d := (([], []) : Pt)) hj)
    exact ⟨⟨c1.st, c1.pk.mono (Nat.le_refl _) (by omega), by omega⟩, ⟨c2.st, c2.pk.mono (Nat.le_refl _) (by omega), by omega⟩⟩
  · rw [List.getD_eq_getElem?_getD, List.getElem?_eq_none (by omega)]
    exact ⟨.nil, .nil⟩
/-- The hypotheses of a figure's step. -/
def eqE (ss : List RS) (i : Nat) : List Po :=
  let f := frN ss ss.length
  let s := ss.getD i RS.zero
  let p := fun k => f.cs.getD (gI s.ar k).toNat ([], [])
  eqsM s.k (p 0) (p 1) (p 2) (p 3) (f.cs.getD i ([], [])) (parM f.vs i)
end Go.Proofs.YteiopjkamgmfpaaGreatDoor
end

section
namespace Go.Proofs.YteiopjkamgmfpaaGreatDoor
open Go Go.RowKit Go.Pg Go.Pol
set_option linter.unusedSimpArgs false
set_option linter.unusedVariables false
set_option maxRecDepth 20000
attribute [local go_sem] Tryz.underlying3 Tryz.underlying4 Tryz.underlying156 Tryz.underlying9 Tryz.underlying75 Tryz.underlying34 Tryz.underlying49 Tryz.underlying47 Tryz.underlying45 Tryz.underlying77 Tryz.underlying22 Tryz.underlying25 Tryz.underlying129 Tryz.underlying31 Tryz.underlying79 Tryz.underlying30 Tryz.underlying33 Tryz.underlying38 Tryz.underlying138 sz3 by3 z3 szB zB szErr zErr szStr byStr zStr szRat zRat szInt zInt szNat zNat szStep byStep zStep szFig zFig szSlI zSlI szSlS zSlS szVar byVar zVar szSlV zSlV szCoord byCoord zCoord szSlC zSlC szFrame zFrame szPoly byPoly zPoly szTerm zTerm Tryz.underlying133 szHVec byHVec zHVec Tryz.underlying189 szSlP zSlP Tryz.underlying107 Tryz.underlying23 szL byL zL szFact byFact zFact szSlF zSlF Tryz.underlying2 Tryz.underlying27 Tryz.underlying72 Tryz.underlying116 Tryz.underlying66 Tryz.underlying67 szQuant zQuant eqQuant Bool.and_self szPt byPt zPt
attribute [-bool_to_prop] Bool.and_eq_decide Bool.or_eq_decide Bool.decide_beq_decide decide_eq_decide
/-! ### the polynomials of quantities -/
def qPol (q : Qt) (cs : List Pt) (ps : List Int) : Po :=
  if q.k = 3 then varM (gI ps q.a.toNat).toNat
  else if q.k = 1 then crossM (cs.getD q.a.toNat ([], [])) (cs.getD q.b.toNat ([], [])) (cs.getD q.a.toNat ([], [])) (cs.getD q.c.toNat ([], []))
  else sclM 2 (dotM (cs.getD q.b.toNat ([], [])) (cs.getD q.a.toNat ([], [])) (cs.getD q.b.toNat ([], [])) (cs.getD q.c.toNat ([], [])))
theorem chk_in {q : Qt} {n m : Int} (h : Qt.chk q n m = 0) : (q.k = 3 ∧ 0 ≤ q.a ∧ q.a < m) ∨ ((q.k = 1 ∨ q.k = 2) ∧ (0 ≤ q.a ∧ q.a < n) ∧ (0 ≤ q.b ∧ q.b < n) ∧ 0 ≤ q.c ∧ q.c < n) := by
  unfold Qt.chk at h
  split at h
  · rename_i ho
    unfold Qt.ok at ho
    have ho := of_decide_eq_true ho
    split at h
    · split at h <;> omega
    · split at h <;> omega
  · omega
theorem pars_mem {vs : List Vt} {i : Nat} {j : Nat} (hj : j < (parsN vs i).length) : 0 ≤ gI (parsN vs i) j ∧ gI (parsN vs i) j < (i : Int) := by
  have hm : gI (parsN vs i) j ∈ parsN vs i := by rw [gI_at hj]; exact List.getElem_mem hj
  generalize gI (parsN vs i) j = w at *
  unfold parsN at hm
  simp only [List.mem_map, List.mem_filter, List.mem_range] at hm
  obtain ⟨n, h1, h2⟩ := hm
  omega
theorem two_sz : Sz (2 : Rat) 1 := nat_sz1 2 (by omega)
theorem pt_sc {p : Po} (h : PB p 512 14177 16) : Pure Tryz.prog 36 [poA p, ratQ 2] (poA (sclM 2 p)) ∧ Pure Tryz.prog 43 [poA p, ratQ 2] (poA (sclM 2 p)) := by
  have l := h.l
  refine ⟨poScale p 2 h.k two_sz h.s (by omega) (by omega) (by omega) (by omega), ?_⟩
  rw [show sclM 2 p = scaleP 2 p from by unfold sclM; rw [if_neg (by decide)]]
  exact rpScale0 p 2 h.k two_sz (by omega) (by omega) (by omega) (by decide)
set_option maxHeartbeats 4000000 in
theorem quPoly (k a b c : Int) (cs : List Pt) (vs : List Vt) (hcb : ∀ j, CB (cs.getD j ([], []))) (hv : vs.length ≤ 64) (hc : cs.length ≤ 1000) :
    Pure Tryz.prog 8 [Qt.av ⟨k, a, b, c⟩, frmA cs vs] (if Qt.chk ⟨k, a, b, c⟩ cs.length (parsN vs vs.length).length = 0 then .tup [poA (qPol ⟨k, a, b, c⟩ cs (parsN vs vs.length)), iv 0] else .tup [.v (.slice none 0 0), iv (Qt.chk ⟨k, a, b, c⟩ cs.length (parsN vs vs.length).length)]) := by
  have cp : Pure Tryz.prog 32 [.agg [.sl 2 (cs.map coA), .sl 3 (vs.map Vt.av)]] (.sl 1 ((parsN vs vs.length).map iv)) := coParams cs vs (by omega)
  have cc := quCheck k a b c cs.length (parsN vs vs.length).length
  have hin := @chk_in ⟨k, a, b, c⟩ cs.length (parsN vs vs.length).length
  have hpl : ((parsN vs vs.length).map iv).length = (parsN vs vs.length).length := List.length_map ..
  have hcl : (cs.map coA).length = cs.length := List.length_map ..
  have hgp : ∀ j (h : j < (parsN vs vs.length).length), ((parsN vs vs.length).map iv).getD j .u = iv (gI (parsN vs vs.length) j) := fun j h => by rw [map_atB iv h, gI_at h]
  have hgc : ∀ j, j < cs.length → (cs.map coA).getD j .u = coA (cs.getD j ([], [])) := fun j h => by rw [map_atB coA h, List.getD_eq_getElem?_getD, List.getElem?_eq_getElem h]; rfl
  have hpm := fun j hj => @pars_mem vs vs.length j hj
  generalize Qt.chk ⟨k, a, b, c⟩ cs.length (parsN vs vs.length).length = z at *
  show Pure _ _ [.agg [iv k, iv a, iv b, iv c], .agg [.sl 2 (cs.map coA), .sl 3 (vs.map Vt.av)]] _
  generalize parsN vs vs.length = ps at *
  by_cases hz : z = 0
  · rw [if_pos hz]
    subst hz
    rcases hin rfl with ⟨h3, ha0, ha1⟩ | ⟨h12, ⟨ha0, ha1⟩, ⟨hb0, hb1⟩, hc0, hc1⟩
    · simp only at h3 ha0 ha1
      obtain ⟨n, rfl⟩ : ∃ n : Nat, a = n := ⟨a.toNat, by omega⟩
      have hg := hgp n (by omega)
      obtain ⟨m0, m1⟩ := hpm n (by omega)
      unfold qPol
      rw [if_pos h3]
      simp only [Int.toNat_natCast]
      generalize gI ps n = w at *
      obtain ⟨v, rfl⟩ : ∃ v : Nat, w = v := ⟨w.toNat, by omega⟩
      have cv := poVar v (by omega)
      simp only [Int.toNat_natCast]
      subst h3
      generalize ps.map iv = A at *
      generalize cs.map coA = C at *
      generalize vs.map Vt.av = V at *
      refine pure_intro (tok := 0) Tryz.func8 rfl Tryz.ntmps8 Tryz.results8 Tryz.call8 (by rfl) (by simp) ?_
      (focus (refine wkad (w_a hpl (w_a hcl (w_a hg (w_a ha1 w_t)))) (w_a cp (w_a cc (w_a cv w_t))) w_t ?_; (repeat' first | exact w_t | apply w_l); all_goals intros))
      all_goals (all_goals (try simp (disch := omega) only [go_sem, decide_eq_true, decide_eq_false, if_pos, if_neg, Int.reduceAdd, Int.reduceSub, Int.reduceToNat, Int.zero_add])); (all_goals first | done | rfl | (congr 2; first | done | omega | (rw [Bool.eq_iff_iff]; simp only [bool_to_prop, Bool.false_eq_true, iff_true, true_iff, iff_false, false_iff]; omega)) | skip)
    · simp only at h12 ha0 ha1 hb0 hb1 hc0 hc1
      obtain ⟨x, rfl⟩ : ∃ n : Nat, a = n := ⟨a.toNat, by omega⟩
      obtain ⟨y, rfl⟩ : ∃ n : Nat, b = n := ⟨b.toNat, by omega⟩
      obtain ⟨w, rfl⟩ : ∃ n : Nat, c = n := ⟨c.toNat, by omega⟩
      have gx := hgc x (by omega)
      have gy := hgc y (by omega)
      have gw := hgc w (by omega)
      have bx := hcb x
      have by' := hcb y
      have bw := hcb w
      have cC := hyCross bx by' bx bw
      have cD := hyDot by' bx by' bw
      have cS := (pt_sc (by'.dot bx by' bw)).1
      have c2 : Pure Tryz.prog 38 [iv 2] (ratQ 2) := ratOf 2 (by omega)
      unfold qPol
      simp only [Int.toNat_natCast]
      clear hcb hgc hgp hpm
      generalize cs.getD x ([], []) = X at *
      generalize cs.getD y ([], []) = Y at *
      generalize cs.getD w ([], []) = Wt at *
      obtain ⟨x1, x2⟩ := X
      obtain ⟨y1, y2⟩ := Y
      obtain ⟨w1, w2⟩ := Wt
      generalize sclM 2 (dotM (y1, y2) (x1, x2) (y1, y2) (w1, w2)) = S at *
      generalize dotM (y1, y2) (x1, x2) (y1, y2) (w1, w2) = D at *
      generalize crossM (x1, x2) (y1, y2) (x1, x2) (w1, w2) = E at *
      have gx : (cs.map coA).getD x .u = .agg [.sl 4 (x1.map tmA), .sl 4 (x2.map tmA)] := gx
      have gy : (cs.map coA).getD y .u = .agg [.sl 4 (y1.map tmA), .sl 4 (y2.map tmA)] := gy
      have gw : (cs.map coA).getD w .u = .agg [.sl 4 (w1.map tmA), .sl 4 (w2.map tmA)] := gw
      have cC : Pure Tryz.prog 35 [.agg [.sl 4 (x1.map tmA), .sl 4 (x2.map tmA)], .agg [.sl 4 (y1.map tmA), .sl 4 (y2.map tmA)], .agg [.sl 4 (x1.map tmA), .sl 4 (x2.map tmA)], .agg [.sl 4 (w1.map tmA), .sl 4 (w2.map tmA)]] (poA E) := cC
      have cD : Pure Tryz.prog 37 [.agg [.sl 4 (y1.map tmA), .sl 4 (y2.map tmA)], .agg [.sl 4 (x1.map tmA), .sl 4 (x2.map tmA)], .agg [.sl 4 (y1.map tmA), .sl 4 (y2.map tmA)], .agg [.sl 4 (w1.map tmA), .sl 4 (w2.map tmA)]] (poA D) := cD
      generalize cs.map coA = C at *
      generalize vs.map Vt.av = V at *
      generalize x1.map tmA = X1 at *
      generalize x2.map tmA = X2 at *
      generalize y1.map tmA = Y1 at *
      generalize y2.map tmA = Y2 at *
      generalize w1.map tmA = W1 at *
      generalize w2.map tmA = W2 at *
      rcases h12 with rfl | rfl
      · rw [if_neg (by decide), if_pos rfl]
        refine pure_intro (tok := 0) Tryz.func8 rfl Tryz.ntmps8 Tryz.results8 Tryz.call8 (by rfl) (by simp) ?_
        (focus (refine wkad (w_a hpl (w_a hcl (w_a gx (w_a gy (w_a gw (w_a ha1 (w_a hb1 (w_a hc1 w_t)))))))) (w_a cp (w_a cc (w_a cC w_t))) (w_a (w_d 7 [] [] []) w_t) ?_; (repeat' first | exact w_t | apply w_l); all_goals intros))
        all_goals (all_goals (try simp (disch := omega) only [go_sem, decide_eq_true, decide_eq_false, if_pos, if_neg, Int.reduceAdd, Int.reduceSub, Int.reduceToNat, Int.zero_add])); (all_goals first | done | rfl | (congr 2; first | done | omega | (rw [Bool.eq_iff_iff]; simp only [bool_to_prop, Bool.false_eq_true, iff_true, true_iff, iff_false, false_iff]; omega)) | skip)
      · rw [if_neg (by decide), if_neg (by decide)]
        refine pure_intro (tok := 0) Tryz.func8 rfl Tryz.ntmps8 Tryz.results8 Tryz.call8 (by rfl) (by simp) ?_
        (focus (refine wkad (w_a hpl (w_a hcl (w_a gx (w_a gy (w_a gw (w_a ha1 (w_a hb1 (w_a hc1 w_t)))))))) (w_a cp (w_a cc (w_a cD (w_a c2 (w_a cS w_t))))) (w_a (w_d 7 [] [] []) w_t) ?_; (repeat' first | exact w_t | apply w_l); all_goals intros))
        all_goals (all_goals (try simp (disch := omega) only [go_sem, decide_eq_true, decide_eq_false, if_pos, if_neg, Int.reduceAdd, Int.reduceSub, Int.reduceToNat, Int.zero_add])); (all_goals first | done | rfl | (congr 2; first | done | omega | (rw [Bool.eq_iff_iff]; simp only [bool_to_prop, Bool.false_eq_true, iff_true, true_iff, iff_false, false_iff]; omega)) | skip)
  · rw [if_neg hz]
    clear hin hgp hgc hpm hcb
    generalize ps.map iv = A at *
    generalize cs.map coA = C at *
    generalize vs.map Vt.av = V at *
    refine pure_intro (tok := 0) Tryz.func8 rfl Tryz.ntmps8 Tryz.results8 Tryz.call8 (by rfl) (by simp) ?_
    (focus (refine wkad (w_a hpl (w_a hcl (w_a hz w_t))) (w_a cp (w_a cc w_t)) w_t ?_; (repeat' first | exact w_t | apply w_l); all_goals intros))
    all_goals (all_goals (try simp (disch := omega) only [go_sem, decide_eq_true, decide_eq_false, if_pos, if_neg, Int.reduceAdd, Int.reduceSub, Int.reduceToNat, Int.zero_add])); (all_goals first | done | rfl | (congr 2; first | done | omega | (rw [Bool.eq_iff_iff]; simp only [bool_to_prop, Bool.false_eq_true, iff_true, true_iff, iff_false, false_iff]; omega)) | skip)
end Go.Proofs.YteiopjkamgmfpaaGreatDoor
end

section
namespace Go.Proofs.YteiopjkamgmfpaaGreatDoor
open Go Go.RowKit Go.Pg Go.Pol
set_option linter.unusedSimpArgs false
set_option linter.unusedVariables false
set_option maxRecDepth 20000
attribute [local go_sem] Tryz.underlying3 Tryz.underlying4 Tryz.underlying156 Tryz.underlying9 Tryz.underlying75 Tryz.underlying34 Tryz.underlying49 Tryz.underlying47 Tryz.underlying45 Tryz.underlying77 Tryz.underlying22 Tryz.underlying25 Tryz.underlying129 Tryz.underlying31 Tryz.underlying79 Tryz.underlying30 Tryz.underlying33 Tryz.underlying38 Tryz.underlying138 sz3 by3 z3 szB zB szErr zErr szStr byStr zStr szRat zRat szInt zInt szNat zNat szStep byStep zStep szFig zFig szSlI zSlI szSlS zSlS szVar byVar zVar szSlV zSlV szCoord byCoord zCoord szSlC zSlC szFrame zFrame szPoly byPoly zPoly szTerm zTerm
attribute [-bool_to_prop] Bool.and_eq_decide Bool.or_eq_decide Bool.decide_beq_decide decide_eq_decide
set_option maxHeartbeats 16000000 in
theorem rcFrame1 (ss : List RS) (gs : List RG) (cR : Pure Tryz.prog 30 [figA ss gs] (iv 0)) (ho : FigOk ss) :
    Pure Tryz.prog 7 [figA ss gs] (if (List.range ss.length).any (bigN ss) = true then .tup [.agg [.v (.slice none 0 0), .v (.slice none 0 0)], iv 4] else .tup [frmA (frN ss ss.length).cs (frN ss ss.length).vs, iv 0]) := by
  have cR : Pure Tryz.prog 30 [.agg [.sl 6 (ss.map RS.av), .sl 5 (gs.map RG.av)]] (iv 0) := cR
  show Pure _ _ [.agg [.sl 6 (ss.map RS.av), .sl 5 (gs.map RG.av)]] _
  have hg : ∀ i (h : i < ss.length), (ss.map RS.av).getD i .u = ss[i].av := fun i h => map_atB RS.av h
  have hls : (ss.map RS.av).length = ss.length := List.length_map ..
  have hlen := ho.len
  have hN : ∀ (i : Nat) (hlt : i < ss.length) (svC svV : Value) (m' : Mem), m' 21 = some (.row svV 129 3 ((frN ss i).vs.map Vt.av) 0) → m' 20 = some (.row svC 79 2 ((frN ss i).cs.map coA) 0) → (frN ss i).vs.length ≤ 64 → StOk (frN ss i).cs ss[i] → (∀ c ∈ (frN ss i).cs, Co c.1 ∧ Co c.2) →
      ACall Tryz.prog 31 [.agg [.own 20 svC, .own 21 svV], .agg [.sl 6 (ss.map RS.av), .sl 5 (gs.map RG.av)], iv i, iv (frN ss i).fr] m' fun r σ' => ∃ sv, r = .tup [.agg [.own 20 svC, .own 21 sv], coA ((frN ss i).nxt i ss[i]).2] ∧ σ' = upd m' 21 (some (.row sv 129 3 (((frN ss i).vs ++ ((frN ss i).nxt i ss[i]).1).map Vt.av) 0)) :=
    fun i hlt svC svV m' hV hC h1 h2 h3 => rcNext m' 20 21 svC svV (frN ss i).cs (frN ss i).vs (frN ss i).fr i ss gs ss[i] hlt rfl hV hC (by omega) h1 (by have := frN_fr ss i; omega) (by omega) h2 h3
  generalize ss.map RS.av = M at *
  generalize gs.map RG.av = N at *
  refine pure_intro (tok := 0) Tryz.func7 rfl Tryz.ntmps7 Tryz.results7 Tryz.call7 (by rfl) (by simp) ?_
  (focus (refine wkap (w_a hls w_t) (w_a cR w_t) (w_r 0) ?_; (repeat' first | exact w_t | apply w_l); all_goals intros))
  rename_i g1 g2 g5
  refine r_frz (Frz.nilBox (k := 5) 0 20 2 79 (by exact gC) rfl (by omega)) ?_
  refine r_frz (Frz.nilBox (k := 5) 1 21 3 129 (by exact gC) rfl (by omega)) ?_
  refine r_loopE (ι := Nat) (fun i e m => i ≤ ss.length ∧ e 1 = .pbox 1 g1 0 ∧ m 1 = some (.box g1 25 [.sl 6 M, .sl 5 N] false) ∧ e 2 = .pbox 2 g2 0 ∧ m 2 = some (.box g2 33 [.v (.slice none 0 0), .v (.slice none 0 0)] false) ∧ e 5 = .pbox 5 g5 0 ∧ e 6 = iv (frN ss i).fr ∧ e 18 = .sl 6 M ∧ e 19 = iv ss.length ∧ e 20 = iv i ∧ (∃ svC svV, m 5 = some (.box g5 33 [.own 20 svC, .own 21 svV] false) ∧ m 20 = some (.row svC 79 2 ((frN ss i).cs.map coA) 0) ∧ m 21 = some (.row svV 129 3 ((frN ss i).vs.map Vt.av) 0)) ∧ ∀ j, j < i → bigN ss j = false) (fun i => ss.length - i) 0 (by rfl) ?_ ?_
  · rintro i e m ⟨hi, e1, m1, e2, m2, e5, e6, e18, e19, e20, ⟨svC, svV, m5, m20, m21⟩, hbig⟩
    by_cases hlt : i < ss.length
    · have hgi := hg i hlt
      obtain ⟨D, hD, hn⟩ := ho.fi hi hbig
      have hco := hD.co hn
      have hst := ho.st hlt
      have hfr := frN_fr ss i
      have hnv := hD.nv
      have hb := bigN_at hlt
      have hsu := frN_succ hlt
      have hn3 := nxt_vars (frN ss i) i ss[i]
      have hcl := frN_len ss i
      have hst2 := fun m' hV hC => hN i hlt svC svV m' hV hC hnv hst hco
      clear hD hco hst hN hg cR
      generalize hs : ss[i] = s at *
      generalize hf : frN ss i = f at *
      generalize hx : f.nxt i s = nx at *
      obtain ⟨nv, c1, c2⟩ := nx
      obtain ⟨k, nm, ar, ⟨rs, rl, rd⟩⟩ := s
      obtain ⟨cs, vs, fr⟩ := f
      simp only at *
      (focus (refine wkap (w_a e1 (w_a m1 (w_a e2 (w_a m2 (w_a e5 (w_a e6 (w_a e18 (w_a e19 (w_a e20 (w_a m5 (w_a m20 (w_a m21 (w_a hgi (w_a hls w_t)))))))))))))) w_t (w_r 0) ?_; (repeat' first | exact w_t | apply w_l); all_goals intros))
      refine o_fresh (hst2 _ (by exact gW m21) (by exact gW m20)) ?_
      intro sv
      have hvl : ((vs ++ nv).map Vt.av).length = (vs ++ nv).length := List.length_map ..
      have hvl2 : (vs ++ nv).length ≤ 67 := by rw [List.length_append]; omega
      have hnx : ∀ j, j < i + 1 → bigN ss i = false → bigN ss j = false := fun j hj h => by
        by_cases e : j = i
        · rw [e]; exact h
        · exact hbig j (by omega)
      have hany : bigN ss i = true → (List.range ss.length).any (bigN ss) = true := fun h => List.any_eq_true.2 ⟨i, List.mem_range.2 hlt, h⟩
      generalize vs ++ nv = vs2 at *
      have hc1 : (c1.map tmA).length = c1.length := List.length_map ..
      have hc2 : (c2.map tmA).length = c2.length := List.length_map ..
      have hcsl : (cs.map coA).length = cs.length := List.length_map ..
      by_cases b1 : 64 < vs2.length
      · rw [if_pos (hany (by rw [hb]; simp [b1]))]
        (focus (refine wklp (w_a e1 (w_a e2 (w_a m2 (w_a e5 (w_a e6 (w_a e18 (w_a e19 (w_a e20 (w_a m5 (w_a m20 (w_a hvl (w_a hls w_t)))))))))))) w_t (w_a e2 w_t) (w_r 0) ?_; (repeat' first | exact w_t | apply w_l); all_goals intros))
      · by_cases b2 : 4000 < c1.length
        · rw [if_pos (hany (by rw [hb]; simp [b2]))]
          (focus (refine wklp (w_a e1 (w_a e2 (w_a m2 (w_a e5 (w_a e6 (w_a e18 (w_a e19 (w_a e20 (w_a m5 (w_a m20 (w_a hvl (w_a hc1 (w_a hls w_t))))))))))))) w_t (w_a e2 w_t) (w_r 0) ?_; (repeat' first | exact w_t | apply w_l); all_goals intros))
        · by_cases b3 : 4000 < c2.length
          · rw [if_pos (hany (by rw [hb]; simp [b3]))]
            (focus (refine wklp (w_a e1 (w_a e2 (w_a m2 (w_a e5 (w_a e6 (w_a e18 (w_a e19 (w_a e20 (w_a m5 (w_a m20 (w_a hvl (w_a hc1 (w_a hc2 (w_a hls w_t)))))))))))))) w_t (w_a e2 w_t) (w_r 0) ?_; (repeat' first | exact w_t | apply w_l); all_goals intros))
          · have hbf : bigN ss i = false := by rw [hb]; simp [b1, b2, b3]
            clear hany
            by_cases k1 : k = 1
            · subst k1
              (focus (refine wkap (w_a e1 (w_a e2 (w_a m2 (w_a e5 (w_a e6 (w_a e18 (w_a e19 (w_a e20 (w_a m5 (w_a m20 (w_a hvl (w_a hc1 (w_a hc2 (w_a hcsl (w_a hls w_t))))))))))))))) w_t (w_r 0) ?_; (repeat' first | exact w_t | apply w_l); all_goals intros))
              rename_i svC2
              refine ⟨i + 1, ⟨by omega, by exact gW e1, by exact gW m1, by exact gW e2, by exact gW m2, by exact gW e5, by (rw [hsu]; exact gS), by exact gW e18, by exact gW e19, by exact gS, ⟨svC2, sv, ?_, ?_, ?_⟩, fun j hj => hnx j hj hbf⟩, by omega⟩
              · (simp (disch := omega) only [go_sem, List.set_cons_zero] <;> repeat' first | rfl | refine ⟨?_, ?_⟩)
              · rw [hsu, List.map_append]; exact gC
              · rw [hsu]; exact gC
            · (focus (refine wkap (w_a e1 (w_a e2 (w_a m2 (w_a e5 (w_a e6 (w_a e18 (w_a e19 (w_a e20 (w_a m5 (w_a m20 (w_a hvl (w_a hc1 (w_a hc2 (w_a hcsl (w_a hls w_t))))))))))))))) w_t (w_r 0) ?_; (repeat' first | exact w_t | apply w_l); all_goals intros))
              rename_i svC2
              refine ⟨i + 1, ⟨by omega, by exact gW e1, by exact gW m1, by exact gW e2, by exact gW m2, by exact gW e5, by (rw [hsu]; simp only [if_neg k1]; exact gW e6), by exact gW e18, by exact gW e19, by exact gS, ⟨svC2, sv, ?_, ?_, ?_⟩, fun j hj => hnx j hj hbf⟩, by omega⟩
              · (simp (disch := omega) only [go_sem, List.set_cons_zero] <;> repeat' first | rfl | refine ⟨?_, ?_⟩)
              · rw [hsu, List.map_append]; exact gC
              · rw [hsu]; exact gC
    · have hin : i = ss.length := by omega
      subst hin
      have hno : ¬ (List.range ss.length).any (bigN ss) = true := by
        rw [List.any_eq_true]
        rintro ⟨j, hj, hb⟩
        rw [hbig j (List.mem_range.1 hj)] at hb
        cases hb
      rw [if_neg hno]
      clear hN hg
      generalize (frN ss ss.length).fr = fr at *
      generalize (frN ss ss.length).cs = cs at *
      generalize (frN ss ss.length).vs = vs at *
      (focus (refine wklp (w_a e1 (w_a e2 (w_a m2 (w_a e5 (w_a e6 (w_a e18 (w_a e19 (w_a e20 (w_a m5 (w_a m20 (w_a m21 (w_a hls w_t)))))))))))) w_t (w_a e2 (w_a m2 (w_a m5 (w_a m20 (w_a m21 w_t))))) (w_r 0) ?_; (repeat' first | exact w_t | apply w_l); all_goals intros))
  · exact ⟨Nat.zero_le _, by exact gC, by exact gC, by exact gC, by exact gC, by exact gC, by (simp (disch := omega) only [go_sem, frN] <;> repeat' first | rfl | refine ⟨?_, ?_⟩), by exact gC, by exact gW hls, by exact gC, ⟨_, _, by (simp (disch := omega) only [go_sem, List.set_cons_zero, List.set_cons_succ, frN] <;> repeat' first | rfl | refine ⟨?_, ?_⟩), by (simp (disch := omega) only [go_sem, frN, List.map_nil] <;> repeat' first | rfl | refine ⟨?_, ?_⟩), by (simp (disch := omega) only [go_sem, frN, List.map_nil] <;> repeat' first | rfl | refine ⟨?_, ?_⟩)⟩, fun j hj => by omega⟩
end Go.Proofs.YteiopjkamgmfpaaGreatDoor
end

section
namespace Go.Proofs.YteiopjkamgmfpaaGreatDoor
open Go Go.RowKit Go.Pg Go.Pol
set_option linter.unusedSimpArgs false
set_option linter.unusedVariables false
set_option maxRecDepth 20000
attribute [local go_sem] Tryz.underlying3 Tryz.underlying4 Tryz.underlying156 Tryz.underlying9 Tryz.underlying75 Tryz.underlying34 Tryz.underlying49 Tryz.underlying47 Tryz.underlying45 Tryz.underlying77 Tryz.underlying22 Tryz.underlying25 Tryz.underlying129 Tryz.underlying31 Tryz.underlying79 Tryz.underlying30 Tryz.underlying33 Tryz.underlying38 Tryz.underlying138 sz3 by3 z3 szB zB szErr zErr szStr byStr zStr szRat zRat szInt zInt szNat zNat szStep byStep zStep szFig zFig szSlI zSlI szSlS zSlS szVar byVar zVar szSlV zSlV szCoord byCoord zCoord szSlC zSlC szFrame zFrame szPoly byPoly zPoly szTerm zTerm Tryz.underlying133 szHVec byHVec zHVec Tryz.underlying189 szSlP zSlP Tryz.underlying107 Tryz.underlying23 szL byL zL szFact byFact zFact szSlF zSlF Tryz.underlying2 Tryz.underlying27 Tryz.underlying72 Tryz.underlying116 Tryz.underlying66 Tryz.underlying67 szQuant zQuant eqQuant Bool.and_self szPt byPt zPt
attribute [-bool_to_prop] Bool.and_eq_decide Bool.or_eq_decide Bool.decide_beq_decide decide_eq_decide
/-! ### the polynomials of quantities: the reference's, and the law -/
set_option maxHeartbeats 2000000 in
theorem rqParams (cs : List (Po × Po)) (l : List Vt) (hl : l.length ≤ 70) : Pure Tryz.prog 39 [frmA cs l] (ivs (parsN l l.length)) := by
  show Pure _ _ [.agg [.sl 2 (cs.map coA), .sl 3 (l.map Vt.av)]] _
  generalize cs.map coA = C
  refine pure_intro (tok := 0) Tryz.func39 rfl Tryz.ntmps39 Tryz.results39 Tryz.call39 (by rfl) (by simp) ?_
  (focus (refine wkad (w_a @l_map w_t) w_t w_t ?_; (repeat' first | exact w_t | apply w_l); all_goals intros))
  rename_i g1
  refine r_frz (Frz.nilOwn (d := 3) 22 1 3 (by exact gC)) ?_
  refine r_loopE (ι := Nat) (fun i e m => i ≤ l.length ∧ e 1 = .pbox 1 g1 0 ∧ m 1 = some (.box g1 33 [.sl 2 C, .sl 3 (l.map Vt.av)] false) ∧ e 4 = iv i ∧ ∃ sv, e 3 = .own 22 sv ∧ m 22 = some (.row sv 3 1 ((parsN l i).map iv) 0)) (fun i => l.length - i) 0 (by rfl) ?_ ?_
  · rintro i e m ⟨hi, e1, m1, e4, sv, e3, em⟩
    have hpl := parsN_len l i
    by_cases hlt : i < l.length
    · have hg : (l.map Vt.av).getD i .u = Vt.av (l.getD i (0, 0, 0)) := by rw [List.getD_eq_getElem?_getD, List.getElem?_map, List.getElem?_eq_getElem hlt, List.getD_eq_getElem?_getD, List.getElem?_eq_getElem hlt]; rfl
      by_cases h1 : (l.getD i (0, 0, 0)).1 = 1
      · have hs := parsN_y h1
        generalize parsN l i = ps at *
        generalize l.getD i (0, 0, 0) = v at *
        obtain ⟨v1, v2, v3⟩ := v
        (focus (refine wkad (w_a e1 (w_a m1 (w_a e4 (w_a e3 (w_a em (w_a hg (w_a h1 (w_a @l_map w_t)))))))) w_t w_t ?_; (repeat' first | exact w_t | apply w_l); all_goals intros))
        all_goals refine ⟨i + 1, ⟨by omega, by exact gW e1, by exact gW m1, by exact gS, _, by exact gW e3, ?_⟩, by omega⟩
        all_goals (rw [hs, List.map_append]; exact gC)
      · have hs := parsN_n h1
        generalize parsN l i = ps at *
        generalize l.getD i (0, 0, 0) = v at *
        obtain ⟨v1, v2, v3⟩ := v
        (focus (refine wkad (w_a e1 (w_a m1 (w_a e4 (w_a e3 (w_a em (w_a hg (w_a @l_map w_t))))))) w_t w_t ?_; (repeat' first | exact w_t | apply w_l); all_goals intros))
        all_goals refine ⟨i + 1, ⟨by omega, by exact gW e1, by exact gW m1, by exact gS, _, by exact gW e3, ?_⟩, by omega⟩
        all_goals (rw [hs]; exact gW em)
    · have hi2 : i = l.length := by omega
      subst hi2
      (focus (refine wkad (w_a e1 (w_a m1 (w_a e4 (w_a e3 (w_a em (w_a @l_map w_t)))))) w_t w_t ?_; (repeat' first | exact w_t | apply w_l); all_goals intros))
      simp (disch := omega) only [go_sem, em, List.length_map]
  · exact ⟨by omega, by exact gC, by exact gC, by exact gC, _, by exact gC, by (simp (disch := omega) only [go_sem, parsN, List.range_zero, List.filter_nil] <;> repeat' first | rfl | refine ⟨?_, ?_⟩)⟩
set_option maxHeartbeats 4000000 in
theorem rqPoly (k a b c : Int) (cs : List Pt) (vs : List Vt) (hcb : ∀ j, CB (cs.getD j ([], []))) (hv : vs.length ≤ 64) (hc : cs.length ≤ 1000) :
    Pure Tryz.prog 9 [Qt.av ⟨k, a, b, c⟩, frmA cs vs] (if Qt.chk ⟨k, a, b, c⟩ cs.length (parsN vs vs.length).length = 0 then .tup [poA (qPol ⟨k, a, b, c⟩ cs (parsN vs vs.length)), iv 0] else .tup [.v (.slice none 0 0), iv (Qt.chk ⟨k, a, b, c⟩ cs.length (parsN vs vs.length).length)]) := by
  have cp : Pure Tryz.prog 39 [.agg [.sl 2 (cs.map coA), .sl 3 (vs.map Vt.av)]] (.sl 1 ((parsN vs vs.length).map iv)) := rqParams cs vs (by omega)
  have cc := rqCheck k a b c cs.length (parsN vs vs.length).length
  have hin := @chk_in ⟨k, a, b, c⟩ cs.length (parsN vs vs.length).length
  have hpl : ((parsN vs vs.length).map iv).length = (parsN vs vs.length).length := List.length_map ..
  have hcl : (cs.map coA).length = cs.length := List.length_map ..
  have hgp : ∀ j (h : j < (parsN vs vs.length).length), ((parsN vs vs.length).map iv).getD j .u = iv (gI (parsN vs vs.length) j) := fun j h => by rw [map_atB iv h, gI_at h]
  have hgc : ∀ j, j < cs.length → (cs.map coA).getD j .u = coA (cs.getD j ([], [])) := fun j h => by rw [map_atB coA h, List.getD_eq_getElem?_getD, List.getElem?_eq_getElem h]; rfl
  have hpm := fun j hj => @pars_mem vs vs.length j hj
  generalize Qt.chk ⟨k, a, b, c⟩ cs.length (parsN vs vs.length).length = z at *
  show Pure _ _ [.agg [iv k, iv a, iv b, iv c], .agg [.sl 2 (cs.map coA), .sl 3 (vs.map Vt.av)]] _
  generalize parsN vs vs.length = ps at *
  by_cases hz : z = 0
  · rw [if_pos hz]
    subst hz
    rcases hin rfl with ⟨h3, ha0, ha1⟩ | ⟨h12, ⟨ha0, ha1⟩, ⟨hb0, hb1⟩, hc0, hc1⟩
    · simp only at h3 ha0 ha1
      obtain ⟨n, rfl⟩ : ∃ n : Nat, a = n := ⟨a.toNat, by omega⟩
      have hg := hgp n (by omega)
      obtain ⟨m0, m1⟩ := hpm n (by omega)
      unfold qPol
      rw [if_pos h3]
      simp only [Int.toNat_natCast]
      generalize gI ps n = w at *
      obtain ⟨v, rfl⟩ : ∃ v : Nat, w = v := ⟨w.toNat, by omega⟩
      have cv := rpVar v (by omega)
      simp only [Int.toNat_natCast]
      subst h3
      generalize ps.map iv = A at *
      generalize cs.map coA = C at *
      generalize vs.map Vt.av = V at *
      refine pure_intro (tok := 0) Tryz.func9 rfl Tryz.ntmps9 Tryz.results9 Tryz.call9 (by rfl) (by simp) ?_
      (focus (refine wkad (w_a hpl (w_a hcl (w_a hg (w_a ha1 w_t)))) (w_a cp (w_a cc (w_a cv w_t))) w_t ?_; (repeat' first | exact w_t | apply w_l); all_goals intros))
      all_goals (all_goals (try simp (disch := omega) only [go_sem, decide_eq_true, decide_eq_false, if_pos, if_neg, Int.reduceAdd, Int.reduceSub, Int.reduceToNat, Int.zero_add])); (all_goals first | done | rfl | (congr 2; first | done | omega | (rw [Bool.eq_iff_iff]; simp only [bool_to_prop, Bool.false_eq_true, iff_true, true_iff, iff_false, false_iff]; omega)) | skip)
    · simp only at h12 ha0 ha1 hb0 hb1 hc0 hc1
      obtain ⟨x, rfl⟩ : ∃ n : Nat, a = n := ⟨a.toNat, by omega⟩
      obtain ⟨y, rfl⟩ : ∃ n : Nat, b = n := ⟨b.toNat, by omega⟩
      obtain ⟨w, rfl⟩ : ∃ n : Nat, c = n := ⟨c.toNat, by omega⟩
      have gx := hgc x (by omega)
      have gy := hgc y (by omega)
      have gw := hgc w (by omega)
      have bx := hcb x
      have by' := hcb y
      have bw := hcb w
      have cC := rhCross bx by' bx bw
      have cD := rhDot by' bx by' bw
      have cS := (pt_sc (by'.dot bx by' bw)).2
      have c2 : Pure Tryz.prog 26 [iv 2] (ratQ 2) := qOf 2 (by omega)
      unfold qPol
      simp only [Int.toNat_natCast]
      clear hcb hgc hgp hpm
      generalize cs.getD x ([], []) = X at *
      generalize cs.getD y ([], []) = Y at *
      generalize cs.getD w ([], []) = Wt at *
      obtain ⟨x1, x2⟩ := X
      obtain ⟨y1, y2⟩ := Y
      obtain ⟨w1, w2⟩ := Wt
      generalize sclM 2 (dotM (y1, y2) (x1, x2) (y1, y2) (w1, w2)) = S at *
      generalize dotM (y1, y2) (x1, x2) (y1, y2) (w1, w2) = D at *
      generalize crossM (x1, x2) (y1, y2) (x1, x2) (w1, w2) = E at *
      have gx : (cs.map coA).getD x .u = .agg [.sl 4 (x1.map tmA), .sl 4 (x2.map tmA)] := gx
      have gy : (cs.map coA).getD y .u = .agg [.sl 4 (y1.map tmA), .sl 4 (y2.map tmA)] := gy
      have gw : (cs.map coA).getD w .u = .agg [.sl 4 (w1.map tmA), .sl 4 (w2.map tmA)] := gw
      have cC : Pure Tryz.prog 42 [.agg [.sl 4 (x1.map tmA), .sl 4 (x2.map tmA)], .agg [.sl 4 (y1.map tmA), .sl 4 (y2.map tmA)], .agg [.sl 4 (x1.map tmA), .sl 4 (x2.map tmA)], .agg [.sl 4 (w1.map tmA), .sl 4 (w2.map tmA)]] (poA E) := cC
      have cD : Pure Tryz.prog 44 [.agg [.sl 4 (y1.map tmA), .sl 4 (y2.map tmA)], .agg [.sl 4 (x1.map tmA), .sl 4 (x2.map tmA)], .agg [.sl 4 (y1.map tmA), .sl 4 (y2.map tmA)], .agg [.sl 4 (w1.map tmA), .sl 4 (w2.map tmA)]] (poA D) := cD
      generalize cs.map coA = C at *
      generalize vs.map Vt.av = V at *
      generalize x1.map tmA = X1 at *
      generalize x2.map tmA = X2 at *
      generalize y1.map tmA = Y1 at *
      generalize y2.map tmA = Y2 at *
      generalize w1.map tmA = W1 at *
      generalize w2.map tmA = W2 at *
      rcases h12 with rfl | rfl
      · rw [if_neg (by decide), if_pos rfl]
        refine pure_intro (tok := 0) Tryz.func9 rfl Tryz.ntmps9 Tryz.results9 Tryz.call9 (by rfl) (by simp) ?_
        (focus (refine wkad (w_a hpl (w_a hcl (w_a gx (w_a gy (w_a gw (w_a ha1 (w_a hb1 (w_a hc1 w_t)))))))) (w_a cp (w_a cc (w_a cC w_t))) (w_a (w_d 10 [(20, poA E)] [] []) w_t) ?_; (repeat' first | exact w_t | apply w_l); all_goals intros))
        all_goals (all_goals (try simp (disch := omega) only [go_sem, decide_eq_true, decide_eq_false, if_pos, if_neg, Int.reduceAdd, Int.reduceSub, Int.reduceToNat, Int.zero_add])); (all_goals first | done | rfl | (congr 2; first | done | omega | (rw [Bool.eq_iff_iff]; simp only [bool_to_prop, Bool.false_eq_true, iff_true, true_iff, iff_false, false_iff]; omega)) | skip)
      · rw [if_neg (by decide), if_neg (by decide)]
        refine pure_intro (tok := 0) Tryz.func9 rfl Tryz.ntmps9 Tryz.results9 Tryz.call9 (by rfl) (by simp) ?_
        (focus (refine wkad (w_a hpl (w_a hcl (w_a gx (w_a gy (w_a gw (w_a ha1 (w_a hb1 (w_a hc1 w_t)))))))) (w_a cp (w_a cc (w_a cD (w_a c2 (w_a cS w_t))))) (w_a (w_d 11 [(20, poA D), (21, ratQ 2), (22, poA S)] [] []) w_t) ?_; (repeat' first | exact w_t | apply w_l); all_goals intros))
        all_goals (all_goals (try simp (disch := omega) only [go_sem, decide_eq_true, decide_eq_false, if_pos, if_neg, Int.reduceAdd, Int.reduceSub, Int.reduceToNat, Int.zero_add])); (all_goals first | done | rfl | (congr 2; first | done | omega | (rw [Bool.eq_iff_iff]; simp only [bool_to_prop, Bool.false_eq_true, iff_true, true_iff, iff_false, false_iff]; omega)) | skip)
  · rw [if_neg hz]
    clear hin hgp hgc hpm hcb
    generalize ps.map iv = A at *
    generalize cs.map coA = C at *
    generalize vs.map Vt.av = V at *
    refine pure_intro (tok := 0) Tryz.func9 rfl Tryz.ntmps9 Tryz.results9 Tryz.call9 (by rfl) (by simp) ?_
    (focus (refine wkad (w_a hpl (w_a hcl (w_a hz w_t))) (w_a cp (w_a cc w_t)) w_t ?_; (repeat' first | exact w_t | apply w_l); all_goals intros))
    all_goals (all_goals (try simp (disch := omega) only [go_sem, decide_eq_true, decide_eq_false, if_pos, if_neg, Int.reduceAdd, Int.reduceSub, Int.reduceToNat, Int.zero_add])); (all_goals first | done | rfl | (congr 2; first | done | omega | (rw [Bool.eq_iff_iff]; simp only [bool_to_prop, Bool.false_eq_true, iff_true, true_iff, iff_false, false_iff]; omega)) | skip)
set_option maxHeartbeats 4000000 in
theorem lawPolys1 (M N C V : List AV) (k a b c : Int) (p : List AV) (z : Int) (P : AV) (hP : P = .sl 4 p ∨ P = .v (.slice none 0 0))
    (cf : Pure Tryz.prog 5 [.agg [.sl 6 M, .sl 5 N]] (.v (.bool true)))
    (co : Pure Tryz.prog 7 [.agg [.sl 6 M, .sl 5 N]] (.tup [.agg [.sl 2 C, .sl 3 V], iv 0]))
    (c1 : Pure Tryz.prog 8 [.agg [iv k, iv a, iv b, iv c], .agg [.sl 2 C, .sl 3 V]] (.tup [P, iv z]))
    (c2 : Pure Tryz.prog 9 [.agg [iv k, iv a, iv b, iv c], .agg [.sl 2 C, .sl 3 V]] (.tup [P, iv z]))
    (ce : Pure Tryz.prog 10 [P, P] (.v (.bool true))) :
    Pure Tryz.prog 3 [.agg [.sl 6 M, .sl 5 N], .agg [iv k, iv a, iv b, iv c]] (.v (.bool true)) := by
  have ca := lqAwake
  rcases hP with rfl | rfl
  all_goals
    refine pure_intro (tok := 0) Tryz.func3 rfl Tryz.ntmps3 Tryz.results3 Tryz.call3 (by rfl) (by simp) ?_
    (focus (refine wkad w_t (w_a cf (w_a co (w_a c1 (w_a c2 (w_a ce (w_a ca w_t)))))) w_t ?_; (repeat' first | exact w_t | apply w_l); all_goals intros))
    all_goals (all_goals (try simp (disch := omega) only [go_sem, decide_eq_true, decide_eq_false, if_pos, if_neg, Int.reduceAdd, Int.reduceSub, Int.reduceToNat, Int.zero_add])); (all_goals first | done | rfl | (congr 2; first | done | omega | (rw [Bool.eq_iff_iff]; simp only [bool_to_prop, Bool.false_eq_true, iff_true, true_iff, iff_false, false_iff]; omega)) | skip)
theorem lawPolysN (M N : List AV) (k a b c : Int) (cf : Pure Tryz.prog 5 [.agg [.sl 6 M, .sl 5 N]] (.v (.bool false))) :
    Pure Tryz.prog 3 [.agg [.sl 6 M, .sl 5 N], .agg [iv k, iv a, iv b, iv c]] (.v (.bool true)) := by
  have ca := lqAwake
  refine pure_intro (tok := 0) Tryz.func3 rfl Tryz.ntmps3 Tryz.results3 Tryz.call3 (by rfl) (by simp) ?_
  (focus (refine wkad w_t (w_a cf (w_a ca w_t)) w_t ?_; (repeat' first | exact w_t | apply w_l); all_goals intros))
  all_goals (all_goals (try simp (disch := omega) only [go_sem, decide_eq_true, decide_eq_false, if_pos, if_neg, Int.reduceAdd, Int.reduceSub, Int.reduceToNat, Int.zero_add])); (all_goals first | done | rfl | (congr 2; first | done | omega | (rw [Bool.eq_iff_iff]; simp only [bool_to_prop, Bool.false_eq_true, iff_true, true_iff, iff_false, false_iff]; omega)) | skip)
theorem few25 (ss : List RS) (gs : List RG) (b : Bool) (c : Pure Tryz.prog 22 [figA ss gs] (.v (.bool b))) : Pure Tryz.prog 5 [.agg [.sl 6 (ss.map RS.av), .sl 5 (gs.map RG.av)]] (.v (.bool b)) := by
  have c : Pure Tryz.prog 22 [.agg [.sl 6 (ss.map RS.av), .sl 5 (gs.map RG.av)]] (.v (.bool b)) := c
  generalize ss.map RS.av = M at *
  generalize gs.map RG.av = N at *
  refine pure_intro (tok := 0) Tryz.func5 rfl Tryz.ntmps5 Tryz.results5 Tryz.call5 (by rfl) (by simp) ?_
  (focus (refine wkad w_t (w_a c w_t) w_t ?_; (repeat' first | exact w_t | apply w_l); all_goals intros))
  all_goals (all_goals (try simp (disch := omega) only [go_sem, decide_eq_true, decide_eq_false, if_pos, if_neg, Int.reduceAdd, Int.reduceSub, Int.reduceToNat, Int.zero_add])); (all_goals first | done | rfl | (congr 2; first | done | omega | (rw [Bool.eq_iff_iff]; simp only [bool_to_prop, Bool.false_eq_true, iff_true, true_iff, iff_false, false_iff]; omega)) | skip)
theorem qpol_pb (q : Qt) {cs : List Pt} (hcb : ∀ j, CB (cs.getD j ([], []))) (ps : List Int) : PB (qPol q cs ps) 512 14178 16 := by
  unfold qPol
  split
  · exact (var_pb _).mono (by omega) (by omega) (by omega)
  · split
    · exact ((hcb _).cross (hcb _) (hcb _) (hcb _)).mono (by omega) (by omega) (by omega)
    · have h := (hcb q.b.toNat).dot (hcb q.a.toNat) (hcb q.b.toNat) (hcb q.c.toNat)
      unfold sclM
      rw [if_neg (by decide)]
      exact ⟨scale_srt h.s (by decide), h.k.scale two_sz, by rw [scale_len]; exact h.l⟩
theorem lawPolys (ss : List RS) (gs : List RG) (k a b c : Int) (h1 : ss.length ≤ 1000000000) (h2 : gs.length ≤ 1000000000) (hs : ∀ s ∈ ss, s.sm) (hg : ∀ g ∈ gs, g.sm) : Pure Tryz.prog 3 [figA ss gs, Qt.av ⟨k, a, b, c⟩] (.v (.bool true)) := by
  have cR := rlRight ss gs h1 h2 hs hg
  have cf := few25 ss gs _ (rlFew ss gs cR)
  cases hf : fewB ss gs with
  | false =>
    rw [hf] at cf
    exact lawPolysN _ _ k a b c cf
  | true =>
    rw [hf] at cf
    obtain ⟨hl, he, ok, ht⟩ := few_in hs hf
    rw [he] at cR
    have ro := rcFrame1 ss gs cR ok
    have hb : ¬ (List.range ss.length).any (bigN ss) = true := by
      rw [List.any_eq_true]
      rintro ⟨j, hj, hb⟩
      rw [(few_cb hl ok ht).1 j (List.mem_range.1 hj)] at hb
      cases hb
    rw [if_neg hb] at ro
    have hcb := (few_cb hl ok ht).2
    have hv := vs_le ss ss.length
    have hcl := frN_len ss ss.length
    have c1 := quPoly k a b c _ (frN ss ss.length).vs hcb (by omega) (by omega)
    have c2 := rqPoly k a b c _ (frN ss ss.length).vs hcb (by omega) (by omega)
    by_cases hz : Qt.chk ⟨k, a, b, c⟩ (frN ss ss.length).cs.length (parsN (frN ss ss.length).vs (frN ss ss.length).vs.length).length = 0
    · rw [if_pos hz] at c1 c2
      have hp := qpol_pb ⟨k, a, b, c⟩ hcb (parsN (frN ss ss.length).vs (frN ss ss.length).vs.length)
      have l := hp.l
      have ce := rpEqual _ _ hp.k hp.k hp.s.dom hp.s.dom (by omega) (by omega) (by omega) (by omega) (by omega) (by omega)
      rw [decide_eq_true rfl] at ce
      exact lawPolys1 _ _ _ _ k a b c _ 0 _ (.inl rfl) cf ro c1 c2 ce
    · rw [if_neg hz] at c1 c2
      have hp := (PB.nil : PB [] 0 0 0)
      have ce := rpEqual [] [] hp.k hp.k hp.s.dom hp.s.dom (by simp) (by simp) (by omega) (by omega) (by omega) (by omega)
      rw [decide_eq_true rfl] at ce
      exact lawPolys1 _ _ _ _ k a b c [] _ _ (.inr rfl) cf ro c1 c2 (pure_vkA ce (.cons (.nil 4) (.cons (.nil 4) .nil)))
theorem saidPolys (xs : List AV) (h : ShapeL Tryz.prog 1048576 9 [25, 27] xs) : Pure Tryz.prog 3 xs (.v (.bool true)) := by
  obtain ⟨x, bs, rfl, h1, h⟩ := h.inv
  obtain ⟨y, bs, rfl, h2, h⟩ := h.inv
  obtain rfl := h.inv0
  obtain ⟨ss, gs, e, hl, kl, hq, kq⟩ := shFigure h1
  obtain ⟨k, a, b, c, rfl⟩ := shQuant h2
  rw [e, aggQuant]
  exact lawPolys ss gs k a b c (by omega) (by omega) (fun s hs => ⟨lm_mono (hq s hs).1 (by decide), Nat.le_trans (hq s hs).2.1 (by decide), Nat.le_trans (hq s hs).2.2 (by decide)⟩) (fun g hg => ⟨lm_mono (kq g hg).1 (by decide), Nat.le_trans (kq g hg).2 (by decide)⟩)
end Go.Proofs.YteiopjkamgmfpaaGreatDoor
end
