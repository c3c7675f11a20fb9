/- Contracts of the functions that the law reaches, and the rules by which they are walked. They say what a call hands back for every input within the bounds that each names; no other condition. -/
import Derived.Test.YtbgmnobnaplmlaaGreatBf4
section
namespace Go.Proofs.YtbgmnobnaplmlaaGreat
open Go Go.RowKit Go.Pg Go.Pol
set_option linter.unusedSimpArgs false
set_option linter.unusedVariables false
set_option maxRecDepth 20000
attribute [local go_sem] Tryz.underlying3 Tryz.underlying4 Tryz.underlying178 Tryz.underlying9 Tryz.underlying48 Tryz.underlying31 Tryz.underlying43 Tryz.underlying41 Tryz.underlying39 Tryz.underlying50 Tryz.underlying22 Tryz.underlying25 Tryz.underlying56 Tryz.underlying28 Tryz.underlying72 Tryz.underlying27 Tryz.underlying30 Tryz.underlying105 Tryz.underlying107 Tryz.underlying70 Tryz.underlying63 Tryz.underlying103 Tryz.underlying154 sz3 by3 z3 szB zB szErr zErr szStr byStr zStr szRat zRat szInt zInt szNat zNat szStep byStep zStep szFig zFig szSlI zSlI szSlS zSlS szVar byVar zVar szSlV zSlV szCoord byCoord zCoord szSlC zSlC szFrame zFrame szCBld byCBld zCBld szCVec byCVec zCVec szPoly byPoly zPoly szTerm zTerm szPtrB zPtrB szFnC zFnC
attribute [-bool_to_prop] Bool.and_eq_decide Bool.or_eq_decide Bool.decide_beq_decide decide_eq_decide
theorem lents_beq {K c : Nat} (h : c < 1000) : (K + 1000 == c) = false := by rw [beq_eq_false_iff_ne]; omega
theorem u16s_inj {a b : List Nat} (h : u16s a = u16s b) : a = b := by
  induction a generalizing b with
  | nil => cases b with
    | nil => rfl
    | cons y b => simp [u16s] at h
  | cons x a ih => cases b with
    | nil => simp [u16s] at h
    | cons y b =>
      rw [u16s_c, u16s_c] at h
      simp only [List.cons.injEq, AV.v.injEq, Value.int.injEq, true_and] at h
      rw [ih h.2, show x = y by omega]
theorem RQ.ok_eq {r : RQ} {k : Nat} (hl : r.lm k) (h : r.ok = true) : r = ⟨decide (r.q.num < 0), toL r.q.num.natAbs, toL r.q.den⟩ := by
  have h1 := (RQ.ok_av hl h).1
  simp only [RQ.av, ratQ, AV.agg.injEq, List.cons.injEq, AV.v.injEq, Value.bool.injEq, lim, AV.sl.injEq, true_and, and_true] at h1
  obtain ⟨s, l, d⟩ := r
  simp only at h1
  rw [RQ.mk.injEq]
  exact ⟨h1.1, u16s_inj h1.2.1, u16s_inj h1.2.2⟩
theorem coOf (c : Po × Po) : Pure Tryz.prog 105 [coA c] (coA c) := by
  obtain ⟨p, q⟩ := c
  refine pure_intro (tok := 0) Tryz.func105 rfl Tryz.ntmps105 Tryz.results105 Tryz.call105 (by rfl) (by simp) ?_
  (focus (refine wklp w_t w_t w_t (w_r 0) ?_; (repeat' first | exact w_t | apply w_l); all_goals intros))
theorem coCombine (f : Nat) (a b r : Po × Po) (c1 : Pure Tryz.prog f [poA a.1, poA b.1] (poA r.1)) (c2 : Pure Tryz.prog f [poA a.2, poA b.2] (poA r.2)) : Pure Tryz.prog 104 [coA a, coA b, .fn f []] (coA r) := by
  obtain ⟨a1, a2⟩ := a
  obtain ⟨b1, b2⟩ := b
  obtain ⟨r1, r2⟩ := r
  simp only at c1 c2
  refine pure_intro (tok := 0) Tryz.func104 rfl Tryz.ntmps104 Tryz.results104 Tryz.call104 (by rfl) (by simp) ?_
  (focus (refine wkld w_t (w_a c1 (w_a c2 w_t)) w_t (w_a (w_d 1 [(5, poA r1), (11, poA r2)] [] [6]) w_t) ?_; (repeat' first | exact w_t | apply w_l); all_goals intros))
theorem coBetween (a b : Po × Po) (h1 : Pure Tryz.prog 77 [poA b.1, poA a.1] (poA (subM b.1 a.1))) (h2 : Pure Tryz.prog 77 [poA b.2, poA a.2] (poA (subM b.2 a.2))) : Pure Tryz.prog 103 [coA a, coA b] (coA (subM b.1 a.1, subM b.2 a.2)) := by
  have c := coCombine 77 b a (subM b.1 a.1, subM b.2 a.2) h1 h2
  have oa := coOf a
  have ob := coOf b
  obtain ⟨a1, a2⟩ := a
  obtain ⟨b1, b2⟩ := b
  simp only at *
  generalize subM b1 a1 = x at *
  generalize subM b2 a2 = y at *
  refine pure_intro (tok := 0) Tryz.func103 rfl Tryz.ntmps103 Tryz.results103 Tryz.call103 (by rfl) (by simp) ?_
  (focus (refine wkld w_t (w_a oa (w_a ob (w_a c w_t))) w_t (w_a (w_d 1 [(1, coA (b1, b2)), (3, coA (a1, a2)), (4, coA (x, y))] [] [4]) w_t) ?_; (repeat' first | exact w_t | apply w_l); all_goals intros))
theorem cbScale (K4 g4 : Nat) (k : Int) (nm : ByteArray) (ar : List Int) (q : Rat) (p r : Po) (c : Pure Tryz.prog 109 [poA p, ratQ q] (poA r)) :
    RdC Tryz.prog [(K4, .box g4 50 [iv k, strA nm, ivs ar, .v (.bool (decide (q.num < 0))), lim (toL q.num.natAbs), lim (toL q.den)] false)] 108 [poA p, .pbox K4 g4 0] (poA r) := by
  intro σ hL
  have m4 := lents_at hL.1
  simp only [Ent.sh, AV.shL, AV.sh] at m4
  refine acall_lents Tryz.func108 rfl Tryz.ntmps108 Tryz.results108 Tryz.call108 (by rfl) (by simp) ?_
  (focus (refine wkap (w_a m4 w_t) (w_a c w_t) (w_r 0) ?_; (repeat' first | exact w_t | apply w_l); all_goals intros))
  simp (disch := omega) only [go_sem]
  exact backS (Sub.refl _) ⟨rfl, rfl⟩ (Agr.start σ)
theorem cbMulV (K g : Nat) (t p r : Po) (c : Pure Tryz.prog 78 [poA p, poA t] (poA r)) :
    RdC Tryz.prog [(K, .box g 70 [poA t] false)] 112 [poA p, .pbox K g 0] (poA r) := by
  intro σ hL
  have m4 := lents_at hL.1
  simp only [Ent.sh, AV.shL, AV.sh] at m4
  refine acall_lents Tryz.func112 rfl Tryz.ntmps112 Tryz.results112 Tryz.call112 (by rfl) (by simp) ?_
  (focus (refine wkap (w_a m4 w_t) (w_a c w_t) (w_r 0) ?_; (repeat' first | exact w_t | apply w_l); all_goals intros))
  simp (disch := omega) only [go_sem]
  exact backS (Sub.refl _) ⟨rfl, rfl⟩ (Agr.start σ)
/-- What a step's closures read: the builder's pointer, the step, the builder, its points. -/
def atL (K3 K4 KB KC KV g3 g4 gB : Nat) (svC svV : Value) (z : AV) (sc : List AV) (cs : List (Po × Po)) : List (Nat × Ent) :=
  [(K3, .box g3 103 [.pbox KB gB 0] false), (K4, .box g4 50 sc false), (KB, .box gB 105 [.own KC svC, .own KV svV, z] false), (KC, .row svC 72 2 (cs.map coA) 0)]
theorem atL_def (K3 K4 KB KC KV g3 g4 gB : Nat) (svC svV : Value) (z : AV) (sc : List AV) (cs : List (Po × Po)) : atL K3 K4 KB KC KV g3 g4 gB svC svV z sc cs =
  [(K3, .box g3 103 [.pbox KB gB 0] false), (K4, .box g4 50 sc false), (KB, .box gB 105 [.own KC svC, .own KV svV, z] false), (KC, .row svC 72 2 (cs.map coA) 0)] := rfl
set_option maxHeartbeats 4000000 in
theorem cbAt (K3 K4 KB KC KV g3 g4 gB : Nat) (svC svV : Value) (fr : Nat) (k0 : Int) (nm : ByteArray) (ar : List Int) (x y w : AV) (cs : List (Po × Po)) (k : Nat) (hx : x.sh = x ∧ y.sh = y ∧ w.sh = w) (hk : k < ar.length) (h0 : 0 ≤ gI ar k ∧ gI ar k < (cs.length : Int)) :
    RdC Tryz.prog (atL K3 K4 KB KC KV g3 g4 gB svC svV (iv fr) [iv k0, strA nm, ivs ar, x, y, w] cs) 101 [iv k, .pbox K3 g3 0, .pbox K4 g4 0] (coA (cs.getD (gI ar k).toNat ([], []))) := by
  intro σ hL
  simp only [atL, hasAll_cons, hasAll_nil] at hL
  obtain ⟨h3, h4, hB, hC, -⟩ := hL
  have m3 := lents_at h3
  have m4 := lents_at h4
  have mB := lents_at hB
  have mC := lents_at hC
  simp only [Ent.sh, AV.shL, AV.sh, hx.1, hx.2.1, hx.2.2] at m3 m4 mB mC
  have hga : (ar.map iv).getD k .u = iv (gI ar k) := by rw [map_atB iv hk, gI_at hk]
  have hgc : (cs.map coA).getD (gI ar k).toNat .u = coA (cs.getD (gI ar k).toNat ([], [])) := getD_mapA (by omega)
  have hll : (ar.map iv).length = ar.length := List.length_map ..
  have hcl : (cs.map coA).length = cs.length := List.length_map ..
  generalize cs.getD (gI ar k).toNat ([], []) = c at *
  generalize gI ar k = a at *
  obtain ⟨c1, c2⟩ := c
  refine acall_lents Tryz.func101 rfl Tryz.ntmps101 Tryz.results101 Tryz.call101 (by rfl) (by simp) ?_
  (focus (refine wkad (w_a m3 (w_a m4 (w_a mB (w_a mC (w_a hga (w_a hgc (w_a hll (w_a hcl (w_a @lents_lt (w_a @lents_beq w_t)))))))))) w_t (w_a (w_d 1 [] [] [4]) w_t) ?_; (repeat' first | exact w_t | apply w_l); all_goals intros))
  simp (disch := omega) only [go_sem]
  refine backS (Sub.refl _) ⟨rfl, rfl⟩ ?_
  exact ((Agr.start σ).own (by omega)).own (by omega)
end Go.Proofs.YtbgmnobnaplmlaaGreat
end

section
namespace Go.Proofs.YtbgmnobnaplmlaaGreat
open Go Go.RowKit Go.Pg Go.Pol
set_option linter.unusedSimpArgs false
set_option linter.unusedVariables false
set_option maxRecDepth 20000
attribute [local go_sem] Tryz.underlying3 Tryz.underlying4 Tryz.underlying178 Tryz.underlying9 Tryz.underlying48 Tryz.underlying31 Tryz.underlying43 Tryz.underlying41 Tryz.underlying39 Tryz.underlying50 Tryz.underlying22 Tryz.underlying25 Tryz.underlying56 Tryz.underlying28 Tryz.underlying72 Tryz.underlying27 Tryz.underlying30 Tryz.underlying105 Tryz.underlying107 Tryz.underlying70 Tryz.underlying63 Tryz.underlying103 Tryz.underlying154 sz3 by3 z3 szB zB szErr zErr szStr byStr zStr szRat zRat szInt zInt szNat zNat szStep byStep zStep szFig zFig szSlI zSlI szSlS zSlS szVar byVar zVar szSlV zSlV szCoord byCoord zCoord szSlC zSlC szFrame zFrame szCBld byCBld zCBld szCVec byCVec zCVec szPoly byPoly zPoly szTerm zTerm szPtrB zPtrB szFnC zFnC
attribute [-bool_to_prop] Bool.and_eq_decide Bool.or_eq_decide Bool.decide_beq_decide decide_eq_decide
set_option maxHeartbeats 8000000 in
theorem cbAlongS (K3 K4 K7 KB KC KV g3 g4 g7 gB : Nat) (svC svV : Value) (fr : Nat) (k0 : Int) (nm : ByteArray) (ar : List Int) (q : Rat) (cs : List (Po × Po)) (a b x r : Po × Po) (hk : 2 ≤ ar.length) (h0 : 0 ≤ gI ar 0 ∧ gI ar 0 < (cs.length : Int)) (h1 : 0 ≤ gI ar 1 ∧ gI ar 1 < (cs.length : Int)) (ha : cs.getD (gI ar 0).toNat ([], []) = a) (hb : cs.getD (gI ar 1).toNat ([], []) = b)
    (s1 : Pure Tryz.prog 77 [poA b.1, poA a.1] (poA (subM b.1 a.1))) (s2 : Pure Tryz.prog 77 [poA b.2, poA a.2] (poA (subM b.2 a.2)))
    (c1 : Pure Tryz.prog 109 [poA (subM b.1 a.1), ratQ q] (poA x.1)) (c2 : Pure Tryz.prog 109 [poA (subM b.2 a.2), ratQ q] (poA x.2))
    (a1 : Pure Tryz.prog 106 [poA a.1, poA x.1] (poA r.1)) (a2 : Pure Tryz.prog 106 [poA a.2, poA x.2] (poA r.2)) :
    RdC Tryz.prog ((K7, .box g7 154 [.fn 101 [.pbox K3 g3 0, .pbox K4 g4 0]] false) :: atL K3 K4 KB KC KV g3 g4 gB svC svV (iv fr) [iv k0, strA nm, ivs ar, .v (.bool (decide (q.num < 0))), lim (toL q.num.natAbs), lim (toL q.den)] cs) 102 [.fn 108 [.pbox K4 g4 0], .pbox K7 g7 0] (coA r) := by
  intro σ hL
  have t0 := cbAt (K3 + 1000) (K4 + 1000) (KB + 1000) (KC + 1000) (KV + 1000) g3 g4 gB svC svV fr k0 nm ar (.v (.bool (decide (q.num < 0)))) (lim (toL q.num.natAbs)) (lim (toL q.den)) cs 0 ⟨rfl, rfl, rfl⟩ (by omega) h0
  have t1 := cbAt (K3 + 1000) (K4 + 1000) (KB + 1000) (KC + 1000) (KV + 1000) g3 g4 gB svC svV fr k0 nm ar (.v (.bool (decide (q.num < 0)))) (lim (toL q.num.natAbs)) (lim (toL q.den)) cs 1 ⟨rfl, rfl, rfl⟩ (by omega) h1
  rw [ha] at t0
  rw [hb] at t1
  have cB := coBetween a b s1 s2
  have oa := coOf a
  have cC := coCombine 106 a x r a1 a2
  have p1 := cbScale (K4 + 1000) g4 k0 nm ar q (subM b.1 a.1) x.1 c1
  have p2 := cbScale (K4 + 1000) g4 k0 nm ar q (subM b.2 a.2) x.2 c2
  simp only [atL, hasAll_cons, hasAll_nil] at hL
  obtain ⟨h7, h3, h4, hB, hC, -⟩ := hL
  have m3 := lents_at h3
  have m4 := lents_at h4
  have m7 := lents_at h7
  have mB := lents_at hB
  have mC := lents_at hC
  skip
  simp only [Ent.sh, AV.shL, AV.sh] at m3 m4 m7 mB mC
  clear a1 a2 s1 s2 ha hb h0 h1
  obtain ⟨aa, ab⟩ := a
  obtain ⟨ba, bb⟩ := b
  obtain ⟨xa, xb⟩ := x
  obtain ⟨ra, rb⟩ := r
  simp only at *
  generalize subM ba aa = da at *
  generalize subM bb ab = db at *
  refine acall_lents Tryz.func102 rfl Tryz.ntmps102 Tryz.results102 Tryz.call102 (by rfl) (by simp) ?_
  (focus (refine wkax (w_a m3 (w_a m4 (w_a m7 (w_a mB (w_a mC (w_a @lents_lt (w_a @lents_beq (w_a @atL_def w_t)))))))) (w_a cB (w_a oa (w_a cC w_t))) (w_a (w_d 1 [(1, coA (aa, ab)), (3, coA (ba, bb)), (4, coA (da, db))] [] []) (w_a (w_d 2 [(1, coA (aa, ab)), (2, coA (aa, ab)), (6, poA xa), (10, poA xb), (12, coA (ra, rb))] [] [3]) w_t)) w_t w_t (w_a t0 (w_a t1 (w_a p1 (w_a p2 w_t)))) (w_r 0) ?_; (repeat' first | exact w_t | apply w_l); all_goals intros))
  simp (disch := omega) only [go_sem]
  refine backS (Sub.refl _) ⟨rfl, rfl⟩ ?_
  (repeat' (first | exact Agr.start _ | (refine Agr.own ?_ (by omega))))
set_option maxHeartbeats 8000000 in
theorem cbAlongM (K3 K4 K7 KB KC KV g3 g4 g7 gB : Nat) (svC svV : Value) (fr : Nat) (k0 : Int) (nm : ByteArray) (ar : List Int) (rs : Bool) (rl rd : List Nat) (K10 g10 : Nat) (t : Po) (cs : List (Po × Po)) (a b x r : Po × Po) (hk : 2 ≤ ar.length) (h0 : 0 ≤ gI ar 0 ∧ gI ar 0 < (cs.length : Int)) (h1 : 0 ≤ gI ar 1 ∧ gI ar 1 < (cs.length : Int)) (ha : cs.getD (gI ar 0).toNat ([], []) = a) (hb : cs.getD (gI ar 1).toNat ([], []) = b)
    (s1 : Pure Tryz.prog 77 [poA b.1, poA a.1] (poA (subM b.1 a.1))) (s2 : Pure Tryz.prog 77 [poA b.2, poA a.2] (poA (subM b.2 a.2)))
    (c1 : Pure Tryz.prog 78 [poA (subM b.1 a.1), poA t] (poA x.1)) (c2 : Pure Tryz.prog 78 [poA (subM b.2 a.2), poA t] (poA x.2))
    (a1 : Pure Tryz.prog 106 [poA a.1, poA x.1] (poA r.1)) (a2 : Pure Tryz.prog 106 [poA a.2, poA x.2] (poA r.2)) :
    RdC Tryz.prog ((K10, .box g10 70 [poA t] false) :: (K7, .box g7 154 [.fn 101 [.pbox K3 g3 0, .pbox K4 g4 0]] false) :: atL K3 K4 KB KC KV g3 g4 gB svC svV (iv fr) [iv k0, strA nm, ivs ar, .v (.bool rs), lim rl, lim rd] cs) 102 [.fn 112 [.pbox K10 g10 0], .pbox K7 g7 0] (coA r) := by
  intro σ hL
  have t0 := cbAt (K3 + 1000) (K4 + 1000) (KB + 1000) (KC + 1000) (KV + 1000) g3 g4 gB svC svV fr k0 nm ar (.v (.bool rs)) (lim rl) (lim rd) cs 0 ⟨rfl, rfl, rfl⟩ (by omega) h0
  have t1 := cbAt (K3 + 1000) (K4 + 1000) (KB + 1000) (KC + 1000) (KV + 1000) g3 g4 gB svC svV fr k0 nm ar (.v (.bool rs)) (lim rl) (lim rd) cs 1 ⟨rfl, rfl, rfl⟩ (by omega) h1
  rw [ha] at t0
  rw [hb] at t1
  have cB := coBetween a b s1 s2
  have oa := coOf a
  have cC := coCombine 106 a x r a1 a2
  have p1 := cbMulV (K10 + 1000) g10 t (subM b.1 a.1) x.1 c1
  have p2 := cbMulV (K10 + 1000) g10 t (subM b.2 a.2) x.2 c2
  simp only [atL, hasAll_cons, hasAll_nil] at hL
  obtain ⟨h10, h7, h3, h4, hB, hC, -⟩ := hL
  have m3 := lents_at h3
  have m4 := lents_at h4
  have m7 := lents_at h7
  have mB := lents_at hB
  have mC := lents_at hC
  have m10 := lents_at h10
  simp only [Ent.sh, AV.shL, AV.sh] at m3 m4 m7 mB mC m10
  clear a1 a2 s1 s2 ha hb h0 h1
  obtain ⟨aa, ab⟩ := a
  obtain ⟨ba, bb⟩ := b
  obtain ⟨xa, xb⟩ := x
  obtain ⟨ra, rb⟩ := r
  simp only at *
  generalize subM ba aa = da at *
  generalize subM bb ab = db at *
  refine acall_lents Tryz.func102 rfl Tryz.ntmps102 Tryz.results102 Tryz.call102 (by rfl) (by simp) ?_
  (focus (refine wkax (w_a m3 (w_a m4 (w_a m7 (w_a mB (w_a mC (w_a m10 (w_a @lents_lt (w_a @lents_beq (w_a @atL_def w_t))))))))) (w_a cB (w_a oa (w_a cC w_t))) (w_a (w_d 1 [(1, coA (aa, ab)), (3, coA (ba, bb)), (4, coA (da, db))] [] []) (w_a (w_d 2 [(1, coA (aa, ab)), (2, coA (aa, ab)), (6, poA xa), (10, poA xb), (12, coA (ra, rb))] [] [3]) w_t)) w_t w_t (w_a t0 (w_a t1 (w_a p1 (w_a p2 w_t)))) (w_r 0) ?_; (repeat' first | exact w_t | apply w_l); all_goals intros))
  simp (disch := omega) only [go_sem]
  refine backS (Sub.refl _) ⟨rfl, rfl⟩ ?_
  (repeat' (first | exact Agr.start _ | (refine Agr.own ?_ (by omega))))
end Go.Proofs.YtbgmnobnaplmlaaGreat
end

section
namespace Go.Proofs.YtbgmnobnaplmlaaGreat
open Go Go.RowKit Go.Pg Go.Pol
set_option linter.unusedSimpArgs false
set_option linter.unusedVariables false
set_option maxRecDepth 20000
attribute [local go_sem] Tryz.underlying3 Tryz.underlying4 Tryz.underlying178 Tryz.underlying9 Tryz.underlying48 Tryz.underlying31 Tryz.underlying43 Tryz.underlying41 Tryz.underlying39 Tryz.underlying50 Tryz.underlying22 Tryz.underlying25 Tryz.underlying56 Tryz.underlying28 Tryz.underlying72 Tryz.underlying27 Tryz.underlying30 Tryz.underlying105 Tryz.underlying107 Tryz.underlying70 Tryz.underlying63 Tryz.underlying103 Tryz.underlying154 sz3 by3 z3 szB zB szErr zErr szStr byStr zStr szRat zRat szInt zInt szNat zNat szStep byStep zStep szFig zFig szSlI zSlI szSlS zSlS szVar byVar zVar szSlV zSlV szCoord byCoord zCoord szSlC zSlC szFrame zFrame szCBld byCBld zCBld szCVec byCVec zCVec szPoly byPoly zPoly szTerm zTerm szPtrB zPtrB szFnC zFnC
attribute [-bool_to_prop] Bool.and_eq_decide Bool.or_eq_decide Bool.decide_beq_decide decide_eq_decide
/-! ### sizes of what a step computes -/
theorem PK.sub {p q : Po} {j k e : Nat} (hp : PK p j e) (hq : PK q k e) : PK (subM p q) (j + k + 1) e := hp.add hq.neg
theorem PK.scl {p : Po} {j k e : Nat} {a : Rat} (hp : PK p j e) (ha : Sz a k) : PK (sclM a p) (j + k) e := by
  unfold sclM; split
  · exact .nil
  · exact hp.scale ha
theorem PK.mulV {p : Po} {j e v : Nat} (hp : PK p j e) : PK (mlM p (varM v)) (j + 1) (e + 1) := by
  rw [mul_var]; split
  · refine hp.times (t := (1, unitM v)) fun u hu => ?_
    rw [List.mem_singleton] at hu
    subst hu
    have h := varM_pk v (1, unitM v) (by unfold varM; rw [if_pos (by assumption)]; exact .head _)
    exact h
  · exact .nil
theorem scl_srt {a : Rat} {p : Po} (h : SrtM p) : SrtM (sclM a p) := by
  unfold sclM; split
  · exact .nil
  · exact scale_srt h ‹_›
theorem scl_len (a : Rat) (p : Po) : (sclM a p).length ≤ p.length := by
  unfold sclM; split
  · simp
  · rw [scale_len]; exact Nat.le_refl _
theorem mulV_len (p : Po) (v : Nat) : (mlM p (varM v)).length ≤ p.length := by
  rw [mul_var]; split
  · rw [timesP_len]; exact Nat.le_refl _
  · simp
theorem sub_len (p q : Po) : (subM p q).length ≤ p.length + q.length := by
  have := addP_len (lt := ltM) p (scaleP (-1) q)
  rw [scale_len] at this; exact this
/-- A coordinate of a frame in order. -/
structure Co (p : Po) : Prop where
  pk : PK p 110 1
  st : SrtM p
  ln : p.length ≤ 4000
/-- A step in order. -/
structure StOk (cs : List (Po × Po)) (s : RS) : Prop where
  k0 : 0 ≤ arS s.k
  al : (s.ar.length : Int) = arS s.k
  ai : ∀ k, k < s.ar.length → 0 ≤ gI s.ar k ∧ gI s.ar k < (cs.length : Int)
  r2 : s.k = 2 → s.r.ok = true
  rl : s.r.lm 2
set_option maxHeartbeats 8000000 in
theorem cbStep1 (σ : Mem) (KB KC KV g : Nat) (svC svV : Value) (cs : List (Po × Po)) (vs : List Vt) (fr : Nat) (i : Nat) (s : RS) (hB : σ KB = some (.box g 105 [.own KC svC, .own KV svV, iv fr] false)) (hV : σ KV = some (.row svV 56 3 (vs.map Vt.av) 0)) (hC : σ KC = some (.row svC 72 2 (cs.map coA) 0)) (hBV : KB ≠ KV) (hBC : KB ≠ KC) (hVC : KV ≠ KC) (hl : vs.length ≤ 64) (hf : fr ≤ 100) (hk : s.k = 1) : ACall Tryz.prog 52 [.pbox KB g 0, s.av, iv i] σ fun r σ' => ∃ sv, r = coA (FS.nxt ⟨cs, vs, fr⟩ i s).2 ∧
      σ' = upd (upd σ KV (some (.row sv 56 3 ((vs ++ (FS.nxt ⟨cs, vs, fr⟩ i s).1).map Vt.av) 0))) KB (some (.box g 105 [.own KC svC, .own KV sv, iv (if s.k = 1 then fr + 1 else fr : Nat)] false)) := by
  have mB := lents_at hB
  have mV := lents_at hV
  have mC := lents_at hC
  simp only [Ent.sh, AV.shL, AV.sh] at mB mV mC
  have en : FS.nxt ⟨cs, vs, fr⟩ i s = ((if fr = 0 then [] else if fr = 1 then [(1, (i : Int), 0)] else [(1, (i : Int), 0), (1, (i : Int), 1)]), (if fr = 0 then ([], []) else if fr = 1 then (varM vs.length, []) else (varM vs.length, varM (vs.length + 1)))) := by
    unfold FS.nxt; simp only; rw [if_pos hk]; split
    · rfl
    · split <;> rfl
  rw [en]
  simp only [if_pos hk]
  generalize hnv : (if fr = 0 then [] else if fr = 1 then [((1 : Int), (i : Int), (0 : Int))] else [(1, (i : Int), 0), (1, (i : Int), 1)]) = nv at *
  generalize hnc : (if fr = 0 then (([] : Po), ([] : Po)) else if fr = 1 then (varM vs.length, []) else (varM vs.length, varM (vs.length + 1))) = nc at *
  obtain ⟨k, nm, ar, r, rl, rd⟩ := s
  simp only at hk
  subst hk
  refine acall_lents Tryz.func52 rfl Tryz.ntmps52 Tryz.results52 Tryz.call52 (by rfl) (by simp) ?_
  (focus (refine wkad (w_a mB (w_a mV (w_a mC (w_a @lents_lt w_t)))) w_t w_t ?_; (repeat' first | exact w_t | apply w_l); all_goals intros))
  refine o_fresh ((cbPoint _ (KB + 1000) (KC + 1000) (KV + 1000) g svC svV vs fr i (by (simp (disch := omega) only [go_sem, mB, mV, if_neg, if_pos] <;> repeat' first | rfl | refine ⟨?_, ?_⟩)) (by (simp (disch := omega) only [go_sem, mB, mV, if_neg, if_pos] <;> repeat' first | rfl | refine ⟨?_, ?_⟩)) (by omega) (by omega) (by omega))) ?_
  rw [hnv, hnc]
  intro sv1
  obtain ⟨n1, n2⟩ := nc
  (focus (refine wkad (w_a mB (w_a mV (w_a mC (w_a @lents_lt w_t)))) w_t w_t ?_; (repeat' first | exact w_t | apply w_l); all_goals intros))
  simp (disch := omega) only [go_sem]
  refine backS (Sub.refl _) ⟨sv1, rfl, rfl⟩ ?_
  intro k
  by_cases hk1 : k = KB
  · rw [hk1]
    simp (disch := omega) only [upd_at, if_pos, if_neg, Option.map_some, Ent.sh, AV.shL, AV.sh]
    try rfl
  · by_cases hk2 : k = KV
    · rw [hk2]
      simp (disch := omega) only [upd_at, if_pos, if_neg, Option.map_some, Ent.sh, AV.shL, AV.sh]
      try rfl
    · simp (disch := omega) only [upd_at, if_neg]
      exact Agr.start σ k

set_option maxHeartbeats 8000000 in
theorem cbStep6 (σ : Mem) (KB KC KV g : Nat) (svC svV : Value) (cs : List (Po × Po)) (vs : List Vt) (fr : Nat) (i : Nat) (s : RS) (hB : σ KB = some (.box g 105 [.own KC svC, .own KV svV, iv fr] false)) (hV : σ KV = some (.row svV 56 3 (vs.map Vt.av) 0)) (hC : σ KC = some (.row svC 72 2 (cs.map coA) 0)) (hBV : KB ≠ KV) (hBC : KB ≠ KC) (hVC : KV ≠ KC) (hl : vs.length ≤ 64) (hf : fr ≤ 100) (hk : s.k = 6) : ACall Tryz.prog 52 [.pbox KB g 0, s.av, iv i] σ fun r σ' => ∃ sv, r = coA (FS.nxt ⟨cs, vs, fr⟩ i s).2 ∧
      σ' = upd (upd σ KV (some (.row sv 56 3 ((vs ++ (FS.nxt ⟨cs, vs, fr⟩ i s).1).map Vt.av) 0))) KB (some (.box g 105 [.own KC svC, .own KV sv, iv (if s.k = 1 then fr + 1 else fr : Nat)] false)) := by
  have mB := lents_at hB
  have mV := lents_at hV
  have mC := lents_at hC
  simp only [Ent.sh, AV.shL, AV.sh] at mB mV mC
  have en : FS.nxt ⟨cs, vs, fr⟩ i s = ([(1, (i : Int), 0), (2, (i : Int), 1), (2, (i : Int), 2)], (varM (vs.length + 1), varM (vs.length + 2))) := by
    unfold FS.nxt; simp only [hk]; rfl
  rw [en]
  simp only [if_neg (show ¬ s.k = 1 by omega)]
  have hl1 : (vs ++ [((1 : Int), (i : Int), (0 : Int))]).length = vs.length + 1 := by simp
  obtain ⟨k, nm, ar, r, rl, rd⟩ := s
  simp only at hk
  subst hk
  refine acall_lents Tryz.func52 rfl Tryz.ntmps52 Tryz.results52 Tryz.call52 (by rfl) (by simp) ?_
  (focus (refine wkad (w_a mB (w_a mV (w_a mC (w_a @lents_lt w_t)))) w_t w_t ?_; (repeat' first | exact w_t | apply w_l); all_goals intros))
  refine o_fresh ((cbVariable _ (KB + 1000) (KC + 1000) (KV + 1000) g svC svV vs fr 1 (i : Int) 0 (by (simp (disch := omega) only [go_sem, mB, mV, if_neg, if_pos] <;> repeat' first | rfl | refine ⟨?_, ?_⟩)) (by (simp (disch := omega) only [go_sem, mB, mV, if_neg, if_pos] <;> repeat' first | rfl | refine ⟨?_, ?_⟩)) (by omega) (by omega))) ?_
  intro sv1
  (focus (refine wkad (w_a mB (w_a mV (w_a mC (w_a @lents_lt w_t)))) w_t w_t ?_; (repeat' first | exact w_t | apply w_l); all_goals intros))
  refine o_fresh ((cbDep _ (KB + 1000) (KC + 1000) (KV + 1000) g svC sv1 (vs ++ [(1, (i : Int), 0)]) fr i 1 (by (simp (disch := omega) only [go_sem, mB, mV, if_neg, if_pos] <;> repeat' first | rfl | refine ⟨?_, ?_⟩)) (by (simp (disch := omega) only [go_sem, mB, mV, if_neg, if_pos, List.map_append, List.map_cons, List.map_nil] <;> repeat' first | rfl | refine ⟨?_, ?_⟩)) (by rw [hl1]; omega) (by omega) (by omega))) ?_
  intro sv2
  rw [hl1]
  (focus (refine wkad (w_a mB (w_a mV (w_a mC (w_a @lents_lt w_t)))) w_t w_t ?_; (repeat' first | exact w_t | apply w_l); all_goals intros))
  simp (disch := omega) only [go_sem]
  refine backS (Sub.refl _) ⟨sv2, rfl, rfl⟩ ?_
  simp only [List.append_assoc, List.cons_append, List.nil_append]
  intro k
  by_cases hk1 : k = KB
  · rw [hk1]
    simp (disch := omega) only [upd_at, if_pos, if_neg, Option.map_some, Ent.sh, AV.shL, AV.sh]
    try rfl
  · by_cases hk2 : k = KV
    · rw [hk2]
      simp (disch := omega) only [upd_at, if_pos, if_neg, Option.map_some, Ent.sh, AV.shL, AV.sh]
      try rfl
    · simp (disch := omega) only [upd_at, if_neg]
      exact Agr.start σ k

set_option maxHeartbeats 8000000 in
theorem cbStep7 (σ : Mem) (KB KC KV g : Nat) (svC svV : Value) (cs : List (Po × Po)) (vs : List Vt) (fr : Nat) (i : Nat) (s : RS) (hB : σ KB = some (.box g 105 [.own KC svC, .own KV svV, iv fr] false)) (hV : σ KV = some (.row svV 56 3 (vs.map Vt.av) 0)) (hC : σ KC = some (.row svC 72 2 (cs.map coA) 0)) (hBV : KB ≠ KV) (hBC : KB ≠ KC) (hVC : KV ≠ KC) (hl : vs.length ≤ 64) (hf : fr ≤ 100) (hk : s.k ≠ 1 ∧ s.k ≠ 2 ∧ s.k ≠ 3 ∧ s.k ≠ 4 ∧ s.k ≠ 5 ∧ s.k ≠ 6) : ACall Tryz.prog 52 [.pbox KB g 0, s.av, iv i] σ fun r σ' => ∃ sv, r = coA (FS.nxt ⟨cs, vs, fr⟩ i s).2 ∧
      σ' = upd (upd σ KV (some (.row sv 56 3 ((vs ++ (FS.nxt ⟨cs, vs, fr⟩ i s).1).map Vt.av) 0))) KB (some (.box g 105 [.own KC svC, .own KV sv, iv (if s.k = 1 then fr + 1 else fr : Nat)] false)) := by
  have mB := lents_at hB
  have mV := lents_at hV
  have mC := lents_at hC
  simp only [Ent.sh, AV.shL, AV.sh] at mB mV mC
  have en : FS.nxt ⟨cs, vs, fr⟩ i s = ([(2, (i : Int), 0), (2, (i : Int), 1)], (varM vs.length, varM (vs.length + 1))) := by
    unfold FS.nxt; simp only; rw [if_neg hk.1, if_neg hk.2.1, if_neg hk.2.2.1, if_neg hk.2.2.2.1, if_neg hk.2.2.2.2.1, if_neg hk.2.2.2.2.2]
  rw [en]
  simp only [if_neg hk.1]
  obtain ⟨k, nm, ar, r, rl, rd⟩ := s
  simp only at hk
  obtain ⟨k1, k2, k3, k4, k5, k6⟩ := hk
  refine acall_lents Tryz.func52 rfl Tryz.ntmps52 Tryz.results52 Tryz.call52 (by rfl) (by simp) ?_
  (focus (refine wkad (w_a mB (w_a mV (w_a mC (w_a @lents_lt w_t)))) w_t w_t ?_; (repeat' first | exact w_t | apply w_l); all_goals intros))
  refine o_fresh ((cbDep _ (KB + 1000) (KC + 1000) (KV + 1000) g svC svV vs fr i 0 (by (simp (disch := omega) only [go_sem, mB, mV, if_neg, if_pos] <;> repeat' first | rfl | refine ⟨?_, ?_⟩)) (by (simp (disch := omega) only [go_sem, mB, mV, if_neg, if_pos] <;> repeat' first | rfl | refine ⟨?_, ?_⟩)) (by omega) (by omega) (by omega))) ?_
  intro sv2
  (focus (refine wkad (w_a mB (w_a mV (w_a mC (w_a @lents_lt w_t)))) w_t w_t ?_; (repeat' first | exact w_t | apply w_l); all_goals intros))
  simp (disch := omega) only [go_sem]
  refine backS (Sub.refl _) ⟨sv2, rfl, rfl⟩ ?_
  simp only [Int.zero_add]
  intro k
  by_cases hk1 : k = KB
  · rw [hk1]
    simp (disch := omega) only [upd_at, if_pos, if_neg, Option.map_some, Ent.sh, AV.shL, AV.sh]
    try rfl
  · by_cases hk2 : k = KV
    · rw [hk2]
      simp (disch := omega) only [upd_at, if_pos, if_neg, Option.map_some, Ent.sh, AV.shL, AV.sh]
      try rfl
    · simp (disch := omega) only [upd_at, if_neg]
      exact Agr.start σ k

end Go.Proofs.YtbgmnobnaplmlaaGreat
end

section
namespace Go.Proofs.YtbgmnobnaplmlaaGreat
open Go Go.RowKit Go.Pg Go.Pol
set_option linter.unusedSimpArgs false
set_option linter.unusedVariables false
set_option maxRecDepth 20000
attribute [local go_sem] Tryz.underlying3 Tryz.underlying4 Tryz.underlying178 Tryz.underlying9 Tryz.underlying48 Tryz.underlying31 Tryz.underlying43 Tryz.underlying41 Tryz.underlying39 Tryz.underlying50 Tryz.underlying22 Tryz.underlying25 Tryz.underlying56 Tryz.underlying28 Tryz.underlying72 Tryz.underlying27 Tryz.underlying30 Tryz.underlying105 Tryz.underlying107 Tryz.underlying70 Tryz.underlying63 Tryz.underlying103 Tryz.underlying154 sz3 by3 z3 szB zB szErr zErr szStr byStr zStr szRat zRat szInt zInt szNat zNat szStep byStep zStep szFig zFig szSlI zSlI szSlS zSlS szVar byVar zVar szSlV zSlV szCoord byCoord zCoord szSlC zSlC szFrame zFrame szCBld byCBld zCBld szCVec byCVec zCVec szPoly byPoly zPoly szTerm zTerm szPtrB zPtrB szFnC zFnC
attribute [-bool_to_prop] Bool.and_eq_decide Bool.or_eq_decide Bool.decide_beq_decide decide_eq_decide
set_option maxHeartbeats 8000000 in
theorem cbStep2 (σ : Mem) (KB KC KV g : Nat) (svC svV : Value) (cs : List (Po × Po)) (vs : List Vt) (fr : Nat) (i : Nat) (s : RS) (hB : σ KB = some (.box g 105 [.own KC svC, .own KV svV, iv fr] false)) (hV : σ KV = some (.row svV 56 3 (vs.map Vt.av) 0)) (hC : σ KC = some (.row svC 72 2 (cs.map coA) 0)) (hBV : KB ≠ KV) (hBC : KB ≠ KC) (hVC : KV ≠ KC) (hl : vs.length ≤ 64) (hf : fr ≤ 100) (hok : StOk cs s) (hco : ∀ c ∈ cs, Co c.1 ∧ Co c.2) (hk : s.k = 2) : ACall Tryz.prog 52 [.pbox KB g 0, s.av, iv i] σ fun r σ' => ∃ sv, r = coA (FS.nxt ⟨cs, vs, fr⟩ i s).2 ∧
      σ' = upd (upd σ KV (some (.row sv 56 3 ((vs ++ (FS.nxt ⟨cs, vs, fr⟩ i s).1).map Vt.av) 0))) KB (some (.box g 105 [.own KC svC, .own KV sv, iv (if s.k = 1 then fr + 1 else fr : Nat)] false)) := by
  have mB := lents_at hB
  have mV := lents_at hV
  have mC := lents_at hC
  simp only [Ent.sh, AV.shL, AV.sh] at mB mV mC
  have har : arS s.k = 2 := by rw [hk]; rfl
  have hal := hok.al
  have h0 := hok.ai 0 (by omega)
  obtain ⟨a1, a2⟩ : Co (cs.getD (gI s.ar 0).toNat ([], [])).1 ∧ Co (cs.getD (gI s.ar 0).toNat ([], [])).2 := hco _ (getD_mem (by omega))
  have h1 := hok.ai 1 (by omega)
  obtain ⟨b1, b2⟩ : Co (cs.getD (gI s.ar 1).toNat ([], [])).1 ∧ Co (cs.getD (gI s.ar 1).toNat ([], [])).2 := hco _ (getD_mem (by omega))
  have en : FS.nxt ⟨cs, vs, fr⟩ i s = ([], (addM (cs.getD (gI s.ar 0).toNat ([], [])).1 (sclM s.r.q (subM (cs.getD (gI s.ar 1).toNat ([], [])).1 (cs.getD (gI s.ar 0).toNat ([], [])).1)), addM (cs.getD (gI s.ar 0).toNat ([], [])).2 (sclM s.r.q (subM (cs.getD (gI s.ar 1).toNat ([], [])).2 (cs.getD (gI s.ar 0).toNat ([], [])).2)))) := by
    unfold FS.nxt; simp only [hk]; rfl
  rw [en]
  simp only [if_neg (show ¬ s.k = 1 by omega)]
  clear en
  generalize ha : cs.getD (gI s.ar 0).toNat ([], []) = a at *
  generalize hb : cs.getD (gI s.ar 1).toNat ([], []) = b at *
  have ro := hok.r2 hk
  have zr := (RQ.ok_av hok.rl ro).2
  have s1 := poSub b.1 a.1 b1.pk a1.pk b1.st a1.st (by have := b1.ln; omega) (by have := a1.ln; omega) (by omega) (by omega) (by omega)
  have s2 := poSub b.2 a.2 b2.pk a2.pk b2.st a2.st (by have := b2.ln; omega) (by have := a2.ln; omega) (by omega) (by omega) (by omega)
  have d1 := b1.pk.sub a1.pk
  have d2 := b2.pk.sub a2.pk
  have t1 := sub_srt ordM b1.st a1.st
  have t2 := sub_srt ordM b2.st a2.st
  have l1 := sub_len b.1 a.1
  have l2 := sub_len b.2 a.2
  have n1 := a1.ln
  have n2 := a2.ln
  have n3 := b1.ln
  have n4 := b2.ln
  have c1 := poScale (subM b.1 a.1) s.r.q d1 zr t1 (by omega) (by omega) (by omega) (by omega)
  have c2 := poScale (subM b.2 a.2) s.r.q d2 zr t2 (by omega) (by omega) (by omega) (by omega)
  have e1 := poAdd a.1 (sclM s.r.q (subM b.1 a.1)) a1.pk (d1.scl zr) a1.st (scl_srt t1) (by omega) (by have := scl_len s.r.q (subM b.1 a.1); omega) (by omega) (by omega) (by omega)
  have e2 := poAdd a.2 (sclM s.r.q (subM b.2 a.2)) a2.pk (d2.scl zr) a2.st (scl_srt t2) (by omega) (by have := scl_len s.r.q (subM b.2 a.2); omega) (by omega) (by omega) (by omega)
  have re := RQ.ok_eq hok.rl ro
  obtain ⟨k, nm, ar, r⟩ := s
  simp only at *
  subst hk
  generalize hq : r.q = q at *
  rw [re]
  have al := fun g3 g4 g7 => cbAlongS 3 4 7 (KB + 1000) (KC + 1000) (KV + 1000) g3 g4 g7 g svC svV fr 2 nm ar q cs a b (sclM q (subM b.1 a.1), sclM q (subM b.2 a.2)) (addM a.1 (sclM q (subM b.1 a.1)), addM a.2 (sclM q (subM b.2 a.2))) (by omega) h0 h1 ha hb s1 s2 c1 c2 e1 e2
  clear s1 s2 c1 c2 e1 e2 d1 d2 t1 t2 l1 l2 a1 a2 b1 b2 hco hok re ro zr hq n1 n2 n3 n4
  generalize addM a.1 (sclM q (subM b.1 a.1)) = x1 at *
  generalize addM a.2 (sclM q (subM b.2 a.2)) = x2 at *
  refine acall_lents Tryz.func52 rfl Tryz.ntmps52 Tryz.results52 Tryz.call52 (by rfl) (by simp) ?_
  (focus (refine wkad (w_a mB (w_a mV (w_a mC (w_a @lents_lt w_t)))) w_t w_t ?_; (repeat' first | exact w_t | apply w_l); all_goals intros))
  rename_i g3 g4 g6 g7
  have al := al g3 g4 g7
  (focus (refine wkax (w_a mB (w_a mV (w_a mC (w_a @lents_lt (w_a @atL_def w_t))))) w_t w_t w_t w_t (w_a al w_t) (w_r 0) ?_; (repeat' first | exact w_t | apply w_l); all_goals intros))
  simp (disch := omega) only [go_sem]
  refine backS (Sub.refl _) ⟨svV, rfl, rfl⟩ ?_
  rw [upd_same' hV, upd_same' hB]
  (repeat' (first | exact Agr.start _ | (refine Agr.own ?_ (by omega))))
set_option maxHeartbeats 8000000 in
theorem cbStep3 (σ : Mem) (KB KC KV g : Nat) (svC svV : Value) (cs : List (Po × Po)) (vs : List Vt) (fr : Nat) (i : Nat) (s : RS) (hB : σ KB = some (.box g 105 [.own KC svC, .own KV svV, iv fr] false)) (hV : σ KV = some (.row svV 56 3 (vs.map Vt.av) 0)) (hC : σ KC = some (.row svC 72 2 (cs.map coA) 0)) (hBV : KB ≠ KV) (hBC : KB ≠ KC) (hVC : KV ≠ KC) (hl : vs.length ≤ 64) (hf : fr ≤ 100) (hok : StOk cs s) (hco : ∀ c ∈ cs, Co c.1 ∧ Co c.2) (hk : s.k = 3) : ACall Tryz.prog 52 [.pbox KB g 0, s.av, iv i] σ fun r σ' => ∃ sv, r = coA (FS.nxt ⟨cs, vs, fr⟩ i s).2 ∧
      σ' = upd (upd σ KV (some (.row sv 56 3 ((vs ++ (FS.nxt ⟨cs, vs, fr⟩ i s).1).map Vt.av) 0))) KB (some (.box g 105 [.own KC svC, .own KV sv, iv (if s.k = 1 then fr + 1 else fr : Nat)] false)) := by
  have mB := lents_at hB
  have mV := lents_at hV
  have mC := lents_at hC
  simp only [Ent.sh, AV.shL, AV.sh] at mB mV mC
  have har : arS s.k = 3 := by rw [hk]; rfl
  have hal := hok.al
  have h0 := hok.ai 0 (by omega)
  obtain ⟨a1, a2⟩ : Co (cs.getD (gI s.ar 0).toNat ([], [])).1 ∧ Co (cs.getD (gI s.ar 0).toNat ([], [])).2 := hco _ (getD_mem (by omega))
  have h1 := hok.ai 1 (by omega)
  obtain ⟨b1, b2⟩ : Co (cs.getD (gI s.ar 1).toNat ([], [])).1 ∧ Co (cs.getD (gI s.ar 1).toNat ([], [])).2 := hco _ (getD_mem (by omega))
  have h2 := hok.ai 2 (by omega)
  obtain ⟨c1, c2⟩ : Co (cs.getD (gI s.ar 2).toNat ([], [])).1 ∧ Co (cs.getD (gI s.ar 2).toNat ([], [])).2 := hco _ (getD_mem (by omega))
  have en : FS.nxt ⟨cs, vs, fr⟩ i s = ([], (addM (cs.getD (gI s.ar 0).toNat ([], [])).1 (subM (cs.getD (gI s.ar 2).toNat ([], [])).1 (cs.getD (gI s.ar 1).toNat ([], [])).1), addM (cs.getD (gI s.ar 0).toNat ([], [])).2 (subM (cs.getD (gI s.ar 2).toNat ([], [])).2 (cs.getD (gI s.ar 1).toNat ([], [])).2))) := by
    unfold FS.nxt; simp only [hk]; rfl
  rw [en]
  simp only [if_neg (show ¬ s.k = 1 by omega)]
  clear en
  generalize ha : cs.getD (gI s.ar 0).toNat ([], []) = a at *
  generalize hb : cs.getD (gI s.ar 1).toNat ([], []) = b at *
  generalize hc : cs.getD (gI s.ar 2).toNat ([], []) = c at *
  have n1 := a1.ln
  have n2 := a2.ln
  have n3 := b1.ln
  have n4 := b2.ln
  have n5 := c1.ln
  have n6 := c2.ln
  have s1 := poSub c.1 b.1 c1.pk b1.pk c1.st b1.st (by omega) (by omega) (by omega) (by omega) (by omega)
  have s2 := poSub c.2 b.2 c2.pk b2.pk c2.st b2.st (by omega) (by omega) (by omega) (by omega) (by omega)
  have l1 := sub_len c.1 b.1
  have l2 := sub_len c.2 b.2
  have e1 := poAdd a.1 (subM c.1 b.1) a1.pk (c1.pk.sub b1.pk) a1.st (sub_srt ordM c1.st b1.st) (by omega) (by omega) (by omega) (by omega) (by omega)
  have e2 := poAdd a.2 (subM c.2 b.2) a2.pk (c2.pk.sub b2.pk) a2.st (sub_srt ordM c2.st b2.st) (by omega) (by omega) (by omega) (by omega) (by omega)
  have cB := coBetween b c s1 s2
  have oa := coOf a
  have cC := coCombine 106 a (subM c.1 b.1, subM c.2 b.2) (addM a.1 (subM c.1 b.1), addM a.2 (subM c.2 b.2)) e1 e2
  obtain ⟨k, nm, ar, ⟨rs, rl, rd⟩⟩ := s
  simp only at *
  subst hk
  have t0 := fun g3 g4 => cbAt 3 4 (KB + 1000) (KC + 1000) (KV + 1000) g3 g4 g svC svV fr 3 nm ar (.v (.bool rs)) (lim rl) (lim rd) cs 0 ⟨rfl, rfl, rfl⟩ (by omega) h0
  have t1 := fun g3 g4 => cbAt 3 4 (KB + 1000) (KC + 1000) (KV + 1000) g3 g4 g svC svV fr 3 nm ar (.v (.bool rs)) (lim rl) (lim rd) cs 1 ⟨rfl, rfl, rfl⟩ (by omega) h1
  have t2 := fun g3 g4 => cbAt 3 4 (KB + 1000) (KC + 1000) (KV + 1000) g3 g4 g svC svV fr 3 nm ar (.v (.bool rs)) (lim rl) (lim rd) cs 2 ⟨rfl, rfl, rfl⟩ (by omega) h2
  rw [ha] at t0
  rw [hb] at t1
  rw [hc] at t2
  clear s1 s2 e1 e2 l1 l2 a1 a2 b1 b2 c1 c2 hco hok n1 n2 n3 n4 n5 n6 ha hb hc
  generalize addM a.1 (subM c.1 b.1) = x1 at *
  generalize addM a.2 (subM c.2 b.2) = x2 at *
  generalize subM c.1 b.1 = y1 at *
  generalize subM c.2 b.2 = y2 at *
  obtain ⟨aa, ab⟩ := a
  obtain ⟨ba, bb⟩ := b
  obtain ⟨ca, cb⟩ := c
  refine acall_lents Tryz.func52 rfl Tryz.ntmps52 Tryz.results52 Tryz.call52 (by rfl) (by simp) ?_
  (repeat' (first | (with_reducible first | refine stp ?_ | apply gx1 | apply gx2 | apply gx3 | apply gx4 | apply gx5 | apply gx6 | apply gx7 | apply gy8 | apply gz2 | apply gz3 | refine gwr (t0 _ _) ?_ ?_ | refine gwr (t1 _ _) ?_ ?_ | refine gwr (t2 _ _) ?_ ?_ | refine gw0 (oa) ?_ ?_ | refine gw3 (oa) ?_ ?_ ?_ | refine gw0 (cB) ?_ ?_ | refine gw3 (cB) ?_ ?_ ?_ | refine gw0 (cC) ?_ ?_ | refine gw3 (cC) ?_ ?_ ?_) | ((with_reducible apply gyr (t2 _ _)); (focus rfl); (focus rfl); iterate 3 focus ((with_reducible refine gE ?_); (try simp (disch := omega) only [go_sem, mB, mV, mC, lents_lt, lents_beq, atL_def, decide_eq_true, decide_eq_false, if_pos, if_neg, Int.reduceAdd, Int.reduceSub, Int.reduceToNat, Int.zero_add]) <;> first | rfl | done)) | ((with_reducible apply gyr (t1 _ _)); (focus rfl); (focus rfl); iterate 3 focus ((with_reducible refine gE ?_); (try simp (disch := omega) only [go_sem, mB, mV, mC, lents_lt, lents_beq, atL_def, decide_eq_true, decide_eq_false, if_pos, if_neg, Int.reduceAdd, Int.reduceSub, Int.reduceToNat, Int.zero_add]) <;> first | rfl | done)) | ((with_reducible apply gyr (t0 _ _)); (focus rfl); (focus rfl); iterate 3 focus ((with_reducible refine gE ?_); (try simp (disch := omega) only [go_sem, mB, mV, mC, lents_lt, lents_beq, atL_def, decide_eq_true, decide_eq_false, if_pos, if_neg, Int.reduceAdd, Int.reduceSub, Int.reduceToNat, Int.zero_add]) <;> first | rfl | done)) | (with_reducible refine all_v ?_; intro _) | ((with_reducible refine gE ?_); (try simp (disch := omega) only [go_sem, mB, mV, mC, lents_lt, lents_beq, atL_def, decide_eq_true, decide_eq_false, if_pos, if_neg, Int.reduceAdd, Int.reduceSub, Int.reduceToNat, Int.zero_add]) <;> first | rfl | omega) | with_reducible refine t_in_other (by decide) ?_ | ((with_reducible apply gy1); iterate 3 focus rfl) | ((with_reducible apply gy2); iterate 3 focus rfl) | ((with_reducible apply gy3); iterate 2 focus rfl) | ((with_reducible apply gy4); iterate 1 focus rfl) | ((with_reducible apply gy5); iterate 4 focus rfl) | ((with_reducible apply gy6); iterate 4 focus rfl) | ((with_reducible apply d_bar); iterate 3 focus rfl) | ((with_reducible apply q_pub); iterate 1 focus rfl) | ((with_reducible apply gy7); iterate 1 focus rfl) | ((with_reducible apply gy9); (focus ((with_reducible refine gE ?_); (try simp (disch := omega) only [go_sem, mB, mV, mC, lents_lt, lents_beq, atL_def, decide_eq_true, decide_eq_false, if_pos, if_neg, Int.reduceAdd, Int.reduceSub, Int.reduceToNat, Int.zero_add]) <;> rfl))) | ((with_reducible apply gz1); (focus first | rfl | (simp (disch := omega) only [go_sem, mB, mV, mC, lents_lt, lents_beq, atL_def, decide_eq_true, decide_eq_false, if_pos, if_neg, Int.reduceAdd, Int.reduceSub, Int.reduceToNat, Int.zero_add]; done))) | ((with_reducible apply r_drawD (id := 9) (pickR [(1, coA (aa, ab)), (2, coA (aa, ab)), (4, coA (ba, bb)), (6, coA (ca, cb)), (7, coA (y1, y2)), (8, coA (x1, x2))]) [] [6]); (focus kernel_rfl); (focus rfl); (focus kernel_rfl); (focus (simp only [List.length_cons, List.length_nil, Nat.reduceAdd]; rfl))) | ((with_reducible first | apply og_split | apply dg_split | apply cg_split); all_goals (intro hc; (try simp only [bool_to_prop] at hc); try (exfalso; omega)))))
  simp (disch := omega) only [go_sem]
  refine backS (Sub.refl _) ⟨svV, rfl, rfl⟩ ?_
  rw [upd_same' hV, upd_same' hB]
  (repeat' (first | exact Agr.start _ | (refine Agr.own ?_ (by omega))))
set_option maxHeartbeats 8000000 in
theorem cbStep4 (σ : Mem) (KB KC KV g : Nat) (svC svV : Value) (cs : List (Po × Po)) (vs : List Vt) (fr : Nat) (i : Nat) (s : RS) (hB : σ KB = some (.box g 105 [.own KC svC, .own KV svV, iv fr] false)) (hV : σ KV = some (.row svV 56 3 (vs.map Vt.av) 0)) (hC : σ KC = some (.row svC 72 2 (cs.map coA) 0)) (hBV : KB ≠ KV) (hBC : KB ≠ KC) (hVC : KV ≠ KC) (hl : vs.length ≤ 64) (hf : fr ≤ 100) (hok : StOk cs s) (hco : ∀ c ∈ cs, Co c.1 ∧ Co c.2) (hk : s.k = 4) : ACall Tryz.prog 52 [.pbox KB g 0, s.av, iv i] σ fun r σ' => ∃ sv, r = coA (FS.nxt ⟨cs, vs, fr⟩ i s).2 ∧
      σ' = upd (upd σ KV (some (.row sv 56 3 ((vs ++ (FS.nxt ⟨cs, vs, fr⟩ i s).1).map Vt.av) 0))) KB (some (.box g 105 [.own KC svC, .own KV sv, iv (if s.k = 1 then fr + 1 else fr : Nat)] false)) := by
  have mB := lents_at hB
  have mV := lents_at hV
  have mC := lents_at hC
  simp only [Ent.sh, AV.shL, AV.sh] at mB mV mC
  have har : arS s.k = 3 := by rw [hk]; rfl
  have hal := hok.al
  have h0 := hok.ai 0 (by omega)
  obtain ⟨a1, a2⟩ : Co (cs.getD (gI s.ar 0).toNat ([], [])).1 ∧ Co (cs.getD (gI s.ar 0).toNat ([], [])).2 := hco _ (getD_mem (by omega))
  have h1 := hok.ai 1 (by omega)
  obtain ⟨b1, b2⟩ : Co (cs.getD (gI s.ar 1).toNat ([], [])).1 ∧ Co (cs.getD (gI s.ar 1).toNat ([], [])).2 := hco _ (getD_mem (by omega))
  have h2 := hok.ai 2 (by omega)
  obtain ⟨c1, c2⟩ : Co (cs.getD (gI s.ar 2).toNat ([], [])).1 ∧ Co (cs.getD (gI s.ar 2).toNat ([], [])).2 := hco _ (getD_mem (by omega))
  have en : FS.nxt ⟨cs, vs, fr⟩ i s = ([], (addM (cs.getD (gI s.ar 0).toNat ([], [])).1 (subM (cs.getD (gI s.ar 1).toNat ([], [])).2 (cs.getD (gI s.ar 2).toNat ([], [])).2), addM (cs.getD (gI s.ar 0).toNat ([], [])).2 (subM (cs.getD (gI s.ar 2).toNat ([], [])).1 (cs.getD (gI s.ar 1).toNat ([], [])).1))) := by
    unfold FS.nxt; simp only [hk]; rfl
  rw [en]
  simp only [if_neg (show ¬ s.k = 1 by omega)]
  clear en
  generalize ha : cs.getD (gI s.ar 0).toNat ([], []) = a at *
  generalize hb : cs.getD (gI s.ar 1).toNat ([], []) = b at *
  generalize hc : cs.getD (gI s.ar 2).toNat ([], []) = c at *
  have n1 := a1.ln
  have n2 := a2.ln
  have n3 := b1.ln
  have n4 := b2.ln
  have n5 := c1.ln
  have n6 := c2.ln
  have s1 := poSub c.1 b.1 c1.pk b1.pk c1.st b1.st (by omega) (by omega) (by omega) (by omega) (by omega)
  have s2 := poSub c.2 b.2 c2.pk b2.pk c2.st b2.st (by omega) (by omega) (by omega) (by omega) (by omega)
  have l1 := sub_len c.1 b.1
  have l2 := sub_len c.2 b.2
  have l3 := sub_len b.2 c.2
  have hn := poNeg (subM c.2 b.2) (c2.pk.sub b2.pk) (sub_srt ordM c2.st b2.st) (by omega) (by omega) (by omega)
  rw [show scaleP (-1) (subM c.2 b.2) = subM b.2 c.2 from neg_sub ordM c2.st b2.st] at hn
  have e1 := poAdd a.1 (subM b.2 c.2) a1.pk (b2.pk.sub c2.pk) a1.st (sub_srt ordM b2.st c2.st) (by omega) (by omega) (by omega) (by omega) (by omega)
  have e2 := poAdd a.2 (subM c.1 b.1) a2.pk (c1.pk.sub b1.pk) a2.st (sub_srt ordM c1.st b1.st) (by omega) (by omega) (by omega) (by omega) (by omega)
  have cB := coBetween b c s1 s2
  have oa := coOf a
  have cC := coCombine 106 a (subM b.2 c.2, subM c.1 b.1) (addM a.1 (subM b.2 c.2), addM a.2 (subM c.1 b.1)) e1 e2
  obtain ⟨k, nm, ar, ⟨rs, rl, rd⟩⟩ := s
  simp only at *
  subst hk
  have t0 := fun g3 g4 => cbAt 3 4 (KB + 1000) (KC + 1000) (KV + 1000) g3 g4 g svC svV fr 4 nm ar (.v (.bool rs)) (lim rl) (lim rd) cs 0 ⟨rfl, rfl, rfl⟩ (by omega) h0
  have t1 := fun g3 g4 => cbAt 3 4 (KB + 1000) (KC + 1000) (KV + 1000) g3 g4 g svC svV fr 4 nm ar (.v (.bool rs)) (lim rl) (lim rd) cs 1 ⟨rfl, rfl, rfl⟩ (by omega) h1
  have t2 := fun g3 g4 => cbAt 3 4 (KB + 1000) (KC + 1000) (KV + 1000) g3 g4 g svC svV fr 4 nm ar (.v (.bool rs)) (lim rl) (lim rd) cs 2 ⟨rfl, rfl, rfl⟩ (by omega) h2
  rw [ha] at t0
  rw [hb] at t1
  rw [hc] at t2
  clear s1 s2 e1 e2 l1 l2 l3 a1 a2 b1 b2 c1 c2 hco hok n1 n2 n3 n4 n5 n6 ha hb hc
  generalize addM a.1 (subM b.2 c.2) = x1 at *
  generalize addM a.2 (subM c.1 b.1) = x2 at *
  generalize subM c.1 b.1 = y1 at *
  generalize subM c.2 b.2 = y2 at *
  generalize subM b.2 c.2 = y3 at *
  obtain ⟨aa, ab⟩ := a
  obtain ⟨ba, bb⟩ := b
  obtain ⟨ca, cb⟩ := c
  refine acall_lents Tryz.func52 rfl Tryz.ntmps52 Tryz.results52 Tryz.call52 (by rfl) (by simp) ?_
  (repeat' (first | (with_reducible first | refine stp ?_ | apply gx1 | apply gx2 | apply gx3 | apply gx4 | apply gx5 | apply gx6 | apply gx7 | apply gy8 | apply gz2 | apply gz3 | refine gwr (t0 _ _) ?_ ?_ | refine gwr (t1 _ _) ?_ ?_ | refine gwr (t2 _ _) ?_ ?_ | refine gw0 (oa) ?_ ?_ | refine gw3 (oa) ?_ ?_ ?_ | refine gw0 (cB) ?_ ?_ | refine gw3 (cB) ?_ ?_ ?_ | refine gw0 (cC) ?_ ?_ | refine gw3 (cC) ?_ ?_ ?_ | refine gw0 (hn) ?_ ?_ | refine gw3 (hn) ?_ ?_ ?_) | ((with_reducible apply gyr (t2 _ _)); (focus rfl); (focus rfl); iterate 3 focus ((with_reducible refine gE ?_); (try simp (disch := omega) only [go_sem, mB, mV, mC, lents_lt, lents_beq, atL_def, decide_eq_true, decide_eq_false, if_pos, if_neg, Int.reduceAdd, Int.reduceSub, Int.reduceToNat, Int.zero_add]) <;> first | rfl | done)) | ((with_reducible apply gyr (t1 _ _)); (focus rfl); (focus rfl); iterate 3 focus ((with_reducible refine gE ?_); (try simp (disch := omega) only [go_sem, mB, mV, mC, lents_lt, lents_beq, atL_def, decide_eq_true, decide_eq_false, if_pos, if_neg, Int.reduceAdd, Int.reduceSub, Int.reduceToNat, Int.zero_add]) <;> first | rfl | done)) | ((with_reducible apply gyr (t0 _ _)); (focus rfl); (focus rfl); iterate 3 focus ((with_reducible refine gE ?_); (try simp (disch := omega) only [go_sem, mB, mV, mC, lents_lt, lents_beq, atL_def, decide_eq_true, decide_eq_false, if_pos, if_neg, Int.reduceAdd, Int.reduceSub, Int.reduceToNat, Int.zero_add]) <;> first | rfl | done)) | (with_reducible refine all_v ?_; intro _) | ((with_reducible refine gE ?_); (try simp (disch := omega) only [go_sem, mB, mV, mC, lents_lt, lents_beq, atL_def, decide_eq_true, decide_eq_false, if_pos, if_neg, Int.reduceAdd, Int.reduceSub, Int.reduceToNat, Int.zero_add]) <;> first | rfl | omega) | with_reducible refine t_in_other (by decide) ?_ | ((with_reducible apply gy1); iterate 3 focus rfl) | ((with_reducible apply gy2); iterate 3 focus rfl) | ((with_reducible apply gy3); iterate 2 focus rfl) | ((with_reducible apply gy4); iterate 1 focus rfl) | ((with_reducible apply gy5); iterate 4 focus rfl) | ((with_reducible apply gy6); iterate 4 focus rfl) | ((with_reducible apply d_bar); iterate 3 focus rfl) | ((with_reducible apply q_pub); iterate 1 focus rfl) | ((with_reducible apply gy7); iterate 1 focus rfl) | ((with_reducible apply gy9); (focus ((with_reducible refine gE ?_); (try simp (disch := omega) only [go_sem, mB, mV, mC, lents_lt, lents_beq, atL_def, decide_eq_true, decide_eq_false, if_pos, if_neg, Int.reduceAdd, Int.reduceSub, Int.reduceToNat, Int.zero_add]) <;> rfl))) | ((with_reducible apply gz1); (focus first | rfl | (simp (disch := omega) only [go_sem, mB, mV, mC, lents_lt, lents_beq, atL_def, decide_eq_true, decide_eq_false, if_pos, if_neg, Int.reduceAdd, Int.reduceSub, Int.reduceToNat, Int.zero_add]; done))) | ((with_reducible apply r_drawD (id := 11) (pickR [(1, coA (ba, bb)), (3, coA (ca, cb)), (4, coA (y1, y2))]) [] []); (focus kernel_rfl); (focus rfl); (focus kernel_rfl); (focus (simp only [List.length_cons, List.length_nil, Nat.reduceAdd]; rfl))) | ((with_reducible apply r_drawD (id := 12) (pickR [(1, coA (aa, ab)), (2, coA (aa, ab)), (5, poA y3), (9, coA (x1, x2))]) [] [6]); (focus kernel_rfl); (focus rfl); (focus kernel_rfl); (focus (simp only [List.length_cons, List.length_nil, Nat.reduceAdd]; rfl))) | ((with_reducible first | apply og_split | apply dg_split | apply cg_split); all_goals (intro hc; (try simp only [bool_to_prop] at hc); try (exfalso; omega)))))
  simp (disch := omega) only [go_sem]
  refine backS (Sub.refl _) ⟨svV, rfl, rfl⟩ ?_
  rw [upd_same' hV, upd_same' hB]
  (repeat' (first | exact Agr.start _ | (refine Agr.own ?_ (by omega))))
set_option maxHeartbeats 8000000 in
theorem cbStep5 (σ : Mem) (KB KC KV g : Nat) (svC svV : Value) (cs : List (Po × Po)) (vs : List Vt) (fr : Nat) (i : Nat) (s : RS) (hB : σ KB = some (.box g 105 [.own KC svC, .own KV svV, iv fr] false)) (hV : σ KV = some (.row svV 56 3 (vs.map Vt.av) 0)) (hC : σ KC = some (.row svC 72 2 (cs.map coA) 0)) (hBV : KB ≠ KV) (hBC : KB ≠ KC) (hVC : KV ≠ KC) (hl : vs.length ≤ 64) (hf : fr ≤ 100) (hok : StOk cs s) (hco : ∀ c ∈ cs, Co c.1 ∧ Co c.2) (hk : s.k = 5) : ACall Tryz.prog 52 [.pbox KB g 0, s.av, iv i] σ fun r σ' => ∃ sv, r = coA (FS.nxt ⟨cs, vs, fr⟩ i s).2 ∧
      σ' = upd (upd σ KV (some (.row sv 56 3 ((vs ++ (FS.nxt ⟨cs, vs, fr⟩ i s).1).map Vt.av) 0))) KB (some (.box g 105 [.own KC svC, .own KV sv, iv (if s.k = 1 then fr + 1 else fr : Nat)] false)) := by
  have mB := lents_at hB
  have mV := lents_at hV
  have mC := lents_at hC
  simp only [Ent.sh, AV.shL, AV.sh] at mB mV mC
  have har : arS s.k = 2 := by rw [hk]; rfl
  have hal := hok.al
  have h0 := hok.ai 0 (by omega)
  obtain ⟨a1, a2⟩ : Co (cs.getD (gI s.ar 0).toNat ([], [])).1 ∧ Co (cs.getD (gI s.ar 0).toNat ([], [])).2 := hco _ (getD_mem (by omega))
  have h1 := hok.ai 1 (by omega)
  obtain ⟨b1, b2⟩ : Co (cs.getD (gI s.ar 1).toNat ([], [])).1 ∧ Co (cs.getD (gI s.ar 1).toNat ([], [])).2 := hco _ (getD_mem (by omega))
  have en : FS.nxt ⟨cs, vs, fr⟩ i s = ([(1, (i : Int), 0)], (addM (cs.getD (gI s.ar 0).toNat ([], [])).1 (mlM (subM (cs.getD (gI s.ar 1).toNat ([], [])).1 (cs.getD (gI s.ar 0).toNat ([], [])).1) (varM vs.length)), addM (cs.getD (gI s.ar 0).toNat ([], [])).2 (mlM (subM (cs.getD (gI s.ar 1).toNat ([], [])).2 (cs.getD (gI s.ar 0).toNat ([], [])).2) (varM vs.length)))) := by
    unfold FS.nxt; simp only [hk]; rfl
  rw [en]
  simp only [if_neg (show ¬ s.k = 1 by omega)]
  clear en
  generalize ha : cs.getD (gI s.ar 0).toNat ([], []) = a at *
  generalize hb : cs.getD (gI s.ar 1).toNat ([], []) = b at *
  have s1 := poSub b.1 a.1 b1.pk a1.pk b1.st a1.st (by have := b1.ln; omega) (by have := a1.ln; omega) (by omega) (by omega) (by omega)
  have s2 := poSub b.2 a.2 b2.pk a2.pk b2.st a2.st (by have := b2.ln; omega) (by have := a2.ln; omega) (by omega) (by omega) (by omega)
  have d1 := b1.pk.sub a1.pk
  have d2 := b2.pk.sub a2.pk
  have t1 := sub_srt ordM b1.st a1.st
  have t2 := sub_srt ordM b2.st a2.st
  have l1 := sub_len b.1 a.1
  have l2 := sub_len b.2 a.2
  have n1 := a1.ln
  have n2 := a2.ln
  have n3 := b1.ln
  have n4 := b2.ln
  have c1 := poMulVar (subM b.1 a.1) vs.length d1 t1 (by omega) (by omega) (by omega)
  have c2 := poMulVar (subM b.2 a.2) vs.length d2 t2 (by omega) (by omega) (by omega)
  have e1 := poAdd a.1 (mlM (subM b.1 a.1) (varM vs.length)) (a1.pk.mono (Nat.le_refl _) (show 1 ≤ 2 by omega)) d1.mulV a1.st (mulR_srt ordM mulK t1 (varM_srt _)) (by omega) (by have := mulV_len (subM b.1 a.1) vs.length; omega) (by omega) (by omega) (by omega)
  have e2 := poAdd a.2 (mlM (subM b.2 a.2) (varM vs.length)) (a2.pk.mono (Nat.le_refl _) (show 1 ≤ 2 by omega)) d2.mulV a2.st (mulR_srt ordM mulK t2 (varM_srt _)) (by omega) (by have := mulV_len (subM b.2 a.2) vs.length; omega) (by omega) (by omega) (by omega)
  obtain ⟨k, nm, ar, ⟨rs, rl, rd⟩⟩ := s
  simp only at *
  subst hk
  have al := fun sv1 g3 g4 g7 g10 => cbAlongM 3 4 7 (KB + 1000) (KC + 1000) (KV + 1000) g3 g4 g7 g svC sv1 fr 5 nm ar rs rl rd 10 g10 (varM vs.length) cs a b (mlM (subM b.1 a.1) (varM vs.length), mlM (subM b.2 a.2) (varM vs.length)) (addM a.1 (mlM (subM b.1 a.1) (varM vs.length)), addM a.2 (mlM (subM b.2 a.2) (varM vs.length))) (by omega) h0 h1 ha hb s1 s2 c1 c2 e1 e2
  clear s1 s2 c1 c2 e1 e2 d1 d2 t1 t2 l1 l2 a1 a2 b1 b2 hco hok n1 n2 n3 n4
  generalize addM a.1 (mlM (subM b.1 a.1) (varM vs.length)) = x1 at *
  generalize addM a.2 (mlM (subM b.2 a.2) (varM vs.length)) = x2 at *
  refine acall_lents Tryz.func52 rfl Tryz.ntmps52 Tryz.results52 Tryz.call52 (by rfl) (by simp) ?_
  (focus (refine wkad (w_a mB (w_a mV (w_a mC (w_a @lents_lt w_t)))) w_t w_t ?_; (repeat' first | exact w_t | apply w_l); all_goals intros))
  refine o_fresh ((cbVariable _ (KB + 1000) (KC + 1000) (KV + 1000) g svC svV vs fr 1 (i : Int) 0 (by (simp (disch := omega) only [go_sem, mB, mV, if_neg, if_pos] <;> repeat' first | rfl | refine ⟨?_, ?_⟩)) (by (simp (disch := omega) only [go_sem, mB, mV, if_neg, if_pos] <;> repeat' first | rfl | refine ⟨?_, ?_⟩)) (by omega) (by omega))) ?_
  intro sv1
  generalize varM vs.length = t at *
  (focus (refine wkad (w_a mB (w_a mV (w_a mC (w_a @lents_lt w_t)))) w_t w_t ?_; (repeat' first | exact w_t | apply w_l); all_goals intros))
  rename_i g3 g4 g6 g7 g10
  have al := al sv1 g3 g4 g7 g10
  (focus (refine wkax (w_a mB (w_a mV (w_a mC (w_a @lents_lt (w_a @atL_def w_t))))) w_t w_t w_t w_t (w_a al w_t) (w_r 0) ?_; (repeat' first | exact w_t | apply w_l); all_goals intros))
  simp (disch := omega) only [go_sem]
  refine backS (Sub.refl _) ⟨sv1, rfl, rfl⟩ ?_
  intro k
  by_cases hk1 : k = KB
  · rw [hk1]
    simp (disch := omega) only [upd_at, if_pos, if_neg, Option.map_some, Ent.sh, AV.shL, AV.sh]
    try rfl
  · by_cases hk2 : k = KV
    · rw [hk2]
      simp (disch := omega) only [upd_at, if_pos, if_neg, Option.map_some, Ent.sh, AV.shL, AV.sh]
      try rfl
    · simp (disch := omega) only [upd_at, if_neg]
      exact Agr.start σ k

theorem cbStep (σ : Mem) (KB KC KV g : Nat) (svC svV : Value) (cs : List (Po × Po)) (vs : List Vt) (fr : Nat) (i : Nat) (s : RS) (hB : σ KB = some (.box g 105 [.own KC svC, .own KV svV, iv fr] false)) (hV : σ KV = some (.row svV 56 3 (vs.map Vt.av) 0)) (hC : σ KC = some (.row svC 72 2 (cs.map coA) 0)) (hBV : KB ≠ KV) (hBC : KB ≠ KC) (hVC : KV ≠ KC) (hl : vs.length ≤ 64) (hf : fr ≤ 100) (hok : StOk cs s) (hco : ∀ c ∈ cs, Co c.1 ∧ Co c.2) : ACall Tryz.prog 52 [.pbox KB g 0, s.av, iv i] σ fun r σ' => ∃ sv, r = coA (FS.nxt ⟨cs, vs, fr⟩ i s).2 ∧
      σ' = upd (upd σ KV (some (.row sv 56 3 ((vs ++ (FS.nxt ⟨cs, vs, fr⟩ i s).1).map Vt.av) 0))) KB (some (.box g 105 [.own KC svC, .own KV sv, iv (if s.k = 1 then fr + 1 else fr : Nat)] false)) := by
  by_cases k1 : s.k = 1
  · exact cbStep1 σ KB KC KV g svC svV cs vs fr i s hB hV hC hBV hBC hVC hl hf k1
  · by_cases k2 : s.k = 2
    · exact cbStep2 σ KB KC KV g svC svV cs vs fr i s hB hV hC hBV hBC hVC hl hf hok hco k2
    · by_cases k3 : s.k = 3
      · exact cbStep3 σ KB KC KV g svC svV cs vs fr i s hB hV hC hBV hBC hVC hl hf hok hco k3
      · by_cases k4 : s.k = 4
        · exact cbStep4 σ KB KC KV g svC svV cs vs fr i s hB hV hC hBV hBC hVC hl hf hok hco k4
        · by_cases k5 : s.k = 5
          · exact cbStep5 σ KB KC KV g svC svV cs vs fr i s hB hV hC hBV hBC hVC hl hf hok hco k5
          · by_cases k6 : s.k = 6
            · exact cbStep6 σ KB KC KV g svC svV cs vs fr i s hB hV hC hBV hBC hVC hl hf k6
            · exact cbStep7 σ KB KC KV g svC svV cs vs fr i s hB hV hC hBV hBC hVC hl hf ⟨k1, k2, k3, k4, k5, k6⟩
end Go.Proofs.YtbgmnobnaplmlaaGreat
end

section
namespace Go.Pg
open Go Go.RowKit
set_option linter.unusedSimpArgs false
set_option linter.unusedVariables false
section
variable {P : Program} {all rest : List Oper} {K : St → Prop} {e : Nat → AV} {m : Mem} {dst : Option Nat} {d t j : Nat} {op : Op} {ty : TypeId} {pos : String} {af : Array Edge} {r : Res} {rs : Nat → AV} {bar : List Nat} {fu k : Nat} {σs : Mem}
/-- An append that steps that look at no memory may pass. -/
theorem gy5d (hb : bar.contains k = true) (hs : bar.contains (k + 1000) = false) (h2 : bar.contains (k + 2000) = true) (ho : all[k]? = some ⟨some d, op, ty, pos, af, none⟩) (h : Ev (opRes P ⟨e, m⟩ op = r)) (hkp : Ev (resKeep noMem r)) (hk : aRes P d (some d) r (dList P 0 all rs bar noMem fu (k + 1) K) ⟨e, m⟩) : dList P 0 all rs bar σs (fu + 1) k K ⟨e, m⟩ := by
  rw [dList_succ]
  unfold xStep
  rw [ho]
  simp only [nextS, hb, hs, h2, if_true, Bool.false_eq_true, if_false]
  have h : opRes P ⟨e, m⟩ op = r := h
  refine ⟨?_, fun _ => ⟨rfl, by rw [h]; exact hkp⟩⟩
  unfold fStep
  rw [aList_none, h, Option.getD_some, Nat.zero_add]
  exact hk
end
end Go.Pg
end

section
namespace Go.Proofs.YtbgmnobnaplmlaaGreat
open Go Go.RowKit Go.Pg Go.Pol
set_option linter.unusedSimpArgs false
set_option linter.unusedVariables false
set_option maxRecDepth 20000
attribute [local go_sem] Tryz.underlying3 Tryz.underlying4 Tryz.underlying178 Tryz.underlying9 Tryz.underlying48 Tryz.underlying31 Tryz.underlying43 Tryz.underlying41 Tryz.underlying39 Tryz.underlying50 Tryz.underlying22 Tryz.underlying25 Tryz.underlying56 Tryz.underlying28 Tryz.underlying72 Tryz.underlying27 Tryz.underlying30 Tryz.underlying105 Tryz.underlying107 Tryz.underlying70 Tryz.underlying63 Tryz.underlying103 Tryz.underlying154 sz3 by3 z3 szErr zErr szStr byStr zStr szStep byStep zStep szFig zFig szSlI zSlI szSlS zSlS szVar byVar zVar szSlV zSlV szCoord byCoord zCoord szSlC zSlC szFrame zFrame szCBld byCBld zCBld szCVec byCVec zCVec szPoly byPoly zPoly szTerm zTerm
attribute [-bool_to_prop] Bool.and_eq_decide Bool.or_eq_decide Bool.decide_beq_decide decide_eq_decide
/-! ### the parameters of a frame -/
abbrev frmA (cs : List (Po × Po)) (vs : List Vt) : AV := .agg [.sl 2 (cs.map coA), .sl 3 (vs.map Vt.av)]
def parsN (l : List Vt) (i : Nat) : List Int := ((List.range i).filter fun j => decide ((l.getD j (0, 0, 0)).1 = 1)).map fun n : Nat => (n : Int)
/-! ### how many there are -/
def cnt1 (l : List Vt) : Nat := (l.filter fun v => decide (v.1 = 1)).length
def cF (ss : List RS) : Nat → Nat
  | 0 => 0
  | i + 1 => cF ss i + if (ss.getD i RS.zero).k = 1 then 1 else 0
def cP (ss : List RS) : Nat → Nat
  | 0 => 0
  | i + 1 => cP ss i + if (ss.getD i RS.zero).k = 5 ∨ (ss.getD i RS.zero).k = 6 then 1 else 0
def cD (ss : List RS) : Nat → Nat
  | 0 => 0
  | i + 1 => cD ss i + if (ss.getD i RS.zero).k = 1 ∨ (ss.getD i RS.zero).k = 2 ∨ (ss.getD i RS.zero).k = 3 ∨ (ss.getD i RS.zero).k = 4 ∨ (ss.getD i RS.zero).k = 5 then 0 else 2
end Go.Proofs.YtbgmnobnaplmlaaGreat
end

section
namespace Go.Proofs.YtbgmnobnaplmlaaGreat
open Go Go.RowKit Go.Pg Go.Pol
set_option linter.unusedSimpArgs false
set_option linter.unusedVariables false
set_option maxRecDepth 20000
attribute [local go_sem] Tryz.underlying3 Tryz.underlying4 Tryz.underlying178 Tryz.underlying9 Tryz.underlying48 Tryz.underlying31 Tryz.underlying43 Tryz.underlying41 Tryz.underlying39 Tryz.underlying50 Tryz.underlying22 Tryz.underlying25 Tryz.underlying56 Tryz.underlying28 Tryz.underlying72 Tryz.underlying27 Tryz.underlying30 Tryz.underlying105 Tryz.underlying107 Tryz.underlying70 Tryz.underlying63 Tryz.underlying103 Tryz.underlying154 sz3 by3 z3 szB zB szErr zErr szStr byStr zStr szRat zRat szInt zInt szNat zNat szStep byStep zStep szFig zFig szSlI zSlI szSlS zSlS szVar byVar zVar szSlV zSlV szCoord byCoord zCoord szSlC zSlC szFrame zFrame szCBld byCBld zCBld szCVec byCVec zCVec szPoly byPoly zPoly szTerm zTerm szPtrB zPtrB szFnC zFnC
attribute [-bool_to_prop] Bool.and_eq_decide Bool.or_eq_decide Bool.decide_beq_decide decide_eq_decide
theorem frN_fr (ss : List RS) : ∀ i, (frN ss i).fr ≤ i
  | 0 => Nat.le_refl _
  | i + 1 => by
    have := frN_fr ss i
    unfold frN
    simp only [FS.push]
    split <;> omega
theorem nfN_mono (ss : List RS) : ∀ i k, nfN ss i ≤ nfN ss (i + k)
  | i, 0 => Nat.le_refl _
  | i, k + 1 => Nat.le_trans (nfN_mono ss i k) (by show _ ≤ nfN ss (i + k) + _; omega)
/-- What is known of a figure in order. -/
structure FigOk (ss : List RS) : Prop where
  len : ss.length ≤ 40
  er : ∀ i, i < ss.length → errS ss i = 0
  lm : ∀ s ∈ ss, s.r.lm 2
  nf : nfN ss ss.length ≤ 20
theorem FigOk.fi {ss : List RS} (h : FigOk ss) {i : Nat} (hi : i ≤ ss.length) (hj : ∀ j, j < i → bigN ss j = false) : ∃ D, FI (frN ss i) (nfN ss i) D ∧ nfN ss i ≤ 20 := by
  have hr : ∀ s ∈ ss, s.k = 2 → s.r.ok = true := fun s hs => by
    obtain ⟨j, hj, rfl⟩ := List.mem_iff_getElem.1 hs
    exact (errS_ok hj (h.er j hj)).2.2.2
  obtain ⟨D, hD⟩ := frN_ok ss hr (fun s hs => lm_bd (h.lm s hs)) i hi hj
  refine ⟨D, hD, Nat.le_trans ?_ h.nf⟩
  have := nfN_mono ss i (ss.length - i)
  rwa [show i + (ss.length - i) = ss.length by omega] at this
theorem FI.co {f : FS} {n D : Nat} (h : FI f n D) (hn : n ≤ 20) : ∀ c ∈ f.cs, Co c.1 ∧ Co c.2 := fun c hc => by
  obtain ⟨h1, h2⟩ := h.cs c hc
  obtain ⟨l1, l2⟩ := h.ln c hc
  have hv := h.nv
  exact ⟨⟨h1.pk (by omega) h.D0 h.Dl hn, h1.1, l1⟩, ⟨h2.pk (by omega) h.D0 h.Dl hn, h2.1, l2⟩⟩
theorem FigOk.st {ss : List RS} (h : FigOk ss) {i : Nat} (hi : i < ss.length) : StOk (frN ss i).cs ss[i] := by
  obtain ⟨h1, h2, h3, h4⟩ := errS_ok hi (h.er i hi)
  exact ⟨h1, h2, fun k hk => by rw [frN_len]; exact h3 k hk, h4, h.lm _ (List.getElem_mem hi)⟩
/-- What the next frame is. -/
theorem frN_succ {ss : List RS} {i : Nat} (hi : i < ss.length) : frN ss (i + 1) = ⟨(frN ss i).cs ++ [((frN ss i).nxt i ss[i]).2], (frN ss i).vs ++ ((frN ss i).nxt i ss[i]).1, if ss[i].k = 1 then (frN ss i).fr + 1 else (frN ss i).fr⟩ := by
  show (frN ss i).push i (ss.getD i RS.zero) = _
  rw [show ss.getD i RS.zero = ss[i] from by rw [List.getD_eq_getElem?_getD, List.getElem?_eq_getElem hi]; rfl]; rfl
theorem bigN_at {ss : List RS} {i : Nat} (hi : i < ss.length) : bigN ss i = (decide (64 < ((frN ss i).vs ++ ((frN ss i).nxt i ss[i]).1).length) || decide (4000 < ((frN ss i).nxt i ss[i]).2.1.length) || decide (4000 < ((frN ss i).nxt i ss[i]).2.2.length)) := by
  unfold bigN
  rw [frN_succ hi, show ss.getD i ⟨0, .empty, [], ⟨false, [], []⟩⟩ = ss[i] from by rw [List.getD_eq_getElem?_getD, List.getElem?_eq_getElem hi]; rfl]
theorem nxt_vars (f : FS) (i : Nat) (s : RS) : (f.nxt i s).1.length ≤ 3 := by
  unfold FS.nxt; simp only
  repeat' split
  all_goals simp
set_option maxHeartbeats 8000000 in
theorem coFrame1 (ss : List RS) (gs : List RG) (cR : Pure Tryz.prog 51 [figA ss gs] (iv 0)) (ho : FigOk ss) :
    Pure Tryz.prog 15 [figA ss gs] (if (List.range ss.length).any (bigN ss) = true then .tup [.agg [.v (.slice none 0 0), .v (.slice none 0 0)], iv 4] else .tup [frmA (frN ss ss.length).cs (frN ss ss.length).vs, iv 0]) := by
  have cR : Pure Tryz.prog 51 [.agg [.sl 6 (ss.map RS.av), .sl 5 (gs.map RG.av)]] (iv 0) := cR
  show Pure _ _ [.agg [.sl 6 (ss.map RS.av), .sl 5 (gs.map RG.av)]] _
  have hg : ∀ i (h : i < ss.length), (ss.map RS.av).getD i .u = ss[i].av := fun i h => map_atB RS.av h
  have hls : (ss.map RS.av).length = ss.length := List.length_map ..
  have hlen := ho.len
  generalize ss.map RS.av = M at *
  generalize gs.map RG.av = N at *
  refine pure_intro (tok := 0) Tryz.func15 rfl Tryz.ntmps15 Tryz.results15 Tryz.call15 (by rfl) (by simp) ?_
  (focus (refine wkad (w_a hls w_t) (w_a cR w_t) w_t ?_; (repeat' first | exact w_t | apply w_l); all_goals intros))
  rename_i g1 g2 gb
  refine r_frz (Frz.nilBox (k := 16) 0 20 2 72 (by exact gC) rfl (by omega)) ?_
  refine r_frz (Frz.nilBox (k := 16) 1 21 3 56 (by exact gC) rfl (by omega)) ?_
  refine r_loopE (ι := Nat) (fun i e m => i ≤ ss.length ∧ e 2 = .pbox 2 g2 0 ∧ m 2 = some (.box g2 30 [.v (.slice none 0 0), .v (.slice none 0 0)] false) ∧ e 5 = .pbox 16 gb 0 ∧ e 18 = .sl 6 M ∧ e 19 = iv ss.length ∧ e 20 = iv i ∧ (∃ svC svV, m 16 = some (.box gb 105 [.own 20 svC, .own 21 svV, iv (frN ss i).fr] false) ∧ m 20 = some (.row svC 72 2 ((frN ss i).cs.map coA) 0) ∧ m 21 = some (.row svV 56 3 ((frN ss i).vs.map Vt.av) 0)) ∧ ∀ j, j < i → bigN ss j = false) (fun i => ss.length - i) 0 (by rfl) ?_ ?_
  · rintro i e m ⟨hi, e2, m2, e5, e18, e19, e20, ⟨svC, svV, m16, m20, m21⟩, hbig⟩
    by_cases hlt : i < ss.length
    · have hgi := hg i hlt
      obtain ⟨D, hD, hn⟩ := ho.fi hi hbig
      have hco := hD.co hn
      have hst := ho.st hlt
      have hfr := frN_fr ss i
      have hnv := hD.nv
      have hb := bigN_at hlt
      have hsu := frN_succ hlt
      have hn3 := nxt_vars (frN ss i) i ss[i]
      have hcl := frN_len ss i
      have hst2 := fun m' hB hV hC => cbStep m' 16 20 21 gb svC svV (frN ss i).cs (frN ss i).vs (frN ss i).fr i ss[i] hB hV hC (by omega) (by omega) (by omega) hnv (by omega) hst hco
      rw [show (FS.mk (frN ss i).cs (frN ss i).vs (frN ss i).fr) = frN ss i from rfl] at hst2
      clear hD hco hst
      generalize hs : ss[i] = s at *
      generalize hf : frN ss i = f at *
      generalize hx : f.nxt i s = nx at *
      obtain ⟨nv, c1, c2⟩ := nx
      obtain ⟨k, nm, ar, ⟨rs, rl, rd⟩⟩ := s
      obtain ⟨cs, vs, fr⟩ := f
      simp only at *
      (focus (refine wkad (w_a e2 (w_a m2 (w_a e5 (w_a e18 (w_a e19 (w_a e20 (w_a m16 (w_a m20 (w_a m21 (w_a hgi (w_a hls w_t))))))))))) w_t w_t ?_; (repeat' first | exact w_t | apply w_l); all_goals intros))
      refine o_fresh (hst2 _ (by exact gW m16) (by exact gW m21) (by exact gW m20)) ?_
      intro sv
      generalize hfr2 : (if k = 1 then fr + 1 else fr) = fr2 at *
      have hvl : ((vs ++ nv).map Vt.av).length = (vs ++ nv).length := List.length_map ..
      have hvl2 : (vs ++ nv).length ≤ 67 := by rw [List.length_append]; omega
      have hnx : ∀ j, j < i + 1 → bigN ss i = false → bigN ss j = false := fun j hj h => by
        by_cases e : j = i
        · rw [e]; exact h
        · exact hbig j (by omega)
      have hany : bigN ss i = true → (List.range ss.length).any (bigN ss) = true := fun h => List.any_eq_true.2 ⟨i, List.mem_range.2 hlt, h⟩
      generalize vs ++ nv = vs2 at *
      have hc1 : (c1.map tmA).length = c1.length := List.length_map ..
      have hc2 : (c2.map tmA).length = c2.length := List.length_map ..
      have hcsl : (cs.map coA).length = cs.length := List.length_map ..
      by_cases b1 : 64 < vs2.length
      · rw [if_pos (hany (by rw [hb]; simp [b1]))]
        (focus (refine wkld (w_a e2 (w_a m2 (w_a e5 (w_a e18 (w_a e19 (w_a e20 (w_a hvl (w_a hls w_t)))))))) w_t (w_a e2 w_t) w_t ?_; (repeat' first | exact w_t | apply w_l); all_goals intros))
      · by_cases b2 : 4000 < c1.length
        · rw [if_pos (hany (by rw [hb]; simp [b2]))]
          (focus (refine wkld (w_a e2 (w_a m2 (w_a e5 (w_a e18 (w_a e19 (w_a e20 (w_a hvl (w_a hc1 (w_a hls w_t))))))))) w_t (w_a e2 w_t) w_t ?_; (repeat' first | exact w_t | apply w_l); all_goals intros))
        · by_cases b3 : 4000 < c2.length
          · rw [if_pos (hany (by rw [hb]; simp [b3]))]
            (focus (refine wkld (w_a e2 (w_a m2 (w_a e5 (w_a e18 (w_a e19 (w_a e20 (w_a hvl (w_a hc1 (w_a hc2 (w_a hls w_t)))))))))) w_t (w_a e2 w_t) w_t ?_; (repeat' first | exact w_t | apply w_l); all_goals intros))
          · have hbf : bigN ss i = false := by rw [hb]; simp [b1, b2, b3]
            clear hany
            (repeat' (first | ((with_reducible apply gy5d); iterate 4 focus rfl) | (with_reducible first | refine stp ?_ | apply gx1 | apply gx2 | apply gx3 | apply gx4 | apply gx5 | apply gx6 | apply gx7 | apply gy8 | apply gz2 | apply gz3) | (with_reducible refine all_v ?_; intro _) | ((with_reducible refine gE ?_); (try simp (disch := omega) only [go_sem, e2, m2, e5, e18, e19, e20, m20, hvl, hc1, hc2, hcsl, hls, decide_eq_true, decide_eq_false, if_pos, if_neg, Int.reduceAdd, Int.reduceSub, Int.reduceToNat, Int.zero_add]) <;> first | rfl | omega) | with_reducible refine t_in_other (by decide) ?_ | ((with_reducible apply gy1); iterate 3 focus rfl) | ((with_reducible apply gy2); iterate 3 focus rfl) | ((with_reducible apply gy3); iterate 2 focus rfl) | ((with_reducible apply gy4); iterate 1 focus rfl) | ((with_reducible apply gy5); iterate 4 focus rfl) | ((with_reducible apply gy6); iterate 4 focus rfl) | ((with_reducible apply d_bar); iterate 3 focus rfl) | ((with_reducible apply q_pub); iterate 1 focus rfl) | ((with_reducible apply gy7); iterate 1 focus rfl) | ((with_reducible apply gy9); (focus ((with_reducible refine gE ?_); (try simp (disch := omega) only [go_sem, e2, m2, e5, e18, e19, e20, m20, hvl, hc1, hc2, hcsl, hls, decide_eq_true, decide_eq_false, if_pos, if_neg, Int.reduceAdd, Int.reduceSub, Int.reduceToNat, Int.zero_add]) <;> rfl))) | ((with_reducible apply gz1); (focus first | rfl | (simp (disch := omega) only [go_sem, e2, m2, e5, e18, e19, e20, m20, hvl, hc1, hc2, hcsl, hls, decide_eq_true, decide_eq_false, if_pos, if_neg, Int.reduceAdd, Int.reduceSub, Int.reduceToNat, Int.zero_add]; done))) | ((with_reducible apply r_drawD (id := 11) (pickR []) [12, 2012, 16] [20, 60]); (focus kernel_rfl); (focus rfl); (focus kernel_rfl); (focus (simp only [List.length_cons, List.length_nil, Nat.reduceAdd]; rfl))) | ((with_reducible first | apply og_split | apply dg_split | apply cg_split); all_goals (intro hc; (try simp only [bool_to_prop] at hc); try (exfalso; omega)))))
            rename_i svC2
            refine ⟨i + 1, ⟨by omega, by exact gW e2, by exact gW m2, by exact gW e5, by exact gW e18, by exact gW e19, by exact gS, ⟨svC2, sv, ?_, ?_, ?_⟩, fun j hj => hnx j hj hbf⟩, by omega⟩
            · rw [hsu]; exact gW hfr2
            · rw [hsu, List.map_append]; exact gC
            · rw [hsu]; exact gC
    · have hin : i = ss.length := by omega
      subst hin
      have hno : ¬ (List.range ss.length).any (bigN ss) = true := by
        rw [List.any_eq_true]
        rintro ⟨j, hj, hb⟩
        rw [hbig j (List.mem_range.1 hj)] at hb
        cases hb
      rw [if_neg hno]
      generalize (frN ss ss.length).fr = fr at *
      generalize (frN ss ss.length).cs = cs at *
      generalize (frN ss ss.length).vs = vs at *
      (focus (refine wkld (w_a e2 (w_a m2 (w_a e5 (w_a e18 (w_a e19 (w_a e20 (w_a m16 (w_a m20 (w_a m21 (w_a hls w_t)))))))))) w_t (w_a e2 (w_a m2 (w_a m16 (w_a m20 (w_a m21 w_t))))) w_t ?_; (repeat' first | exact w_t | apply w_l); all_goals intros))
  · exact ⟨Nat.zero_le _, by exact gC, by exact gC, by exact gC, by exact gC, by exact gW hls, by exact gC, ⟨_, _, by (simp (disch := omega) only [go_sem, List.set_cons_zero, List.set_cons_succ, frN] <;> repeat' first | rfl | refine ⟨?_, ?_⟩), by (simp (disch := omega) only [go_sem, frN, List.map_nil] <;> repeat' first | rfl | refine ⟨?_, ?_⟩), by (simp (disch := omega) only [go_sem, frN, List.map_nil] <;> repeat' first | rfl | refine ⟨?_, ?_⟩)⟩, fun j hj => by omega⟩
end Go.Proofs.YtbgmnobnaplmlaaGreat
end

section
namespace Go.Proofs.YtbgmnobnaplmlaaGreat
open Go Go.RowKit Go.Pg Go.Pol
set_option linter.unusedSimpArgs false
set_option linter.unusedVariables false
set_option maxRecDepth 20000
attribute [local go_sem] Tryz.underlying3 Tryz.underlying4 Tryz.underlying178 Tryz.underlying9 Tryz.underlying48 Tryz.underlying31 Tryz.underlying43 Tryz.underlying41 Tryz.underlying39 Tryz.underlying50 Tryz.underlying22 Tryz.underlying124 Tryz.underlying23 Tryz.underlying25 sz3 by3 z3 szB zB szL byL zL szErr zErr szStr byStr zStr szRat zRat szInt zInt szNat zNat szStep byStep zStep szFact byFact zFact szFig zFig szSlI zSlI szSlS zSlS szSlF zSlF
attribute [-bool_to_prop] Bool.and_eq_decide Bool.or_eq_decide Bool.decide_beq_decide decide_eq_decide
/-! ### the sizes that the laws of figures take -/
def fitS (s : RS) : Bool := !(decide (2 < s.r.l.length) || decide (2 < s.r.d.length) || decide (8 < s.ar.length))
def fitsB (ss : List RS) (gs : List RG) : Bool := ss.all fitS && (decide (nfN ss ss.length ≤ 12) && (decide (ss.length ≤ 42) && decide (gs.length ≤ 10)))
theorem all_at {α : Type} {p : α → Bool} {l : List α} {i : Nat} (h : i < l.length) (hp : p l[i] = false) : l.all p = false := by
  rw [Bool.eq_false_iff]
  intro ha
  rw [List.all_eq_true] at ha
  rw [ha _ (List.getElem_mem h)] at hp
  cases hp
theorem all_of {α : Type} {p : α → Bool} {l : List α} (h : ∀ j (hj : j < l.length), p l[j] = true) : l.all p = true := by
  rw [List.all_eq_true]
  intro x hx
  obtain ⟨j, hj, rfl⟩ := List.mem_iff_getElem.1 hx
  exact h j hj
theorem nfN_le (ss : List RS) : ∀ i, nfN ss i ≤ i
  | 0 => Nat.le_refl _
  | i + 1 => by
    have := nfN_le ss i
    unfold nfN
    split <;> omega
end Go.Proofs.YtbgmnobnaplmlaaGreat
end

section
namespace Go.Proofs.YtbgmnobnaplmlaaGreat
open Go Go.RowKit Go.Pg Go.Pol
set_option linter.unusedSimpArgs false
set_option linter.unusedVariables false
set_option maxRecDepth 20000
attribute [local go_sem] Tryz.underlying3 Tryz.underlying4 Tryz.underlying178 Tryz.underlying9 Tryz.underlying48 Tryz.underlying31 Tryz.underlying43 Tryz.underlying41 Tryz.underlying39 Tryz.underlying50 Tryz.underlying22 Tryz.underlying25 Tryz.underlying56 Tryz.underlying28 Tryz.underlying72 Tryz.underlying27 Tryz.underlying30 Tryz.underlying105 Tryz.underlying107 Tryz.underlying70 Tryz.underlying63 Tryz.underlying103 Tryz.underlying154 sz3 by3 z3 szB zB szErr zErr szStr byStr zStr szRat zRat szInt zInt szNat zNat szStep byStep zStep szFig zFig szSlI zSlI szSlS zSlS szVar byVar zVar szSlV zSlV szCoord byCoord zCoord szSlC zSlC szFrame zFrame szCBld byCBld zCBld szCVec byCVec zCVec szPoly byPoly zPoly szTerm zTerm szPtrB zPtrB szFnC zFnC Tryz.underlying124 Tryz.underlying23 szL byL zL szFact byFact zFact szSlF zSlF
attribute [-bool_to_prop] Bool.and_eq_decide Bool.or_eq_decide Bool.decide_beq_decide decide_eq_decide
theorem figE_ok {ss : List RS} {gs : List RG} (h : figE ss gs = 0) : ss.length ≤ 40 ∧ ∀ i, i < ss.length → errS ss i = 0 := by
  unfold figE at h
  split at h
  · omega
  · rename_i h1
    split at h
    · rename_i h2; exact absurd h h2
    · rename_i h2
      refine ⟨by omega, fstE_all ?_⟩
      rcases Decidable.em (fstE (errS ss) ss.length = 0) with h3 | h3
      · exact h3
      · exact absurd h3 h2
end Go.Proofs.YtbgmnobnaplmlaaGreat
end

section
namespace Go.Proofs.YtbgmnobnaplmlaaGreat
open Go Go.RowKit Go.Pg Go.Pol
set_option linter.unusedSimpArgs false
set_option linter.unusedVariables false
set_option maxRecDepth 20000
attribute [-bool_to_prop] Bool.and_eq_decide Bool.or_eq_decide Bool.decide_beq_decide decide_eq_decide
section
variable {N n : Nat} {cs : List AV}
theorem agInt : aggTy Tryz.prog 3 = false := by kernel_rfl
theorem csInt : Tryz.prog.cellsOf 3 = 1 := by kernel_rfl
theorem shIvs (h : Shape Tryz.prog N n 48 cs) : ∃ l : List Int, cs = [ivs l] ∧ l.length ≤ N := by
  obtain ⟨bs, rfl, hl, _⟩ := shape_sliceOf (g := fun k : Int => [iv k]) (Q := fun _ => True) Tryz.underlying48 h fun m x hx => by
    obtain ⟨i, rfl, _⟩ := shape_int Tryz.underlying3 hx
    exact ⟨i, rfl, trivial⟩
  refine ⟨bs, ?_, hl⟩
  rw [csInt]
  have : (bs.map fun b : Int => wrapA Tryz.prog 3 [iv b]) = bs.map iv := List.map_congr_left fun b _ => wrapA_one agInt _
  rw [this]
theorem shStep (h : Shape Tryz.prog N n 50 cs) : ∃ s : RS, cs = [iv s.k, strA s.nm, ivs s.ar, .v (.bool s.r.s), lim s.r.l, lim s.r.d] ∧ s.r.lm N ∧ s.nm.size ≤ N ∧ s.ar.length ≤ N := by
  obtain ⟨m, rfl, hs⟩ := shape_struct Tryz.underlying50 (by kernel_rfl) h
  obtain ⟨x, y, rfl, h1, hs⟩ := hs.inv
  obtain ⟨x2, y, rfl, h2, hs⟩ := hs.inv
  obtain ⟨x3, y, rfl, h3, hs⟩ := hs.inv
  obtain ⟨x4, y, rfl, h4, hs⟩ := hs.inv
  obtain rfl := hs.inv0
  obtain ⟨k, rfl, _⟩ := shape_int Tryz.underlying3 h1
  obtain ⟨nm, rfl, hn⟩ := shape_string Tryz.underlying9 h2
  obtain ⟨ar, rfl, ha⟩ := shIvs h3
  obtain ⟨r, rfl, hr⟩ := shRat h4
  exact ⟨⟨k, nm, ar, r⟩, rfl, hr, hn, ha⟩
theorem shFact (h : Shape Tryz.prog N n 124 cs) : ∃ g : RG, cs = [iv g.k, ivs g.ar, .v (.bool g.r.s), lim g.r.l, lim g.r.d] ∧ g.r.lm N ∧ g.ar.length ≤ N := by
  obtain ⟨m, rfl, hs⟩ := shape_struct Tryz.underlying124 (by kernel_rfl) h
  obtain ⟨x, y, rfl, h1, hs⟩ := hs.inv
  obtain ⟨x3, y, rfl, h3, hs⟩ := hs.inv
  obtain ⟨x4, y, rfl, h4, hs⟩ := hs.inv
  obtain rfl := hs.inv0
  obtain ⟨k, rfl, _⟩ := shape_int Tryz.underlying3 h1
  obtain ⟨ar, rfl, ha⟩ := shIvs h3
  obtain ⟨r, rfl, hr⟩ := shRat h4
  exact ⟨⟨k, ar, r⟩, rfl, hr, ha⟩
theorem shSteps (h : Shape Tryz.prog N n 22 cs) : ∃ l : List RS, cs = [.sl 6 (l.map RS.av)] ∧ l.length ≤ N ∧ ∀ s ∈ l, s.r.lm N ∧ s.nm.size ≤ N ∧ s.ar.length ≤ N := by
  obtain ⟨bs, rfl, hl, hq⟩ := shape_sliceOf (g := fun s : RS => [iv s.k, strA s.nm, ivs s.ar, .v (.bool s.r.s), lim s.r.l, lim s.r.d]) (Q := fun s => s.r.lm N ∧ s.nm.size ≤ N ∧ s.ar.length ≤ N) Tryz.underlying22 h fun m x hx => shStep hx
  refine ⟨bs, ?_, hl, hq⟩
  rw [show Tryz.prog.cellsOf 50 = 6 from by kernel_rfl]
  have : (bs.map fun s : RS => wrapA Tryz.prog 50 [iv s.k, strA s.nm, ivs s.ar, .v (.bool s.r.s), lim s.r.l, lim s.r.d]) = bs.map RS.av := List.map_congr_left fun b _ => wrapA_agg Tryz.underlying50 _
  rw [this]
theorem shFacts (h : Shape Tryz.prog N n 23 cs) : ∃ l : List RG, cs = [.sl 5 (l.map RG.av)] ∧ l.length ≤ N ∧ ∀ s ∈ l, s.r.lm N ∧ s.ar.length ≤ N := by
  obtain ⟨bs, rfl, hl, hq⟩ := shape_sliceOf (g := fun s : RG => [iv s.k, ivs s.ar, .v (.bool s.r.s), lim s.r.l, lim s.r.d]) (Q := fun s => s.r.lm N ∧ s.ar.length ≤ N) Tryz.underlying23 h fun m x hx => shFact hx
  refine ⟨bs, ?_, hl, hq⟩
  rw [show Tryz.prog.cellsOf 124 = 5 from by kernel_rfl]
  have : (bs.map fun s : RG => wrapA Tryz.prog 124 [iv s.k, ivs s.ar, .v (.bool s.r.s), lim s.r.l, lim s.r.d]) = bs.map RG.av := List.map_congr_left fun b _ => wrapA_agg Tryz.underlying124 _
  rw [this]
theorem shFigure (h : Shape Tryz.prog N n 25 cs) : ∃ (ss : List RS) (gs : List RG), wrapA Tryz.prog 25 cs = figA ss gs ∧ ss.length ≤ N ∧ gs.length ≤ N ∧ (∀ s ∈ ss, s.r.lm N ∧ s.nm.size ≤ N ∧ s.ar.length ≤ N) ∧ ∀ s ∈ gs, s.r.lm N ∧ s.ar.length ≤ N := by
  obtain ⟨m, rfl, hs⟩ := shape_struct Tryz.underlying25 (by kernel_rfl) h
  obtain ⟨x, y, rfl, h1, hs⟩ := hs.inv
  obtain ⟨x3, y, rfl, h3, hs⟩ := hs.inv
  obtain rfl := hs.inv0
  obtain ⟨ss, rfl, hl, hq⟩ := shSteps h1
  obtain ⟨gs, rfl, kl, kq⟩ := shFacts h3
  exact ⟨ss, gs, wrapA_agg Tryz.underlying25 _, hl, kl, hq, kq⟩
end
theorem lm_mono {r : RQ} {a b : Nat} (h : r.lm a) (hab : a ≤ b) : r.lm b := ⟨h.1, h.2.1, Nat.le_trans h.2.2.1 hab, Nat.le_trans h.2.2.2 hab⟩
end Go.Proofs.YtbgmnobnaplmlaaGreat
end

section
namespace Go.Proofs.YtbgmnobnaplmlaaGreat
open Go Go.RowKit Go.Pg Go.Pol
set_option linter.unusedSimpArgs false
set_option linter.unusedVariables false
set_option maxRecDepth 20000
attribute [-bool_to_prop] Bool.and_eq_decide Bool.or_eq_decide Bool.decide_beq_decide decide_eq_decide
set_option linter.unusedSimpArgs false
set_option linter.unusedVariables false
/-! ### figures with few terms -/
theorem nodup_len {α : Type} [DecidableEq α] : ∀ (l m : List α), l.Nodup → (∀ x ∈ l, x ∈ m) → l.length ≤ m.length
  | [], _, _, _ => Nat.zero_le _
  | x :: l, m, h, hs => by
    obtain ⟨h1, h2⟩ := List.nodup_cons.1 h
    have hx := hs x (.head _)
    have := nodup_len l (m.erase x) h2 fun y hy => (List.mem_erase_of_ne (show y ≠ x from fun e => h1 (by rw [← e]; exact hy))).2 (hs y (.tail _ hy))
    rw [List.length_erase_of_mem hx] at this
    have hp := List.length_pos_of_mem hx
    rw [List.length_cons]; omega
theorem srt_nodup {p : Po} (h : SrtM p) : (p.map (·.2)).Nodup := by
  rw [List.Nodup, List.pairwise_map]
  refine List.Pairwise.imp ?_ h.2
  intro s t hst e
  rw [e] at hst
  exact ordM.irr _ hst
theorem len_of {r a b : Po} (hr : SrtM r) (h : ∀ t ∈ r, t.2 ∈ a.map (·.2) ∨ t.2 ∈ b.map (·.2)) : r.length ≤ a.length + b.length := by
  have := nodup_len (r.map (·.2)) (a.map (·.2) ++ b.map (·.2)) (srt_nodup hr) fun x hx => by
    obtain ⟨t, ht, rfl⟩ := List.mem_map.1 hx
    exact List.mem_append.2 (h t ht)
  simpa using this
theorem mem_scl {q : Rat} {p : Po} {t : Tm} (h : t ∈ sclM q p) : t.2 ∈ p.map (·.2) := by
  unfold sclM at h
  split at h
  · cases h
  · obtain ⟨s, hs, rfl⟩ := List.mem_map.1 h
    exact List.mem_map.2 ⟨s, hs, rfl⟩
theorem mem_add {p q : Po} {t : Tm} (h : t ∈ addM p q) : t.2 ∈ p.map (·.2) ∨ t.2 ∈ q.map (·.2) := by
  obtain ⟨s, hs, e⟩ := mem_addP h
  rcases List.mem_append.1 hs with h1 | h1
  · exact .inl (List.mem_map.2 ⟨s, h1, e.symm⟩)
  · exact .inr (List.mem_map.2 ⟨s, h1, e.symm⟩)
theorem mem_neg {p : Po} {x : List Int} (h : x ∈ (scaleP (-1) p).map (·.2)) : x ∈ p.map (·.2) := by
  unfold scaleP at h
  rw [List.map_map] at h
  exact h
theorem len_div {a b : Po} (q : Rat) (ha : SrtM a) (hb : SrtM b) : (addM a (sclM q (subM b a))).length ≤ a.length + b.length :=
  len_of (addP_srt ordM ha (scl_srt (sub_srt ordM hb ha))) fun t ht => by
    rcases mem_add ht with h | h
    · exact .inl h
    · obtain ⟨s, hs, e⟩ := List.mem_map.1 h
      have h1 := mem_scl hs
      obtain ⟨u, hu, e2⟩ := List.mem_map.1 h1
      rcases mem_add hu with h2 | h2
      · exact .inr (by rw [← e, ← e2]; exact h2)
      · exact .inl (by rw [← e, ← e2]; exact mem_neg h2)
/-- Coordinates are in order, whatever the steps. -/
theorem at_srt {f : FS} (h : ∀ c ∈ f.cs, SrtM c.1 ∧ SrtM c.2) (s : RS) (k : Nat) : SrtM (f.at s k).1 ∧ SrtM (f.at s k).2 := by
  unfold FS.at
  by_cases hk : (gI s.ar k).toNat < f.cs.length
  · exact h _ (getD_mem hk)
  · rw [List.getD_eq_getElem?_getD, List.getElem?_eq_none (by omega)]
    exact ⟨.nil, .nil⟩
theorem nxt_srt {f : FS} (h : ∀ c ∈ f.cs, SrtM c.1 ∧ SrtM c.2) (i : Nat) (s : RS) : SrtM (f.nxt i s).2.1 ∧ SrtM (f.nxt i s).2.2 := by
  obtain ⟨a1, a2⟩ := at_srt h s 0
  obtain ⟨b1, b2⟩ := at_srt h s 1
  obtain ⟨c1, c2⟩ := at_srt h s 2
  have hv := varM_srt
  unfold FS.nxt
  simp only
  split
  · split
    · exact ⟨.nil, .nil⟩
    · split
      · exact ⟨hv _, .nil⟩
      · exact ⟨hv _, hv _⟩
  · split
    · exact ⟨addP_srt ordM a1 (scl_srt (sub_srt ordM b1 a1)), addP_srt ordM a2 (scl_srt (sub_srt ordM b2 a2))⟩
    · split
      · exact ⟨addP_srt ordM a1 (sub_srt ordM c1 b1), addP_srt ordM a2 (sub_srt ordM c2 b2)⟩
      · split
        · exact ⟨addP_srt ordM a1 (sub_srt ordM b2 c2), addP_srt ordM a2 (sub_srt ordM c1 b1)⟩
        · split
          · exact ⟨addP_srt ordM a1 (mulR_srt ordM mulK (sub_srt ordM b1 a1) (hv _)), addP_srt ordM a2 (mulR_srt ordM mulK (sub_srt ordM b2 a2) (hv _))⟩
          · split
            · exact ⟨hv _, hv _⟩
            · exact ⟨hv _, hv _⟩
theorem frN_srt (ss : List RS) : ∀ i, ∀ c ∈ (frN ss i).cs, SrtM c.1 ∧ SrtM c.2
  | 0, c, h => by simp [frN] at h
  | i + 1, c, h => by
    rcases List.mem_append.1 (show c ∈ (frN ss i).cs ++ [_] from h) with h1 | h1
    · exact frN_srt ss i c h1
    · rw [List.mem_singleton] at h1
      subst h1
      exact nxt_srt (frN_srt ss i) i _
/-! the bounds of the numbers of terms -/
def wOf (w : List Int) (s : RS) : Int :=
  if s.k = 2 then gI w (gI s.ar 0).toNat + gI w (gI s.ar 1).toNat
  else if s.k = 3 ∨ s.k = 4 then gI w (gI s.ar 0).toNat + gI w (gI s.ar 1).toNat + gI w (gI s.ar 2).toNat
  else if s.k = 5 then 2 * gI w (gI s.ar 0).toNat + gI w (gI s.ar 1).toNat
  else 1
def wts (ss : List RS) : Nat → List Int
  | 0 => []
  | i + 1 => wts ss i ++ [wOf (wts ss i) (ss.getD i RS.zero)]
theorem wts_len (ss : List RS) : ∀ i, (wts ss i).length = i
  | 0 => rfl
  | i + 1 => by show (wts ss i ++ [_]).length = i + 1; rw [List.length_append, wts_len ss i]; rfl
theorem gI_app (l : List Int) (x : Int) (n : Nat) : gI (l ++ [x]) n = if n < l.length then gI l n else if n = l.length then x else 0 := by
  split
  · rename_i h
    rw [gI_at (by simp; omega), gI_at h, List.getElem_append_left h]
  · split
    · rename_i h1 h2
      subst h2
      rw [gI_at (by simp)]
      simp
    · rw [gI_out (by simp; omega)]
theorem wts_bd (ss : List RS) : ∀ i n, 0 ≤ gI (wts ss i) n ∧ gI (wts ss i) n ≤ ((3 ^ i : Nat) : Int)
  | 0, n => by rw [gI_out (Nat.zero_le _)]; omega
  | i + 1, n => by
    show 0 ≤ gI (wts ss i ++ [_]) n ∧ gI (wts ss i ++ [_]) n ≤ _
    have hp : (3 ^ (i + 1) : Nat) = 3 * 3 ^ i := by rw [Nat.pow_succ, Nat.mul_comm]
    have hq : 1 ≤ 3 ^ i := Nat.one_le_pow _ _ (by omega)
    rw [gI_app, hp]
    have h0 := wts_bd ss i n
    have h1 := wts_bd ss i (gI (ss.getD i RS.zero).ar 0).toNat
    have h2 := wts_bd ss i (gI (ss.getD i RS.zero).ar 1).toNat
    have h3 := wts_bd ss i (gI (ss.getD i RS.zero).ar 2).toNat
    unfold wOf
    generalize (3 ^ i : Nat) = z at *
    split
    · omega
    · split
      · split
        · omega
        · split
          · omega
          · split <;> omega
      · omega
theorem at_w {f : FS} {w : List Int} (h : ∀ n, ((f.cs.getD n ([], [])).1.length : Int) ≤ gI w n ∧ ((f.cs.getD n ([], [])).2.length : Int) ≤ gI w n) (s : RS) (k : Nat) : ((f.at s k).1.length : Int) ≤ gI w (gI s.ar k).toNat ∧ ((f.at s k).2.length : Int) ≤ gI w (gI s.ar k).toNat := h _
theorem nxt_w {f : FS} {w : List Int} (h0 : ∀ c ∈ f.cs, SrtM c.1 ∧ SrtM c.2) (h : ∀ n, ((f.cs.getD n ([], [])).1.length : Int) ≤ gI w n ∧ ((f.cs.getD n ([], [])).2.length : Int) ≤ gI w n) (i : Nat) (s : RS) :
    ((f.nxt i s).2.1.length : Int) ≤ wOf w s ∧ ((f.nxt i s).2.2.length : Int) ≤ wOf w s := by
  obtain ⟨a1, a2⟩ := at_w h s 0
  obtain ⟨b1, b2⟩ := at_w h s 1
  obtain ⟨c1, c2⟩ := at_w h s 2
  obtain ⟨r1, r2⟩ := at_srt h0 s 0
  obtain ⟨t1, t2⟩ := at_srt h0 s 1
  have hv := fun v => (var_pb v).l
  have d1 := len_div s.r.q r1 t1
  have d2 := len_div s.r.q r2 t2
  unfold FS.nxt wOf
  simp only
  generalize f.at s 0 = a at *
  generalize f.at s 1 = b at *
  generalize f.at s 2 = c at *
  have hw : ∀ p q r : Po, (addM p (subM q r)).length ≤ p.length + (q.length + r.length) := fun (p q r : Po) => Nat.le_trans (addP_len (lt := ltM) p (subM q r)) (Nat.add_le_add_left (sub_len q r) _)
  have hw' : ∀ (p q : Po) (v : Nat), (addM p (mlM (subM q p) (varM v))).length ≤ p.length + (q.length + p.length) := fun (p q : Po) (v : Nat) => Nat.le_trans (addP_len (lt := ltM) p (mlM (subM q p) (varM v))) (Nat.add_le_add_left (Nat.le_trans (mulV_len (subM q p) v) (sub_len q p)) _)
  have two : ∀ {x y : Po} {v : Int}, (x.length : Int) ≤ v → (y.length : Int) ≤ v → (x.length : Int) ≤ v ∧ (y.length : Int) ≤ v := fun h k => ⟨h, k⟩
  have v1 := hv f.vs.length
  have v2 := hv (f.vs.length + 1)
  have v3 := hv (f.vs.length + 2)
  have n0 : ((([] : Po)).length : Int) ≤ 1 := by simp
  by_cases k1 : s.k = 1
  · rw [if_pos k1, if_neg (show ¬ s.k = 2 by omega), if_neg (show ¬ (s.k = 3 ∨ s.k = 4) by omega), if_neg (show ¬ s.k = 5 by omega)]
    split
    · exact two n0 n0
    · split
      · exact two (x := varM f.vs.length) (by omega) n0
      · exact two (x := varM f.vs.length) (y := varM (f.vs.length + 1)) (by omega) (by omega)
  · rw [if_neg k1]
    by_cases k2 : s.k = 2
    · rw [if_pos k2, if_pos k2]
      exact two (x := addM a.1 (sclM s.r.q (subM b.1 a.1))) (y := addM a.2 (sclM s.r.q (subM b.2 a.2))) (by omega) (by omega)
    · rw [if_neg k2, if_neg k2]
      by_cases k3 : s.k = 3
      · rw [if_pos k3, if_pos (Or.inl k3)]
        have h1 := hw a.1 c.1 b.1
        have h2 := hw a.2 c.2 b.2
        exact two (x := addM a.1 (subM c.1 b.1)) (y := addM a.2 (subM c.2 b.2)) (by omega) (by omega)
      · rw [if_neg k3]
        by_cases k4 : s.k = 4
        · rw [if_pos k4, if_pos (Or.inr k4)]
          have h1 := hw a.1 b.2 c.2
          have h2 := hw a.2 c.1 b.1
          exact two (x := addM a.1 (subM b.2 c.2)) (y := addM a.2 (subM c.1 b.1)) (by omega) (by omega)
        · rw [if_neg k4, if_neg (show ¬ (s.k = 3 ∨ s.k = 4) by omega)]
          by_cases k5 : s.k = 5
          · rw [if_pos k5, if_pos k5]
            have h1 := hw' a.1 b.1 f.vs.length
            have h2 := hw' a.2 b.2 f.vs.length
            exact two (x := addM a.1 (mlM (subM b.1 a.1) (varM f.vs.length))) (y := addM a.2 (mlM (subM b.2 a.2) (varM f.vs.length))) (by omega) (by omega)
          · rw [if_neg k5, if_neg k5]
            split
            · exact two (x := varM (f.vs.length + 1)) (y := varM (f.vs.length + 2)) (by omega) (by omega)
            · exact two (x := varM f.vs.length) (y := varM (f.vs.length + 1)) (by omega) (by omega)
theorem frN_w (ss : List RS) : ∀ i n, (((frN ss i).cs.getD n ([], [])).1.length : Int) ≤ gI (wts ss i) n ∧ (((frN ss i).cs.getD n ([], [])).2.length : Int) ≤ gI (wts ss i) n
  | 0, n => by simp [frN, wts, gI]
  | i + 1, n => by
    have ih := frN_w ss i
    show ((((frN ss i).cs ++ [_]).getD n ([], [])).1.length : Int) ≤ gI (wts ss i ++ [_]) n ∧ ((((frN ss i).cs ++ [_]).getD n ([], [])).2.length : Int) ≤ gI (wts ss i ++ [_]) n
    rw [gI_app, wts_len]
    have hl := frN_len ss i
    by_cases h1 : n < i
    · rw [if_pos h1, List.getD_eq_getElem?_getD, List.getElem?_append_left (by omega), ← List.getD_eq_getElem?_getD]
      exact ih n
    · rw [if_neg h1]
      by_cases h2 : n = i
      · rw [if_pos h2, List.getD_eq_getElem?_getD, List.getElem?_append_right (by omega), hl, h2, Nat.sub_self]
        exact nxt_w (frN_srt ss i) ih i _
      · rw [if_neg h2, List.getD_eq_getElem?_getD, List.getElem?_eq_none (by simp; omega)]
        simp
theorem vs_le (ss : List RS) : ∀ i, (frN ss i).vs.length ≤ 3 * i
  | 0 => by simp [frN]
  | i + 1 => by
    show ((frN ss i).vs ++ ((frN ss i).nxt i (ss.getD i RS.zero)).1).length ≤ _
    rw [List.length_append]
    have := vs_le ss i
    have := nxt_vars (frN ss i) i (ss.getD i RS.zero)
    omega
def thinB (ss : List RS) (gs : List RG) : Bool :=
  (wts ss ss.length).all (fun w => decide (w ≤ 8)) && gs.all fun g => !(decide (g.k = 6) || decide (g.k = 7)) || g.ar.all fun a => decide (gI (wts ss ss.length) a.toNat ≤ 3)
def rat2 (r : RQ) : Bool := decide (r.l.length ≤ 2) && decide (r.d.length ≤ 2)
def fewB (ss : List RS) (gs : List RG) : Bool :=
  decide (ss.length ≤ 8) && (decide (gs.length ≤ 3) && (decide (figE ss gs = 0) && (thinB ss gs && (ss.all (fun s => rat2 s.r) && gs.all fun g => rat2 g.r))))
end Go.Proofs.YtbgmnobnaplmlaaGreat
end

section
namespace Go.Proofs.YtbgmnobnaplmlaaGreat
open Go Go.RowKit Go.Pg Go.Pol
set_option linter.unusedSimpArgs false
set_option linter.unusedVariables false
set_option maxRecDepth 20000
attribute [-bool_to_prop] Bool.and_eq_decide Bool.or_eq_decide Bool.decide_beq_decide decide_eq_decide
set_option linter.unusedSimpArgs false
set_option linter.unusedVariables false
/-! ### degrees in some variables -/
/-- The sum of a monomial's exponents at the first n variables that are in S. -/
def dgS (S : Nat → Bool) (m : List Int) : Nat → Int
  | 0 => 0
  | n + 1 => dgS S m n + if S n then gI m n else 0
theorem dgS_mul (S : Nat → Bool) (a b : List Int) : ∀ n, dgS S (mulM a b) n = dgS S a n + dgS S b n
  | 0 => rfl
  | n + 1 => by
    show dgS S (mulM a b) n + _ = (dgS S a n + _) + (dgS S b n + _)
    rw [dgS_mul S a b n, show gI (mulM a b) n = gI a n + gI b n from gI_zip _ rfl a b n]
    split <;> omega
theorem dgS_nil (S : Nat → Bool) : ∀ n, dgS S [] n = 0
  | 0 => rfl
  | n + 1 => by show dgS S [] n + _ = 0; rw [dgS_nil S n, gI_out (Nat.zero_le _)]; split <;> rfl
theorem dgS_unit (S : Nat → Bool) (v : Nat) : ∀ n, dgS S (unitM v) n = if S v = true ∧ v < n then 1 else 0
  | 0 => by simp [dgS]
  | n + 1 => by
    show dgS S (unitM v) n + _ = _
    rw [dgS_unit S v n, gI_unit]
    by_cases h : n = v
    · subst h
      cases hS : S n <;> simp
    · rw [if_neg h, show (if S n = true then (0 : Int) else 0) = 0 from by split <;> rfl, Int.add_zero]
      have : (S v = true ∧ v < n) = (S v = true ∧ v < n + 1) := propext ⟨fun x => ⟨x.1, by omega⟩, fun x => ⟨x.1, by omega⟩⟩
      simp only [this]
/-- A monomial of variables that are not in S. -/
theorem dgS_low {S : Nat → Bool} {m : List Int} {w : Nat} (hm : m.length ≤ w) (hS : ∀ v, v < w → S v = false) : ∀ n, dgS S m n = 0
  | 0 => rfl
  | n + 1 => by
    show dgS S m n + _ = 0
    rw [dgS_low hm hS n]
    by_cases h : n < w
    · rw [hS n h]; rfl
    · rw [gI_out (by omega)]; split <;> rfl
/-- Polynomials in the first V variables, of a degree of at most d in those of S. -/
def DP (S : Nat → Bool) (V : Nat) (d : Int) (p : Po) : Prop := ∀ t ∈ p, t.2.length ≤ V ∧ dgS S t.2 V ≤ d
theorem DP.mono {S : Nat → Bool} {V : Nat} {d e : Int} {p : Po} (h : DP S V d p) (hd : d ≤ e) : DP S V e p := fun t ht => ⟨(h t ht).1, by have := (h t ht).2; omega⟩
theorem DP.add {S : Nat → Bool} {V : Nat} {d : Int} {p q : Po} (h : DP S V d p) (g : DP S V d q) : DP S V d (addM p q) := fun t ht => by
  rcases mem_add ht with h1 | h1
  · obtain ⟨u, hu, e⟩ := List.mem_map.1 h1
    rw [← e]; exact h u hu
  · obtain ⟨u, hu, e⟩ := List.mem_map.1 h1
    rw [← e]; exact g u hu
theorem DP.neg {S : Nat → Bool} {V : Nat} {d : Int} {p : Po} (h : DP S V d p) : DP S V d (scaleP (-1) p) := fun t ht => by
  obtain ⟨u, hu, rfl⟩ := List.mem_map.1 ht
  exact h u hu
theorem DP.sub {S : Nat → Bool} {V : Nat} {d : Int} {p q : Po} (h : DP S V d p) (g : DP S V d q) : DP S V d (subM p q) := h.add g.neg
theorem DP.mul {S : Nat → Bool} {V : Nat} {d e : Int} {p q : Po} (h : DP S V d p) (g : DP S V e q) : DP S V (d + e) (mlM p q) := by
  have key : ∀ (q out : Po), DP S V e q → DP S V (d + e) out → DP S V (d + e) (q.foldl (fun out t => addP ltM out (timesP mulM p t)) out) := by
    intro q
    induction q with
    | nil => exact fun out _ h2 => h2
    | cons t q ih =>
      intro out h1 h2
      rw [List.foldl_cons]
      refine ih _ (fun u hu => h1 u (.tail _ hu)) (h2.add fun u hu => ?_)
      obtain ⟨s, hs, rfl⟩ := List.mem_map.1 hu
      obtain ⟨a1, a2⟩ := h s hs
      obtain ⟨b1, b2⟩ := h1 t (.head _)
      exact ⟨by show (mulM s.2 t.2).length ≤ V; rw [mulM_len]; omega, by show dgS S (mulM s.2 t.2) V ≤ _; rw [dgS_mul]; omega⟩
  exact key q [] g fun t ht => by cases ht
/-! ### distributing -/
theorem cofM_evl (m : List Int → List Int → List Int) (p q : Po) (x : List Int) : cofM m p q x = evl (fun a => cof (timesP m p (1, a)) x) q := by
  have h1 : ∀ (s : Tm) (q : Po), cof (timesP m q s) x = s.1 * cof (timesP m q (1, s.2)) x := by
    intro s q
    induction q with
    | nil => show (0 : Rat) = s.1 * 0; rw [Rat.mul_zero]
    | cons t q ih =>
      show (if m t.2 s.2 = x then t.1 * s.1 else 0) + cof (timesP m q s) x = s.1 * ((if m t.2 s.2 = x then t.1 * 1 else 0) + cof (timesP m q (1, s.2)) x)
      rw [ih, Rat.mul_add, Rat.mul_one]
      split
      · rw [Rat.mul_comm]
      · rw [Rat.mul_zero]
  induction q with
  | nil => rfl
  | cons s q ih =>
    show cof (timesP m p s) x + cofM m p q x = s.1 * cof (timesP m p (1, s.2)) x + evl _ q
    rw [ih, h1]
theorem mul_comm' {p q : Po} (hp : SrtM p) (hq : SrtM q) : mlM p q = mlM q p := mulR_comm ordM mulK hp hq
theorem mul_addR {p q r : Po} (hp : SrtM p) (hq : SrtM q) (hr : SrtM r) : mlM r (addM p q) = addM (mlM r p) (mlM r q) := by
  refine srt_ext ordM (mulR_srt ordM mulK hr (addP_srt ordM hp hq)) (addP_srt ordM (mulR_srt ordM mulK hr hp) (mulR_srt ordM mulK hr hq)) fun x => ?_
  have e1 : cof (mlM r (addM p q)) x = _ := mulR_cof ordM mulK hr (addP_srt ordM hp hq) x
  have e2 : cof (mlM r p) x = _ := mulR_cof ordM mulK hr hp x
  have e3 : cof (mlM r q) x = _ := mulR_cof ordM mulK hr hq x
  rw [cof_addP ordM x (mulR_srt ordM mulK hr hp).dom (mulR_srt ordM mulK hr hq).dom, e1, e2, e3, cofM_evl, cofM_evl, cofM_evl, evl_addP ordM _ hp.dom hq.dom]
theorem mul_negR {p r : Po} (hp : SrtM p) (hr : SrtM r) : mlM r (scaleP (-1) p) = scaleP (-1) (mlM r p) := by
  refine srt_ext ordM (mulR_srt ordM mulK hr (scale_srt hp neg1)) (scale_srt (mulR_srt ordM mulK hr hp) neg1) fun x => ?_
  have e1 : cof (mlM r (scaleP (-1) p)) x = _ := mulR_cof ordM mulK hr (scale_srt hp neg1) x
  have e2 : cof (mlM r p) x = _ := mulR_cof ordM mulK hr hp x
  rw [cof_scale, e1, e2, cofM_evl, cofM_evl, evl_scale]
theorem mul_subR {p q r : Po} (hp : SrtM p) (hq : SrtM q) (hr : SrtM r) : mlM r (subM p q) = subM (mlM r p) (mlM r q) := by
  unfold subM subP
  rw [show addP ltM p (scaleP (-1) q) = addM p (scaleP (-1) q) from rfl, mul_addR hp (scale_srt hq neg1) hr, mul_negR hq hr]
theorem mul_subL {p q r : Po} (hp : SrtM p) (hq : SrtM q) (hr : SrtM r) : mlM (subM p q) r = subM (mlM p r) (mlM q r) := by
  rw [mul_comm' (sub_srt ordM hp hq) hr, mul_subR hp hq hr, mul_comm' hp hr, mul_comm' hq hr]
/-- (x - a)^2 - (x - b)^2, without x^2. -/
theorem sq_diff {x a b : Po} (hx : SrtM x) (ha : SrtM a) (hb : SrtM b) :
    subM (mlM (subM x a) (subM x a)) (mlM (subM x b) (subM x b)) = addM (subM (mlM a a) (dblM (mlM x a))) (subM (dblM (mlM x b)) (mlM b b)) := by
  have hm : ∀ {p q : Po}, SrtM p → SrtM q → SrtM (mlM p q) := fun hp hq => mulR_srt ordM mulK hp hq
  have hs : ∀ {p q : Po}, SrtM p → SrtM q → SrtM (subM p q) := fun hp hq => sub_srt ordM hp hq
  have ha' : ∀ {p q : Po}, SrtM p → SrtM q → SrtM (addM p q) := fun hp hq => addP_srt ordM hp hq
  have hd : ∀ {p : Po}, SrtM p → SrtM (dblM p) := fun hp => addP_srt ordM hp hp
  refine srt_ext ordM (hs (hm (hs hx ha) (hs hx ha)) (hm (hs hx hb) (hs hx hb))) (ha' (hs (hm ha ha) (hd (hm hx ha))) (hs (hd (hm hx hb)) (hm hb hb))) fun y => ?_
  have c1 : ∀ {p q : Po}, SrtM p → SrtM q → cof (addM p q) y = cof p y + cof q y := fun hp hq => cof_addP ordM y hp.dom hq.dom
  have c2 : ∀ {p q : Po}, SrtM p → SrtM q → cof (subM p q) y = cof p y - cof q y := fun hp hq => sub_cof ordM hp hq y
  have c3 : ∀ {p : Po}, SrtM p → cof (dblM p) y = cof p y + cof p y := fun hp => c1 hp hp
  have e : ∀ {u : Po}, SrtM u → cof (mlM (subM x u) (subM x u)) y = (cof (mlM x x) y - cof (mlM x u) y) - (cof (mlM x u) y - cof (mlM u u) y) := fun {u} hu => by
    rw [mul_subL hx hu (hs hx hu), mul_subR hx hu hx, mul_subR hx hu hu, c2 (hs (hm hx hx) (hm hx hu)) (hs (hm hu hx) (hm hu hu)), c2 (hm hx hx) (hm hx hu), c2 (hm hu hx) (hm hu hu), mul_comm' hu hx]
  rw [c2 (hm (hs hx ha) (hs hx ha)) (hm (hs hx hb) (hs hx hb)), e ha, e hb, c1 (hs (hm ha ha) (hd (hm hx ha))) (hs (hd (hm hx hb)) (hm hb hb)), c2 (hm ha ha) (hd (hm hx ha)), c2 (hd (hm hx hb)) (hm hb hb), c3 (hm hx ha), c3 (hm hx hb)]
  grind
end Go.Proofs.YtbgmnobnaplmlaaGreat
end

section
namespace Go.Proofs.YtbgmnobnaplmlaaGreat
open Go Go.RowKit Go.Pg
set_option linter.unusedSimpArgs false
set_option linter.unusedVariables false
set_option maxRecDepth 20000
attribute [-bool_to_prop] Bool.and_eq_decide Bool.or_eq_decide Bool.decide_beq_decide decide_eq_decide
theorem szHVec : szOf Tryz.prog 135 = some 2 := by kernel_rfl
theorem byHVec : bytOf Tryz.prog 135 = some 48 := by kernel_rfl
theorem zHVec : zeroOf Tryz.prog 135 = some (.agg #[.slice none 0 0, .slice none 0 0]) := by kernel_rfl
theorem szA2P : szOf Tryz.prog 106 = some 2 := by kernel_rfl
theorem zA2P : zeroOf Tryz.prog 106 = some (.agg #[.slice none 0 0, .slice none 0 0]) := by kernel_rfl
theorem szA4C : szOf Tryz.prog 140 = some 8 := by kernel_rfl
theorem zA4C : zeroOf Tryz.prog 140 = some (.agg #[.slice none 0 0, .slice none 0 0, .slice none 0 0, .slice none 0 0, .slice none 0 0, .slice none 0 0, .slice none 0 0, .slice none 0 0]) := by kernel_rfl
end Go.Proofs.YtbgmnobnaplmlaaGreat
end

section
namespace Go.Proofs.YtbgmnobnaplmlaaGreat
open Go Go.RowKit Go.Pg Go.Pol
set_option linter.unusedSimpArgs false
set_option linter.unusedVariables false
set_option maxRecDepth 20000
attribute [local go_sem] Tryz.underlying3 Tryz.underlying4 Tryz.underlying178 Tryz.underlying9 Tryz.underlying48 Tryz.underlying31 Tryz.underlying43 Tryz.underlying41 Tryz.underlying39 Tryz.underlying50 Tryz.underlying22 Tryz.underlying25 Tryz.underlying56 Tryz.underlying28 Tryz.underlying72 Tryz.underlying27 Tryz.underlying30 Tryz.underlying105 Tryz.underlying107 Tryz.underlying70 Tryz.underlying63 Tryz.underlying103 Tryz.underlying154 sz3 by3 z3 szB zB szErr zErr szStr byStr zStr szRat zRat szInt zInt szNat zNat szStep byStep zStep szFig zFig szSlI zSlI szSlS zSlS szVar byVar zVar szSlV zSlV szCoord byCoord zCoord szSlC zSlC szFrame zFrame szCBld byCBld zCBld szCVec byCVec zCVec szPoly byPoly zPoly szTerm zTerm szPtrB zPtrB szFnC zFnC Tryz.underlying135 szHVec byHVec zHVec
attribute [-bool_to_prop] Bool.and_eq_decide Bool.or_eq_decide Bool.decide_beq_decide decide_eq_decide
/-! ### package hypotheses: vectors -/
theorem CB.subs {a b : Pt} (ha : CB a) (hb : CB b) : (Pure Tryz.prog 77 [poA b.1, poA a.1] (poA (subM b.1 a.1)) ∧ Pure Tryz.prog 74 [poA b.1, poA a.1] (poA (subM b.1 a.1))) ∧ (Pure Tryz.prog 77 [poA b.2, poA a.2] (poA (subM b.2 a.2)) ∧ Pure Tryz.prog 74 [poA b.2, poA a.2] (poA (subM b.2 a.2))) :=
  ⟨hpSub hb.x ha.x (by omega) (by omega) (by omega) (by omega) (by omega) (by omega), hpSub hb.y ha.y (by omega) (by omega) (by omega) (by omega) (by omega) (by omega)⟩
theorem hpM2 {p q : Po} (h : PB p 16 221 8) (g : PB q 16 221 8) : Pure Tryz.prog 78 [poA p, poA q] (poA (mlM p q)) ∧ Pure Tryz.prog 72 [poA p, poA q] (poA (mlM p q)) :=
  hpMul h g (by omega) (by omega) (by omega) (by omega) (by omega) (by omega) (by omega) (by omega) (by omega)
theorem hyBetween {a b : Pt} (ha : CB a) (hb : CB b) : Pure Tryz.prog 76 [coA a, coA b] (coA (dfM a b)) := by
  obtain ⟨⟨h1, -⟩, h2, -⟩ := ha.subs hb
  clear ha hb
  obtain ⟨a1, a2⟩ := a
  obtain ⟨b1, b2⟩ := b
  unfold dfM
  simp only at *
  generalize subM b1 a1 = d1 at *
  generalize subM b2 a2 = d2 at *
  refine pure_intro (tok := 0) Tryz.func76 rfl Tryz.ntmps76 Tryz.results76 Tryz.call76 (by rfl) (by simp) ?_
  (focus (refine wkld w_t (w_a h1 (w_a h2 w_t)) w_t (w_a (w_d 1 [(4, poA d1), (9, poA d2)] [] [4]) w_t) ?_; (repeat' first | exact w_t | apply w_l); all_goals intros))
theorem hyDotC (u v : Pt) (p q r : Po) (m1 : Pure Tryz.prog 78 [poA u.1, poA v.1] (poA p)) (m2 : Pure Tryz.prog 78 [poA u.2, poA v.2] (poA q)) (ad : Pure Tryz.prog 106 [poA p, poA q] (poA r)) : Pure Tryz.prog 79 [coA u, coA v] (poA r) := by
  obtain ⟨u1, u2⟩ := u
  obtain ⟨v1, v2⟩ := v
  simp only at *
  refine pure_intro (tok := 0) Tryz.func79 rfl Tryz.ntmps79 Tryz.results79 Tryz.call79 (by rfl) (by simp) ?_
  (focus (refine wkld w_t (w_a m1 (w_a m2 (w_a ad w_t))) w_t (w_a (w_d 1 [(4, poA p), (9, poA q), (10, poA r)] [] []) w_t) ?_; (repeat' first | exact w_t | apply w_l); all_goals intros))
theorem hyDot {a b c d : Pt} (ha : CB a) (hb : CB b) (hc : CB c) (hd : CB d) : Pure Tryz.prog 32 [coA a, coA b, coA c, coA d] (poA (dotM a b c d)) := by
  have b1 := hyBetween ha hb
  have b2 := hyBetween hc hd
  obtain ⟨x1, y1⟩ := ha.df hb
  obtain ⟨x2, y2⟩ := hc.df hd
  have cd := hyDotC (dfM a b) (dfM c d) _ _ _ (hpM2 x1 x2).1 (hpM2 y1 y2).1 (hpAdd (x1.m2 x2) (y1.m2 y2) (by omega) (by omega) (by omega) (by omega) (by omega) (by omega)).1
  rw [show addM (mlM (subM b.1 a.1) (subM d.1 c.1)) (mlM (subM b.2 a.2) (subM d.2 c.2)) = dotM a b c d from rfl] at cd
  generalize dotM a b c d = r at *
  clear x1 y1 x2 y2 ha hb hc hd
  obtain ⟨a1, a2⟩ := a
  obtain ⟨b1, b2⟩ := b
  obtain ⟨c1, c2⟩ := c
  obtain ⟨d1, d2⟩ := d
  generalize dfM _ _ = u at *
  generalize dfM _ _ = v at *
  obtain ⟨u1, u2⟩ := u
  obtain ⟨v1, v2⟩ := v
  refine pure_intro (tok := 0) Tryz.func32 rfl Tryz.ntmps32 Tryz.results32 Tryz.call32 (by rfl) (by simp) ?_
  (focus (refine wkld w_t (w_a b1 (w_a b2 (w_a cd w_t))) w_t (w_a (w_d 1 [(2, coA (u1, u2)), (5, coA (v1, v2)), (6, poA r)] [] []) w_t) ?_; (repeat' first | exact w_t | apply w_l); all_goals intros))
theorem hyCross {a b c d : Pt} (ha : CB a) (hb : CB b) (hc : CB c) (hd : CB d) : Pure Tryz.prog 30 [coA a, coA b, coA c, coA d] (poA (crossM a b c d)) := by
  have k1 := hyBetween ha hb
  have k2 := hyBetween hc hd
  obtain ⟨x1, y1⟩ := ha.df hb
  obtain ⟨x2, y2⟩ := hc.df hd
  have m1 := (hpM2 x1 y2).1
  have m2 := (hpM2 y1 x2).1
  have s := (hpSub (x1.m2 y2) (y1.m2 x2) (by omega) (by omega) (by omega) (by omega) (by omega) (by omega)).1
  rw [show subM (mlM (subM b.1 a.1) (subM d.2 c.2)) (mlM (subM b.2 a.2) (subM d.1 c.1)) = crossM a b c d from rfl] at s
  generalize crossM a b c d = r at *
  clear x1 y1 x2 y2 ha hb hc hd
  unfold dfM at k1 k2
  generalize mlM (subM b.1 a.1) (subM d.2 c.2) = p at *
  generalize mlM (subM b.2 a.2) (subM d.1 c.1) = q at *
  generalize subM b.1 a.1 = u1 at *
  generalize subM b.2 a.2 = u2 at *
  generalize subM d.1 c.1 = v1 at *
  generalize subM d.2 c.2 = v2 at *
  obtain ⟨a1, a2⟩ := a
  obtain ⟨b1, b2⟩ := b
  obtain ⟨c1, c2⟩ := c
  obtain ⟨d1, d2⟩ := d
  refine pure_intro (tok := 0) Tryz.func30 rfl Tryz.ntmps30 Tryz.results30 Tryz.call30 (by rfl) (by simp) ?_
  (focus (refine wkld w_t (w_a k1 (w_a k2 (w_a m1 (w_a m2 (w_a s w_t))))) w_t (w_a (w_d 1 [(2, coA (u1, u2)), (5, coA (v1, v2))] [] [9, 10]) (w_a (w_d 2 [(4, poA p), (9, poA q), (10, poA r)] [] []) w_t)) ?_; (repeat' first | exact w_t | apply w_l); all_goals intros))
end Go.Proofs.YtbgmnobnaplmlaaGreat
end

section
namespace Go.Proofs.YtbgmnobnaplmlaaGreat
open Go Go.RowKit Go.Pg
set_option linter.unusedSimpArgs false
set_option linter.unusedVariables false
set_option maxRecDepth 20000
attribute [-bool_to_prop] Bool.and_eq_decide Bool.or_eq_decide Bool.decide_beq_decide decide_eq_decide
theorem szFnN : szOf Tryz.prog 193 = some 1 := by kernel_rfl
theorem zFnN : zeroOf Tryz.prog 193 = some (.nilFunc) := by kernel_rfl
theorem undFnN : Tryz.prog.underlying 193 = some (.func #[72, 72] #[70] false) := by kernel_rfl
/-- At a region that draws its order the state may be seen otherwise. -/
theorem r_frzD {P : Program} {n : Nat} {Q : AE → St → Prop} {id : Nat} {ops : Array Oper} {st st' : St} (h : Frz n st st') (k : aCode P 0 n (.region id ops true) Q st') : aCode P 0 n (.region id ops true) Q st := fun c a w imm hr => by
  obtain ⟨i, h1⟩ := h c a w imm hr
  exact k c a w i h1
end Go.Proofs.YtbgmnobnaplmlaaGreat
end

section
namespace Go.Proofs.YtbgmnobnaplmlaaGreat
open Go Go.RowKit Go.Pg Go.Pol
set_option linter.unusedSimpArgs false
set_option linter.unusedVariables false
set_option maxRecDepth 20000
attribute [local go_sem] Tryz.underlying3 Tryz.underlying4 Tryz.underlying178 Tryz.underlying9 Tryz.underlying48 Tryz.underlying31 Tryz.underlying43 Tryz.underlying41 Tryz.underlying39 Tryz.underlying50 Tryz.underlying22 Tryz.underlying25 Tryz.underlying56 Tryz.underlying28 Tryz.underlying72 Tryz.underlying27 Tryz.underlying30 Tryz.underlying105 Tryz.underlying107 Tryz.underlying70 Tryz.underlying63 Tryz.underlying103 Tryz.underlying154 sz3 by3 z3 szB zB szErr zErr szStr byStr zStr szRat zRat szInt zInt szNat zNat szStep byStep zStep szFig zFig szSlI zSlI szSlS zSlS szVar byVar zVar szSlV zSlV szCoord byCoord zCoord szSlC zSlC szFrame zFrame szCBld byCBld zCBld szCVec byCVec zCVec szPoly byPoly zPoly szTerm zTerm szPtrB zPtrB szFnC zFnC
attribute [-bool_to_prop] Bool.and_eq_decide Bool.or_eq_decide Bool.decide_beq_decide decide_eq_decide
theorem Sub.tup2 {a b a' b' : AV} (h : Sub a a') (k : Sub b b') : Sub (.tup [a, b]) (.tup [a', b']) := Sub.tup _ _ rfl fun j x y h1 h2 => by
  match j with
  | 0 => simp at h1 h2; subst h1; subst h2; exact h
  | 1 => simp at h1 h2; subst h1; subst h2; exact k
  | j + 2 => simp at h1
theorem Agr.re {m σ : Mem} {t k : Nat} {e1 e e' : Ent} (h : Agr m (upd σ k (some e1))) (ht : t = k + 1000) (he : e' = e.sh) : Agr (upd m t (some e')) (upd σ k (some e)) := by
  have := h.put (k := k) (e := e) ht he
  rwa [upd_over] at this
/-- A frame's handles under other names. -/
theorem Sub.frame (KC KV KC' KV' : Nat) (svC svV : Value) : Sub (.agg [.own KC svC, .own KV svV]) (.agg [.own KC' svC, .own KV' svV]) := Sub.agg2 (Sub.own _ _ _) (Sub.own _ _ _)
set_option maxHeartbeats 2000000 in
theorem rcParam (σ : Mem) (KC KV : Nat) (svC svV : Value) (vs : List Vt) (kind step number : Int) (hV : σ KV = some (.row svV 56 3 (vs.map Vt.av) 0)) (hl : vs.length ≤ 200) :
    ACall Tryz.prog 118 [.agg [.own KC svC, .own KV svV], iv kind, iv step, iv number] σ fun r σ' => ∃ sv, r = .tup [.agg [.own KC svC, .own KV sv], poA (varM vs.length)] ∧ σ' = upd σ KV (some (.row sv 56 3 ((vs ++ [(kind, step, number)]).map Vt.av) 0)) := by
  have mV := lents_at hV
  have cv := rpVar vs.length (by omega)
  have hln : (vs.map Vt.av).length = vs.length := List.length_map ..
  have hm1 : ((vs.length + 1 : Nat) : Int) - 1 = (vs.length : Int) := by omega
  simp only [Ent.sh, AV.shL, AV.sh] at mV
  simp only [List.map_append, List.map_cons, List.map_nil]
  refine acall_lents Tryz.func118 rfl Tryz.ntmps118 Tryz.results118 Tryz.call118 (by rfl) (by simp) ?_
  (focus (refine wkad (w_a mV (w_a hln (w_a hm1 (w_a @l_app (w_a @lents_lt (w_a @lents_beq w_t)))))) (w_a cv w_t) (w_a (w_d 2 [(5, poA (varM vs.length))] [] [8]) w_t) ?_; (repeat' first | exact w_t | apply w_l); all_goals intros))
  simp (disch := omega) only [go_sem]
  rename_i sv1
  refine backS (Sub.tup2 (Sub.frame _ _ _ _ _ _) (Sub.refl _)) ⟨sv1, rfl, rfl⟩ ?_
  (repeat (refine Agr.own ?_ (by omega)))
  refine Agr.put ?_ rfl rfl
  (repeat' (first | exact Agr.start _ | (refine Agr.own ?_ (by omega))))
set_option maxHeartbeats 4000000 in
theorem rcFree (σ : Mem) (KC KV : Nat) (svC svV : Value) (vs : List Vt) (i fr : Nat) (hV : σ KV = some (.row svV 56 3 (vs.map Vt.av) 0)) (hl : vs.length ≤ 100) (hf : fr ≤ 1000) :
    ACall Tryz.prog 114 [.agg [.own KC svC, .own KV svV], iv i, iv fr] σ fun r σ' => ∃ sv, r = .tup [.agg [.own KC svC, .own KV sv], coA (if fr = 0 then ([], []) else if fr = 1 then (varM vs.length, []) else (varM vs.length, varM (vs.length + 1)))] ∧
      σ' = upd σ KV (some (.row sv 56 3 ((vs ++ (if fr = 0 then [] else if fr = 1 then [(1, (i : Int), 0)] else [(1, (i : Int), 0), (1, (i : Int), 1)])).map Vt.av) 0)) := by
  have mV := lents_at hV
  simp only [Ent.sh, AV.shL, AV.sh] at mV
  by_cases h0 : fr = 0
  · subst h0
    simp only [if_true, List.append_nil]
    refine acall_lents Tryz.func114 rfl Tryz.ntmps114 Tryz.results114 Tryz.call114 (by rfl) (by simp) ?_
    (focus (refine wkad (w_a mV w_t) w_t (w_a (w_d 6 [] [] [6, 7]) w_t) ?_; (repeat' first | exact w_t | apply w_l); all_goals intros))
    simp (disch := omega) only [go_sem]
    refine backS (Sub.tup2 (Sub.frame _ _ _ _ _ _) (Sub.agg2 (Sub.nil 4) (Sub.nil 4))) ⟨svV, rfl, rfl⟩ ?_
    rw [upd_same' hV]
    (repeat' (first | exact Agr.start _ | (refine Agr.own ?_ (by omega))))
  · by_cases h1 : fr = 1
    · subst h1
      simp only [if_neg h0, if_true]
      refine acall_lents Tryz.func114 rfl Tryz.ntmps114 Tryz.results114 Tryz.call114 (by rfl) (by simp) ?_
      (focus (refine wkad (w_a mV w_t) w_t w_t ?_; (repeat' first | exact w_t | apply w_l); all_goals intros))
      refine o_fresh (rcParam _ (KC + 1000) (KV + 1000) svC svV vs 1 (i : Int) 0 (by (simp (disch := omega) only [go_sem, mV, if_neg, if_pos, List.map_append, List.map_cons, List.map_nil] <;> repeat' first | rfl | refine ⟨?_, ?_⟩)) (by first | omega | (simp; omega))) ?_
      intro sv1
      (focus (refine wkad (w_a mV w_t) w_t (w_a (w_d 6 [] [] [6, 7]) w_t) ?_; (repeat' first | exact w_t | apply w_l); all_goals intros))
      simp (disch := omega) only [go_sem]
      refine backS (Sub.tup2 (Sub.frame _ _ _ _ _ _) (Sub.agg2 (Sub.refl _) (Sub.nil 4))) ⟨sv1, rfl, rfl⟩ ?_
      simp only [List.map_append, List.map_cons, List.map_nil]
      (repeat (refine Agr.own ?_ (by omega)))
      refine Agr.put ?_ rfl rfl
      (repeat' (first | exact Agr.start _ | (refine Agr.own ?_ (by omega))))
    · simp only [if_neg h0, if_neg h1]
      have hl1 : (vs ++ [((1 : Int), (i : Int), (0 : Int))]).length = vs.length + 1 := by simp
      refine acall_lents Tryz.func114 rfl Tryz.ntmps114 Tryz.results114 Tryz.call114 (by rfl) (by simp) ?_
      (focus (refine wkad (w_a mV w_t) w_t w_t ?_; (repeat' first | exact w_t | apply w_l); all_goals intros))
      refine o_fresh (rcParam _ (KC + 1000) (KV + 1000) svC svV vs 1 (i : Int) 0 (by (simp (disch := omega) only [go_sem, mV, if_neg, if_pos, List.map_append, List.map_cons, List.map_nil] <;> repeat' first | rfl | refine ⟨?_, ?_⟩)) (by first | omega | (simp; omega))) ?_
      intro sv1
      (focus (refine wkad (w_a mV w_t) w_t w_t ?_; (repeat' first | exact w_t | apply w_l); all_goals intros))
      refine o_fresh (rcParam _ (KC + 1000) (KV + 1000) svC sv1 (vs ++ [(1, (i : Int), 0)]) 1 (i : Int) 1 (by (simp (disch := omega) only [go_sem, mV, if_neg, if_pos, List.map_append, List.map_cons, List.map_nil] <;> repeat' first | rfl | refine ⟨?_, ?_⟩)) (by first | omega | (simp; omega))) ?_
      intro sv2
      (focus (refine wkad (w_a mV (w_a hl1 w_t)) w_t (w_a (w_d 6 [] [] [6, 7]) w_t) ?_; (repeat' first | exact w_t | apply w_l); all_goals intros))
      simp (disch := omega) only [go_sem, hl1]
      refine backS (Sub.tup2 (Sub.frame _ _ _ _ _ _) (Sub.refl _)) ⟨sv2, rfl, rfl⟩ ?_
      simp only [List.append_assoc, List.cons_append, List.nil_append]
      (repeat (refine Agr.own ?_ (by omega)))
      refine Agr.re (e1 := .row sv1 56 3 ((vs ++ [(1, (i : Int), 0)]).map Vt.av) 0) ?_ rfl rfl
      (repeat (refine Agr.own ?_ (by omega)))
      refine Agr.put ?_ rfl rfl
      (repeat' (first | exact Agr.start _ | (refine Agr.own ?_ (by omega))))
set_option maxHeartbeats 4000000 in
theorem rcDep (σ : Mem) (KC KV : Nat) (svC svV : Value) (vs : List Vt) (i : Nat) (num : Int) (hV : σ KV = some (.row svV 56 3 (vs.map Vt.av) 0)) (hl : vs.length ≤ 100) (hn : 0 ≤ num ∧ num ≤ 10) :
    ACall Tryz.prog 119 [.agg [.own KC svC, .own KV svV], iv i, iv num] σ fun r σ' => ∃ sv, r = .tup [.agg [.own KC svC, .own KV sv], coA (varM vs.length, varM (vs.length + 1))] ∧
      σ' = upd σ KV (some (.row sv 56 3 ((vs ++ [(2, (i : Int), num), (2, (i : Int), num + 1)]).map Vt.av) 0)) := by
  have mV := lents_at hV
  simp only [Ent.sh, AV.shL, AV.sh] at mV
  have hl1 : (vs ++ [((2 : Int), (i : Int), num)]).length = vs.length + 1 := by simp
  refine acall_lents Tryz.func119 rfl Tryz.ntmps119 Tryz.results119 Tryz.call119 (by rfl) (by simp) ?_
  (focus (refine wkad (w_a mV w_t) w_t w_t ?_; (repeat' first | exact w_t | apply w_l); all_goals intros))
  refine o_fresh (rcParam _ (KC + 1000) (KV + 1000) svC svV vs 2 (i : Int) num (by (simp (disch := omega) only [go_sem, mV, if_neg, if_pos, List.map_append, List.map_cons, List.map_nil] <;> repeat' first | rfl | refine ⟨?_, ?_⟩)) (by first | omega | (simp; omega))) ?_
  intro sv1
  (focus (refine wkad (w_a mV w_t) w_t w_t ?_; (repeat' first | exact w_t | apply w_l); all_goals intros))
  refine o_fresh (rcParam _ (KC + 1000) (KV + 1000) svC sv1 (vs ++ [(2, (i : Int), num)]) 2 (i : Int) (num + 1) (by (simp (disch := omega) only [go_sem, mV, if_neg, if_pos, List.map_append, List.map_cons, List.map_nil] <;> repeat' first | rfl | refine ⟨?_, ?_⟩)) (by first | omega | (simp; omega))) ?_
  intro sv2
  (focus (refine wkad (w_a mV (w_a hl1 w_t)) w_t (w_a (w_d 4 [] [] [6, 7]) w_t) ?_; (repeat' first | exact w_t | apply w_l); all_goals intros))
  simp (disch := omega) only [go_sem, hl1]
  refine backS (Sub.tup2 (Sub.frame _ _ _ _ _ _) (Sub.refl _)) ⟨sv2, rfl, rfl⟩ ?_
  simp only [List.append_assoc, List.cons_append, List.nil_append]
  (repeat (refine Agr.own ?_ (by omega)))
  refine Agr.re (e1 := .row sv1 56 3 ((vs ++ [(2, (i : Int), num)]).map Vt.av) 0) ?_ rfl rfl
  (repeat (refine Agr.own ?_ (by omega)))
  refine Agr.put ?_ rfl rfl
  (repeat' (first | exact Agr.start _ | (refine Agr.own ?_ (by omega))))
theorem rcAlong (a b : Po × Po) (m d1 d2 e1 e2 f1 f2 : Po) (s1 : Pure Tryz.prog 74 [poA b.1, poA a.1] (poA d1)) (s2 : Pure Tryz.prog 74 [poA b.2, poA a.2] (poA d2))
    (m1 : Pure Tryz.prog 72 [poA m, poA d1] (poA e1)) (m2 : Pure Tryz.prog 72 [poA m, poA d2] (poA e2)) (a1 : Pure Tryz.prog 80 [poA a.1, poA e1] (poA f1)) (a2 : Pure Tryz.prog 80 [poA a.2, poA e2] (poA f2)) :
    Pure Tryz.prog 115 [coA a, coA b, poA m] (coA (f1, f2)) := by
  obtain ⟨x1, x2⟩ := a
  obtain ⟨y1, y2⟩ := b
  simp only at *
  refine pure_intro (tok := 0) Tryz.func115 rfl Tryz.ntmps115 Tryz.results115 Tryz.call115 (by rfl) (by simp) ?_
  (focus (refine wkld w_t (w_a s1 (w_a s2 (w_a m1 (w_a m2 (w_a a1 (w_a a2 w_t)))))) w_t (w_a (w_d 1 [(7, poA d1), (8, poA e1), (9, poA f1), (17, poA d2), (18, poA e2), (19, poA f2)] [] [6]) w_t) ?_; (repeat' first | exact w_t | apply w_l); all_goals intros))
theorem rcPlus (p q r d f : Po) (s : Pure Tryz.prog 74 [poA q, poA r] (poA d)) (a : Pure Tryz.prog 80 [poA p, poA d] (poA f)) : Pure Tryz.prog 117 [poA p, poA q, poA r] (poA f) := by
  refine pure_intro (tok := 0) Tryz.func117 rfl Tryz.ntmps117 Tryz.results117 Tryz.call117 (by rfl) (by simp) ?_
  (focus (refine wklp w_t (w_a s (w_a a w_t)) w_t (w_r 0) ?_; (repeat' first | exact w_t | apply w_l); all_goals intros))
end Go.Proofs.YtbgmnobnaplmlaaGreat
end

section
namespace Go.Proofs.YtbgmnobnaplmlaaGreat
open Go Go.RowKit Go.Pg Go.Pol
set_option linter.unusedSimpArgs false
set_option linter.unusedVariables false
set_option maxRecDepth 20000
attribute [-bool_to_prop] Bool.and_eq_decide Bool.or_eq_decide Bool.decide_beq_decide decide_eq_decide
abbrev cstM (q : Rat) : Po := if q = 0 then [] else [(q, [])]
theorem cst_pk (q : Rat) {k : Nat} (h : Sz q k) : PK (cstM q) k 1 := by
  unfold cstM
  split
  · exact PK.nil
  · intro t ht
    rw [List.mem_singleton] at ht
    subst ht
    exact ⟨h, Nat.zero_le _, fun j => by rw [gI_out (Nat.zero_le _)]; omega⟩
theorem cst_srt (q : Rat) : SrtM (cstM q) := by
  unfold cstM
  split
  · exact .nil
  · rename_i h
    exact Srt.nil.cons h can_nil (by simp)
theorem cst_len (q : Rat) : (cstM q).length ≤ 1 := by
  unfold cstM
  split <;> simp
theorem cst_mul (q : Rat) {d : Po} (sd : SrtM d) : mlM (cstM q) d = sclM q d := by
  unfold sclM cstM
  by_cases h : q = 0
  · rw [if_pos h, if_pos h]; exact mulR_nil d
  · rw [if_neg h, if_neg h]; exact mul_const h sd
theorem PK.take {p : Po} {k e : Nat} (h : PK p k e) (i : Nat) : PK (p.take i) k e := fun t ht => h t (List.mem_of_mem_take ht)
theorem var_mul (v : Nat) {d : Po} (sd : SrtM d) : mlM (varM v) d = mlM d (varM v) := mulR_comm ordM mulK (varM_srt v) sd
theorem var_len (v : Nat) : (varM v).length ≤ 1 := by unfold varM; split <;> simp
theorem rcMulC (q : Rat) (d : Po) (hq : Sz q 2) (hd : PK d 221 1) (sd : SrtM d) (ld : d.length ≤ 8000) : Pure Tryz.prog 72 [poA (cstM q), poA d] (poA (sclM q d)) := by
  rw [← cst_mul q sd]
  have := cst_len q
  refine rpMul (cstM q) d (cst_pk q hq) hd (cst_srt q) sd (by omega) (by omega) (by omega) (by omega) (by omega) (by omega) (K := 223) (E := 1) (fun i => ?_) (by omega) (by omega)
  rw [cst_mul q (srt_take sd i)]
  have h1 := scl_len q (d.take i)
  have h2 : (d.take i).length ≤ d.length := by rw [List.length_take]; omega
  exact ⟨((hd.take i).scl hq).mono (by omega) (by omega), by omega⟩
theorem rcMulV (v : Nat) (d : Po) (hd : PK d 221 1) (sd : SrtM d) (ld : d.length ≤ 8000) : Pure Tryz.prog 72 [poA (varM v), poA d] (poA (mlM d (varM v))) := by
  rw [← var_mul v sd]
  have := var_len v
  refine rpMul (varM v) d (varM_pk v) hd (varM_srt v) sd (by omega) (by omega) (by omega) (by omega) (by omega) (by omega) (K := 222) (E := 2) (fun i => ?_) (by omega) (by omega)
  rw [var_mul v (srt_take sd i)]
  have h1 := mulV_len (d.take i) v
  have h2 : (d.take i).length ≤ d.length := by rw [List.length_take]; omega
  exact ⟨(hd.take i).mulV.mono (by omega) (by omega), by omega⟩
/-- A point on the way between two, by a share that is a number. -/
theorem rcAlongS (a b : Po × Po) (q : Rat) (hq : Sz q 2) (a1 : Co a.1) (a2 : Co a.2) (b1 : Co b.1) (b2 : Co b.2) : Pure Tryz.prog 115 [coA a, coA b, poA (cstM q)] (coA (addM a.1 (sclM q (subM b.1 a.1)), addM a.2 (sclM q (subM b.2 a.2)))) := by
  have n1 := a1.ln
  have n2 := a2.ln
  have n3 := b1.ln
  have n4 := b2.ln
  have s1 := rpSub b.1 a.1 b1.pk a1.pk b1.st a1.st (by omega) (by omega) (by omega) (by omega) (by omega)
  have s2 := rpSub b.2 a.2 b2.pk a2.pk b2.st a2.st (by omega) (by omega) (by omega) (by omega) (by omega)
  have d1 := b1.pk.sub a1.pk
  have d2 := b2.pk.sub a2.pk
  have t1 := sub_srt ordM b1.st a1.st
  have t2 := sub_srt ordM b2.st a2.st
  have l1 := sub_len b.1 a.1
  have l2 := sub_len b.2 a.2
  have m1 := rcMulC q (subM b.1 a.1) hq d1 t1 (by omega)
  have m2 := rcMulC q (subM b.2 a.2) hq d2 t2 (by omega)
  have e1 := rpAdd a.1 (sclM q (subM b.1 a.1)) a1.pk (d1.scl hq) a1.st (scl_srt t1) (by omega) (by have := scl_len q (subM b.1 a.1); omega) (by omega) (by omega) (by omega)
  have e2 := rpAdd a.2 (sclM q (subM b.2 a.2)) a2.pk (d2.scl hq) a2.st (scl_srt t2) (by omega) (by have := scl_len q (subM b.2 a.2); omega) (by omega) (by omega) (by omega)
  exact rcAlong a b (cstM q) _ _ _ _ _ _ s1 s2 m1 m2 e1 e2
/-- The same, by a share that is a variable. -/
theorem rcAlongM (a b : Po × Po) (v : Nat) (a1 : Co a.1) (a2 : Co a.2) (b1 : Co b.1) (b2 : Co b.2) : Pure Tryz.prog 115 [coA a, coA b, poA (varM v)] (coA (addM a.1 (mlM (subM b.1 a.1) (varM v)), addM a.2 (mlM (subM b.2 a.2) (varM v)))) := by
  have n1 := a1.ln
  have n2 := a2.ln
  have n3 := b1.ln
  have n4 := b2.ln
  have s1 := rpSub b.1 a.1 b1.pk a1.pk b1.st a1.st (by omega) (by omega) (by omega) (by omega) (by omega)
  have s2 := rpSub b.2 a.2 b2.pk a2.pk b2.st a2.st (by omega) (by omega) (by omega) (by omega) (by omega)
  have d1 := b1.pk.sub a1.pk
  have d2 := b2.pk.sub a2.pk
  have t1 := sub_srt ordM b1.st a1.st
  have t2 := sub_srt ordM b2.st a2.st
  have l1 := sub_len b.1 a.1
  have l2 := sub_len b.2 a.2
  have m1 := rcMulV v (subM b.1 a.1) d1 t1 (by omega)
  have m2 := rcMulV v (subM b.2 a.2) d2 t2 (by omega)
  have e1 := rpAdd a.1 (mlM (subM b.1 a.1) (varM v)) (a1.pk.mono (Nat.le_refl 110) (show 1 ≤ 1 + 1 by omega)) d1.mulV a1.st (mulR_srt ordM mulK t1 (varM_srt v)) (by omega) (by have := mulV_len (subM b.1 a.1) v; omega) (by omega) (by omega) (by omega)
  have e2 := rpAdd a.2 (mlM (subM b.2 a.2) (varM v)) (a2.pk.mono (Nat.le_refl 110) (show 1 ≤ 1 + 1 by omega)) d2.mulV a2.st (mulR_srt ordM mulK t2 (varM_srt v)) (by omega) (by have := mulV_len (subM b.2 a.2) v; omega) (by omega) (by omega) (by omega)
  exact rcAlong a b (varM v) _ _ _ _ _ _ s1 s2 m1 m2 e1 e2
theorem rcPlusC (p q r : Po) (hp : Co p) (hq : Co q) (hr : Co r) : Pure Tryz.prog 117 [poA p, poA q, poA r] (poA (addM p (subM q r))) := by
  have n1 := hp.ln
  have n2 := hq.ln
  have n3 := hr.ln
  have l1 := sub_len q r
  have s := rpSub q r hq.pk hr.pk hq.st hr.st (by omega) (by omega) (by omega) (by omega) (by omega)
  have a := rpAdd p (subM q r) hp.pk (hq.pk.sub hr.pk) hp.st (sub_srt ordM hq.st hr.st) (by omega) (by omega) (by omega) (by omega) (by omega)
  exact rcPlus p q r _ _ s a
end Go.Proofs.YtbgmnobnaplmlaaGreat
end

section
namespace Go.Proofs.YtbgmnobnaplmlaaGreat
open Go Go.RowKit Go.Pg Go.Pol
set_option linter.unusedSimpArgs false
set_option linter.unusedVariables false
set_option maxRecDepth 20000
attribute [local go_sem] Tryz.underlying3 Tryz.underlying4 Tryz.underlying178 Tryz.underlying9 Tryz.underlying48 Tryz.underlying31 Tryz.underlying43 Tryz.underlying41 Tryz.underlying39 Tryz.underlying50 Tryz.underlying22 Tryz.underlying25 Tryz.underlying56 Tryz.underlying28 Tryz.underlying72 Tryz.underlying27 Tryz.underlying30 Tryz.underlying105 Tryz.underlying107 Tryz.underlying70 Tryz.underlying63 Tryz.underlying103 Tryz.underlying154 sz3 by3 z3 szB zB szErr zErr szStr byStr zStr szRat zRat szInt zInt szNat zNat szStep byStep zStep szFig zFig szSlI zSlI szSlS zSlS szVar byVar zVar szSlV zSlV szCoord byCoord zCoord szSlC zSlC szFrame zFrame szCBld byCBld zCBld szCVec byCVec zCVec szPoly byPoly zPoly szTerm zTerm szPtrB zPtrB szFnC zFnC
attribute [-bool_to_prop] Bool.and_eq_decide Bool.or_eq_decide Bool.decide_beq_decide decide_eq_decide
theorem Agr.at {m σ : Mem} (h : Agr m σ) {k : Nat} {e : Ent} (hk : σ k = some e) : m (k + 1000) = some e.sh := by rw [h k, hk]; rfl
def ptsN (cs : List (Po × Po)) (ar : List Int) : List (Po × Po) := ar.map fun a => cs.getD a.toNat ([], [])
theorem ptsN_len (cs : List (Po × Po)) (ar : List Int) : (ptsN cs ar).length = ar.length := by unfold ptsN; simp
theorem ptsN_get {cs : List (Po × Po)} {ar : List Int} {k : Nat} (h : k < ar.length) : (ptsN cs ar)[k]'(by rw [ptsN_len]; exact h) = cs.getD (gI ar k).toNat ([], []) := by
  unfold ptsN
  rw [List.getElem_map, gI_at h]
theorem pts_at {cs : List (Po × Po)} {ar : List Int} {k : Nat} (h : k < ar.length) : ((ptsN cs ar).map coA).getD k .u = coA (cs.getD (gI ar k).toNat ([], [])) := by
  rw [map_atB coA (by rw [ptsN_len]; exact h), ptsN_get h]
theorem ptsN_take {cs : List (Po × Po)} {ar : List Int} {k : Nat} (h : k < ar.length) : (ptsN cs ar).take (k + 1) = (ptsN cs ar).take k ++ [cs.getD (gI ar k).toNat ([], [])] := by
  rw [List.take_add_one, List.getElem?_eq_getElem (by rw [ptsN_len]; exact h), ptsN_get h]; rfl
theorem arS_le (k : Int) : arS k ≤ 4 := by
  unfold arS
  repeat' split
  all_goals omega
set_option maxHeartbeats 16000000 in
theorem rcNext (σ : Mem) (KC KV : Nat) (svC svV : Value) (cs : List (Po × Po)) (vs : List Vt) (fr i : Nat) (ss : List RS) (gs : List RG) (s : RS) (hi : i < ss.length) (hs : ss[i] = s) (hV : σ KV = some (.row svV 56 3 (vs.map Vt.av) 0)) (hC : σ KC = some (.row svC 72 2 (cs.map coA) 0)) (hVC : KV ≠ KC) (hl : vs.length ≤ 64) (hf : fr ≤ 100) (hi1 : i ≤ 1000) (hok : StOk cs s) (hco : ∀ c ∈ cs, Co c.1 ∧ Co c.2) :
    ACall Tryz.prog 53 [.agg [.own KC svC, .own KV svV], figA ss gs, iv i, iv fr] σ fun r σ' => ∃ sv, r = .tup [.agg [.own KC svC, .own KV sv], coA (FS.nxt ⟨cs, vs, fr⟩ i s).2] ∧
      σ' = upd σ KV (some (.row sv 56 3 ((vs ++ (FS.nxt ⟨cs, vs, fr⟩ i s).1).map Vt.av) 0)) := by
  have hgi : (ss.map RS.av).getD i .u = s.av := by rw [← hs]; exact map_atB RS.av hi
  have hls : (ss.map RS.av).length = ss.length := List.length_map ..
  have hcl : (cs.map coA).length = cs.length := List.length_map ..
  show ACall _ _ [.agg [.own KC svC, .own KV svV], .agg [.sl 6 (ss.map RS.av), .sl 5 (gs.map RG.av)], iv i, iv fr] _ _
  generalize ss.map RS.av = M at *
  generalize gs.map RG.av = N at *
  clear hs
  obtain ⟨k0, nm, ar, ⟨rs, rl, rd⟩⟩ := s
  have hll : (ar.map iv).length = ar.length := List.length_map ..
  refine acall_lents Tryz.func53 rfl Tryz.ntmps53 Tryz.results53 Tryz.call53 (by rfl) (by simp) ?_
  (focus (refine wkad (w_a hgi (w_a hls (w_a hll w_t))) w_t w_t ?_; (repeat' first | exact w_t | apply w_l); all_goals intros))
  rename_i g4 g5 g8 g9 g10
  refine r_frz (Frz.nilOwn (d := 11) 37 2 72 (by exact gC)) ?_
  refine r_loopE (ι := Nat) (fun k e m => k ≤ ar.length ∧ e 2 = iv i ∧ e 3 = iv fr ∧ e 4 = .pbox 4 g4 0 ∧ m 4 = some (.box g4 30 [.own (KC + 1000) svC, .own (KV + 1000) svV] false) ∧ e 8 = .pbox 8 g8 0 ∧ m 8 = some (.box g8 30 [.v (.slice none 0 0), .v (.slice none 0 0)] false) ∧ e 9 = .pbox 9 g9 0 ∧ m 9 = some (.box g9 72 [.v (.slice none 0 0), .v (.slice none 0 0)] false) ∧ e 10 = .pbox 10 g10 0 ∧ m 10 = some (.box g10 50 [iv k0, strA nm, ivs ar, .v (.bool rs), lim rl, lim rd] false) ∧ e 24 = ivs ar ∧ e 25 = iv ar.length ∧ e 26 = iv k ∧ (∃ sv, e 11 = .own 37 sv ∧ m 37 = some (.row sv 72 2 (((ptsN cs ar).take k).map coA) 0)) ∧ Agr m σ) (fun k => ar.length - k) 0 (by rfl) ?_ ?_
  · rintro k e m ⟨hk, hA2, hA3, e4, m4, e8, m8, e9, m9, e10, m10, e24, e25, e26, ⟨sv, e11, m37⟩, hAg⟩
    have mV := Agr.at hAg hV
    have mC := Agr.at hAg hC
    simp only [Ent.sh, AV.shL, AV.sh] at mV mC
    by_cases hlt : k < ar.length
    · have h0 := hok.ai k hlt
      simp only at h0
      have hga : (ar.map iv).getD k .u = iv (gI ar k) := by rw [map_atB iv hlt, gI_at hlt]
      have hgc : (cs.map coA).getD (gI ar k).toNat .u = coA (cs.getD (gI ar k).toNat ([], [])) := getD_mapA (by omega)
      have htk := ptsN_take (cs := cs) hlt
      have har4 : ar.length ≤ 4 := by
        have h1 : (ar.length : Int) = arS k0 := hok.al
        have h2 := arS_le k0
        omega
      have hL : ((ptsN cs ar).take k).length ≤ 4 := by
        have h1 : (ar.length : Int) = arS k0 := hok.al
        have h2 := arS_le k0
        rw [List.length_take]
        omega
      generalize (ptsN cs ar).take k = L at *
      generalize cs.getD (gI ar k).toNat ([], []) = c at *
      generalize gI ar k = a at *
      obtain ⟨c1, c2⟩ := c
      (focus (refine wkad (w_a hA2 (w_a hA3 (w_a e4 (w_a m4 (w_a e8 (w_a m8 (w_a e9 (w_a m9 (w_a e10 (w_a m10 (w_a e11 (w_a e24 (w_a e25 (w_a e26 (w_a m37 (w_a mV (w_a mC (w_a hll (w_a hcl (w_a hga (w_a hgc w_t))))))))))))))))))))) w_t w_t ?_; (repeat' first | exact w_t | apply w_l); all_goals intros))
      rename_i sv2
      refine ⟨k + 1, ⟨by omega, by (simp (disch := omega) only [go_sem, hA2] <;> repeat' first | rfl | refine ⟨?_, ?_⟩), by (simp (disch := omega) only [go_sem, hA3] <;> repeat' first | rfl | refine ⟨?_, ?_⟩), by exact gW e4, by exact gW m4, by exact gW e8, by exact gW m8, by exact gW e9, by exact gW m9, by exact gW e10, by exact gW m10, by exact gW e24, by exact gW e25, by exact gS, ⟨_, by exact gC, by (rw [htk, List.map_append]; exact gC)⟩, ?_⟩, by omega⟩
      (repeat' (first | exact hAg | (refine Agr.own ?_ (by omega))))
    · have hkk : k = ar.length := by omega
      subst hkk
      rw [show (ptsN cs ar).take ar.length = ptsN cs ar from List.take_of_length_le (by rw [ptsN_len]; exact Nat.le_refl _)] at m37
      have hlp : ((ptsN cs ar).map coA).length = ar.length := by rw [List.length_map, ptsN_len]
      by_cases k1 : k0 = 1
      · subst k1
        have en : FS.nxt ⟨cs, vs, fr⟩ i ⟨1, nm, ar, ⟨rs, rl, rd⟩⟩ = (if fr = 0 then [] else if fr = 1 then [(1, (i : Int), 0)] else [(1, (i : Int), 0), (1, (i : Int), 1)], if fr = 0 then ([], []) else if fr = 1 then (varM vs.length, []) else (varM vs.length, varM (vs.length + 1))) := by
          unfold FS.nxt
          simp only [if_true]
          by_cases f0 : fr = 0
          · simp only [if_pos f0]
          · by_cases f1 : fr = 1
            · simp only [if_neg f0, if_pos f1]
            · simp only [if_neg f0, if_neg f1]
        rw [en]
        have cF := rcFree m (KC + 1000) (KV + 1000) svC svV vs i fr mV (by omega) (by omega)
        generalize (if fr = 0 then (([], []) : Po × Po) else if fr = 1 then (varM vs.length, []) else (varM vs.length, varM (vs.length + 1))) = x at *
        generalize (if fr = 0 then ([] : List Vt) else if fr = 1 then [(1, (i : Int), 0)] else [(1, (i : Int), 0), (1, (i : Int), 1)]) = nv at *
        obtain ⟨x1, x2⟩ := x
        (focus (refine wkad (w_a hA2 (w_a hA3 (w_a e4 (w_a m4 (w_a e8 (w_a m8 (w_a e9 (w_a m9 (w_a e10 (w_a m10 (w_a e11 (w_a e24 (w_a e25 (w_a e26 (w_a m37 (w_a mV (w_a mC (w_a hll (w_a hlp (w_a @lents_lt (w_a @lents_beq w_t))))))))))))))))))))) w_t w_t ?_; (repeat' first | exact w_t | apply w_l); all_goals intros))
        refine o_fresh cF ?_
        intro sv1
        (focus (refine wkad (w_a hA2 (w_a hA3 (w_a e4 (w_a m4 (w_a e8 (w_a m8 (w_a e9 (w_a m9 (w_a e10 (w_a m10 (w_a e11 (w_a e24 (w_a e25 (w_a e26 (w_a m37 (w_a mV (w_a mC (w_a hll (w_a hlp (w_a @lents_lt (w_a @lents_beq w_t))))))))))))))))))))) w_t w_t ?_; (repeat' first | exact w_t | apply w_l); all_goals intros))
        simp (disch := omega) only [go_sem, e8, e9]
        refine backS (Sub.tup2 (Sub.frame _ _ _ _ _ _) (Sub.refl _)) ⟨sv1, rfl, rfl⟩ ?_
        (repeat (refine Agr.own ?_ (by omega)))
        refine Agr.put ?_ rfl rfl
        (repeat' (first | exact hAg | (refine Agr.own ?_ (by omega))))
      · by_cases k2 : k0 = 2
        · subst k2
          have hal2 : ar.length = 2 := by have h1 : (ar.length : Int) = arS 2 := hok.al; have h2 : arS 2 = 2 := rfl; omega
          have h0 : 0 ≤ gI ar 0 ∧ gI ar 0 < (cs.length : Int) := hok.ai 0 (show 0 < ar.length by omega)
          obtain ⟨a1, a2⟩ : Co (cs.getD (gI ar 0).toNat ([], [])).1 ∧ Co (cs.getD (gI ar 0).toNat ([], [])).2 := hco _ (getD_mem (by omega))
          have p0 : ((ptsN cs ar).map coA).getD 0 .u = coA (cs.getD (gI ar 0).toNat ([], [])) := pts_at (by omega)
          generalize ha : cs.getD (gI ar 0).toNat ([], []) = a at *
          have h1 : 0 ≤ gI ar 1 ∧ gI ar 1 < (cs.length : Int) := hok.ai 1 (show 1 < ar.length by omega)
          obtain ⟨b1, b2⟩ : Co (cs.getD (gI ar 1).toNat ([], [])).1 ∧ Co (cs.getD (gI ar 1).toNat ([], [])).2 := hco _ (getD_mem (by omega))
          have p1 : ((ptsN cs ar).map coA).getD 1 .u = coA (cs.getD (gI ar 1).toNat ([], [])) := pts_at (by omega)
          generalize hb : cs.getD (gI ar 1).toNat ([], []) = b at *
          have ro := hok.r2 rfl
          have zr := (RQ.ok_av hok.rl ro).2
          have re := RQ.ok_eq hok.rl ro
          have en : FS.nxt ⟨cs, vs, fr⟩ i ⟨2, nm, ar, ⟨rs, rl, rd⟩⟩ = ([], (addM a.1 (sclM (RQ.q ⟨rs, rl, rd⟩) (subM b.1 a.1)), addM a.2 (sclM (RQ.q ⟨rs, rl, rd⟩) (subM b.2 a.2)))) := by
            rw [← ha, ← hb]; rfl
          rw [en]
          simp only at zr re
          generalize hq : RQ.q ⟨rs, rl, rd⟩ = q at *
          simp only [RQ.mk.injEq] at re
          obtain ⟨rfl, rfl, rfl⟩ := re
          have al := rcAlongS a b q zr a1 a2 b1 b2
          have cc := rpConst q zr (by omega)
          generalize addM a.1 (sclM q (subM b.1 a.1)) = x1 at *
          generalize addM a.2 (sclM q (subM b.2 a.2)) = x2 at *
          clear a1 a2 b1 b2 ha hb hok hco en
          obtain ⟨aa, ab⟩ := a
          obtain ⟨ba, bb⟩ := b
          (focus (refine wkad (w_a hA2 (w_a hA3 (w_a e4 (w_a m4 (w_a e8 (w_a m8 (w_a e9 (w_a m9 (w_a e10 (w_a m10 (w_a e11 (w_a e24 (w_a e25 (w_a e26 (w_a m37 (w_a mV (w_a mC (w_a hll (w_a hlp (w_a @lents_lt (w_a @lents_beq (w_a hal2 (w_a p0 (w_a p1 w_t)))))))))))))))))))))))) (w_a cc (w_a al w_t)) (w_a (w_d 12 [(9, poA (cstM q)), (10, coA (x1, x2))] [] [8, 9]) w_t) ?_; (repeat' first | exact w_t | apply w_l); all_goals intros))
          simp (disch := omega) only [go_sem, e8, e9]
          refine backS (Sub.tup2 (Sub.frame _ _ _ _ _ _) (Sub.refl _)) ⟨svV, rfl, rfl⟩ ?_
          simp only [List.append_nil, upd_same' hV]
          (repeat' (first | exact hAg | (refine Agr.own ?_ (by omega))))
        · by_cases k3 : k0 = 3
          · subst k3
            have hal2 : ar.length = 3 := by have h1 : (ar.length : Int) = arS 3 := hok.al; have h2 : arS 3 = 3 := rfl; omega
            have h0 : 0 ≤ gI ar 0 ∧ gI ar 0 < (cs.length : Int) := hok.ai 0 (show 0 < ar.length by omega)
            obtain ⟨a1, a2⟩ : Co (cs.getD (gI ar 0).toNat ([], [])).1 ∧ Co (cs.getD (gI ar 0).toNat ([], [])).2 := hco _ (getD_mem (by omega))
            have p0 : ((ptsN cs ar).map coA).getD 0 .u = coA (cs.getD (gI ar 0).toNat ([], [])) := pts_at (by omega)
            generalize ha : cs.getD (gI ar 0).toNat ([], []) = a at *
            have h1 : 0 ≤ gI ar 1 ∧ gI ar 1 < (cs.length : Int) := hok.ai 1 (show 1 < ar.length by omega)
            obtain ⟨b1, b2⟩ : Co (cs.getD (gI ar 1).toNat ([], [])).1 ∧ Co (cs.getD (gI ar 1).toNat ([], [])).2 := hco _ (getD_mem (by omega))
            have p1 : ((ptsN cs ar).map coA).getD 1 .u = coA (cs.getD (gI ar 1).toNat ([], [])) := pts_at (by omega)
            generalize hb : cs.getD (gI ar 1).toNat ([], []) = b at *
            have h2 : 0 ≤ gI ar 2 ∧ gI ar 2 < (cs.length : Int) := hok.ai 2 (show 2 < ar.length by omega)
            obtain ⟨c1, c2⟩ : Co (cs.getD (gI ar 2).toNat ([], [])).1 ∧ Co (cs.getD (gI ar 2).toNat ([], [])).2 := hco _ (getD_mem (by omega))
            have p2 : ((ptsN cs ar).map coA).getD 2 .u = coA (cs.getD (gI ar 2).toNat ([], [])) := pts_at (by omega)
            generalize hc : cs.getD (gI ar 2).toNat ([], []) = c at *
            have en : FS.nxt ⟨cs, vs, fr⟩ i ⟨3, nm, ar, ⟨rs, rl, rd⟩⟩ = ([], (addM a.1 (subM c.1 b.1), addM a.2 (subM c.2 b.2))) := by
              rw [← ha, ← hb, ← hc]; rfl
            rw [en]
            have q1 := rcPlusC a.1 c.1 b.1 a1 c1 b1
            have q2 := rcPlusC a.2 c.2 b.2 a2 c2 b2
            generalize addM a.1 (subM c.1 b.1) = x1 at *
            generalize addM a.2 (subM c.2 b.2) = x2 at *
            clear a1 a2 b1 b2 c1 c2 ha hb hc hok hco en
            obtain ⟨aa, ab⟩ := a
            obtain ⟨ba, bb⟩ := b
            obtain ⟨ca, cb⟩ := c
            (focus (refine wkad (w_a hA2 (w_a hA3 (w_a e4 (w_a m4 (w_a e8 (w_a m8 (w_a e9 (w_a m9 (w_a e10 (w_a m10 (w_a e11 (w_a e24 (w_a e25 (w_a e26 (w_a m37 (w_a mV (w_a mC (w_a hll (w_a hlp (w_a @lents_lt (w_a @lents_beq (w_a hal2 (w_a p0 (w_a p1 (w_a p2 w_t))))))))))))))))))))))))) (w_a q1 (w_a q2 w_t)) (w_a (w_d 14 [(13, poA x1), (26, poA x2)] [] [8, 9]) w_t) ?_; (repeat' first | exact w_t | apply w_l); all_goals intros))
            simp (disch := omega) only [go_sem, e8, e9]
            refine backS (Sub.tup2 (Sub.frame _ _ _ _ _ _) (Sub.refl _)) ⟨svV, rfl, rfl⟩ ?_
            simp only [List.append_nil, upd_same' hV]
            (repeat' (first | exact hAg | (refine Agr.own ?_ (by omega))))
          · by_cases k4 : k0 = 4
            · subst k4
              have hal2 : ar.length = 3 := by have h1 : (ar.length : Int) = arS 4 := hok.al; have h2 : arS 4 = 3 := rfl; omega
              have h0 : 0 ≤ gI ar 0 ∧ gI ar 0 < (cs.length : Int) := hok.ai 0 (show 0 < ar.length by omega)
              obtain ⟨a1, a2⟩ : Co (cs.getD (gI ar 0).toNat ([], [])).1 ∧ Co (cs.getD (gI ar 0).toNat ([], [])).2 := hco _ (getD_mem (by omega))
              have p0 : ((ptsN cs ar).map coA).getD 0 .u = coA (cs.getD (gI ar 0).toNat ([], [])) := pts_at (by omega)
              generalize ha : cs.getD (gI ar 0).toNat ([], []) = a at *
              have h1 : 0 ≤ gI ar 1 ∧ gI ar 1 < (cs.length : Int) := hok.ai 1 (show 1 < ar.length by omega)
              obtain ⟨b1, b2⟩ : Co (cs.getD (gI ar 1).toNat ([], [])).1 ∧ Co (cs.getD (gI ar 1).toNat ([], [])).2 := hco _ (getD_mem (by omega))
              have p1 : ((ptsN cs ar).map coA).getD 1 .u = coA (cs.getD (gI ar 1).toNat ([], [])) := pts_at (by omega)
              generalize hb : cs.getD (gI ar 1).toNat ([], []) = b at *
              have h2 : 0 ≤ gI ar 2 ∧ gI ar 2 < (cs.length : Int) := hok.ai 2 (show 2 < ar.length by omega)
              obtain ⟨c1, c2⟩ : Co (cs.getD (gI ar 2).toNat ([], [])).1 ∧ Co (cs.getD (gI ar 2).toNat ([], [])).2 := hco _ (getD_mem (by omega))
              have p2 : ((ptsN cs ar).map coA).getD 2 .u = coA (cs.getD (gI ar 2).toNat ([], [])) := pts_at (by omega)
              generalize hc : cs.getD (gI ar 2).toNat ([], []) = c at *
              have en : FS.nxt ⟨cs, vs, fr⟩ i ⟨4, nm, ar, ⟨rs, rl, rd⟩⟩ = ([], (addM a.1 (subM b.2 c.2), addM a.2 (subM c.1 b.1))) := by
                rw [← ha, ← hb, ← hc]; rfl
              rw [en]
              have q1 := rcPlusC a.1 b.2 c.2 a1 b2 c2
              have q2 := rcPlusC a.2 c.1 b.1 a2 c1 b1
              generalize addM a.1 (subM b.2 c.2) = x1 at *
              generalize addM a.2 (subM c.1 b.1) = x2 at *
              clear a1 a2 b1 b2 c1 c2 ha hb hc hok hco en
              obtain ⟨aa, ab⟩ := a
              obtain ⟨ba, bb⟩ := b
              obtain ⟨ca, cb⟩ := c
              (focus (refine wkad (w_a hA2 (w_a hA3 (w_a e4 (w_a m4 (w_a e8 (w_a m8 (w_a e9 (w_a m9 (w_a e10 (w_a m10 (w_a e11 (w_a e24 (w_a e25 (w_a e26 (w_a m37 (w_a mV (w_a mC (w_a hll (w_a hlp (w_a @lents_lt (w_a @lents_beq (w_a hal2 (w_a p0 (w_a p1 (w_a p2 w_t))))))))))))))))))))))))) (w_a q1 (w_a q2 w_t)) (w_a (w_d 16 [(13, poA x1), (26, poA x2)] [] [8, 9]) w_t) ?_; (repeat' first | exact w_t | apply w_l); all_goals intros))
              simp (disch := omega) only [go_sem, e8, e9]
              refine backS (Sub.tup2 (Sub.frame _ _ _ _ _ _) (Sub.refl _)) ⟨svV, rfl, rfl⟩ ?_
              simp only [List.append_nil, upd_same' hV]
              (repeat' (first | exact hAg | (refine Agr.own ?_ (by omega))))
            · by_cases k5 : k0 = 5
              · subst k5
                have hal2 : ar.length = 2 := by have h1 : (ar.length : Int) = arS 5 := hok.al; have h2 : arS 5 = 2 := rfl; omega
                have h0 : 0 ≤ gI ar 0 ∧ gI ar 0 < (cs.length : Int) := hok.ai 0 (show 0 < ar.length by omega)
                obtain ⟨a1, a2⟩ : Co (cs.getD (gI ar 0).toNat ([], [])).1 ∧ Co (cs.getD (gI ar 0).toNat ([], [])).2 := hco _ (getD_mem (by omega))
                have p0 : ((ptsN cs ar).map coA).getD 0 .u = coA (cs.getD (gI ar 0).toNat ([], [])) := pts_at (by omega)
                generalize ha : cs.getD (gI ar 0).toNat ([], []) = a at *
                have h1 : 0 ≤ gI ar 1 ∧ gI ar 1 < (cs.length : Int) := hok.ai 1 (show 1 < ar.length by omega)
                obtain ⟨b1, b2⟩ : Co (cs.getD (gI ar 1).toNat ([], [])).1 ∧ Co (cs.getD (gI ar 1).toNat ([], [])).2 := hco _ (getD_mem (by omega))
                have p1 : ((ptsN cs ar).map coA).getD 1 .u = coA (cs.getD (gI ar 1).toNat ([], [])) := pts_at (by omega)
                generalize hb : cs.getD (gI ar 1).toNat ([], []) = b at *
                have en : FS.nxt ⟨cs, vs, fr⟩ i ⟨5, nm, ar, ⟨rs, rl, rd⟩⟩ = ([(1, (i : Int), 0)], (addM a.1 (mlM (subM b.1 a.1) (varM vs.length)), addM a.2 (mlM (subM b.2 a.2) (varM vs.length)))) := by
                  rw [← ha, ← hb]; rfl
                rw [en]
                have al := rcAlongM a b vs.length a1 a2 b1 b2
                have cP := rcParam m (KC + 1000) (KV + 1000) svC svV vs 1 (i : Int) 0 mV (by omega)
                generalize addM a.1 (mlM (subM b.1 a.1) (varM vs.length)) = x1 at *
                generalize addM a.2 (mlM (subM b.2 a.2) (varM vs.length)) = x2 at *
                clear a1 a2 b1 b2 ha hb hok hco en
                obtain ⟨aa, ab⟩ := a
                obtain ⟨ba, bb⟩ := b
                generalize varM vs.length = vv at *
                (focus (refine wkad (w_a hA2 (w_a hA3 (w_a e4 (w_a m4 (w_a e8 (w_a m8 (w_a e9 (w_a m9 (w_a e10 (w_a m10 (w_a e11 (w_a e24 (w_a e25 (w_a e26 (w_a m37 (w_a mV (w_a mC (w_a hll (w_a hlp (w_a @lents_lt (w_a @lents_beq (w_a hal2 w_t)))))))))))))))))))))) w_t w_t ?_; (repeat' first | exact w_t | apply w_l); all_goals intros))
                refine o_fresh cP ?_
                intro sv1
                (focus (refine wkad (w_a hA2 (w_a hA3 (w_a e4 (w_a m4 (w_a e8 (w_a m8 (w_a e9 (w_a m9 (w_a e10 (w_a m10 (w_a e11 (w_a e24 (w_a e25 (w_a e26 (w_a m37 (w_a mV (w_a mC (w_a hll (w_a hlp (w_a @lents_lt (w_a @lents_beq (w_a hal2 (w_a p0 (w_a p1 w_t)))))))))))))))))))))))) (w_a al w_t) (w_a (w_d 19 [(8, coA (x1, x2))] [] [8, 9]) w_t) ?_; (repeat' first | exact w_t | apply w_l); all_goals intros))
                simp (disch := omega) only [go_sem, e8, e9]
                refine backS (Sub.tup2 (Sub.frame _ _ _ _ _ _) (Sub.refl _)) ⟨sv1, rfl, rfl⟩ ?_
                (repeat (refine Agr.own ?_ (by omega)))
                refine Agr.put ?_ rfl rfl
                (repeat' (first | exact hAg | (refine Agr.own ?_ (by omega))))
              · by_cases k6 : k0 = 6
                · subst k6
                  have en : FS.nxt ⟨cs, vs, fr⟩ i ⟨6, nm, ar, ⟨rs, rl, rd⟩⟩ = ([(1, (i : Int), 0), (2, (i : Int), 1), (2, (i : Int), 2)], (varM (vs.length + 1), varM (vs.length + 2))) := rfl
                  rw [en]
                  have hl1 : (vs ++ [((1 : Int), (i : Int), (0 : Int))]).length = vs.length + 1 := by simp
                  have cP := rcParam m (KC + 1000) (KV + 1000) svC svV vs 1 (i : Int) 0 mV (by omega)
                  (focus (refine wkad (w_a hA2 (w_a hA3 (w_a e4 (w_a m4 (w_a e8 (w_a m8 (w_a e9 (w_a m9 (w_a e10 (w_a m10 (w_a e11 (w_a e24 (w_a e25 (w_a e26 (w_a m37 (w_a mV (w_a mC (w_a hll (w_a hlp (w_a @lents_lt (w_a @lents_beq w_t))))))))))))))))))))) w_t w_t ?_; (repeat' first | exact w_t | apply w_l); all_goals intros))
                  refine o_fresh cP ?_
                  intro sv1
                  (focus (refine wkad (w_a hA2 (w_a hA3 (w_a e4 (w_a m4 (w_a e8 (w_a m8 (w_a e9 (w_a m9 (w_a e10 (w_a m10 (w_a e11 (w_a e24 (w_a e25 (w_a e26 (w_a m37 (w_a mV (w_a mC (w_a hll (w_a hlp (w_a @lents_lt (w_a @lents_beq w_t))))))))))))))))))))) w_t w_t ?_; (repeat' first | exact w_t | apply w_l); all_goals intros))
                  refine o_fresh (rcDep _ (KC + 1000) (KV + 1000) svC sv1 (vs ++ [(1, (i : Int), 0)]) i 1 (by (simp (disch := omega) only [go_sem, mV, if_neg, if_pos, List.map_append, List.map_cons, List.map_nil] <;> repeat' first | rfl | refine ⟨?_, ?_⟩)) (by first | omega | (simp; omega)) (by omega)) ?_
                  intro sv2
                  (focus (refine wkad (w_a hA2 (w_a hA3 (w_a e4 (w_a m4 (w_a e8 (w_a m8 (w_a e9 (w_a m9 (w_a e10 (w_a m10 (w_a e11 (w_a e24 (w_a e25 (w_a e26 (w_a m37 (w_a mV (w_a mC (w_a hll (w_a hlp (w_a @lents_lt (w_a @lents_beq (w_a hl1 w_t)))))))))))))))))))))) w_t w_t ?_; (repeat' first | exact w_t | apply w_l); all_goals intros))
                  simp (disch := omega) only [go_sem, hl1, e8, e9]
                  refine backS (Sub.tup2 (Sub.frame _ _ _ _ _ _) (Sub.refl _)) ⟨sv2, rfl, rfl⟩ ?_
                  simp only [List.append_assoc, List.cons_append, List.nil_append]
                  (repeat (refine Agr.own ?_ (by omega)))
                  refine Agr.re (e1 := .row sv1 56 3 ((vs ++ [(1, (i : Int), 0)]).map Vt.av) 0) ?_ rfl rfl
                  (repeat (refine Agr.own ?_ (by omega)))
                  refine Agr.put ?_ rfl rfl
                  (repeat' (first | exact hAg | (refine Agr.own ?_ (by omega))))
                · have en : FS.nxt ⟨cs, vs, fr⟩ i ⟨k0, nm, ar, ⟨rs, rl, rd⟩⟩ = ([(2, (i : Int), 0), (2, (i : Int), 1)], (varM vs.length, varM (vs.length + 1))) := by
                    unfold FS.nxt
                    simp only [if_neg k1, if_neg k2, if_neg k3, if_neg k4, if_neg k5, if_neg k6]
                  rw [en]
                  have cD := rcDep m (KC + 1000) (KV + 1000) svC svV vs i 0 mV (by omega) (by omega)
                  (focus (refine wkad (w_a hA2 (w_a hA3 (w_a e4 (w_a m4 (w_a e8 (w_a m8 (w_a e9 (w_a m9 (w_a e10 (w_a m10 (w_a e11 (w_a e24 (w_a e25 (w_a e26 (w_a m37 (w_a mV (w_a mC (w_a hll (w_a hlp (w_a @lents_lt (w_a @lents_beq w_t))))))))))))))))))))) w_t w_t ?_; (repeat' first | exact w_t | apply w_l); all_goals intros))
                  refine o_fresh cD ?_
                  intro sv1
                  (focus (refine wkad (w_a hA2 (w_a hA3 (w_a e4 (w_a m4 (w_a e8 (w_a m8 (w_a e9 (w_a m9 (w_a e10 (w_a m10 (w_a e11 (w_a e24 (w_a e25 (w_a e26 (w_a m37 (w_a mV (w_a mC (w_a hll (w_a hlp (w_a @lents_lt (w_a @lents_beq w_t))))))))))))))))))))) w_t w_t ?_; (repeat' first | exact w_t | apply w_l); all_goals intros))
                  simp (disch := omega) only [go_sem, e8, e9]
                  refine backS (Sub.tup2 (Sub.frame _ _ _ _ _ _) (Sub.refl _)) ⟨sv1, rfl, rfl⟩ ?_
                  (repeat (refine Agr.own ?_ (by omega)))
                  refine Agr.put ?_ rfl rfl
                  (repeat' (first | exact hAg | (refine Agr.own ?_ (by omega))))
  · refine ⟨Nat.zero_le _, by exact gC, by exact gC, by exact gC, by exact gC, by exact gC, by exact gC, by exact gC, by exact gC, by exact gC, by exact gC, by exact gC, by exact gW hll, by exact gC, ⟨_, by exact gC, by (simp (disch := omega) only [go_sem, List.take_zero, List.map_nil] <;> repeat' first | rfl | refine ⟨?_, ?_⟩)⟩, ?_⟩
    (repeat' (first | exact Agr.start _ | (refine Agr.own ?_ (by omega))))
end Go.Proofs.YtbgmnobnaplmlaaGreat
end

section
namespace Go.Proofs.YtbgmnobnaplmlaaGreat
open Go Go.RowKit Go.Pg Go.Pol
set_option linter.unusedSimpArgs false
set_option linter.unusedVariables false
set_option maxRecDepth 20000
attribute [local go_sem] Tryz.underlying3 Tryz.underlying4 Tryz.underlying178 Tryz.underlying9 Tryz.underlying48 Tryz.underlying31 Tryz.underlying43 Tryz.underlying41 Tryz.underlying39 Tryz.underlying50 Tryz.underlying22 Tryz.underlying25 Tryz.underlying56 Tryz.underlying28 Tryz.underlying72 Tryz.underlying27 Tryz.underlying30 Tryz.underlying105 Tryz.underlying107 Tryz.underlying70 Tryz.underlying63 Tryz.underlying103 Tryz.underlying154 sz3 by3 z3 szB zB szErr zErr szStr byStr zStr szRat zRat szInt zInt szNat zNat szStep byStep zStep szFig zFig szSlI zSlI szSlS zSlS szVar byVar zVar szSlV zSlV szCoord byCoord zCoord szSlC zSlC szFrame zFrame szCBld byCBld zCBld szCVec byCVec zCVec szPoly byPoly zPoly szTerm zTerm szPtrB zPtrB szFnC zFnC Tryz.underlying135 szHVec byHVec zHVec Tryz.underlying78 szSlP zSlP Tryz.underlying124 Tryz.underlying23 szL byL zL szFact byFact zFact szSlF zSlF szFnN zFnN
attribute [-bool_to_prop] Bool.and_eq_decide Bool.or_eq_decide Bool.decide_beq_decide decide_eq_decide
/-! ### the first variable of a step -/
def fstN (vs : List Vt) (i : Int) : Nat → Option Nat
  | 0 => none
  | y + 1 => match fstN vs i y with
    | some v => some v
    | none => if (vs.getD y (0, 0, 0)).2.1 = i then some y else none
theorem fstN_none {vs : List Vt} {i : Int} : ∀ {n : Nat}, (∀ j, j < n → (vs.getD j (0, 0, 0)).2.1 ≠ i) → fstN vs i n = none
  | 0, _ => rfl
  | n + 1, h => by
    unfold fstN
    rw [fstN_none fun j hj => h j (by omega)]
    simp only
    rw [if_neg (h n (by omega))]
theorem fstN_at {vs : List Vt} {i : Int} {y : Nat} (h : ∀ j, j < y → (vs.getD j (0, 0, 0)).2.1 ≠ i) (hy : (vs.getD y (0, 0, 0)).2.1 = i) : ∀ {n : Nat}, y < n → fstN vs i n = some y
  | 0, hn => by omega
  | n + 1, hn => by
    unfold fstN
    by_cases e : y = n
    · subst e
      rw [fstN_none h]
      simp only
      rw [if_pos hy]
    · rw [fstN_at h hy (n := n) (by omega)]
def parM (vs : List Vt) (i : Int) : Po := match fstN vs i vs.length with
  | some v => varM v
  | none => []
theorem parM_pb (vs : List Vt) (i : Int) : PB (parM vs i) 1 1 1 := by
  unfold parM
  split
  · exact var_pb _
  · exact .nil
set_option maxHeartbeats 4000000 in
theorem hyParam (cs : List Pt) (vs : List Vt) (i : Int) (hv : vs.length ≤ 900) : Pure Tryz.prog 83 [frmA cs vs, iv i] (poA (parM vs i)) := by
  have hlm : (vs.map Vt.av).length = vs.length := List.length_map ..
  have hg : ∀ j (h : j < vs.length), (vs.map Vt.av).getD j .u = Vt.av (vs.getD j (0, 0, 0)) := fun j h => by rw [map_atB Vt.av h, List.getD_eq_getElem?_getD, List.getElem?_eq_getElem h]; rfl
  show Pure _ _ [.agg [.sl 2 (cs.map coA), .sl 3 (vs.map Vt.av)], iv i] _
  generalize cs.map coA = C at *
  generalize vs.map Vt.av = V at *
  cases hf : fstN vs i vs.length with
  | none =>
    rw [show parM vs i = [] from by unfold parM; rw [hf]]
    refine pure_vkR (r := .v (.slice none 0 0)) ?_ (.nil 4)
    refine pure_intro (tok := 0) Tryz.func83 rfl Tryz.ntmps83 Tryz.results83 Tryz.call83 (by rfl) (by simp) ?_
    (focus (refine wkap (w_a hlm w_t) w_t (w_r 0) ?_; (repeat' first | exact w_t | apply w_l); all_goals intros))
    refine r_loopE (ι := Nat) (fun y e m => y ≤ vs.length ∧ e 1 = iv i ∧ e 8 = .sl 3 V ∧ e 9 = iv vs.length ∧ e 10 = iv y ∧ ∀ j, j < y → (vs.getD j (0, 0, 0)).2.1 ≠ i) (fun y => vs.length - y) 0 (by rfl) ?_ ?_
    · rintro y e m ⟨hy, e1, e8, e9, e10, hj⟩
      by_cases hlt : y < vs.length
      · have hgy := hg y hlt
        by_cases hx : (vs.getD y (0, 0, 0)).2.1 = i
        · rw [fstN_at hj hx hlt] at hf
          cases hf
        · have hnx : ∀ j, j < y + 1 → (vs.getD j (0, 0, 0)).2.1 ≠ i := fun j hjj => by
            by_cases e : j = y
            · rw [e]; exact hx
            · exact hj j (by omega)
          clear hj hg hf
          generalize vs.getD y (0, 0, 0) = v at *
          obtain ⟨v1, v2, v3⟩ := v
          simp only at hx
          (focus (refine wkap (w_a e1 (w_a e8 (w_a e9 (w_a e10 (w_a hlm (w_a hgy (w_a hx w_t))))))) w_t (w_r 0) ?_; (repeat' first | exact w_t | apply w_l); all_goals intros))
          exact ⟨y + 1, ⟨by omega, by exact gW e1, by exact gW e8, by exact gW e9, by exact gS, hnx⟩, by omega⟩
      · have hin : y = vs.length := by omega
        subst hin
        clear hj hg hf
        (focus (refine wklp (w_a e1 (w_a e8 (w_a e9 (w_a e10 (w_a hlm w_t))))) w_t w_t (w_r 0) ?_; (repeat' first | exact w_t | apply w_l); all_goals intros))
    · exact ⟨Nat.zero_le _, by exact gC, by exact gC, by exact gW hlm, by exact gC, fun j h => by omega⟩
  | some w =>
    rw [show parM vs i = varM w from by unfold parM; rw [hf]]
    refine pure_intro (tok := 0) Tryz.func83 rfl Tryz.ntmps83 Tryz.results83 Tryz.call83 (by rfl) (by simp) ?_
    (focus (refine wkap (w_a hlm w_t) w_t (w_r 0) ?_; (repeat' first | exact w_t | apply w_l); all_goals intros))
    refine r_loopE (ι := Nat) (fun y e m => y ≤ vs.length ∧ e 1 = iv i ∧ e 8 = .sl 3 V ∧ e 9 = iv vs.length ∧ e 10 = iv y ∧ ∀ j, j < y → (vs.getD j (0, 0, 0)).2.1 ≠ i) (fun y => vs.length - y) 0 (by rfl) ?_ ?_
    · rintro y e m ⟨hy, e1, e8, e9, e10, hj⟩
      by_cases hlt : y < vs.length
      · have hgy := hg y hlt
        by_cases hx : (vs.getD y (0, 0, 0)).2.1 = i
        · rw [fstN_at hj hx hlt] at hf
          obtain rfl : y = w := by simpa using hf
          have cv := poVar y (by omega)
          clear hj hg hf
          generalize vs.getD y (0, 0, 0) = v at *
          obtain ⟨v1, v2, v3⟩ := v
          simp only at hx
          subst hx
          generalize varM y = r at *
          (focus (refine wklp (w_a e1 (w_a e8 (w_a e9 (w_a e10 (w_a hlm (w_a hgy w_t)))))) (w_a cv w_t) w_t (w_r 0) ?_; (repeat' first | exact w_t | apply w_l); all_goals intros))
        · have hnx : ∀ j, j < y + 1 → (vs.getD j (0, 0, 0)).2.1 ≠ i := fun j hjj => by
            by_cases e : j = y
            · rw [e]; exact hx
            · exact hj j (by omega)
          clear hj hg hf
          generalize vs.getD y (0, 0, 0) = v at *
          obtain ⟨v1, v2, v3⟩ := v
          simp only at hx
          (focus (refine wkap (w_a e1 (w_a e8 (w_a e9 (w_a e10 (w_a hlm (w_a hgy (w_a hx w_t))))))) w_t (w_r 0) ?_; (repeat' first | exact w_t | apply w_l); all_goals intros))
          exact ⟨y + 1, ⟨by omega, by exact gW e1, by exact gW e8, by exact gW e9, by exact gS, hnx⟩, by omega⟩
      · rw [fstN_none fun j h => hj j (by omega)] at hf
        cases hf
    · exact ⟨Nat.zero_le _, by exact gC, by exact gC, by exact gW hlm, by exact gC, fun j h => by omega⟩
set_option maxHeartbeats 8000000 in
theorem hyStepC (ss : List RS) (gs : List RG) (cs : List Pt) (vs : List Vt) (i : Nat) (s : RS) (x : Pt) (t : Po) (L : List Po) (hi : i < ss.length) (hs : ss[i] = s) (hcl : cs.length = ss.length) (hx : cs.getD i ([], []) = x) (har : ∀ k, k < s.ar.length → 0 ≤ gI s.ar k ∧ gI s.ar k < (cs.length : Int)) (h4 : s.ar.length ≤ 4)
    (cp : Pure Tryz.prog 83 [frmA cs vs, iv i] (poA t)) (ce : Pure Tryz.prog 82 [iv s.k, .sl 2 ((ptsN cs s.ar).map coA), coA x, poA t] (.sl 1 (L.map poA))) :
    Pure Tryz.prog 35 [figA ss gs, frmA cs vs, iv i] (.tup [.sl 1 (L.map poA), iv 0]) := by
  have cp : Pure Tryz.prog 83 [.agg [.sl 2 (cs.map coA), .sl 3 (vs.map Vt.av)], iv i] (poA t) := cp
  have hgi : (ss.map RS.av).getD i .u = s.av := by rw [map_atB RS.av hi, hs]
  have hgx : (cs.map coA).getD i .u = coA x := by rw [← hx, map_atB coA (by omega), List.getD_eq_getElem?_getD, List.getElem?_eq_getElem (by omega)]; rfl
  have hls : (ss.map RS.av).length = ss.length := List.length_map ..
  have hlC : (cs.map coA).length = ss.length := by rw [List.length_map, hcl]
  have hgc : ∀ j, j < ss.length → (cs.map coA).getD j .u = coA (cs.getD j ([], [])) := fun j h => by rw [map_atB coA (by omega), List.getD_eq_getElem?_getD, List.getElem?_eq_getElem (by omega)]; rfl
  have hpt := fun y (h : y < s.ar.length) => ptsN_take (cs := cs) h
  have hpl : (ptsN cs s.ar).length = s.ar.length := ptsN_len cs s.ar
  have hga : ∀ y (h : y < s.ar.length), (s.ar.map iv).getD y .u = iv (gI s.ar y) := fun y h => by rw [map_atB iv h, gI_at h]
  have hla : (s.ar.map iv).length = s.ar.length := List.length_map ..
  rw [hcl] at har
  show Pure _ _ [.agg [.sl 6 (ss.map RS.av), .sl 5 (gs.map RG.av)], .agg [.sl 2 (cs.map coA), .sl 3 (vs.map Vt.av)], iv i] _
  clear hs hx hcl
  obtain ⟨k, nm, ar, ⟨rs, rl, rd⟩⟩ := s
  obtain ⟨x1, x2⟩ := x
  simp only at *
  generalize ss.map RS.av = M at *
  generalize gs.map RG.av = N at *
  generalize cs.map coA = C at *
  generalize vs.map Vt.av = V at *
  generalize L.map poA = LA at *
  generalize hp : ptsN cs ar = pts at *
  refine pure_intro (tok := 0) Tryz.func35 rfl Tryz.ntmps35 Tryz.results35 Tryz.call35 (by rfl) (by simp) ?_
  (focus (refine wkad (w_a hls (w_a hlC (w_a hgi w_t))) w_t w_t ?_; (repeat' first | exact w_t | apply w_l); all_goals intros))
  rename_i g3 g4 g8
  refine r_frz (Frz.nilOwn (d := 9) 47 2 72 (by exact gC)) ?_
  refine r_loopE (ι := Nat) (fun y e m => y ≤ ar.length ∧ e 2 = iv i ∧ e 4 = .pbox 4 g4 0 ∧ m 4 = some (.box g4 30 [.sl 2 C, .sl 3 V] false) ∧ e 8 = .pbox 8 g8 0 ∧ m 8 = some (.box g8 50 [iv k, strA nm, ivs ar, .v (.bool rs), lim rl, lim rd] false) ∧ e 34 = ivs ar ∧ e 35 = iv ar.length ∧ e 36 = iv y ∧ ∃ sv, e 9 = .own 47 sv ∧ m 47 = some (.row sv 72 2 ((pts.take y).map coA) 0)) (fun y => ar.length - y) 0 (by rfl) ?_ ?_
  · rintro y e m ⟨hy, e2, e4, m4, e8, m8, e34, e35, e36, sv, e9, m47⟩
    by_cases hlt : y < ar.length
    · have hgy := hga y hlt
      obtain ⟨h0, h1⟩ := har y hlt
      obtain ⟨n, hn⟩ : ∃ n : Nat, gI ar y = n := ⟨(gI ar y).toNat, by omega⟩
      rw [hn] at hgy h1
      have hgn := hgc n (by omega)
      have hp1 := hpt y hlt
      rw [hn, Int.toNat_natCast] at hp1
      have hl : ((pts.take y).map coA).length = y := by rw [List.length_map, List.length_take]; omega
      have hrow : (pts.take (y + 1)).map coA = (pts.take y).map coA ++ [coA (cs.getD n ([], []))] := by rw [hp1, List.map_append]; rfl
      clear hga har hgc hpt hp1 cp ce
      generalize cs.getD n ([], []) = c at *
      obtain ⟨c1, c2⟩ := c
      generalize (pts.take y).map coA = R at *
      (focus (refine wkad (w_a e2 (w_a e4 (w_a m4 (w_a e8 (w_a m8 (w_a e34 (w_a e35 (w_a e36 (w_a e9 (w_a m47 (w_a hla (w_a hlC (w_a hgy (w_a hgn (w_a hl w_t))))))))))))))) w_t w_t ?_; (repeat' first | exact w_t | apply w_l); all_goals intros))
      exact ⟨y + 1, ⟨by omega, by exact gW e2, by exact gW e4, by exact gW m4, by exact gW e8, by exact gW m8, by exact gW e34, by exact gW e35, by exact gS, _, by exact gC, by rw [hrow]; exact gC⟩, by omega⟩
    · rw [List.take_of_length_le (by omega)] at m47
      clear hga har hgc hpt
      generalize pts.map coA = R at *
      (focus (refine wkud (w_a e2 (w_a e4 (w_a m4 (w_a e8 (w_a m8 (w_a e34 (w_a e35 (w_a e36 (w_a e9 (w_a m47 (w_a hla w_t))))))))))) w_t ?_; (repeat' first | exact w_t | apply w_l); all_goals intros))
      refine r_frzD (Frz.own (d := 9) (by exact gW e9) (by exact gW m47)) ?_
      (focus (refine wkld (w_a e2 (w_a e4 (w_a m4 (w_a e8 (w_a m8 (w_a hlC (w_a hgx w_t))))))) (w_a cp (w_a ce w_t)) w_t (w_a (w_d 10 [(10, poA t), (11, .sl 1 LA)] [] []) w_t) ?_; (repeat' first | exact w_t | apply w_l); all_goals intros))
  · exact ⟨Nat.zero_le _, by exact gC, by exact gC, by exact gC, by exact gC, by exact gC, by exact gC, by exact gW hla, by exact gC, _, by exact gC, by (simp (disch := omega) only [go_sem, List.take_zero, List.map_nil] <;> repeat' first | rfl | refine ⟨?_, ?_⟩)⟩
set_option maxHeartbeats 4000000 in
theorem hyE7 {a b c x : Pt} (t : Po) (ha : CB a) (hb : CB b) (hc : CB c) (hx : CB x) : Pure Tryz.prog 82 [iv 7, .sl 2 [coA a, coA b, coA c], coA x, poA t] (.sl 1 [poA (crossM b c b x), poA (dotM b c a x)]) := by
  have c1 := hyCross hb hc hb hx
  have c2 := hyDot hb hc ha hx
  generalize crossM b c b x = r1 at *
  generalize dotM b c a x = r2 at *
  clear ha hb hc hx
  obtain ⟨a1, a2⟩ := a
  obtain ⟨b1, b2⟩ := b
  obtain ⟨d1, d2⟩ := c
  obtain ⟨x1, x2⟩ := x
  refine pure_intro (tok := 0) Tryz.func82 rfl Tryz.ntmps82 Tryz.results82 Tryz.call82 (by rfl) (by simp) ?_
  (focus (refine wkld w_t (w_a c1 (w_a c2 w_t)) w_t (w_a (w_d 7 [(10, poA r1), (21, poA r2)] [] []) w_t) ?_; (repeat' first | exact w_t | apply w_l); all_goals intros))
set_option maxHeartbeats 4000000 in
theorem hyE0 (k : Int) (R : List AV) (x : Pt) (t : Po) (hk : k < 6 ∨ 14 < k) : Pure Tryz.prog 82 [iv k, .sl 2 R, coA x, poA t] (.sl 1 []) := by
  refine pure_vkR (r := .v (.slice none 0 0)) ?_ (.nil 1)
  obtain ⟨x1, x2⟩ := x
  have k6 : ¬ k = 6 := by omega
  have k7 : ¬ k = 7 := by omega
  have k8 : ¬ k = 8 := by omega
  have k9 : ¬ k = 9 := by omega
  have k10 : ¬ k = 10 := by omega
  have k11 : ¬ k = 11 := by omega
  have k12 : ¬ k = 12 := by omega
  have k13 : ¬ k = 13 := by omega
  have k14 : ¬ k = 14 := by omega
  refine pure_intro (tok := 0) Tryz.func82 rfl Tryz.ntmps82 Tryz.results82 Tryz.call82 (by rfl) (by simp) ?_
  (focus (refine wkld (w_a k6 (w_a k7 (w_a k8 (w_a k9 (w_a k10 (w_a k11 (w_a k12 (w_a k13 (w_a k14 w_t))))))))) w_t w_t w_t ?_; (repeat' first | exact w_t | apply w_l); all_goals intros))
end Go.Proofs.YtbgmnobnaplmlaaGreat
end

section
namespace Go.Proofs.YtbgmnobnaplmlaaGreat
open Go Go.RowKit Go.Pg Go.Pol
set_option linter.unusedSimpArgs false
set_option linter.unusedVariables false
set_option maxRecDepth 20000
attribute [local go_sem] Tryz.underlying3 Tryz.underlying4 Tryz.underlying178 Tryz.underlying9 Tryz.underlying48 Tryz.underlying31 Tryz.underlying43 Tryz.underlying41 Tryz.underlying39 Tryz.underlying50 Tryz.underlying22 Tryz.underlying25 Tryz.underlying56 Tryz.underlying28 Tryz.underlying72 Tryz.underlying27 Tryz.underlying30 Tryz.underlying105 Tryz.underlying107 Tryz.underlying70 Tryz.underlying63 Tryz.underlying103 Tryz.underlying154 sz3 by3 z3 szB zB szErr zErr szStr byStr zStr szRat zRat szInt zInt szNat zNat szStep byStep zStep szFig zFig szSlI zSlI szSlS zSlS szVar byVar zVar szSlV zSlV szCoord byCoord zCoord szSlC zSlC szFrame zFrame szCBld byCBld zCBld szCVec byCVec zCVec szPoly byPoly zPoly szTerm zTerm szPtrB zPtrB szFnC zFnC Tryz.underlying135 szHVec byHVec zHVec Tryz.underlying78 szSlP zSlP Tryz.underlying124 Tryz.underlying23 szL byL zL szFact byFact zFact szSlF zSlF szFnN zFnN Tryz.underlying106 szA2P zA2P undFnN
attribute [-bool_to_prop] Bool.and_eq_decide Bool.or_eq_decide Bool.decide_beq_decide decide_eq_decide
/-! ### package hypotheses: the equations -/
theorem poConst1 : Pure Tryz.prog 209 [ratQ 1] (poA oneM) := by
  have z1 : Sz (1 : Rat) 1 := nat_sz1 1 (by omega)
  have z0 : Sz (0 : Rat) 1 := nat_sz1 0 (by omega)
  have o0 : Pure Tryz.prog 183 [iv 0] (ratQ 0) := ratOf 0 (by omega)
  have ad := ratAdd 1 0 z1 z0 (by omega) (by omega)
  rw [Rat.add_zero] at ad
  have sg : Pure Tryz.prog 210 [ratQ 1, .v (.slice none 0 0)] (poA oneM) := pure_vkA (poSingle 1 [] (by decide) z1 (by omega)) (.cons (.refl _) (.cons (.nil 1) .nil))
  generalize (0 : Rat) = q0 at *
  generalize hr : oneM = r at *
  generalize (1 : Rat) = q1 at *
  refine pure_intro (tok := 0) Tryz.func209 rfl Tryz.ntmps209 Tryz.results209 Tryz.call209 (by rfl) (by simp) ?_
  (focus (refine wkld w_t (w_a o0 (w_a ad (w_a sg w_t))) w_t (w_a (w_d 1 [(1, ratQ q0), (2, ratQ q1), (3, poA r)] [] []) w_t) ?_; (repeat' first | exact w_t | apply w_l); all_goals intros))
theorem hyTwice {p : Po} {n j e : Nat} (h : PB p n j e) (hn : n ≤ 1000000) (hj : j ≤ 900000) (he : e ≤ 100) : Pure Tryz.prog 156 [poA p] (poA (dblM p)) := by
  have o2 : Pure Tryz.prog 183 [iv 2] (ratQ 2) := ratOf 2 (by omega)
  have l := h.l
  have c := poScale p 2 h.k (nat_sz1 2 (by omega)) h.s (by omega) (by omega) (by omega) (by omega)
  rw [dbl_scl h.s] at c
  clear h
  generalize dblM p = r at *
  generalize (2 : Rat) = q at *
  refine pure_intro (tok := 0) Tryz.func156 rfl Tryz.ntmps156 Tryz.results156 Tryz.call156 (by rfl) (by simp) ?_
  (focus (refine wklp w_t (w_a o2 (w_a c w_t)) w_t (w_r 0) ?_; (repeat' first | exact w_t | apply w_l); all_goals intros))
set_option maxHeartbeats 8000000 in
theorem hyScaledC (a x w u : Pt) (p q a1 a2 b1 b2 r1 r2 : Po) (cb : Pure Tryz.prog 76 [coA a, coA x] (coA w))
    (p1 : Pure Tryz.prog 78 [poA p, poA w.1] (poA a1)) (p2 : Pure Tryz.prog 78 [poA p, poA w.2] (poA a2))
    (q1 : Pure Tryz.prog 78 [poA q, poA u.1] (poA b1)) (q2 : Pure Tryz.prog 78 [poA q, poA u.2] (poA b2))
    (s1 : Pure Tryz.prog 77 [poA a1, poA b1] (poA r1)) (s2 : Pure Tryz.prog 77 [poA a2, poA b2] (poA r2)) :
    Pure Tryz.prog 155 [coA a, coA x, poA p, poA q, coA u] (.sl 1 [poA r1, poA r2]) := by
  obtain ⟨aa, ab⟩ := a
  obtain ⟨xa, xb⟩ := x
  obtain ⟨w1, w2⟩ := w
  obtain ⟨u1, u2⟩ := u
  simp only at p1 p2 q1 q2
  refine pure_intro (tok := 0) Tryz.func155 rfl Tryz.ntmps155 Tryz.results155 Tryz.call155 (by rfl) (by simp) ?_
  (focus (refine wkad w_t (w_a cb w_t) w_t ?_; (repeat' first | exact w_t | apply w_l); all_goals intros))
  rename_i g5 g6 g9 g11 g12
  refine r_loopE (ι := Nat) (fun i e m => i ≤ 2 ∧ e 2 = poA p ∧ e 3 = poA q ∧ e 9 = .pbox 9 g9 0 ∧ m 9 = some (.box g9 135 [poA u1, poA u2] false) ∧ e 11 = .pbox 11 g11 0 ∧ m 11 = some (.box g11 135 [poA w1, poA w2] false) ∧ e 12 = .pbox 12 g12 0 ∧ m 12 = some (.box g12 106 (if i = 0 then [.v (.slice none 0 0), .v (.slice none 0 0)] else if i = 1 then [poA r1, .v (.slice none 0 0)] else [poA r1, poA r2]) false) ∧ e 17 = iv i) (fun i => 2 - i) 0 (by rfl) ?_ ?_
  · rintro i e m ⟨hi, e2, e3, e9, m9, e11, m11, e12, m12, e17⟩
    have h3 : i = 0 ∨ i = 1 ∨ i = 2 := by omega
    rcases h3 with rfl | rfl | rfl
    · simp only [if_true] at m12
      (focus (refine wkad (w_a e2 (w_a e3 (w_a e9 (w_a m9 (w_a e11 (w_a m11 (w_a e12 (w_a m12 (w_a e17 w_t))))))))) (w_a p1 (w_a q1 (w_a s1 w_t))) (w_a (w_d 6 [(5, poA a1), (10, poA b1), (11, poA r1)] [13] []) w_t) ?_; (repeat' first | exact w_t | apply w_l); all_goals intros))
      exact ⟨1, ⟨by omega, by exact gW e2, by exact gW e3, by exact gW e9, by exact gW m9, by exact gW e11, by exact gW m11, by exact gW e12, by (simp (disch := omega) only [go_sem, List.set_cons_zero] <;> repeat' first | rfl | refine ⟨?_, ?_⟩), by exact gC⟩, by omega⟩
    · simp only [if_true, if_false, show ¬ ((1 : Nat) = 0) from by decide] at m12
      (focus (refine wkad (w_a e2 (w_a e3 (w_a e9 (w_a m9 (w_a e11 (w_a m11 (w_a e12 (w_a m12 (w_a e17 w_t))))))))) (w_a p2 (w_a q2 (w_a s2 w_t))) (w_a (w_d 6 [(5, poA a2), (10, poA b2), (11, poA r2)] [13] []) w_t) ?_; (repeat' first | exact w_t | apply w_l); all_goals intros))
      exact ⟨2, ⟨by omega, by exact gW e2, by exact gW e3, by exact gW e9, by exact gW m9, by exact gW e11, by exact gW m11, by exact gW e12, by (simp (disch := omega) only [go_sem, List.set_cons_zero, List.set_cons_succ] <;> repeat' first | rfl | refine ⟨?_, ?_⟩), by exact gC⟩, by omega⟩
    · simp only [if_false, show ¬ ((2 : Nat) = 0) from by decide, show ¬ ((2 : Nat) = 1) from by decide] at m12
      (focus (refine wkld (w_a e2 (w_a e3 (w_a e9 (w_a m9 (w_a e11 (w_a m11 (w_a e12 (w_a m12 (w_a e17 w_t))))))))) w_t w_t w_t ?_; (repeat' first | exact w_t | apply w_l); all_goals intros))
  · exact ⟨by omega, by exact gC, by exact gC, by exact gC, by exact gC, by exact gC, by exact gC, by exact gC, by exact gC, by exact gC⟩
theorem slope_pb {t : Po} (ht : PB t 1 1 1) : PB (slopeM t) 2 5 2 := (one_pb.add (ht.mul ht)).mono (by omega) (by omega) (by omega)
set_option maxHeartbeats 4000000 in
theorem hyCirc {o a x : Pt} {t : Po} (ho : CB o) (ha : CB a) (hx : CB x) (ht : PB t 1 1 1) : Pure Tryz.prog 154 [coA o, coA a, coA x, poA t] (.sl 1 ((circM o a x t).map poA)) := by
  obtain ⟨x1, y1⟩ := ha.df ho
  obtain ⟨x2, y2⟩ := ha.df hx
  have o1 : Pure Tryz.prog 183 [iv 1] (ratQ 1) := ratOf 1 (by omega)
  have k1 := poConst1
  have m11 := (hpMul one_pb one_pb (by omega) (by omega) (by omega) (by omega) (by omega) (by omega) (by omega) (by omega) (by omega)).1
  rw [one_mul one_pb.s] at m11
  have mtt := (hpMul ht ht (by omega) (by omega) (by omega) (by omega) (by omega) (by omega) (by omega) (by omega) (by omega)).1
  have asl := (hpAdd one_pb (ht.mul ht) (by omega) (by omega) (by omega) (by omega) (by omega) (by omega)).1
  have d1 := hyDotC (oneM, t) (oneM, t) oneM _ (slopeM t) m11 mtt asl
  have b1 := hyBetween ha ho
  have e1 := (hpMul x1 one_pb (by omega) (by omega) (by omega) (by omega) (by omega) (by omega) (by omega) (by omega) (by omega)).1
  rw [mul_one' x1.s] at e1
  have e2 := (hpMul y1 ht (by omega) (by omega) (by omega) (by omega) (by omega) (by omega) (by omega) (by omega) (by omega)).1
  rw [mul_comm' y1.s ht.s] at e2
  have zt : PB (mlM t (subM o.2 a.2)) 16 3600 9 := (ht.mul y1).mono (by omega) (by omega) (by omega)
  have ad := (hpAdd x1 zt (by omega) (by omega) (by omega) (by omega) (by omega) (by omega)).1
  have d2 := hyDotC (dfM a o) (oneM, t) _ _ _ e1 e2 ad
  have zd : PB (addM (subM o.1 a.1) (mlM t (subM o.2 a.2))) 32 3822 9 := (x1.add zt).mono (by omega) (by omega) (by omega)
  have tw := hyTwice zd (by omega) (by omega) (by omega)
  have zs : PB (dblM (addM (subM o.1 a.1) (mlM t (subM o.2 a.2)))) 64 7645 9 := zd.dbl.mono (by omega) (by omega) (by omega)
  have zl := slope_pb ht
  have p1 := (hpMul zl x2 (by omega) (by omega) (by omega) (by omega) (by omega) (by omega) (by omega) (by omega) (by omega)).1
  have p2 := (hpMul zl y2 (by omega) (by omega) (by omega) (by omega) (by omega) (by omega) (by omega) (by omega) (by omega)).1
  have q1 := (hpMul zs one_pb (by omega) (by omega) (by omega) (by omega) (by omega) (by omega) (by omega) (by omega) (by omega)).1
  rw [mul_one' zs.s] at q1
  have q2 := (hpMul zs ht (by omega) (by omega) (by omega) (by omega) (by omega) (by omega) (by omega) (by omega) (by omega)).1
  rw [mul_comm' zs.s ht.s] at q2
  have r1 := (hpSub (zl.mul x2) zs (by omega) (by omega) (by omega) (by omega) (by omega) (by omega)).1
  have r2 := (hpSub (zl.mul y2) (ht.mul zs) (by omega) (by omega) (by omega) (by omega) (by omega) (by omega)).1
  have sc := hyScaledC a x (dfM a x) (oneM, t) _ _ _ _ _ _ _ _ (hyBetween ha hx) p1 p2 q1 q2 r1 r2
  show Pure _ _ _ (.sl 1 [poA (subM (mlM (slopeM t) (subM x.1 a.1)) (dblM (addM (subM o.1 a.1) (mlM t (subM o.2 a.2))))), poA (subM (mlM (slopeM t) (subM x.2 a.2)) (mlM t (dblM (addM (subM o.1 a.1) (mlM t (subM o.2 a.2))))))])
  clear x1 y1 x2 y2 m11 mtt asl e1 e2 zt ad zd zs zl p1 p2 q1 q2 r1 r2 ho ha hx ht
  generalize subM (mlM (slopeM t) (subM x.1 a.1)) (dblM (addM (subM o.1 a.1) (mlM t (subM o.2 a.2)))) = r1 at *
  generalize subM (mlM (slopeM t) (subM x.2 a.2)) (mlM t (dblM (addM (subM o.1 a.1) (mlM t (subM o.2 a.2))))) = r2 at *
  generalize dblM (addM (subM o.1 a.1) (mlM t (subM o.2 a.2))) = s at *
  generalize addM (subM o.1 a.1) (mlM t (subM o.2 a.2)) = d at *
  generalize slopeM t = sl at *
  unfold dfM at b1 d2
  generalize subM o.1 a.1 = w1 at *
  generalize subM o.2 a.2 = w2 at *
  generalize (1 : Rat) = q at *
  generalize oneM = one at *
  obtain ⟨aa, ab⟩ := a
  obtain ⟨oa, ob⟩ := o
  obtain ⟨xa, xb⟩ := x
  refine pure_intro (tok := 0) Tryz.func154 rfl Tryz.ntmps154 Tryz.results154 Tryz.call154 (by rfl) (by simp) ?_
  (focus (refine wkld w_t (w_a o1 (w_a k1 (w_a d1 (w_a b1 (w_a d2 (w_a tw (w_a sc w_t))))))) w_t (w_a (w_d 3 [(4, poA sl), (7, coA (w1, w2)), (9, poA d), (10, poA s), (12, .sl 1 [poA r1, poA r2])] [] []) w_t) ?_; (repeat' first | exact w_t | apply w_l); all_goals intros))
theorem hyN {a b : Pt} (ha : CB a) (hb : CB b) : Pure Tryz.prog 152 [coA a, coA b] (poA (dotM a b a b)) := by
  have c := hyDot ha hb ha hb
  generalize dotM a b a b = r at *
  clear ha hb
  obtain ⟨a1, a2⟩ := a
  obtain ⟨b1, b2⟩ := b
  refine pure_intro (tok := 0) Tryz.func152 rfl Tryz.ntmps152 Tryz.results152 Tryz.call152 (by rfl) (by simp) ?_
  (focus (refine wklp w_t (w_a c w_t) w_t (w_r 0) ?_; (repeat' first | exact w_t | apply w_l); all_goals intros))
theorem hyDiff {a b c d : Pt} (ha : CB a) (hb : CB b) (hc : CB c) (hd : CB d) (K g : Nat) :
    RdC Tryz.prog [(K, .box g 193 [.fn 152 []] false)] 153 [coA a, coA b, coA c, coA d, .pbox K g 0] (poA (diffM a b c d)) := by
  have n1 := hyN ha hb
  have n2 := hyN hc hd
  have s := (hpSub (ha.dot hb ha hb) (hc.dot hd hc hd) (by omega) (by omega) (by omega) (by omega) (by omega) (by omega)).1
  rw [show subM (dotM a b a b) (dotM c d c d) = diffM a b c d from rfl] at s
  generalize diffM a b c d = r at *
  generalize dotM a b a b = u at *
  generalize dotM c d c d = v at *
  clear ha hb hc hd
  intro σ hL
  have m4 := lents_at hL.1
  simp only [Ent.sh, AV.shL, AV.sh] at m4
  obtain ⟨a1, a2⟩ := a
  obtain ⟨b1, b2⟩ := b
  obtain ⟨c1, c2⟩ := c
  obtain ⟨d1, d2⟩ := d
  refine acall_lents Tryz.func153 rfl Tryz.ntmps153 Tryz.results153 Tryz.call153 (by rfl) (by simp) ?_
  (focus (refine wkad (w_a m4 w_t) (w_a n1 (w_a n2 (w_a s w_t))) (w_a (w_d 1 [(3, poA u), (7, poA v), (8, poA r)] [] []) w_t) ?_; (repeat' first | exact w_t | apply w_l); all_goals intros))
  simp (disch := omega) only [go_sem]
  refine backS (Sub.refl _) ⟨rfl, rfl⟩ ?_
  (repeat' (first | exact Agr.start _ | (refine Agr.own ?_ (by omega))))
set_option maxHeartbeats 4000000 in
theorem hyE8 {a b c x : Pt} (t : Po) (ha : CB a) (hb : CB b) (hc : CB c) (hx : CB x) : Pure Tryz.prog 82 [iv 8, .sl 2 [coA a, coA b, coA c], coA x, poA t] (.sl 1 [poA (dotM b c a x), poA (addM (crossM b c b a) (crossM b c b x))]) := by
  have c1 := hyCross hb hc hb ha
  have c2 := hyCross hb hc hb hx
  have ad := (hpAdd (hb.cross hc hb ha) (hb.cross hc hb hx) (by omega) (by omega) (by omega) (by omega) (by omega) (by omega)).1
  have c3 := hyDot hb hc ha hx
  generalize addM (crossM b c b a) (crossM b c b x) = s at *
  generalize crossM b c b a = r1 at *
  generalize crossM b c b x = r2 at *
  generalize dotM b c a x = d at *
  clear ha hb hc hx
  obtain ⟨a1, a2⟩ := a
  obtain ⟨b1, b2⟩ := b
  obtain ⟨c1, c2⟩ := c
  obtain ⟨x1, x2⟩ := x
  refine pure_intro (tok := 0) Tryz.func82 rfl Tryz.ntmps82 Tryz.results82 Tryz.call82 (by rfl) (by simp) ?_
  (focus (refine wkld w_t (w_a c1 (w_a c2 (w_a ad (w_a c3 w_t)))) w_t (w_a (w_d 9 [(12, poA r1), (23, poA r2), (24, poA s)] [] []) (w_a (w_d 10 [(10, poA d)] [] []) w_t)) ?_; (repeat' first | exact w_t | apply w_l); all_goals intros))
set_option maxHeartbeats 4000000 in
theorem hyE9 {a b c d x : Pt} (t : Po) (ha : CB a) (hb : CB b) (hc : CB c) (hd : CB d) (hx : CB x) : Pure Tryz.prog 82 [iv 9, .sl 2 [coA a, coA b, coA c, coA d], coA x, poA t] (.sl 1 [poA (crossM a b a x), poA (crossM c d c x)]) := by
  have c1 := hyCross ha hb ha hx
  have c2 := hyCross hc hd hc hx
  generalize crossM a b a x = r1 at *
  generalize crossM c d c x = r2 at *
  clear ha hb hc hd hx
  obtain ⟨a1, a2⟩ := a
  obtain ⟨b1, b2⟩ := b
  obtain ⟨c1, c2⟩ := c
  obtain ⟨d1, d2⟩ := d
  obtain ⟨x1, x2⟩ := x
  refine pure_intro (tok := 0) Tryz.func82 rfl Tryz.ntmps82 Tryz.results82 Tryz.call82 (by rfl) (by simp) ?_
  (focus (refine wkld w_t (w_a c1 (w_a c2 w_t)) w_t (w_a (w_d 12 [(10, poA r1), (21, poA r2)] [] []) w_t) ?_; (repeat' first | exact w_t | apply w_l); all_goals intros))
set_option maxHeartbeats 4000000 in
theorem hyE6 {a b x : Pt} (t : Po) (tt : PB t 1 1 1) (ha : CB a) (hb : CB b) (hx : CB x) : Pure Tryz.prog 82 [iv 6, .sl 2 [coA a, coA b], coA x, poA t] (.sl 1 [poA ((circM a b x t).getD 0 []), poA ((circM a b x t).getD 1 [])]) := by
  have ht : PB t 1 1 1 := tt
  have c1 := hyCirc ha hb hx ht
  show Pure _ _ _ (.sl 1 ((circM a b x t).map poA))
  generalize (circM a b x t).map poA = L at *
  clear ht tt
  clear ha hb hx
  obtain ⟨a1, a2⟩ := a
  obtain ⟨b1, b2⟩ := b
  obtain ⟨x1, x2⟩ := x
  refine pure_intro (tok := 0) Tryz.func82 rfl Tryz.ntmps82 Tryz.results82 Tryz.call82 (by rfl) (by simp) ?_
  (focus (refine wkld w_t (w_a c1 w_t) w_t (w_a (w_d 5 [(8, .sl 1 L)] [] []) w_t) ?_; (repeat' first | exact w_t | apply w_l); all_goals intros))
set_option maxHeartbeats 4000000 in
theorem hyE10 {a b c x : Pt} (t : Po) (ha : CB a) (hb : CB b) (hc : CB c) (hx : CB x) : Pure Tryz.prog 82 [iv 10, .sl 2 [coA a, coA b, coA c], coA x, poA t] (.sl 1 ((otherM a b c x).map poA)) := by
  have n1 := hyN ha hb
  have d1 := hyDot ha hc ha hb
  have zn := ha.dot hb ha hb
  have zd := ha.dot hc ha hb
  have tw := hyTwice zd (by omega) (by omega) (by omega)
  have b1 := hyBetween ha hb
  obtain ⟨w1, w2⟩ := ha.df hx
  obtain ⟨u1, u2⟩ := ha.df hb
  have zs := zd.dbl
  have zp1 : PB (mlM (dotM a b a b) (subM x.1 a.1)) 8192 230384 24 := (zn.mul w1).mono (by omega) (by omega) (by omega)
  have zp2 : PB (mlM (dotM a b a b) (subM x.2 a.2)) 8192 230384 24 := (zn.mul w2).mono (by omega) (by omega) (by omega)
  have zq1 : PB (mlM (dblM (dotM a c a b)) (subM b.1 a.1)) 16384 457232 24 := (zs.mul u1).mono (by omega) (by omega) (by omega)
  have zq2 : PB (mlM (dblM (dotM a c a b)) (subM b.2 a.2)) 16384 457232 24 := (zs.mul u2).mono (by omega) (by omega) (by omega)
  have p1 := (hpMul zn w1 (by omega) (by omega) (by omega) (by omega) (by omega) (by omega) (by omega) (by omega) (by omega)).1
  have p2 := (hpMul zn w2 (by omega) (by omega) (by omega) (by omega) (by omega) (by omega) (by omega) (by omega) (by omega)).1
  have q1 := (hpMul zs u1 (by omega) (by omega) (by omega) (by omega) (by omega) (by omega) (by omega) (by omega) (by omega)).1
  have q2 := (hpMul zs u2 (by omega) (by omega) (by omega) (by omega) (by omega) (by omega) (by omega) (by omega) (by omega)).1
  have s1 := (hpSub zp1 zq1 (by omega) (by omega) (by omega) (by omega) (by omega) (by omega)).1
  have s2 := (hpSub zp2 zq2 (by omega) (by omega) (by omega) (by omega) (by omega) (by omega)).1
  have sc := hyScaledC a x (dfM a x) (dfM a b) _ _ _ _ _ _ _ _ (hyBetween ha hx) p1 p2 q1 q2 s1 s2
  have hr : (otherM a b c x).map poA = [poA (subM (mlM (dotM a b a b) (subM x.1 a.1)) (mlM (dblM (dotM a c a b)) (subM b.1 a.1))), poA (subM (mlM (dotM a b a b) (subM x.2 a.2)) (mlM (dblM (dotM a c a b)) (subM b.2 a.2)))] := rfl
  rw [← hr] at sc
  clear hr s1 s2 p1 p2 q1 q2 zp1 zp2 zq1 zq2 zs zd zn w1 w2 u1 u2 ha hb hc hx
  generalize (otherM a b c x).map poA = L at *
  generalize dblM (dotM a c a b) = tm at *
  generalize dotM a c a b = dm at *
  generalize dotM a b a b = nm at *
  unfold dfM at b1 sc
  generalize subM b.1 a.1 = v1 at *
  generalize subM b.2 a.2 = v2 at *
  obtain ⟨a1, a2⟩ := a
  obtain ⟨b1, b2⟩ := b
  obtain ⟨c1, c2⟩ := c
  obtain ⟨x1, x2⟩ := x
  refine pure_intro (tok := 0) Tryz.func82 rfl Tryz.ntmps82 Tryz.results82 Tryz.call82 (by rfl) (by simp) ?_
  (focus (refine wkld w_t (w_a n1 (w_a d1 (w_a tw (w_a b1 (w_a sc w_t))))) w_t (w_a (w_d 14 [(11, poA nm), (24, poA dm), (25, poA tm), (32, coA (v1, v2)), (33, .sl 1 L)] [] []) w_t) ?_; (repeat' first | exact w_t | apply w_l); all_goals intros))
set_option maxHeartbeats 4000000 in
theorem hyE11 {a b c x : Pt} (t : Po) (ha : CB a) (hb : CB b) (hc : CB c) (hx : CB x) : Pure Tryz.prog 82 [iv 11, .sl 2 [coA a, coA b, coA c], coA x, poA t] (.sl 1 [poA (diffM a x b x), poA (diffM a x c x)]) := by
  have c1 := hyDiff ha hx hb hx
  have c2 := hyDiff ha hx hc hx
  generalize diffM a x b x = r1 at *
  generalize diffM a x c x = r2 at *
  clear ha hb hc hx
  obtain ⟨a1, a2⟩ := a
  obtain ⟨b1, b2⟩ := b
  obtain ⟨c1, c2⟩ := c
  obtain ⟨x1, x2⟩ := x
  refine pure_intro (tok := 0) Tryz.func82 rfl Tryz.ntmps82 Tryz.results82 Tryz.call82 (by rfl) (by simp) ?_
  (repeat' (first | (with_reducible first | refine stp ?_ | apply gx1 | apply gx2 | apply gx3 | apply gx4 | apply gx5 | apply gx6 | apply gx7 | apply gy8 | apply gz2 | apply gz3 | refine gwr (c1 _ _) ?_ ?_ | refine gwr (c2 _ _) ?_ ?_) | ((with_reducible apply gyr (c2 _ _)); (focus rfl); (focus rfl); iterate 3 focus ((with_reducible refine gE ?_); (try simp (disch := omega) only [go_sem, decide_eq_true, decide_eq_false, if_pos, if_neg, Int.reduceAdd, Int.reduceSub, Int.reduceToNat, Int.zero_add]) <;> first | rfl | done)) | ((with_reducible apply gyr (c1 _ _)); (focus rfl); (focus rfl); iterate 3 focus ((with_reducible refine gE ?_); (try simp (disch := omega) only [go_sem, decide_eq_true, decide_eq_false, if_pos, if_neg, Int.reduceAdd, Int.reduceSub, Int.reduceToNat, Int.zero_add]) <;> first | rfl | done)) | (with_reducible refine all_v ?_; intro _) | ((with_reducible refine gE ?_); (try simp (disch := omega) only [go_sem, decide_eq_true, decide_eq_false, if_pos, if_neg, Int.reduceAdd, Int.reduceSub, Int.reduceToNat, Int.zero_add]) <;> first | rfl | omega) | with_reducible refine t_in_other (by decide) ?_ | ((with_reducible apply gy1); iterate 3 focus rfl) | ((with_reducible apply gy2); iterate 3 focus rfl) | ((with_reducible apply gy3); iterate 2 focus rfl) | ((with_reducible apply gy4); iterate 1 focus rfl) | ((with_reducible apply gy5); iterate 4 focus rfl) | ((with_reducible apply gy6); iterate 4 focus rfl) | ((with_reducible apply d_bar); iterate 3 focus rfl) | ((with_reducible apply q_pub); iterate 1 focus rfl) | ((with_reducible apply gy7); iterate 1 focus rfl) | ((with_reducible apply gy9); (focus ((with_reducible refine gE ?_); (try simp (disch := omega) only [go_sem, decide_eq_true, decide_eq_false, if_pos, if_neg, Int.reduceAdd, Int.reduceSub, Int.reduceToNat, Int.zero_add]) <;> rfl))) | ((with_reducible apply gz1); (focus first | rfl | (simp (disch := omega) only [go_sem, decide_eq_true, decide_eq_false, if_pos, if_neg, Int.reduceAdd, Int.reduceSub, Int.reduceToNat, Int.zero_add]; done))) | ((with_reducible apply r_drawD (id := 16) (pickR [(9, poA r1), (19, poA r2)]) [] []); (focus kernel_rfl); (focus rfl); (focus kernel_rfl); (focus (simp only [List.length_cons, List.length_nil, Nat.reduceAdd]; rfl))) | ((with_reducible first | apply og_split | apply dg_split | apply cg_split); all_goals (intro hc; (try simp only [bool_to_prop] at hc); try (exfalso; omega)))))
  (all_goals (try simp (disch := omega) only [go_sem, decide_eq_true, decide_eq_false, if_pos, if_neg, Int.reduceAdd, Int.reduceSub, Int.reduceToNat, Int.zero_add])); (all_goals first | done | rfl | (congr 2; first | done | omega | (rw [Bool.eq_iff_iff]; simp only [bool_to_prop, Bool.false_eq_true, iff_true, true_iff, iff_false, false_iff]; omega)) | skip)
set_option maxHeartbeats 4000000 in
theorem hyE12 {a b c d x : Pt} (t : Po) (ha : CB a) (hb : CB b) (hc : CB c) (hd : CB d) (hx : CB x) : Pure Tryz.prog 82 [iv 12, .sl 2 [coA a, coA b, coA c, coA d], coA x, poA t] (.sl 1 [poA (crossM a b a x), poA (diffM c x c d)]) := by
  have c1 := hyCross ha hb ha hx
  have c2 := hyDiff hc hx hc hd
  generalize crossM a b a x = r1 at *
  generalize diffM c x c d = r2 at *
  clear ha hb hc hd hx
  obtain ⟨a1, a2⟩ := a
  obtain ⟨b1, b2⟩ := b
  obtain ⟨c1, c2⟩ := c
  obtain ⟨d1, d2⟩ := d
  obtain ⟨x1, x2⟩ := x
  refine pure_intro (tok := 0) Tryz.func82 rfl Tryz.ntmps82 Tryz.results82 Tryz.call82 (by rfl) (by simp) ?_
  (repeat' (first | (with_reducible first | refine stp ?_ | apply gx1 | apply gx2 | apply gx3 | apply gx4 | apply gx5 | apply gx6 | apply gx7 | apply gy8 | apply gz2 | apply gz3 | refine gw0 (c1) ?_ ?_ | refine gw3 (c1) ?_ ?_ ?_ | refine gwr (c2 _ _) ?_ ?_) | ((with_reducible apply gyr (c2 _ _)); (focus rfl); (focus rfl); iterate 3 focus ((with_reducible refine gE ?_); (try simp (disch := omega) only [go_sem, decide_eq_true, decide_eq_false, if_pos, if_neg, Int.reduceAdd, Int.reduceSub, Int.reduceToNat, Int.zero_add]) <;> first | rfl | done)) | (with_reducible refine all_v ?_; intro _) | ((with_reducible refine gE ?_); (try simp (disch := omega) only [go_sem, decide_eq_true, decide_eq_false, if_pos, if_neg, Int.reduceAdd, Int.reduceSub, Int.reduceToNat, Int.zero_add]) <;> first | rfl | omega) | with_reducible refine t_in_other (by decide) ?_ | ((with_reducible apply gy1); iterate 3 focus rfl) | ((with_reducible apply gy2); iterate 3 focus rfl) | ((with_reducible apply gy3); iterate 2 focus rfl) | ((with_reducible apply gy4); iterate 1 focus rfl) | ((with_reducible apply gy5); iterate 4 focus rfl) | ((with_reducible apply gy6); iterate 4 focus rfl) | ((with_reducible apply d_bar); iterate 3 focus rfl) | ((with_reducible apply q_pub); iterate 1 focus rfl) | ((with_reducible apply gy7); iterate 1 focus rfl) | ((with_reducible apply gy9); (focus ((with_reducible refine gE ?_); (try simp (disch := omega) only [go_sem, decide_eq_true, decide_eq_false, if_pos, if_neg, Int.reduceAdd, Int.reduceSub, Int.reduceToNat, Int.zero_add]) <;> rfl))) | ((with_reducible apply gz1); (focus first | rfl | (simp (disch := omega) only [go_sem, decide_eq_true, decide_eq_false, if_pos, if_neg, Int.reduceAdd, Int.reduceSub, Int.reduceToNat, Int.zero_add]; done))) | ((with_reducible apply r_drawD (id := 18) (pickR [(10, poA r1), (22, poA r2)]) [] []); (focus kernel_rfl); (focus rfl); (focus kernel_rfl); (focus (simp only [List.length_cons, List.length_nil, Nat.reduceAdd]; rfl))) | ((with_reducible first | apply og_split | apply dg_split | apply cg_split); all_goals (intro hc; (try simp only [bool_to_prop] at hc); try (exfalso; omega)))))
  (all_goals (try simp (disch := omega) only [go_sem, decide_eq_true, decide_eq_false, if_pos, if_neg, Int.reduceAdd, Int.reduceSub, Int.reduceToNat, Int.zero_add])); (all_goals first | done | rfl | (congr 2; first | done | omega | (rw [Bool.eq_iff_iff]; simp only [bool_to_prop, Bool.false_eq_true, iff_true, true_iff, iff_false, false_iff]; omega)) | skip)
set_option maxHeartbeats 4000000 in
theorem hyE13 {a b c d x : Pt} (t : Po) (ha : CB a) (hb : CB b) (hc : CB c) (hd : CB d) (hx : CB x) : Pure Tryz.prog 82 [iv 13, .sl 2 [coA a, coA b, coA c, coA d], coA x, poA t] (.sl 1 [poA (diffM a x a b), poA (diffM c x c d)]) := by
  have c1 := hyDiff ha hx ha hb
  have c2 := hyDiff hc hx hc hd
  generalize diffM a x a b = r1 at *
  generalize diffM c x c d = r2 at *
  clear ha hb hc hd hx
  obtain ⟨a1, a2⟩ := a
  obtain ⟨b1, b2⟩ := b
  obtain ⟨c1, c2⟩ := c
  obtain ⟨d1, d2⟩ := d
  obtain ⟨x1, x2⟩ := x
  refine pure_intro (tok := 0) Tryz.func82 rfl Tryz.ntmps82 Tryz.results82 Tryz.call82 (by rfl) (by simp) ?_
  (repeat' (first | (with_reducible first | refine stp ?_ | apply gx1 | apply gx2 | apply gx3 | apply gx4 | apply gx5 | apply gx6 | apply gx7 | apply gy8 | apply gz2 | apply gz3 | refine gwr (c1 _ _) ?_ ?_ | refine gwr (c2 _ _) ?_ ?_) | ((with_reducible apply gyr (c2 _ _)); (focus rfl); (focus rfl); iterate 3 focus ((with_reducible refine gE ?_); (try simp (disch := omega) only [go_sem, decide_eq_true, decide_eq_false, if_pos, if_neg, Int.reduceAdd, Int.reduceSub, Int.reduceToNat, Int.zero_add]) <;> first | rfl | done)) | ((with_reducible apply gyr (c1 _ _)); (focus rfl); (focus rfl); iterate 3 focus ((with_reducible refine gE ?_); (try simp (disch := omega) only [go_sem, decide_eq_true, decide_eq_false, if_pos, if_neg, Int.reduceAdd, Int.reduceSub, Int.reduceToNat, Int.zero_add]) <;> first | rfl | done)) | (with_reducible refine all_v ?_; intro _) | ((with_reducible refine gE ?_); (try simp (disch := omega) only [go_sem, decide_eq_true, decide_eq_false, if_pos, if_neg, Int.reduceAdd, Int.reduceSub, Int.reduceToNat, Int.zero_add]) <;> first | rfl | omega) | with_reducible refine t_in_other (by decide) ?_ | ((with_reducible apply gy1); iterate 3 focus rfl) | ((with_reducible apply gy2); iterate 3 focus rfl) | ((with_reducible apply gy3); iterate 2 focus rfl) | ((with_reducible apply gy4); iterate 1 focus rfl) | ((with_reducible apply gy5); iterate 4 focus rfl) | ((with_reducible apply gy6); iterate 4 focus rfl) | ((with_reducible apply d_bar); iterate 3 focus rfl) | ((with_reducible apply q_pub); iterate 1 focus rfl) | ((with_reducible apply gy7); iterate 1 focus rfl) | ((with_reducible apply gy9); (focus ((with_reducible refine gE ?_); (try simp (disch := omega) only [go_sem, decide_eq_true, decide_eq_false, if_pos, if_neg, Int.reduceAdd, Int.reduceSub, Int.reduceToNat, Int.zero_add]) <;> rfl))) | ((with_reducible apply gz1); (focus first | rfl | (simp (disch := omega) only [go_sem, decide_eq_true, decide_eq_false, if_pos, if_neg, Int.reduceAdd, Int.reduceSub, Int.reduceToNat, Int.zero_add]; done))) | ((with_reducible apply r_drawD (id := 20) (pickR [(11, poA r1), (23, poA r2)]) [] []); (focus kernel_rfl); (focus rfl); (focus kernel_rfl); (focus (simp only [List.length_cons, List.length_nil, Nat.reduceAdd]; rfl))) | ((with_reducible first | apply og_split | apply dg_split | apply cg_split); all_goals (intro hc; (try simp only [bool_to_prop] at hc); try (exfalso; omega)))))
  (all_goals (try simp (disch := omega) only [go_sem, decide_eq_true, decide_eq_false, if_pos, if_neg, Int.reduceAdd, Int.reduceSub, Int.reduceToNat, Int.zero_add])); (all_goals first | done | rfl | (congr 2; first | done | omega | (rw [Bool.eq_iff_iff]; simp only [bool_to_prop, Bool.false_eq_true, iff_true, true_iff, iff_false, false_iff]; omega)) | skip)
set_option maxHeartbeats 4000000 in
theorem hyE14 {a b x : Pt} (t : Po) (ha : CB a) (hb : CB b) (hx : CB x) : Pure Tryz.prog 82 [iv 14, .sl 2 [coA a, coA b], coA x, poA t] (.sl 1 [poA (diffM a x a b), poA (diffM b x a b)]) := by
  have c1 := hyDiff ha hx ha hb
  have c2 := hyDiff hb hx ha hb
  generalize diffM a x a b = r1 at *
  generalize diffM b x a b = r2 at *
  clear ha hb hx
  obtain ⟨a1, a2⟩ := a
  obtain ⟨b1, b2⟩ := b
  obtain ⟨x1, x2⟩ := x
  refine pure_intro (tok := 0) Tryz.func82 rfl Tryz.ntmps82 Tryz.results82 Tryz.call82 (by rfl) (by simp) ?_
  (repeat' (first | (with_reducible first | refine stp ?_ | apply gx1 | apply gx2 | apply gx3 | apply gx4 | apply gx5 | apply gx6 | apply gx7 | apply gy8 | apply gz2 | apply gz3 | refine gwr (c1 _ _) ?_ ?_ | refine gwr (c2 _ _) ?_ ?_) | ((with_reducible apply gyr (c2 _ _)); (focus rfl); (focus rfl); iterate 3 focus ((with_reducible refine gE ?_); (try simp (disch := omega) only [go_sem, decide_eq_true, decide_eq_false, if_pos, if_neg, Int.reduceAdd, Int.reduceSub, Int.reduceToNat, Int.zero_add]) <;> first | rfl | done)) | ((with_reducible apply gyr (c1 _ _)); (focus rfl); (focus rfl); iterate 3 focus ((with_reducible refine gE ?_); (try simp (disch := omega) only [go_sem, decide_eq_true, decide_eq_false, if_pos, if_neg, Int.reduceAdd, Int.reduceSub, Int.reduceToNat, Int.zero_add]) <;> first | rfl | done)) | (with_reducible refine all_v ?_; intro _) | ((with_reducible refine gE ?_); (try simp (disch := omega) only [go_sem, decide_eq_true, decide_eq_false, if_pos, if_neg, Int.reduceAdd, Int.reduceSub, Int.reduceToNat, Int.zero_add]) <;> first | rfl | omega) | with_reducible refine t_in_other (by decide) ?_ | ((with_reducible apply gy1); iterate 3 focus rfl) | ((with_reducible apply gy2); iterate 3 focus rfl) | ((with_reducible apply gy3); iterate 2 focus rfl) | ((with_reducible apply gy4); iterate 1 focus rfl) | ((with_reducible apply gy5); iterate 4 focus rfl) | ((with_reducible apply gy6); iterate 4 focus rfl) | ((with_reducible apply d_bar); iterate 3 focus rfl) | ((with_reducible apply q_pub); iterate 1 focus rfl) | ((with_reducible apply gy7); iterate 1 focus rfl) | ((with_reducible apply gy9); (focus ((with_reducible refine gE ?_); (try simp (disch := omega) only [go_sem, decide_eq_true, decide_eq_false, if_pos, if_neg, Int.reduceAdd, Int.reduceSub, Int.reduceToNat, Int.zero_add]) <;> rfl))) | ((with_reducible apply gz1); (focus first | rfl | (simp (disch := omega) only [go_sem, decide_eq_true, decide_eq_false, if_pos, if_neg, Int.reduceAdd, Int.reduceSub, Int.reduceToNat, Int.zero_add]; done))) | ((with_reducible apply r_drawD (id := 22) (pickR [(11, poA r1), (23, poA r2)]) [] []); (focus kernel_rfl); (focus rfl); (focus kernel_rfl); (focus (simp only [List.length_cons, List.length_nil, Nat.reduceAdd]; rfl))) | ((with_reducible first | apply og_split | apply dg_split | apply cg_split); all_goals (intro hc; (try simp only [bool_to_prop] at hc); try (exfalso; omega)))))
  (all_goals (try simp (disch := omega) only [go_sem, decide_eq_true, decide_eq_false, if_pos, if_neg, Int.reduceAdd, Int.reduceSub, Int.reduceToNat, Int.zero_add])); (all_goals first | done | rfl | (congr 2; first | done | omega | (rw [Bool.eq_iff_iff]; simp only [bool_to_prop, Bool.false_eq_true, iff_true, true_iff, iff_false, false_iff]; omega)) | skip)
end Go.Proofs.YtbgmnobnaplmlaaGreat
end

section
namespace Go.Proofs.YtbgmnobnaplmlaaGreat
open Go Go.RowKit Go.Pg Go.Pol
set_option linter.unusedSimpArgs false
set_option linter.unusedVariables false
set_option maxRecDepth 20000
attribute [local go_sem] Tryz.underlying3 Tryz.underlying4 Tryz.underlying178 Tryz.underlying9 Tryz.underlying48 Tryz.underlying31 Tryz.underlying43 Tryz.underlying41 Tryz.underlying39 Tryz.underlying50 Tryz.underlying22 Tryz.underlying25 Tryz.underlying56 Tryz.underlying28 Tryz.underlying72 Tryz.underlying27 Tryz.underlying30 Tryz.underlying105 Tryz.underlying107 Tryz.underlying70 Tryz.underlying63 Tryz.underlying103 Tryz.underlying154 sz3 by3 z3 szB zB szErr zErr szStr byStr zStr szRat zRat szInt zInt szNat zNat szStep byStep zStep szFig zFig szSlI zSlI szSlS zSlS szVar byVar zVar szSlV zSlV szCoord byCoord zCoord szSlC zSlC szFrame zFrame szCBld byCBld zCBld szCVec byCVec zCVec szPoly byPoly zPoly szTerm zTerm szPtrB zPtrB szFnC zFnC Tryz.underlying135 szHVec byHVec zHVec Tryz.underlying78 szSlP zSlP Tryz.underlying124 Tryz.underlying23 szL byL zL szFact byFact zFact szSlF zSlF Tryz.underlying140 szA4C zA4C
attribute [-bool_to_prop] Bool.and_eq_decide Bool.or_eq_decide Bool.decide_beq_decide decide_eq_decide
/-! ### the reference's equations -/
abbrev nilC : AV := .agg [.v (.slice none 0 0), .v (.slice none 0 0)]
end Go.Proofs.YtbgmnobnaplmlaaGreat
end

section
namespace Go.Proofs.YtbgmnobnaplmlaaGreat
open Go Go.RowKit Go.Pg Go.Pol
set_option linter.unusedSimpArgs false
set_option linter.unusedVariables false
set_option maxRecDepth 20000
attribute [-bool_to_prop] Bool.and_eq_decide Bool.or_eq_decide Bool.decide_beq_decide decide_eq_decide
/-! ### arguments of a known number -/
theorem ar2 {ar : List Int} {n : Nat} (hl : (ar.length : Int) = 2) (h : ∀ k, k < ar.length → 0 ≤ gI ar k ∧ gI ar k < (n : Int)) : ∃ a b : Nat, ar = [(a : Int), (b : Int)] ∧ a < n ∧ b < n := by
  match ar, hl, h with
  | [x, y], _, h =>
    have h0 := h 0 (by simp)
    have h1 := h 1 (by simp)
    simp only [gI, List.getD_cons_zero, List.getD_cons_succ] at h0 h1
    exact ⟨x.toNat, y.toNat, by rw [Int.toNat_of_nonneg h0.1, Int.toNat_of_nonneg h1.1], by omega, by omega⟩
theorem ar3 {ar : List Int} {n : Nat} (hl : (ar.length : Int) = 3) (h : ∀ k, k < ar.length → 0 ≤ gI ar k ∧ gI ar k < (n : Int)) : ∃ a b c : Nat, ar = [(a : Int), (b : Int), (c : Int)] ∧ a < n ∧ b < n ∧ c < n := by
  match ar, hl, h with
  | [x, y, z], _, h =>
    have h0 := h 0 (by simp)
    have h1 := h 1 (by simp)
    have h2 := h 2 (by simp)
    simp only [gI, List.getD_cons_zero, List.getD_cons_succ] at h0 h1 h2
    exact ⟨x.toNat, y.toNat, z.toNat, by rw [Int.toNat_of_nonneg h0.1, Int.toNat_of_nonneg h1.1, Int.toNat_of_nonneg h2.1], by omega, by omega, by omega⟩
theorem ar4 {ar : List Int} {n : Nat} (hl : (ar.length : Int) = 4) (h : ∀ k, k < ar.length → 0 ≤ gI ar k ∧ gI ar k < (n : Int)) : ∃ a b c d : Nat, ar = [(a : Int), (b : Int), (c : Int), (d : Int)] ∧ a < n ∧ b < n ∧ c < n ∧ d < n := by
  match ar, hl, h with
  | [x, y, z, w], _, h =>
    have h0 := h 0 (by simp)
    have h1 := h 1 (by simp)
    have h2 := h 2 (by simp)
    have h3 := h 3 (by simp)
    simp only [gI, List.getD_cons_zero, List.getD_cons_succ] at h0 h1 h2 h3
    exact ⟨x.toNat, y.toNat, z.toNat, w.toNat, by rw [Int.toNat_of_nonneg h0.1, Int.toNat_of_nonneg h1.1, Int.toNat_of_nonneg h2.1, Int.toNat_of_nonneg h3.1], by omega, by omega, by omega, by omega⟩
end Go.Proofs.YtbgmnobnaplmlaaGreat
end

section
namespace Go.Proofs.YtbgmnobnaplmlaaGreat
open Go Go.RowKit Go.Pg Go.Pol
set_option linter.unusedSimpArgs false
set_option linter.unusedVariables false
set_option maxRecDepth 20000
attribute [local go_sem] Tryz.underlying3 Tryz.underlying4 Tryz.underlying178 Tryz.underlying9 Tryz.underlying48 Tryz.underlying31 Tryz.underlying43 Tryz.underlying41 Tryz.underlying39 Tryz.underlying50 Tryz.underlying22 Tryz.underlying25 Tryz.underlying124 Tryz.underlying23 sz3 by3 z3 szB zB szErr zErr szStr byStr zStr szL byL zL szRat zRat szInt zInt szNat zNat szStep byStep zStep szFig zFig szSlI zSlI szSlS zSlS szFact byFact zFact szSlF zSlF
attribute [-bool_to_prop] Bool.and_eq_decide Bool.or_eq_decide Bool.decide_beq_decide decide_eq_decide
theorem wts_at {ss : List RS} {i a : Nat} (h : a < i) : ((wts ss i).map iv).getD a .u = iv (gI (wts ss i) a) := by
  rw [map_atB iv (by rw [wts_len]; exact h), gI_at (by rw [wts_len]; exact h)]
theorem wts_succ {ss : List RS} {i : Nat} (hi : i < ss.length) : (wts ss (i + 1)).map iv = (wts ss i).map iv ++ [iv (wOf (wts ss i) ss[i])] := by
  show (wts ss i ++ [_]).map iv = _
  rw [List.map_append, show ss.getD i RS.zero = ss[i] from by rw [List.getD_eq_getElem?_getD, List.getElem?_eq_getElem hi]; rfl]; rfl
set_option maxHeartbeats 8000000 in
theorem rlWeights (ss : List RS) (gs : List RG) (hl : ss.length ≤ 8) (he : ∀ i, i < ss.length → errS ss i = 0) : Pure Tryz.prog 151 [figA ss gs] (ivs (wts ss ss.length)) := by
  have hg : ∀ i (h : i < ss.length), (ss.map RS.av).getD i .u = ss[i].av := fun i h => map_atB RS.av h
  have hls : (ss.map RS.av).length = ss.length := List.length_map ..
  have hok : ∀ i (h : i < ss.length), (ss[i].ar.length : Int) = arS ss[i].k ∧ ∀ k, k < ss[i].ar.length → 0 ≤ gI ss[i].ar k ∧ gI ss[i].ar k < (i : Int) := fun i h => ⟨(errS_ok h (he i h)).2.1, (errS_ok h (he i h)).2.2.1⟩
  have hws : ∀ i (h : i < ss.length), (wts ss (i + 1)).map iv = (wts ss i).map iv ++ [iv (wOf (wts ss i) ss[i])] := fun i h => wts_succ h
  have hwl : ∀ i, ((wts ss i).map iv).length = i := fun i => by rw [List.length_map, wts_len]
  have hbd : ∀ i n, i ≤ 8 → 0 ≤ gI (wts ss i) n ∧ gI (wts ss i) n ≤ 6561 := fun i n h => by
    have := wts_bd ss i n
    have h3 : (3 ^ i : Nat) ≤ 3 ^ 8 := Nat.pow_le_pow_right (by omega) h
    omega
  show Pure _ _ [.agg [.sl 6 (ss.map RS.av), .sl 5 (gs.map RG.av)]] (.sl 1 ((wts ss ss.length).map iv))
  generalize ss.map RS.av = M at *
  generalize gs.map RG.av = N at *
  refine pure_intro (tok := 0) Tryz.func151 rfl Tryz.ntmps151 Tryz.results151 Tryz.call151 (by rfl) (by simp) ?_
  (focus (refine wkad (w_a hls w_t) w_t w_t ?_; (repeat' first | exact w_t | apply w_l); all_goals intros))
  rename_i g1
  refine r_frz (Frz.nilOwn (d := 3) 83 1 3 (by exact gC)) ?_
  refine r_loopE (ι := Nat) (fun i e m => i ≤ ss.length ∧ e 1 = .pbox 1 g1 0 ∧ m 1 = some (.box g1 25 [.sl 6 M, .sl 5 N] false) ∧ e 4 = iv i ∧ ∃ sv, e 3 = .own 83 sv ∧ m 83 = some (.row sv 3 1 ((wts ss i).map iv) 0)) (fun i => ss.length - i) 0 (by rfl) ?_ ?_
  · rintro i e m ⟨hi, e1, m1, e4, sv, e3, m83⟩
    by_cases hlt : i < ss.length
    · have hgi := hg i hlt
      obtain ⟨ha, hr⟩ := hok i hlt
      have hwi := hwl i
      have hn := hws i hlt
      have hx := fun a (h : a < i) => wts_at (ss := ss) h
      have hb := fun n => hbd i n (by omega)
      clear hg hok hws hwl hbd
      generalize wts ss i = w at *
      generalize ss[i] = s at *
      obtain ⟨k, nm, ar, ⟨rs, rl, rd⟩⟩ := s
      unfold wOf at hn
      unfold arS at ha
      simp only at *
      generalize w.map iv = W at *
      by_cases k2 : k = 2
      · subst k2
        obtain ⟨a, b, rfl, h1, h2⟩ := ar2 (by simpa using ha) hr
        have b1 := hb a
        have b2 := hb b
        have x1 := hx a h1
        have x2 := hx b h2
        simp only [if_pos, gI, List.getD_cons_zero, List.getD_cons_succ, Int.toNat_natCast] at hn x1 x2 b1 b2
        generalize w.getD a 0 = x at *
        generalize w.getD b 0 = y at *
        clear hb hx hr ha
        (focus (refine wkad (w_a e1 (w_a m1 (w_a e4 (w_a e3 (w_a m83 (w_a hls (w_a hgi (w_a hwi (w_a x1 (w_a x2 w_t)))))))))) w_t w_t ?_; (repeat' first | exact w_t | apply w_l); all_goals intros))
        exact ⟨i + 1, ⟨by omega, by exact gW e1, by exact gW m1, by exact gS, _, by exact gC, by rw [hn]; exact gC⟩, by omega⟩
      · by_cases k34 : k = 3 ∨ k = 4
        · obtain ⟨a, b, c, rfl, h1, h2, h3⟩ := ar3 (by rcases k34 with rfl | rfl <;> simpa using ha) hr
          have b1 := hb a
          have b2 := hb b
          have b3 := hb c
          have x1 := hx a h1
          have x2 := hx b h2
          have x3 := hx c h3
          rw [if_neg k2, if_pos k34] at hn
          simp only [gI, List.getD_cons_zero, List.getD_cons_succ, Int.toNat_natCast] at hn x1 x2 x3 b1 b2 b3
          generalize w.getD a 0 = x at *
          generalize w.getD b 0 = y at *
          generalize w.getD c 0 = z at *
          clear hb hx hr ha k2
          rcases k34 with rfl | rfl
          all_goals
            (focus (refine wkad (w_a e1 (w_a m1 (w_a e4 (w_a e3 (w_a m83 (w_a hls (w_a hgi (w_a hwi (w_a x1 (w_a x2 (w_a x3 w_t))))))))))) w_t w_t ?_; (repeat' first | exact w_t | apply w_l); all_goals intros))
            exact ⟨i + 1, ⟨by omega, by exact gW e1, by exact gW m1, by exact gS, _, by exact gC, by rw [hn]; exact gC⟩, by omega⟩
        · rw [if_neg k2, if_neg k34] at hn
          by_cases k5 : k = 5
          · subst k5
            obtain ⟨a, b, rfl, h1, h2⟩ := ar2 (by simpa using ha) hr
            have b1 := hb a
            have b2 := hb b
            have x1 := hx a h1
            have x2 := hx b h2
            simp only [if_pos, gI, List.getD_cons_zero, List.getD_cons_succ, Int.toNat_natCast] at hn x1 x2 b1 b2
            generalize w.getD a 0 = x at *
            generalize w.getD b 0 = y at *
            clear hb hx hr ha k2 k34
            (focus (refine wkad (w_a e1 (w_a m1 (w_a e4 (w_a e3 (w_a m83 (w_a hls (w_a hgi (w_a hwi (w_a x1 (w_a x2 w_t)))))))))) w_t w_t ?_; (repeat' first | exact w_t | apply w_l); all_goals intros))
            exact ⟨i + 1, ⟨by omega, by exact gW e1, by exact gW m1, by exact gS, _, by exact gC, by rw [hn]; exact gC⟩, by omega⟩
          · have k3 : ¬ k = 3 := fun h => k34 (.inl h)
            have k4 : ¬ k = 4 := fun h => k34 (.inr h)
            rw [if_neg k5] at hn
            clear hb hx hr ha k34
            (focus (refine wkad (w_a e1 (w_a m1 (w_a e4 (w_a e3 (w_a m83 (w_a hls (w_a hgi (w_a hwi w_t)))))))) w_t w_t ?_; (repeat' first | exact w_t | apply w_l); all_goals intros))
            exact ⟨i + 1, ⟨by omega, by exact gW e1, by exact gW m1, by exact gS, _, by exact gC, by rw [hn]; exact gC⟩, by omega⟩
    · have hin : i = ss.length := by omega
      subst hin
      clear hws hg hok hbd
      have hwi := hwl ss.length
      generalize (wts ss ss.length).map iv = W at *
      (focus (refine wkld (w_a e1 (w_a m1 (w_a e4 (w_a e3 (w_a m83 (w_a hls (w_a hwi w_t))))))) w_t (w_a m83 w_t) w_t ?_; (repeat' first | exact w_t | apply w_l); all_goals intros))
  · exact ⟨Nat.zero_le _, by exact gC, by exact gC, by exact gC, _, by exact gC, by (simp (disch := omega) only [go_sem, wts, List.map_nil] <;> repeat' first | rfl | refine ⟨?_, ?_⟩)⟩
def thinG (w : List Int) (g : RG) : Bool := !(decide (g.k = 6) || decide (g.k = 7)) || g.ar.all fun a => decide (gI w a.toNat ≤ 3)
theorem all_take {α : Type} {p : α → Bool} {l : List α} (h : ∀ j (hj : j < l.length), p l[j] = true) : l.all p = true := all_of h
set_option maxHeartbeats 8000000 in
theorem rlThin (ss : List RS) (gs : List RG) (hl : ss.length ≤ 8) (hlg : gs.length ≤ 1000) (he : ∀ i, i < ss.length → errS ss i = 0) (heg : ∀ g ∈ gs, g.ar.length ≤ 100 ∧ ∀ k, k < g.ar.length → 0 ≤ gI g.ar k ∧ gI g.ar k < (ss.length : Int)) : Pure Tryz.prog 81 [figA ss gs] (.v (.bool (thinB ss gs))) := by
  have cw : Pure Tryz.prog 151 [.agg [.sl 6 (ss.map RS.av), .sl 5 (gs.map RG.av)]] (.sl 1 ((wts ss ss.length).map iv)) := rlWeights ss gs hl he
  have hlen := wts_len ss ss.length
  have hbd : ∀ n, 0 ≤ gI (wts ss ss.length) n ∧ gI (wts ss ss.length) n ≤ 6561 := fun n => by
    have := wts_bd ss ss.length n
    have h3 : (3 ^ ss.length : Nat) ≤ 3 ^ 8 := Nat.pow_le_pow_right (by omega) hl
    omega
  have hg : ∀ i (h : i < gs.length), (gs.map RG.av).getD i .u = gs[i].av := fun i h => map_atB RG.av h
  have hlm : (gs.map RG.av).length = gs.length := List.length_map ..
  show Pure _ _ [.agg [.sl 6 (ss.map RS.av), .sl 5 (gs.map RG.av)]] _
  have hT : thinB ss gs = ((wts ss ss.length).all (fun w => decide (w ≤ 8)) && gs.all (thinG (wts ss ss.length))) := rfl
  rw [hT]
  have hx : ∀ a, a < ss.length → ((wts ss ss.length).map iv).getD a .u = iv (gI (wts ss ss.length) a) := fun a h => wts_at h
  clear hT
  generalize ss.map RS.av = M at *
  generalize gs.map RG.av = N at *
  generalize wts ss ss.length = w at *
  generalize ss.length = n at *
  have hwl : (w.map iv).length = n := by rw [List.length_map, hlen]
  generalize hW : w.map iv = W at *
  refine pure_intro (tok := 0) Tryz.func81 rfl Tryz.ntmps81 Tryz.results81 Tryz.call81 (by rfl) (by simp) ?_
  (focus (refine wkap w_t (w_a cw w_t) (w_r 0) ?_; (repeat' first | exact w_t | apply w_l); all_goals intros))
  rename_i g1
  refine r_loopE (ι := Nat) (fun i e m => i ≤ n ∧ e 1 = .pbox 1 g1 0 ∧ m 1 = some (.box g1 25 [.sl 6 M, .sl 5 N] false) ∧ e 3 = .sl 1 W ∧ e 4 = iv i ∧ ∀ j, j < i → gI w j ≤ 8) (fun i => n - i) 0 (by rfl) ?_ ?_
  · rintro i e m ⟨hi, e1, m1, e3, e4, hj⟩
    by_cases hlt : i < n
    · have x1 := hx i hlt
      have b1 := hbd i
      have hgw : gI w i = w[i]'(by omega) := gI_at (by omega)
      by_cases h8 : 8 < gI w i
      · have : (w.all fun w => decide (w ≤ 8)) = false := all_at (i := i) (by omega) (by rw [← hgw]; simpa using h8)
        rw [this, Bool.false_and]
        generalize gI w i = x at *
        (focus (refine wklp (w_a e1 (w_a m1 (w_a e3 (w_a e4 (w_a hwl (w_a x1 w_t)))))) w_t w_t (w_r 0) ?_; (repeat' first | exact w_t | apply w_l); all_goals intros))
      · have hnx : ∀ j, j < i + 1 → gI w j ≤ 8 := fun j hjj => by
          by_cases e : j = i
          · rw [e]; omega
          · exact hj j (by omega)
        clear hj hgw
        generalize gI w i = x at *
        (focus (refine wkap (w_a e1 (w_a m1 (w_a e3 (w_a e4 (w_a hwl (w_a x1 w_t)))))) w_t (w_r 0) ?_; (repeat' first | exact w_t | apply w_l); all_goals intros))
        exact ⟨i + 1, ⟨by omega, by exact gW e1, by exact gW m1, by exact gW e3, by exact gS, hnx⟩, by omega⟩
    · have hin : n = i := by omega
      subst hin
      have : (w.all fun w => decide (w ≤ 8)) = true := all_take fun j hjj => by have := hj j (by omega); rw [gI_at hjj] at this; simpa using this
      rw [this, Bool.true_and]
      clear hj
      (focus (refine wkap (w_a e1 (w_a m1 (w_a e3 (w_a e4 (w_a hwl w_t))))) w_t (w_r 0) ?_; (repeat' first | exact w_t | apply w_l); all_goals intros))
      refine r_loopE (ι := Nat) (fun i e m => i ≤ gs.length ∧ e 1 = .pbox 1 g1 0 ∧ m 1 = some (.box g1 25 [.sl 6 M, .sl 5 N] false) ∧ e 3 = .sl 1 W ∧ e 5 = iv i ∧ ∀ j (hj : j < gs.length), j < i → thinG w gs[j] = true) (fun i => gs.length - i) 0 (by rfl) ?_ ?_
      · rintro i e m ⟨hi, e1, m1, e3, e5, hj⟩
        by_cases hlt : i < gs.length
        · have hgi := hg i hlt
          obtain ⟨ha, hr⟩ := heg _ (List.getElem_mem hlt)
          have hno : thinG w gs[i] = false → gs.all (thinG w) = false := fun h => all_at hlt h
          have hnx : thinG w gs[i] = true → ∀ j (hj : j < gs.length), j < i + 1 → thinG w gs[j] = true := fun h j hjj h2 => by
            by_cases e : j = i
            · subst e; exact h
            · exact hj j hjj (by omega)
          clear hj hg heg
          generalize gs.all (thinG w) = v at *
          generalize gs[i] = g at *
          obtain ⟨k, ar, ⟨rs, rl, rd⟩⟩ := g
          simp only at *
          have hla : (ar.map iv).length = ar.length := List.length_map ..
          have hga : ∀ j (h : j < ar.length), (ar.map iv).getD j .u = iv ar[j] := fun j h => map_atB iv h
          (focus (refine wkap (w_a e1 (w_a m1 (w_a e3 (w_a e5 (w_a hlm (w_a hgi w_t)))))) w_t (w_r 0) ?_; (repeat' first | exact w_t | apply w_l); all_goals intros))
          rename_i g6
          refine r_loopE (ι := Nat) (fun y e m => y ≤ ar.length ∧ e 1 = .pbox 1 g1 0 ∧ m 1 = some (.box g1 25 [.sl 6 M, .sl 5 N] false) ∧ e 3 = .sl 1 W ∧ e 5 = iv i ∧ e 6 = .pbox 6 g6 0 ∧ m 6 = some (.box g6 124 [iv k, ivs ar, .v (.bool rs), lim rl, lim rd] false) ∧ e 7 = iv y ∧ ((k = 6 ∨ k = 7) → ∀ j (hj : j < ar.length), j < y → gI w ar[j].toNat ≤ 3)) (fun y => ar.length - y) 0 (by rfl) ?_ ?_
          · rintro y e m ⟨hy, e1, m1, e3, e5, e6, m6, e7, hq⟩
            by_cases hly : y < ar.length
            · have hgy := hga y hly
              have hry := hr y hly
              rw [gI_at hly] at hry
              obtain ⟨a, hae⟩ : ∃ a : Nat, ar[y] = a := ⟨ar[y].toNat, by omega⟩
              have han : a < n := by omega
              have hxa := hx a han
              have hba := hbd a
              rw [hae] at hgy
              by_cases hk : k = 6 ∨ k = 7
              · by_cases h3 : 3 < gI w a
                · have : thinG w ⟨k, ar, ⟨rs, rl, rd⟩⟩ = false := by
                    unfold thinG
                    have h1 : (decide (k = 6) || decide (k = 7)) = true := by simpa using hk
                    have h2 : (ar.all fun a => decide (gI w a.toNat ≤ 3)) = false := all_at hly (by rw [hae, Int.toNat_natCast]; simpa using h3)
                    simp only [h1, h2]; rfl
                  rw [hno this]
                  clear hq hno hnx hga hr hx hbd this
                  generalize gI w a = x at *
                  rcases hk with rfl | rfl
                  all_goals
                    (focus (refine wklp (w_a e1 (w_a m1 (w_a e3 (w_a e5 (w_a e6 (w_a m6 (w_a e7 (w_a hla (w_a hgy (w_a hwl (w_a hxa w_t))))))))))) w_t w_t (w_r 0) ?_; (repeat' first | exact w_t | apply w_l); all_goals intros))
                · have hq2 : ∀ j (hj : j < ar.length), j < y + 1 → gI w ar[j].toNat ≤ 3 := fun j hjj h2 => by
                    by_cases e : j = y
                    · subst e; rw [hae, Int.toNat_natCast]; omega
                    · exact hq hk j hjj (by omega)
                  clear hq hno hnx hga hr hx hbd
                  generalize gI w a = x at *
                  rcases hk with rfl | rfl
                  all_goals
                    (focus (refine wkap (w_a e1 (w_a m1 (w_a e3 (w_a e5 (w_a e6 (w_a m6 (w_a e7 (w_a hla (w_a hgy (w_a hwl (w_a hxa w_t))))))))))) w_t (w_r 0) ?_; (repeat' first | exact w_t | apply w_l); all_goals intros))
                    exact ⟨y + 1, ⟨by omega, by exact gW e1, by exact gW m1, by exact gW e3, by exact gW e5, by exact gW e6, by exact gW m6, by exact gS, fun _ => hq2⟩, by omega⟩
              · have k6 : ¬ k = 6 := fun h => hk (.inl h)
                have k7 : ¬ k = 7 := fun h => hk (.inr h)
                clear hq hno hnx hga hr hx hbd
                (focus (refine wkap (w_a e1 (w_a m1 (w_a e3 (w_a e5 (w_a e6 (w_a m6 (w_a e7 (w_a hla w_t)))))))) w_t (w_r 0) ?_; (repeat' first | exact w_t | apply w_l); all_goals intros))
                exact ⟨y + 1, ⟨by omega, by exact gW e1, by exact gW m1, by exact gW e3, by exact gW e5, by exact gW e6, by exact gW m6, by exact gS, fun h => absurd h hk⟩, by omega⟩
            · have : thinG w ⟨k, ar, ⟨rs, rl, rd⟩⟩ = true := by
                unfold thinG
                by_cases hk : k = 6 ∨ k = 7
                · have h2 : (ar.all fun a => decide (gI w a.toNat ≤ 3)) = true := all_take fun j hjj => by have := hq hk j hjj (by omega); simpa using this
                  simp only [h2, Bool.or_true]
                · have h1 : (decide (k = 6) || decide (k = 7)) = false := by simpa using hk
                  simp only [h1]; rfl
              have := hnx this
              clear hq hno hnx hga hr hx hbd
              (focus (refine wkap (w_a e1 (w_a m1 (w_a e3 (w_a e5 (w_a e6 (w_a m6 (w_a e7 (w_a hla w_t)))))))) w_t (w_r 0) ?_; (repeat' first | exact w_t | apply w_l); all_goals intros))
              exact ⟨i + 1, ⟨by omega, by exact gW e1, by exact gW m1, by exact gW e3, by exact gS, this⟩, by omega⟩
          · exact ⟨Nat.zero_le _, by exact gW e1, by exact gW m1, by exact gW e3, by exact gW e5, by exact gC, by exact gC, by exact gC, fun _ j _ h => by omega⟩
        · have : gs.all (thinG w) = true := all_take fun j hjj => hj j hjj (by omega)
          rw [this]
          clear hj hg heg hx hbd
          (focus (refine wklp (w_a e1 (w_a m1 (w_a e3 (w_a e5 (w_a hlm w_t))))) w_t w_t (w_r 0) ?_; (repeat' first | exact w_t | apply w_l); all_goals intros))
      · exact ⟨Nat.zero_le _, by exact gW e1, by exact gW m1, by exact gW e3, by exact gC, fun j _ h => by omega⟩
  · exact ⟨Nat.zero_le _, by exact gC, by exact gC, by exact gC, by exact gC, fun j h => by omega⟩
/-! ### the figures of few terms -/
theorem arG_le (k : Int) : arG k ≤ 8 := by
  unfold arG
  repeat' split
  all_goals omega
theorem figE_goals {ss : List RS} {gs : List RG} (h : figE ss gs = 0) : ∀ g ∈ gs, g.ar.length ≤ 100 ∧ ∀ k, k < g.ar.length → 0 ≤ gI g.ar k ∧ gI g.ar k < (ss.length : Int) := fun g hg => by
  unfold figE at h
  split at h
  · omega
  · split at h
    · rename_i h2; exact absurd h h2
    · obtain ⟨j, hj, rfl⟩ := List.mem_iff_getElem.1 hg
      have h1 := fstE_all h j hj
      rw [show gs.getD j ⟨0, [], ⟨false, [], []⟩⟩ = gs[j] from by rw [List.getD_eq_getElem?_getD, List.getElem?_eq_getElem hj]; rfl] at h1
      have hle := arG_le gs[j].k
      generalize gs[j] = g at *
      unfold errG at h1
      split at h1
      · omega
      · split at h1
        · omega
        · split at h1
          · omega
          · rename_i h2 h3 h4
            exact ⟨by omega, fun k hk => outB_in (by simpa using h4) hk⟩
theorem figE_steps {ss : List RS} {gs : List RG} (h : figE ss gs = 0) : ∀ i, i < ss.length → errS ss i = 0 := by
  unfold figE at h
  split at h
  · omega
  · split at h
    · rename_i h2; exact absurd h h2
    · rename_i h2
      exact fstE_all (Decidable.byContradiction fun h3 => h2 h3)
set_option maxHeartbeats 8000000 in
theorem rlFew (ss : List RS) (gs : List RG) (cR : Pure Tryz.prog 24 [figA ss gs] (iv (figE ss gs))) : Pure Tryz.prog 34 [figA ss gs] (.v (.bool (fewB ss gs))) := by
  have cR : Pure Tryz.prog 24 [.agg [.sl 6 (ss.map RS.av), .sl 5 (gs.map RG.av)]] (iv (figE ss gs)) := cR
  have hls : (ss.map RS.av).length = ss.length := List.length_map ..
  have hlg : (gs.map RG.av).length = gs.length := List.length_map ..
  have hgS : ∀ i (h : i < ss.length), (ss.map RS.av).getD i .u = ss[i].av := fun i h => map_atB RS.av h
  have hgG : ∀ i (h : i < gs.length), (gs.map RG.av).getD i .u = gs[i].av := fun i h => map_atB RG.av h
  have cT : ss.length ≤ 8 → gs.length ≤ 3 → figE ss gs = 0 → Pure Tryz.prog 81 [.agg [.sl 6 (ss.map RS.av), .sl 5 (gs.map RG.av)]] (.v (.bool (thinB ss gs))) := fun a b h => rlThin ss gs a (by omega) (figE_steps h) (figE_goals h)
  show Pure _ _ [.agg [.sl 6 (ss.map RS.av), .sl 5 (gs.map RG.av)]] _
  unfold fewB
  have noS : ∀ i (h : i < ss.length), rat2 ss[i].r = false → (ss.all fun s => rat2 s.r) = false := fun i h e => all_at h e
  have noG : ∀ i (h : i < gs.length), rat2 gs[i].r = false → (gs.all fun s => rat2 s.r) = false := fun i h e => all_at h e
  have yeS : (∀ i (h : i < ss.length), rat2 ss[i].r = true) → (ss.all fun s => rat2 s.r) = true := fun e => all_take e
  have yeG : (∀ i (h : i < gs.length), rat2 gs[i].r = true) → (gs.all fun s => rat2 s.r) = true := fun e => all_take e
  generalize (ss.all fun s => rat2 s.r) = vS at *
  generalize (gs.all fun s => rat2 s.r) = vG at *
  generalize thinB ss gs = vT at *
  generalize figE ss gs = z at *
  generalize ss.map RS.av = M at *
  generalize gs.map RG.av = N at *
  by_cases h8 : ss.length ≤ 8
  · by_cases h3 : gs.length ≤ 3
    · rw [decide_eq_true h8, decide_eq_true h3, Bool.true_and, Bool.true_and]
      by_cases hz : z = 0
      · subst hz
        have cT := cT h8 h3 rfl
        rw [decide_eq_true rfl, Bool.true_and]
        cases vT with
        | false =>
          rw [Bool.false_and]
          refine pure_intro (tok := 0) Tryz.func34 rfl Tryz.ntmps34 Tryz.results34 Tryz.call34 (by rfl) (by simp) ?_
          (focus (refine wklp (w_a hls (w_a hlg w_t)) (w_a cR (w_a cT w_t)) w_t (w_r 0) ?_; (repeat' first | exact w_t | apply w_l); all_goals intros))
        | true =>
          rw [Bool.true_and]
          refine pure_intro (tok := 0) Tryz.func34 rfl Tryz.ntmps34 Tryz.results34 Tryz.call34 (by rfl) (by simp) ?_
          (focus (refine wkap (w_a hls (w_a hlg w_t)) (w_a cR (w_a cT w_t)) (w_r 0) ?_; (repeat' first | exact w_t | apply w_l); all_goals intros))
          rename_i g1
          clear cR cT
          refine r_loopE (ι := Nat) (fun i e m => i ≤ ss.length ∧ e 1 = .pbox 1 g1 0 ∧ m 1 = some (.box g1 25 [.sl 6 M, .sl 5 N] false) ∧ e 3 = iv i ∧ ∀ j (h : j < ss.length), j < i → rat2 ss[j].r = true) (fun i => ss.length - i) 0 (by rfl) ?_ ?_
          · rintro i e m ⟨hi, e1, m1, e3, hj⟩
            by_cases hlt : i < ss.length
            · have hg := hgS i hlt
              have no := noS i hlt
              have nx : rat2 ss[i].r = true → ∀ j (h : j < ss.length), j < i + 1 → rat2 ss[j].r = true := fun h j hjj h2 => by
                by_cases e : j = i
                · subst e; exact h
                · exact hj j hjj (by omega)
              clear hj noS yeS hgS hgG noG yeG
              unfold rat2 at no nx
              generalize ss[i] = s at *
              obtain ⟨k, nm, ar, ⟨rs, rl, rd⟩⟩ := s
              simp only at *
              by_cases a1 : rl.length ≤ 2 ∧ rd.length ≤ 2
              · have := nx (by simp [a1.1, a1.2])
                obtain ⟨a1, a2⟩ := a1
                clear nx no
                (focus (refine wkap (w_a e1 (w_a m1 (w_a e3 (w_a hls (w_a hg (w_a @u16s_len w_t)))))) w_t (w_r 0) ?_; (repeat' first | exact w_t | apply w_l); all_goals intros))
                exact ⟨i + 1, ⟨by omega, by exact gW e1, by exact gW m1, by exact gS, this⟩, by omega⟩
              · rw [no (by simp only [Bool.and_eq_false_iff, decide_eq_false_iff_not]; omega), Bool.false_and]
                clear nx no
                (focus (refine wkap (w_a e1 (w_a m1 (w_a e3 (w_a hls (w_a hg (w_a @u16s_len w_t)))))) w_t (w_r 0) ?_; (repeat' first | exact w_t | apply w_l); all_goals intros))
                all_goals first | ((all_goals (try simp (disch := omega) only [go_sem, decide_eq_true, decide_eq_false, if_pos, if_neg, Int.reduceAdd, Int.reduceSub, Int.reduceToNat, Int.zero_add])); (all_goals first | done | rfl | (congr 2; first | done | omega | (rw [Bool.eq_iff_iff]; simp only [bool_to_prop, Bool.false_eq_true, iff_true, true_iff, iff_false, false_iff]; omega)) | skip)) | omega
            · rw [yeS fun j h => hj j h (by omega), Bool.true_and]
              clear hj noS yeS hgS
              (focus (refine wkap (w_a e1 (w_a m1 (w_a e3 (w_a hls w_t)))) w_t (w_r 0) ?_; (repeat' first | exact w_t | apply w_l); all_goals intros))
              refine r_loopE (ι := Nat) (fun i e m => i ≤ gs.length ∧ e 1 = .pbox 1 g1 0 ∧ m 1 = some (.box g1 25 [.sl 6 M, .sl 5 N] false) ∧ e 4 = iv i ∧ ∀ j (h : j < gs.length), j < i → rat2 gs[j].r = true) (fun i => gs.length - i) 0 (by rfl) ?_ ?_
              · rintro i e m ⟨hi, e1, m1, e4, hj⟩
                by_cases hlt : i < gs.length
                · have hg := hgG i hlt
                  have no := noG i hlt
                  have nx : rat2 gs[i].r = true → ∀ j (h : j < gs.length), j < i + 1 → rat2 gs[j].r = true := fun h j hjj h2 => by
                    by_cases e : j = i
                    · subst e; exact h
                    · exact hj j hjj (by omega)
                  clear hj hgG noG yeG
                  unfold rat2 at no nx
                  generalize gs[i] = s at *
                  obtain ⟨k, ar, ⟨rs, rl, rd⟩⟩ := s
                  simp only at *
                  by_cases a1 : rl.length ≤ 2 ∧ rd.length ≤ 2
                  · have := nx (by simp [a1.1, a1.2])
                    obtain ⟨a1, a2⟩ := a1
                    clear nx no
                    (focus (refine wkap (w_a e1 (w_a m1 (w_a e4 (w_a hlg (w_a hg (w_a @u16s_len w_t)))))) w_t (w_r 0) ?_; (repeat' first | exact w_t | apply w_l); all_goals intros))
                    exact ⟨i + 1, ⟨by omega, by exact gW e1, by exact gW m1, by exact gS, this⟩, by omega⟩
                  · rw [no (by simp only [Bool.and_eq_false_iff, decide_eq_false_iff_not]; omega)]
                    clear nx no
                    (focus (refine wkap (w_a e1 (w_a m1 (w_a e4 (w_a hlg (w_a hg (w_a @u16s_len w_t)))))) w_t (w_r 0) ?_; (repeat' first | exact w_t | apply w_l); all_goals intros))
                    all_goals first | ((all_goals (try simp (disch := omega) only [go_sem, decide_eq_true, decide_eq_false, if_pos, if_neg, Int.reduceAdd, Int.reduceSub, Int.reduceToNat, Int.zero_add])); (all_goals first | done | rfl | (congr 2; first | done | omega | (rw [Bool.eq_iff_iff]; simp only [bool_to_prop, Bool.false_eq_true, iff_true, true_iff, iff_false, false_iff]; omega)) | skip)) | omega
                · rw [yeG fun j h => hj j h (by omega)]
                  clear hj hgG noG yeG
                  (focus (refine wklp (w_a e1 (w_a m1 (w_a e4 (w_a hlg w_t)))) w_t w_t (w_r 0) ?_; (repeat' first | exact w_t | apply w_l); all_goals intros))
              · exact ⟨Nat.zero_le _, by exact gW e1, by exact gW m1, by exact gC, fun j h h2 => by omega⟩
          · exact ⟨Nat.zero_le _, by exact gC, by exact gC, by exact gC, fun j h h2 => by omega⟩
      · rw [decide_eq_false hz, Bool.false_and]
        clear cT
        refine pure_intro (tok := 0) Tryz.func34 rfl Tryz.ntmps34 Tryz.results34 Tryz.call34 (by rfl) (by simp) ?_
        (focus (refine wklp (w_a hls (w_a hlg (w_a hz w_t))) (w_a cR w_t) w_t (w_r 0) ?_; (repeat' first | exact w_t | apply w_l); all_goals intros))
    · rw [decide_eq_true h8, decide_eq_false h3, Bool.true_and, Bool.false_and]
      clear cT
      refine pure_intro (tok := 0) Tryz.func34 rfl Tryz.ntmps34 Tryz.results34 Tryz.call34 (by rfl) (by simp) ?_
      (focus (refine wklp (w_a hls (w_a hlg w_t)) (w_a cR w_t) w_t (w_r 0) ?_; (repeat' first | exact w_t | apply w_l); all_goals intros))
  · rw [decide_eq_false h8, Bool.false_and]
    clear cT
    refine pure_intro (tok := 0) Tryz.func34 rfl Tryz.ntmps34 Tryz.results34 Tryz.call34 (by rfl) (by simp) ?_
    (focus (refine wklp (w_a hls (w_a hlg w_t)) (w_a cR w_t) w_t (w_r 0) ?_; (repeat' first | exact w_t | apply w_l); all_goals intros))
end Go.Proofs.YtbgmnobnaplmlaaGreat
end

section
namespace Go.Proofs.YtbgmnobnaplmlaaGreat
open Go Go.RowKit Go.Pg Go.Pol
set_option linter.unusedSimpArgs false
set_option linter.unusedVariables false
set_option maxRecDepth 20000
attribute [-bool_to_prop] Bool.and_eq_decide Bool.or_eq_decide Bool.decide_beq_decide decide_eq_decide
set_option linter.unusedSimpArgs false
set_option linter.unusedVariables false
/-! ### the steps of a small figure -/
theorem few_in {ss : List RS} {gs : List RG} (hs : ∀ s ∈ ss, s.sm) (h : fewB ss gs = true) : ss.length ≤ 8 ∧ figE ss gs = 0 ∧ FigOk ss ∧ thinB ss gs = true := by
  unfold fewB at h
  simp only [Bool.and_eq_true, decide_eq_true_eq, List.all_eq_true] at h
  obtain ⟨h1, h2, h3, h4, h5, h6⟩ := h
  refine ⟨h1, h3, ⟨by omega, figE_steps h3, fun s hm => ?_, ?_⟩, h4⟩
  · have := h5 s hm
    unfold rat2 at this
    simp only [Bool.and_eq_true, decide_eq_true_eq] at this
    obtain ⟨k1, k2, k3, k4⟩ := (hs s hm).1
    exact ⟨k1, k2, this.1, this.2⟩
  · have := nfN_le ss ss.length
    omega
theorem wts_pre (ss : List RS) {i j : Nat} (h : j < i) : ∀ d, gI (wts ss (i + d)) j = gI (wts ss i) j
  | 0 => rfl
  | d + 1 => by
    show gI (wts ss (i + d) ++ [_]) j = _
    rw [gI_app, wts_len, if_pos (by omega)]
    exact wts_pre ss h d
theorem few_cb {ss : List RS} {gs : List RG} (hl : ss.length ≤ 8) (ok : FigOk ss) (ht : thinB ss gs = true) : (∀ j, j < ss.length → bigN ss j = false) ∧ ∀ j, CB ((frN ss ss.length).cs.getD j ([], [])) := by
  have hw : ∀ j, gI (wts ss ss.length) j ≤ 8 := fun j => by
    by_cases h : j < (wts ss ss.length).length
    · unfold thinB at ht
      simp only [Bool.and_eq_true, List.all_eq_true, decide_eq_true_eq] at ht
      rw [gI_at h]
      exact ht.1 _ (List.getElem_mem h)
    · rw [gI_out (by omega)]; omega
  have big : ∀ j, j < ss.length → bigN ss j = false := fun j hj => by
    rw [bigN_at hj]
    have hv := vs_le ss (j + 1)
    rw [frN_succ hj] at hv
    have h1 := frN_w ss (j + 1) j
    have h2 := wts_pre ss (show j < j + 1 by omega) (ss.length - (j + 1))
    rw [show j + 1 + (ss.length - (j + 1)) = ss.length by omega] at h2
    have h3 := hw j
    rw [frN_succ hj, List.getD_eq_getElem?_getD, List.getElem?_append_right (by rw [frN_len]; omega), frN_len, Nat.sub_self] at h1
    simp only [List.getElem?_cons_zero, Option.getD_some] at h1
    simp only [Bool.or_eq_false_iff, decide_eq_false_iff_not]
    simp only at hv
    omega
  refine ⟨big, fun j => ?_⟩
  obtain ⟨D, hD, hn⟩ := ok.fi (Nat.le_refl _) big
  have h1 := frN_w ss ss.length j
  have h3 := hw j
  by_cases hj : j < (frN ss ss.length).cs.length
  · obtain ⟨c1, c2⟩ := hD.co hn _ (getD_mem (d := (([], []) : Pt)) hj)
    exact ⟨⟨c1.st, c1.pk.mono (Nat.le_refl _) (by omega), by omega⟩, ⟨c2.st, c2.pk.mono (Nat.le_refl _) (by omega), by omega⟩⟩
  · rw [List.getD_eq_getElem?_getD, List.getElem?_eq_none (by omega)]
    exact ⟨.nil, .nil⟩
theorem fstN_lt {vs : List Vt} {i : Int} {w : Nat} : ∀ {n : Nat}, fstN vs i n = some w → w < n
  | 0, h => by cases h
  | n + 1, h => by
    unfold fstN at h
    split at h
    · rename_i v hv
      have := fstN_lt hv
      injection h with h
      omega
    · split at h
      · injection h with h; omega
      · cases h
theorem fstN_ne {vs : List Vt} {i : Int} : ∀ {n : Nat}, fstN vs i n = none → ∀ j, j < n → (vs.getD j (0, 0, 0)).2.1 ≠ i
  | 0, _, j, hj => by omega
  | n + 1, h, j, hj => by
    unfold fstN at h
    split at h
    · cases h
    · rename_i hn
      split at h
      · cases h
      · rename_i hx
        by_cases e : j = n
        · rw [e]; exact hx
        · exact fstN_ne hn j (by omega)
theorem vs_pre (ss : List RS) (i : Nat) : ∀ d, ∃ l, (frN ss (i + d)).vs = (frN ss i).vs ++ l
  | 0 => ⟨[], by rw [List.append_nil]; rfl⟩
  | d + 1 => by
    obtain ⟨l, hl⟩ := vs_pre ss i d
    refine ⟨l ++ ((frN ss (i + d)).nxt (i + d) (ss.getD (i + d) RS.zero)).1, ?_⟩
    show (frN ss (i + d)).vs ++ _ = _
    rw [hl, List.append_assoc]
    rfl
/-- A step on a circle has a variable. -/
theorem circ_var {ss : List RS} {i : Nat} (hi : i < ss.length) (hk : ss[i].k = 6) : ∃ w, fstN (frN ss ss.length).vs i (frN ss ss.length).vs.length = some w ∧ w < (frN ss ss.length).vs.length := by
  cases h : fstN (frN ss ss.length).vs i (frN ss ss.length).vs.length with
  | some w => exact ⟨w, rfl, fstN_lt h⟩
  | none =>
    exfalso
    obtain ⟨l, hl⟩ := vs_pre ss (i + 1) (ss.length - (i + 1))
    rw [show i + 1 + (ss.length - (i + 1)) = ss.length by omega, frN_succ hi] at hl
    have hn : ((frN ss i).nxt i ss[i]).1 = [(1, (i : Int), 0), (2, (i : Int), 1), (2, (i : Int), 2)] := by
      unfold FS.nxt
      simp [hk]
    simp only at hl
    rw [hn] at hl
    have hm : ((1, (i : Int), 0) : Vt) ∈ (frN ss ss.length).vs := by rw [hl]; simp
    obtain ⟨j, hj, e⟩ := List.mem_iff_getElem.1 hm
    have := fstN_ne h j hj
    rw [List.getD_eq_getElem?_getD, List.getElem?_eq_getElem hj, e] at this
    exact this rfl
/-- The hypotheses of a figure's step. -/
def eqE (ss : List RS) (i : Nat) : List Po :=
  let f := frN ss ss.length
  let s := ss.getD i RS.zero
  let p := fun k => f.cs.getD (gI s.ar k).toNat ([], [])
  eqsM s.k (p 0) (p 1) (p 2) (p 3) (f.cs.getD i ([], [])) (parM f.vs i)
theorem eqE_at {ss : List RS} {i : Nat} {s : RS} (hi : i < ss.length) (hs : ss[i] = s) : eqE ss i = eqsM s.k ((frN ss ss.length).cs.getD (gI s.ar 0).toNat ([], [])) ((frN ss ss.length).cs.getD (gI s.ar 1).toNat ([], [])) ((frN ss ss.length).cs.getD (gI s.ar 2).toNat ([], [])) ((frN ss ss.length).cs.getD (gI s.ar 3).toNat ([], [])) ((frN ss ss.length).cs.getD i ([], [])) (parM (frN ss ss.length).vs i) := by
  unfold eqE
  rw [show ss.getD i RS.zero = s from by rw [List.getD_eq_getElem?_getD, List.getElem?_eq_getElem hi, hs]; rfl]
theorem parM_some {vs : List Vt} {i : Int} {w : Nat} (h : fstN vs i vs.length = some w) : parM vs i = varM w := by unfold parM; rw [h]
theorem eqs_len (k : Int) (a b c d x : Pt) (t : Po) : (eqsM k a b c d x t).length ≤ 2 := by
  unfold eqsM circM otherM
  repeat' split
  all_goals simp
set_option maxHeartbeats 8000000 in
theorem hySt {ss : List RS} {gs : List RG} (hl : ss.length ≤ 8) (ok : FigOk ss) (ht : thinB ss gs = true) {i : Nat} (hi : i < ss.length) : Pure Tryz.prog 35 [figA ss gs, frmA (frN ss ss.length).cs (frN ss ss.length).vs, iv i] (.tup [.sl 1 ((eqE ss i).map poA), iv 0]) := by
  have hcb := (few_cb hl ok ht).2
  have hvl := vs_le ss ss.length
  have hcl := frN_len ss ss.length
  have hcv := fun hk => circ_var (ss := ss) hi hk
  obtain ⟨h0, hal, hai, -⟩ := errS_ok hi (ok.er i hi)
  have hai : ∀ k, k < ss[i].ar.length → 0 ≤ gI ss[i].ar k ∧ gI ss[i].ar k < (ss.length : Int) := fun k hk => by have := hai k hk; omega
  generalize hs : ss[i] = s at *
  rw [eqE_at hi hs]
  have cp := hyParam (frN ss ss.length).cs (frN ss ss.length).vs (i : Int) (by omega)
  have har : ∀ k, k < s.ar.length → 0 ≤ gI s.ar k ∧ gI s.ar k < ((frN ss ss.length).cs.length : Int) := fun k hk => by rw [hcl]; exact hai k hk
  have h4 : s.ar.length ≤ 4 := by have := arS_le s.k; omega
  have kk : s.k = 1 ∨ s.k = 2 ∨ s.k = 3 ∨ s.k = 4 ∨ s.k = 5 ∨ s.k = 6 ∨ s.k = 7 ∨ s.k = 8 ∨ s.k = 9 ∨ s.k = 10 ∨ s.k = 11 ∨ s.k = 12 ∨ s.k = 13 ∨ s.k = 14 := by
    unfold arS at h0
    repeat' split at h0
    all_goals omega
  generalize hf : frN ss ss.length = f at *
  obtain ⟨k, nm, ar, r⟩ := s
  simp only at *
  rcases kk with rfl | rfl | rfl | rfl | rfl | rfl | rfl | rfl | rfl | rfl | rfl | rfl | rfl | rfl
  · obtain rfl : ar = [] := List.length_eq_zero_iff.1 (by rw [show arS 1 = 0 from rfl] at hal; omega)
    refine hyStepC ss gs f.cs f.vs i _ _ _ _ hi hs hcl rfl har h4 cp ?_
    rw [show (ptsN f.cs []).map coA = [] from by simp [ptsN]]
    exact hyE0 1 _ _ _ (.inl (by omega))
  · obtain ⟨a, b, rfl, la, lb⟩ := ar2 (n := ss.length) (by rw [hal]; rfl) hai
    refine hyStepC ss gs f.cs f.vs i _ _ _ _ hi hs hcl rfl har h4 cp ?_
    simp only [gI, List.getD_cons_zero, List.getD_cons_succ, Int.toNat_natCast, List.getD_nil]
    rw [show (ptsN f.cs [((a : Nat) : Int), ((b : Nat) : Int)]).map coA = [coA (f.cs.getD a ([], [])), coA (f.cs.getD b ([], []))] from by simp [ptsN]]
    exact hyE0 2 _ _ _ (.inl (by omega))
  · obtain ⟨a, b, c, rfl, la, lb, lc⟩ := ar3 (n := ss.length) (by rw [hal]; rfl) hai
    refine hyStepC ss gs f.cs f.vs i _ _ _ _ hi hs hcl rfl har h4 cp ?_
    simp only [gI, List.getD_cons_zero, List.getD_cons_succ, Int.toNat_natCast, List.getD_nil]
    rw [show (ptsN f.cs [((a : Nat) : Int), ((b : Nat) : Int), ((c : Nat) : Int)]).map coA = [coA (f.cs.getD a ([], [])), coA (f.cs.getD b ([], [])), coA (f.cs.getD c ([], []))] from by simp [ptsN]]
    exact hyE0 3 _ _ _ (.inl (by omega))
  · obtain ⟨a, b, c, rfl, la, lb, lc⟩ := ar3 (n := ss.length) (by rw [hal]; rfl) hai
    refine hyStepC ss gs f.cs f.vs i _ _ _ _ hi hs hcl rfl har h4 cp ?_
    simp only [gI, List.getD_cons_zero, List.getD_cons_succ, Int.toNat_natCast, List.getD_nil]
    rw [show (ptsN f.cs [((a : Nat) : Int), ((b : Nat) : Int), ((c : Nat) : Int)]).map coA = [coA (f.cs.getD a ([], [])), coA (f.cs.getD b ([], [])), coA (f.cs.getD c ([], []))] from by simp [ptsN]]
    exact hyE0 4 _ _ _ (.inl (by omega))
  · obtain ⟨a, b, rfl, la, lb⟩ := ar2 (n := ss.length) (by rw [hal]; rfl) hai
    refine hyStepC ss gs f.cs f.vs i _ _ _ _ hi hs hcl rfl har h4 cp ?_
    simp only [gI, List.getD_cons_zero, List.getD_cons_succ, Int.toNat_natCast, List.getD_nil]
    rw [show (ptsN f.cs [((a : Nat) : Int), ((b : Nat) : Int)]).map coA = [coA (f.cs.getD a ([], [])), coA (f.cs.getD b ([], []))] from by simp [ptsN]]
    exact hyE0 5 _ _ _ (.inl (by omega))
  · obtain ⟨a, b, rfl, la, lb⟩ := ar2 (n := ss.length) (by rw [hal]; rfl) hai
    refine hyStepC ss gs f.cs f.vs i _ _ _ _ hi hs hcl rfl har h4 cp ?_
    simp only [gI, List.getD_cons_zero, List.getD_cons_succ, Int.toNat_natCast, List.getD_nil]
    rw [show (ptsN f.cs [((a : Nat) : Int), ((b : Nat) : Int)]).map coA = [coA (f.cs.getD a ([], [])), coA (f.cs.getD b ([], []))] from by simp [ptsN]]
    obtain ⟨w, hw, hw2⟩ := hcv rfl
    rw [parM_some hw]
    exact hyE6 (varM w) (var_pb w) (hcb a) (hcb b) (hcb i)
  · obtain ⟨a, b, c, rfl, la, lb, lc⟩ := ar3 (n := ss.length) (by rw [hal]; rfl) hai
    refine hyStepC ss gs f.cs f.vs i _ _ _ _ hi hs hcl rfl har h4 cp ?_
    simp only [gI, List.getD_cons_zero, List.getD_cons_succ, Int.toNat_natCast, List.getD_nil]
    rw [show (ptsN f.cs [((a : Nat) : Int), ((b : Nat) : Int), ((c : Nat) : Int)]).map coA = [coA (f.cs.getD a ([], [])), coA (f.cs.getD b ([], [])), coA (f.cs.getD c ([], []))] from by simp [ptsN]]
    exact hyE7 _ (hcb a) (hcb b) (hcb c) (hcb i)
  · obtain ⟨a, b, c, rfl, la, lb, lc⟩ := ar3 (n := ss.length) (by rw [hal]; rfl) hai
    refine hyStepC ss gs f.cs f.vs i _ _ _ _ hi hs hcl rfl har h4 cp ?_
    simp only [gI, List.getD_cons_zero, List.getD_cons_succ, Int.toNat_natCast, List.getD_nil]
    rw [show (ptsN f.cs [((a : Nat) : Int), ((b : Nat) : Int), ((c : Nat) : Int)]).map coA = [coA (f.cs.getD a ([], [])), coA (f.cs.getD b ([], [])), coA (f.cs.getD c ([], []))] from by simp [ptsN]]
    exact hyE8 _ (hcb a) (hcb b) (hcb c) (hcb i)
  · obtain ⟨a, b, c, d, rfl, la, lb, lc, ld⟩ := ar4 (n := ss.length) (by rw [hal]; rfl) hai
    refine hyStepC ss gs f.cs f.vs i _ _ _ _ hi hs hcl rfl har h4 cp ?_
    simp only [gI, List.getD_cons_zero, List.getD_cons_succ, Int.toNat_natCast, List.getD_nil]
    rw [show (ptsN f.cs [((a : Nat) : Int), ((b : Nat) : Int), ((c : Nat) : Int), ((d : Nat) : Int)]).map coA = [coA (f.cs.getD a ([], [])), coA (f.cs.getD b ([], [])), coA (f.cs.getD c ([], [])), coA (f.cs.getD d ([], []))] from by simp [ptsN]]
    exact hyE9 _ (hcb a) (hcb b) (hcb c) (hcb d) (hcb i)
  · obtain ⟨a, b, c, rfl, la, lb, lc⟩ := ar3 (n := ss.length) (by rw [hal]; rfl) hai
    refine hyStepC ss gs f.cs f.vs i _ _ _ _ hi hs hcl rfl har h4 cp ?_
    simp only [gI, List.getD_cons_zero, List.getD_cons_succ, Int.toNat_natCast, List.getD_nil]
    rw [show (ptsN f.cs [((a : Nat) : Int), ((b : Nat) : Int), ((c : Nat) : Int)]).map coA = [coA (f.cs.getD a ([], [])), coA (f.cs.getD b ([], [])), coA (f.cs.getD c ([], []))] from by simp [ptsN]]
    exact hyE10 _ (hcb a) (hcb b) (hcb c) (hcb i)
  · obtain ⟨a, b, c, rfl, la, lb, lc⟩ := ar3 (n := ss.length) (by rw [hal]; rfl) hai
    refine hyStepC ss gs f.cs f.vs i _ _ _ _ hi hs hcl rfl har h4 cp ?_
    simp only [gI, List.getD_cons_zero, List.getD_cons_succ, Int.toNat_natCast, List.getD_nil]
    rw [show (ptsN f.cs [((a : Nat) : Int), ((b : Nat) : Int), ((c : Nat) : Int)]).map coA = [coA (f.cs.getD a ([], [])), coA (f.cs.getD b ([], [])), coA (f.cs.getD c ([], []))] from by simp [ptsN]]
    exact hyE11 _ (hcb a) (hcb b) (hcb c) (hcb i)
  · obtain ⟨a, b, c, d, rfl, la, lb, lc, ld⟩ := ar4 (n := ss.length) (by rw [hal]; rfl) hai
    refine hyStepC ss gs f.cs f.vs i _ _ _ _ hi hs hcl rfl har h4 cp ?_
    simp only [gI, List.getD_cons_zero, List.getD_cons_succ, Int.toNat_natCast, List.getD_nil]
    rw [show (ptsN f.cs [((a : Nat) : Int), ((b : Nat) : Int), ((c : Nat) : Int), ((d : Nat) : Int)]).map coA = [coA (f.cs.getD a ([], [])), coA (f.cs.getD b ([], [])), coA (f.cs.getD c ([], [])), coA (f.cs.getD d ([], []))] from by simp [ptsN]]
    exact hyE12 _ (hcb a) (hcb b) (hcb c) (hcb d) (hcb i)
  · obtain ⟨a, b, c, d, rfl, la, lb, lc, ld⟩ := ar4 (n := ss.length) (by rw [hal]; rfl) hai
    refine hyStepC ss gs f.cs f.vs i _ _ _ _ hi hs hcl rfl har h4 cp ?_
    simp only [gI, List.getD_cons_zero, List.getD_cons_succ, Int.toNat_natCast, List.getD_nil]
    rw [show (ptsN f.cs [((a : Nat) : Int), ((b : Nat) : Int), ((c : Nat) : Int), ((d : Nat) : Int)]).map coA = [coA (f.cs.getD a ([], [])), coA (f.cs.getD b ([], [])), coA (f.cs.getD c ([], [])), coA (f.cs.getD d ([], []))] from by simp [ptsN]]
    exact hyE13 _ (hcb a) (hcb b) (hcb c) (hcb d) (hcb i)
  · obtain ⟨a, b, rfl, la, lb⟩ := ar2 (n := ss.length) (by rw [hal]; rfl) hai
    refine hyStepC ss gs f.cs f.vs i _ _ _ _ hi hs hcl rfl har h4 cp ?_
    simp only [gI, List.getD_cons_zero, List.getD_cons_succ, Int.toNat_natCast, List.getD_nil]
    rw [show (ptsN f.cs [((a : Nat) : Int), ((b : Nat) : Int)]).map coA = [coA (f.cs.getD a ([], [])), coA (f.cs.getD b ([], []))] from by simp [ptsN]]
    exact hyE14 _ (hcb a) (hcb b) (hcb i)
end Go.Proofs.YtbgmnobnaplmlaaGreat
end

section
namespace Go.Proofs.YtbgmnobnaplmlaaGreat
open Go Go.RowKit Go.Pg Go.Pol
set_option linter.unusedSimpArgs false
set_option linter.unusedVariables false
set_option maxRecDepth 20000
attribute [-bool_to_prop] Bool.and_eq_decide Bool.or_eq_decide Bool.decide_beq_decide decide_eq_decide
/-! ### degrees of the hypotheses -/
/-- Both coordinates of a point. -/
structure DC (S : Nat → Bool) (V : Nat) (d : Int) (c : Pt) : Prop where
  x : DP S V d c.1
  y : DP S V d c.2
theorem DC.mono {S : Nat → Bool} {V : Nat} {d e : Int} {c : Pt} (h : DC S V d c) (hd : d ≤ e) : DC S V e c := ⟨h.x.mono hd, h.y.mono hd⟩
theorem DP.dbl {S : Nat → Bool} {V : Nat} {d : Int} {p : Po} (h : DP S V d p) : DP S V d (dblM p) := h.add h
theorem DP.nil {S : Nat → Bool} {V : Nat} {d : Int} : DP S V d [] := fun t ht => by cases ht
theorem DP.crs {S : Nat → Bool} {V : Nat} {d e : Int} {a b c x : Pt} (ha : DC S V d a) (hb : DC S V d b) (hc : DC S V e c) (hx : DC S V e x) : DP S V (d + e) (crossM a b c x) :=
  ((hb.x.sub ha.x).mul (hx.y.sub hc.y)).sub ((hb.y.sub ha.y).mul (hx.x.sub hc.x))
theorem DP.dot {S : Nat → Bool} {V : Nat} {d e : Int} {a b c x : Pt} (ha : DC S V d a) (hb : DC S V d b) (hc : DC S V e c) (hx : DC S V e x) : DP S V (d + e) (dotM a b c x) :=
  ((hb.x.sub ha.x).mul (hx.x.sub hc.x)).add ((hb.y.sub ha.y).mul (hx.y.sub hc.y))
theorem sub_add4 {p q r s : Po} (hp : SrtM p) (hq : SrtM q) (hr : SrtM r) (hs : SrtM s) : subM (addM p q) (addM r s) = addM (subM p r) (subM q s) := by
  have h2 : ∀ {p q : Po}, SrtM p → SrtM q → SrtM (subM p q) := fun hp hq => sub_srt ordM hp hq
  have h1 : ∀ {p q : Po}, SrtM p → SrtM q → SrtM (addM p q) := fun hp hq => addP_srt ordM hp hq
  refine srt_ext ordM (h2 (h1 hp hq) (h1 hr hs)) (h1 (h2 hp hr) (h2 hq hs)) fun y => ?_
  have c1 : ∀ {p q : Po}, SrtM p → SrtM q → cof (addM p q) y = cof p y + cof q y := fun hp hq => cof_addP ordM y hp.dom hq.dom
  have c2 : ∀ {p q : Po}, SrtM p → SrtM q → cof (subM p q) y = cof p y - cof q y := fun hp hq => sub_cof ordM hp hq y
  rw [c2 (h1 hp hq) (h1 hr hs), c1 hp hq, c1 hr hs, c1 (h2 hp hr) (h2 hq hs), c2 hp hr, c2 hq hs]
  grind
theorem DP.sqd {S : Nat → Bool} {V : Nat} {x a b : Po} (hx : DP S V 1 x) (ha : DP S V 0 a) (hb : DP S V 0 b) (sx : SrtM x) (sa : SrtM a) (sb : SrtM b) :
    DP S V 1 (subM (mlM (subM x a) (subM x a)) (mlM (subM x b) (subM x b))) := by
  rw [sq_diff sx sa sb]
  exact ((ha.mul ha).mono (by omega) |>.sub (hx.mul ha).dbl).add ((hx.mul hb).dbl.sub ((hb.mul hb).mono (by omega)))
/-- The difference of the distances from two points. -/
theorem DP.dif {S : Nat → Bool} {V : Nat} {x a b : Pt} (hx : DC S V 1 x) (ha : DC S V 0 a) (hb : DC S V 0 b) (sx : CB x) (sa : CB a) (sb : CB b) : DP S V 1 (diffM a x b x) := by
  have h2 : ∀ {p q : Po}, SrtM p → SrtM q → SrtM (subM p q) := fun hp hq => sub_srt ordM hp hq
  have hm : ∀ {p q : Po}, SrtM p → SrtM q → SrtM (mlM p q) := fun hp hq => mulR_srt ordM mulK hp hq
  unfold diffM dotM
  have s1 := h2 sx.x.s sa.x.s
  have s2 := h2 sx.y.s sa.y.s
  have s3 := h2 sx.x.s sb.x.s
  have s4 := h2 sx.y.s sb.y.s
  rw [sub_add4 (hm s1 s1) (hm s2 s2) (hm s3 s3) (hm s4 s4)]
  exact (hx.x.sqd ha.x hb.x sx.x.s sa.x.s sb.x.s).add (hx.y.sqd ha.y hb.y sx.y.s sa.y.s sb.y.s)
def mostD (k : Int) : Int := if k = 12 ∨ k = 13 ∨ k = 14 then 2 else 1
theorem eqs_dp {S : Nat → Bool} {V : Nat} {k : Int} {a b c d x : Pt} {t : Po} (ha : DC S V 0 a) (hb : DC S V 0 b) (hc : DC S V 0 c) (hd : DC S V 0 d) (hx : 6 ≤ k → DC S V 1 x) (ht : k = 6 → DP S V 0 t)
    (sa : CB a) (sb : CB b) (sc : CB c) (sx : CB x) : ∀ p ∈ eqsM k a b c d x t, DP S V (mostD k) p := by
  have two : ∀ {e : Int} {p q : Po}, DP S V e p → DP S V e q → ∀ u ∈ [p, q], DP S V e u := fun h1 h2 u hu => by
    rcases List.mem_cons.1 hu with rfl | hu
    · exact h1
    · rw [List.mem_singleton] at hu; subst hu; exact h2
  have m1 : ∀ {k : Int}, k ≠ 12 → k ≠ 13 → k ≠ 14 → mostD k = 1 := fun h1 h2 h3 => by unfold mostD; rw [if_neg (by omega)]
  have up : ∀ {c : Pt}, DC S V 0 c → DC S V 1 c := fun h => h.mono (by omega)
  unfold eqsM
  split
  · rename_i hk
    have hx := hx (by omega)
    have ht := ht hk
    rw [m1 (by omega) (by omega) (by omega)]
    have on : DP S V 0 oneM := fun u hu => by rw [List.mem_singleton] at hu; subst hu; exact ⟨Nat.zero_le _, by rw [dgS_nil]; omega⟩
    have sl : DP S V 0 (slopeM t) := on.add (ht.mul ht)
    have ss : DP S V 0 (dblM (addM (subM a.1 b.1) (mlM t (subM a.2 b.2)))) := ((ha.x.sub hb.x).add (ht.mul (ha.y.sub hb.y))).dbl
    exact two ((sl.mul (hx.x.sub (up hb).x)).sub (ss.mono (by omega))) ((sl.mul (hx.y.sub (up hb).y)).sub ((ht.mul ss).mono (by omega)))
  · split
    · rename_i hk
      have hx := hx (by omega)
      rw [m1 (by omega) (by omega) (by omega)]
      exact two (.crs hb hc (up hb) hx) (.dot hb hc (up ha) hx)
    · split
      · rename_i hk
        have hx := hx (by omega)
        rw [m1 (by omega) (by omega) (by omega)]
        exact two (.dot hb hc (up ha) hx) (((DP.crs hb hc hb ha).mono (by omega)).add (.crs hb hc (up hb) hx))
      · split
        · rename_i hk
          have hx := hx (by omega)
          rw [m1 (by omega) (by omega) (by omega)]
          exact two (.crs ha hb (up ha) hx) (.crs hc hd (up hc) hx)
        · split
          · rename_i hk
            have hx := hx (by omega)
            rw [m1 (by omega) (by omega) (by omega)]
            have hn := DP.dot ha hb ha hb
            have hs := (DP.dot ha hc ha hb).dbl
            exact two ((hn.mul (hx.x.sub (up ha).x)).sub ((hs.mul (hb.x.sub ha.x)).mono (by omega))) ((hn.mul (hx.y.sub (up ha).y)).sub ((hs.mul (hb.y.sub ha.y)).mono (by omega)))
          · split
            · rename_i hk
              have hx := hx (by omega)
              rw [m1 (by omega) (by omega) (by omega)]
              exact two (.dif hx ha hb sx sa sb) (.dif hx ha hc sx sa sc)
            · have m2 : ∀ {k : Int}, k = 12 ∨ k = 13 ∨ k = 14 → mostD k = 2 := fun h => if_pos h
              have df : ∀ {u v w : Pt}, 6 ≤ k → DC S V 0 u → DC S V 0 v → DC S V 0 w → DP S V 2 (diffM u x v w) := fun h6 hu hv hw =>
                (DP.dot (up hu) (hx h6) (up hu) (hx h6)).sub ((DP.dot hv hw hv hw).mono (by omega))
              split
              · rename_i hk
                rw [m2 (by omega)]
                exact two ((DP.crs ha hb (up ha) (hx (by omega))).mono (by omega)) (df (by omega) hc hc hd)
              · split
                · rename_i hk
                  rw [m2 (by omega)]
                  exact two (df (by omega) ha ha hb) (df (by omega) hc hc hd)
                · split
                  · rename_i hk
                    rw [m2 (by omega)]
                    exact two (df (by omega) ha ha hb) (df (by omega) hb ha hb)
                  · exact fun u hu => by cases hu
/-! ### the variables of a step -/
theorem vs_lt (ss : List RS) : ∀ i, ∀ x ∈ (frN ss i).vs, x.2.1 < (i : Int)
  | 0, x, h => by cases h
  | i + 1, x, h => by
    rcases List.mem_append.1 (show x ∈ (frN ss i).vs ++ ((frN ss i).nxt i (ss.getD i RS.zero)).1 from h) with h1 | h1
    · have := vs_lt ss i x h1; omega
    · have : x.2.1 = (i : Int) := by
        revert h1
        unfold FS.nxt
        simp only
        repeat' split
        all_goals
          intro h1
          simp only [List.mem_cons, List.not_mem_nil, or_false] at h1 <;> first | (rcases h1 with rfl | rfl | rfl <;> rfl) | (rcases h1 with rfl | rfl <;> rfl) | (subst h1; rfl)
      omega
theorem dgS_len (S : Nat → Bool) (m : List Int) : ∀ d, dgS S m (m.length + d) = dgS S m m.length
  | 0 => rfl
  | d + 1 => by
    show dgS S m (m.length + d) + (if S (m.length + d) = true then gI m (m.length + d) else 0) = _
    rw [dgS_len S m d, gI_out (by omega)]
    split <;> omega
theorem cs_pre (ss : List RS) (i : Nat) : ∀ d, ∃ l, (frN ss (i + d)).cs = (frN ss i).cs ++ l
  | 0 => ⟨[], by rw [List.append_nil]; rfl⟩
  | d + 1 => by
    obtain ⟨l, hl⟩ := cs_pre ss i d
    refine ⟨l ++ [((frN ss (i + d)).nxt (i + d) (ss.getD (i + d) RS.zero)).2], ?_⟩
    show (frN ss (i + d)).cs ++ _ = _
    rw [hl, List.append_assoc]
    rfl
theorem getD_left {α : Type} {l m : List α} {j : Nat} {d : α} (h : j < l.length) : (l ++ m).getD j d = l.getD j d := by
  rw [List.getD_eq_getElem?_getD, List.getElem?_append_left h, ← List.getD_eq_getElem?_getD]
theorem getD_right {α : Type} {l m : List α} {j : Nat} {d : α} (h : l.length ≤ j) : (l ++ m).getD j d = m.getD (j - l.length) d := by
  rw [List.getD_eq_getElem?_getD, List.getElem?_append_right h, ← List.getD_eq_getElem?_getD]
/-- The variables that depend on the others, of step i. -/
def depS (V : List Vt) (i : Nat) (v : Nat) : Bool := decide ((V.getD v (0, 0, 0)).2.1 = (i : Int)) && decide ((V.getD v (0, 0, 0)).1 = 2)
theorem DP.var {S : Nat → Bool} {V u : Nat} (h : u < V) : DP S V 1 (varM u) := fun t ht => by
  unfold varM at ht
  split at ht
  · rw [List.mem_singleton] at ht; subst ht
    refine ⟨by show (unitM u).length ≤ V; rw [unitM_len]; omega, ?_⟩
    show dgS S (unitM u) V ≤ 1
    rw [dgS_unit]; split <;> omega
  · cases ht
theorem DP.var0 {S : Nat → Bool} {V u : Nat} (h : u < V) (hS : S u = false) : DP S V 0 (varM u) := fun t ht => by
  unfold varM at ht
  split at ht
  · rw [List.mem_singleton] at ht; subst ht
    refine ⟨by show (unitM u).length ≤ V; rw [unitM_len]; omega, ?_⟩
    show dgS S (unitM u) V ≤ 0
    rw [dgS_unit, hS]; simp
  · cases ht
set_option maxHeartbeats 1000000 in
theorem eqE_dp {ss : List RS} {gs : List RG} (hl : ss.length ≤ 8) (ok : FigOk ss) (ht : thinB ss gs = true) {i : Nat} (hi : i < ss.length) :
    (frN ss (i + 1)).vs.length ≤ (frN ss ss.length).vs.length ∧ (∀ v, v < (frN ss (i + 1)).vs.length → ((frN ss ss.length).vs.getD v (0, 0, 0)).2.1 ≤ (i : Int)) ∧
    ∀ p ∈ eqE ss i, DP (depS (frN ss ss.length).vs i) (frN ss (i + 1)).vs.length (mostD ss[i].k) p := by
  obtain ⟨hbig, hcb⟩ := few_cb hl ok ht
  obtain ⟨h0, hal, hai, -⟩ := errS_ok hi (ok.er i hi)
  obtain ⟨l, hv⟩ := vs_pre ss (i + 1) (ss.length - (i + 1))
  obtain ⟨cl, hc⟩ := cs_pre ss (i + 1) (ss.length - (i + 1))
  rw [show i + 1 + (ss.length - (i + 1)) = ss.length by omega] at hv hc
  have hw := vs_lt ss (i + 1)
  have hlow := vs_lt ss i
  obtain ⟨D, hD, -⟩ := ok.fi (Nat.le_of_lt hi) fun j hj => hbig j (by omega)
  have hcl := frN_len ss i
  have hsu := frN_succ hi
  refine ⟨by rw [hv, List.length_append]; omega, fun v hlt => ?_, fun p hp => ?_⟩
  · rw [hv, getD_left hlt]
    have := hw _ (getD_mem (d := ((0, 0, 0) : Vt)) hlt)
    omega
  · rw [eqE_at hi rfl] at hp
    rcases Nat.eq_zero_or_pos i with hz | hz
    · exfalso
      have : ss[i].ar.length = 0 := by
        rcases Nat.eq_zero_or_pos ss[i].ar.length with h | h
        · exact h
        · have := hai 0 h; omega
      have k1 : ss[i].k = 1 := by
        rw [this] at hal
        unfold arS at hal
        repeat' split at hal
        all_goals omega
      rw [k1] at hp
      simp [eqsM] at hp
    · generalize hS : depS (frN ss ss.length).vs i = S at *
      generalize hW : (frN ss (i + 1)).vs.length = W at *
      have hW2 : W = (frN ss i).vs.length + ((frN ss i).nxt i ss[i]).1.length := by rw [← hW, hsu, List.length_append]
      have hvi : ∀ v, v < (frN ss i).vs.length → ((frN ss ss.length).vs.getD v (0, 0, 0)).2.1 < (i : Int) := fun v hlt => by
        rw [hv, getD_left (by omega), hsu]
        simp only
        rw [getD_left hlt]
        exact hlow _ (getD_mem (d := ((0, 0, 0) : Vt)) hlt)
      have hS0 : ∀ v, v < (frN ss i).vs.length → S v = false := fun v hlt => by
        have := hvi v hlt
        rw [← hS]
        unfold depS
        rw [decide_eq_false (by omega)]; rfl
      have hag : ∀ k, (gI ss[i].ar k).toNat < i := fun k => by
        by_cases hk : k < ss[i].ar.length
        · have := hai k hk; omega
        · rw [gI_out (by omega)]; exact hz
      have old : ∀ j, j < i → DC S W 0 ((frN ss ss.length).cs.getD j ([], [])) := fun j hj => by
        have e : (frN ss ss.length).cs.getD j ([], []) = (frN ss i).cs.getD j ([], []) := by
          rw [hc, hsu]
          simp only
          rw [List.append_assoc, getD_left (by omega)]
        rw [e]
        obtain ⟨g1, g2⟩ := hD.cs _ (getD_mem (d := (([], []) : Pt)) (show j < (frN ss i).cs.length by omega))
        exact ⟨fun t ht => ⟨by have := (g1.2 t ht).2.1; omega, by rw [dgS_low (g1.2 t ht).2.1 hS0]; omega⟩, fun t ht => ⟨by have := (g2.2 t ht).2.1; omega, by rw [dgS_low (g2.2 t ht).2.1 hS0]; omega⟩⟩
      have ex : (frN ss ss.length).cs.getD i ([], []) = ((frN ss i).nxt i ss[i]).2 := by
        rw [hc, hsu]
        simp only
        rw [getD_left (by rw [List.length_append]; simp; omega), getD_right (by omega), hcl, Nat.sub_self]
        rfl
      have kk : ss[i].k ≤ 14 := by
        unfold arS at h0
        repeat' split at h0
        all_goals omega
      have hx : 6 ≤ ss[i].k → DC S W 1 ((frN ss ss.length).cs.getD i ([], [])) := fun h6 => by
        rw [ex, hW2]
        unfold FS.nxt
        simp only
        rw [if_neg (by omega), if_neg (by omega), if_neg (by omega), if_neg (by omega), if_neg (by omega)]
        split
        · exact ⟨.var (by simp), .var (by simp)⟩
        · exact ⟨.var (by simp), .var (by simp)⟩
      have htp : ss[i].k = 6 → DP S W 0 (parM (frN ss ss.length).vs i) := fun h6 => by
        have hn : ((frN ss i).nxt i ss[i]).1 = [(1, (i : Int), 0), (2, (i : Int), 1), (2, (i : Int), 2)] := by
          unfold FS.nxt
          simp [h6]
        have e0 : (frN ss ss.length).vs.getD (frN ss i).vs.length (0, 0, 0) = (1, (i : Int), 0) := by
          rw [hv, hsu]
          simp only
          rw [List.append_assoc, getD_right (Nat.le_refl _), Nat.sub_self, hn]
          rfl
        have hln : (frN ss i).vs.length < (frN ss ss.length).vs.length := by
          rw [hv, hsu]
          simp only
          rw [List.length_append, List.length_append, hn]
          simp; omega
        have hf := fstN_at (vs := (frN ss ss.length).vs) (i := (i : Int)) (y := (frN ss i).vs.length) (fun j hj => by have := hvi j hj; omega) (by rw [e0]) (n := (frN ss ss.length).vs.length) hln
        rw [parM_some hf]
        refine .var0 (by rw [hW2, hn]; simp) ?_
        rw [← hS]
        unfold depS
        rw [e0]
        simp
      exact eqs_dp (old _ (hag 0)) (old _ (hag 1)) (old _ (hag 2)) (old _ (hag 3)) hx htp (hcb _) (hcb _) (hcb _) (hcb _) p hp
end Go.Proofs.YtbgmnobnaplmlaaGreat
end

section
namespace Go.Proofs.YtbgmnobnaplmlaaGreat
open Go Go.RowKit Go.Pg Go.Pol
set_option linter.unusedSimpArgs false
set_option linter.unusedVariables false
set_option maxRecDepth 20000
attribute [local go_sem] Tryz.underlying3 Tryz.underlying4 Tryz.underlying178 Tryz.underlying9 Tryz.underlying48 Tryz.underlying31 Tryz.underlying43 Tryz.underlying41 Tryz.underlying39 Tryz.underlying50 Tryz.underlying22 Tryz.underlying25 Tryz.underlying56 Tryz.underlying28 Tryz.underlying72 Tryz.underlying27 Tryz.underlying30 Tryz.underlying105 Tryz.underlying107 Tryz.underlying70 Tryz.underlying63 Tryz.underlying103 Tryz.underlying154 sz3 by3 z3 szB zB szErr zErr szStr byStr zStr szRat zRat szInt zInt szNat zNat szStep byStep zStep szFig zFig szSlI zSlI szSlS zSlS szVar byVar zVar szSlV zSlV szCoord byCoord zCoord szSlC zSlC szFrame zFrame szCBld byCBld zCBld szCVec byCVec zCVec szPoly byPoly zPoly szTerm zTerm szPtrB zPtrB szFnC zFnC Tryz.underlying135 szHVec byHVec zHVec Tryz.underlying78 szSlP zSlP Tryz.underlying124 Tryz.underlying23 szL byL zL szFact byFact zFact szSlF zSlF
attribute [-bool_to_prop] Bool.and_eq_decide Bool.or_eq_decide Bool.decide_beq_decide decide_eq_decide
/-! ### the hypotheses of all steps -/
def bigE (E : Nat → List Po) (i : Nat) : Bool := (E i).any fun p => decide (4000 < p.length)
def hypL (E : Nat → List Po) : Nat → List Po
  | 0 => []
  | i + 1 => hypL E i ++ E i
theorem any_yes {E : Nat → List Po} {i n : Nat} (hi : i < n) (h : bigE E i = true) : (List.range n).any (bigE E) = true := List.any_eq_true.2 ⟨i, List.mem_range.2 hi, h⟩
theorem any_no {E : Nat → List Po} {n : Nat} (h : ∀ j, j < n → bigE E j = false) : (List.range n).any (bigE E) = false := by
  rw [List.any_eq_false]
  intro j hj
  rw [h j (List.mem_range.1 hj)]; simp
set_option maxHeartbeats 8000000 in
theorem hyOf (ss : List RS) (gs : List RG) (cs : List Pt) (vs : List Vt) (E : Nat → List Po) (hE : ∀ i, (E i).length ≤ 10) (hl : ss.length ≤ 1000)
    (co : Pure Tryz.prog 15 [figA ss gs] (.tup [frmA cs vs, iv 0]))
    (hst : ∀ i, i < ss.length → Pure Tryz.prog 35 [figA ss gs, frmA cs vs, iv i] (.tup [.sl 1 ((E i).map poA), iv 0])) :
    Pure Tryz.prog 38 [figA ss gs] (if (List.range ss.length).any (bigE E) = true then .tup [.v (.slice none 0 0), iv 4] else .tup [.sl 1 ((hypL E ss.length).map poA), iv 0]) := by
  have co : Pure Tryz.prog 15 [.agg [.sl 6 (ss.map RS.av), .sl 5 (gs.map RG.av)]] (.tup [.agg [.sl 2 (cs.map coA), .sl 3 (vs.map Vt.av)], iv 0]) := co
  have hst : ∀ i, i < ss.length → Pure Tryz.prog 35 [.agg [.sl 6 (ss.map RS.av), .sl 5 (gs.map RG.av)], .agg [.sl 2 (cs.map coA), .sl 3 (vs.map Vt.av)], iv i] (.tup [.sl 1 ((E i).map poA), iv 0]) := hst
  have hls : (ss.map RS.av).length = ss.length := List.length_map ..
  have hhl : ∀ i, i ≤ ss.length → (hypL E i).length ≤ 10 * i := fun i => by
    induction i with
    | zero => intro _; simp [hypL]
    | succ i ih =>
      intro h
      have h1 := ih (by omega)
      have h2 := hE i
      have h3 : hypL E (i + 1) = hypL E i ++ E i := rfl
      rw [h3, List.length_append]; omega
  show Pure _ _ [.agg [.sl 6 (ss.map RS.av), .sl 5 (gs.map RG.av)]] _
  generalize ss.map RS.av = M at *
  generalize gs.map RG.av = N at *
  generalize cs.map coA = C at *
  generalize vs.map Vt.av = V at *
  refine pure_intro (tok := 0) Tryz.func38 rfl Tryz.ntmps38 Tryz.results38 Tryz.call38 (by rfl) (by simp) ?_
  (focus (refine wkap (w_a hls w_t) (w_a co w_t) (w_r 0) ?_; (repeat' first | exact w_t | apply w_l); all_goals intros))
  rename_i g1 g4
  refine r_frz (Frz.nilOwn (d := 6) 48 1 70 (by exact gC)) ?_
  refine r_loopE (ι := Nat) (fun i e m => i ≤ ss.length ∧ e 1 = .pbox 1 g1 0 ∧ m 1 = some (.box g1 25 [.sl 6 M, .sl 5 N] false) ∧ e 4 = .pbox 4 g4 0 ∧ m 4 = some (.box g4 30 [.sl 2 C, .sl 3 V] false) ∧ e 21 = .sl 6 M ∧ e 22 = iv ss.length ∧ e 23 = iv i ∧ (∃ sv, e 6 = .own 48 sv ∧ m 48 = some (.row sv 70 1 ((hypL E i).map poA) 0)) ∧ ∀ j, j < i → bigE E j = false) (fun i => ss.length - i) 0 (by rfl) ?_ ?_
  · rintro i e m ⟨hi, e1, m1, e4, m4, e21, e22, e23, ⟨sv, e6, m6⟩, hj⟩
    by_cases hlt : i < ss.length
    · have cst := hst i hlt
      have hyes : bigE E i = true → (List.range ss.length).any (bigE E) = true := any_yes hlt
      have hnx : bigE E i = false → ∀ j, j < i + 1 → bigE E j = false := fun h j hjj => by
        by_cases e : j = i
        · rw [e]; exact h
        · exact hj j (by omega)
      have hrow : (hypL E (i + 1)).map poA = (hypL E i).map poA ++ (E i).map poA := by show (hypL E i ++ E i).map poA = _; rw [List.map_append]
      have hll : ((hypL E i).map poA).length ≤ 10000 := by rw [List.length_map]; have := hhl i hi; omega
      have hbig : bigE E i = (E i).any fun p => decide (4000 < p.length) := rfl
      have hle := hE i
      have hgE : ∀ y (h : y < (E i).length), ((E i).map poA).getD y .u = .sl 4 ((E i)[y].map tmA) := fun y h => map_atB poA h
      have hlE : ((E i).map poA).length = (E i).length := List.length_map ..
      clear hst hhl hj co
      generalize bigE E i = b at *
      generalize (hypL E i).map poA = R at *
      generalize (E i).map poA = LA at *
      generalize hL : E i = L at *
      (focus (refine wkap (w_a e1 (w_a m1 (w_a e4 (w_a m4 (w_a e21 (w_a e22 (w_a e23 (w_a e6 (w_a m6 (w_a hls (w_a hlE w_t))))))))))) (w_a cst w_t) (w_r 0) ?_; (repeat' first | exact w_t | apply w_l); all_goals intros))
      refine r_loopE (ι := Nat) (fun y e m => y ≤ L.length ∧ e 1 = .pbox 1 g1 0 ∧ m 1 = some (.box g1 25 [.sl 6 M, .sl 5 N] false) ∧ e 4 = .pbox 4 g4 0 ∧ m 4 = some (.box g4 30 [.sl 2 C, .sl 3 V] false) ∧ e 21 = .sl 6 M ∧ e 22 = iv ss.length ∧ e 23 = iv i ∧ e 6 = .own 48 sv ∧ m 48 = some (.row sv 70 1 R 0) ∧ e 8 = .sl 1 LA ∧ e 36 = .sl 1 LA ∧ e 37 = iv L.length ∧ e 38 = iv y ∧ ∀ j (h : j < L.length), j < y → ¬ 4000 < L[j].length) (fun y => L.length - y) 0 (by rfl) ?_ ?_
      · rintro y e m ⟨hy, e1, m1, e4, m4, e21, e22, e23, e6, m6, e8, e36, e37, e38, hq⟩
        by_cases hly : y < L.length
        · have hgy := hgE y hly
          have hpl : (L[y].map tmA).length = L[y].length := List.length_map ..
          have hby : 4000 < L[y].length → b = true := fun h => by rw [hbig, List.any_eq_true]; exact ⟨L[y], List.getElem_mem hly, by simpa using h⟩
          have hqx : ¬ 4000 < L[y].length → ∀ j (h : j < L.length), j < y + 1 → ¬ 4000 < L[j].length := fun h j hjj h2 => by
            by_cases e : j = y
            · subst e; exact h
            · exact hq j hjj (by omega)
          clear hq hbig hgE hrow
          generalize L[y].map tmA = P at *
          by_cases h4 : 4000 < L[y].length
          · rw [if_pos (hyes (hby h4))]
            clear hqx hby hnx hyes
            (focus (refine wklp (w_a e1 (w_a m1 (w_a e4 (w_a m4 (w_a e21 (w_a e22 (w_a e23 (w_a e6 (w_a m6 (w_a e8 (w_a e36 (w_a e37 (w_a e38 (w_a hls (w_a hlE (w_a hgy (w_a hpl w_t))))))))))))))))) w_t w_t (w_r 0) ?_; (repeat' first | exact w_t | apply w_l); all_goals intros))
          · have := hqx h4
            clear hqx hby hnx hyes
            (focus (refine wkap (w_a e1 (w_a m1 (w_a e4 (w_a m4 (w_a e21 (w_a e22 (w_a e23 (w_a e6 (w_a m6 (w_a e8 (w_a e36 (w_a e37 (w_a e38 (w_a hls (w_a hlE (w_a hgy (w_a hpl w_t))))))))))))))))) w_t (w_r 0) ?_; (repeat' first | exact w_t | apply w_l); all_goals intros))
            exact ⟨y + 1, ⟨by omega, by exact gW e1, by exact gW m1, by exact gW e4, by exact gW m4, by exact gW e21, by exact gW e22, by exact gW e23, by exact gW e6, by exact gW m6, by exact gW e8, by exact gW e36, by exact gW e37, by exact gS, this⟩, by omega⟩
        · have hb : b = false := by
            rw [hbig, List.any_eq_false]
            intro x hx
            obtain ⟨j, hjl, rfl⟩ := List.mem_iff_getElem.1 hx
            have := hq j hjl (by omega)
            simpa using this
          have := hnx hb
          clear hq hbig hgE hnx hyes hb
          (focus (refine wkap (w_a e1 (w_a m1 (w_a e4 (w_a m4 (w_a e21 (w_a e22 (w_a e23 (w_a e6 (w_a m6 (w_a e8 (w_a e36 (w_a e37 (w_a e38 (w_a hls (w_a hlE w_t))))))))))))))) w_t (w_r 0) ?_; (repeat' first | exact w_t | apply w_l); all_goals intros))
          exact ⟨i + 1, ⟨by omega, by exact gW e1, by exact gW m1, by exact gW e4, by exact gW m4, by exact gW e21, by exact gW e22, by exact gS, ⟨_, by exact gC, by rw [hrow]; exact gC⟩, this⟩, by omega⟩
      · exact ⟨Nat.zero_le _, by exact gW e1, by exact gW m1, by exact gW e4, by exact gW m4, by exact gW e21, by exact gW e22, by exact gW e23, by exact gW e6, by exact gW m6, by exact gC, by exact gC, by (simp (disch := omega) only [go_sem, hlE] <;> repeat' first | rfl | refine ⟨?_, ?_⟩), by exact gC, fun j h h2 => by omega⟩
    · have hin : i = ss.length := by omega
      subst hin
      rw [if_neg (by rw [any_no hj]; simp)]
      clear hst hhl hj co
      generalize (hypL E ss.length).map poA = R at *
      (focus (refine wklp (w_a e1 (w_a m1 (w_a e4 (w_a m4 (w_a e21 (w_a e22 (w_a e23 (w_a e6 (w_a m6 (w_a hls w_t)))))))))) w_t (w_a m6 w_t) (w_r 0) ?_; (repeat' first | exact w_t | apply w_l); all_goals intros))
  · exact ⟨Nat.zero_le _, by exact gC, by exact gC, by exact gC, by exact gC, by exact gC, by exact gW hls, by exact gC, ⟨_, by exact gC, by (simp (disch := omega) only [go_sem, hypL, List.map_nil] <;> repeat' first | rfl | refine ⟨?_, ?_⟩)⟩, fun j h => by omega⟩
set_option maxHeartbeats 4000000 in
theorem lwSame (L : List Po) (hl : L.length ≤ 100000) (he : ∀ p ∈ L, Pure Tryz.prog 29 [poA p, poA p] (.v (.bool true))) : Pure Tryz.prog 37 [.sl 1 (L.map poA), .sl 1 (L.map poA)] (.v (.bool true)) := by
  have hlL : (L.map poA).length = L.length := List.length_map ..
  have hg : ∀ y (h : y < L.length), (L.map poA).getD y .u = poA L[y] := fun y h => map_atB poA h
  generalize L.map poA = LA at *
  refine pure_intro (tok := 0) Tryz.func37 rfl Tryz.ntmps37 Tryz.results37 Tryz.call37 (by rfl) (by simp) ?_
  (focus (refine wkad (w_a hlL w_t) w_t w_t ?_; (repeat' first | exact w_t | apply w_l); all_goals intros))
  refine r_loopE (ι := Nat) (fun i e m => i ≤ L.length ∧ e 0 = .sl 1 LA ∧ e 1 = .sl 1 LA ∧ e 5 = iv i) (fun i => L.length - i) 0 (by rfl) ?_ ?_
  · rintro i e m ⟨hi, e0, e1, e5⟩
    by_cases hlt : i < L.length
    · have hgi := hg i hlt
      have ce := he _ (List.getElem_mem hlt)
      clear he hg
      generalize L[i] = p at *
      (focus (refine wkad (w_a e0 (w_a e1 (w_a e5 (w_a hlL (w_a hgi w_t))))) (w_a ce w_t) (w_a (w_d 4 [(8, .v (.bool true))] [] []) w_t) ?_; (repeat' first | exact w_t | apply w_l); all_goals intros))
      exact ⟨i + 1, ⟨by omega, by exact gW e0, by exact gW e1, by exact gS⟩, by omega⟩
    · clear he hg
      (focus (refine wkld (w_a e0 (w_a e1 (w_a e5 (w_a hlL w_t)))) w_t w_t w_t ?_; (repeat' first | exact w_t | apply w_l); all_goals intros))
  · exact ⟨Nat.zero_le _, by exact gC, by exact gC, by exact gC⟩
end Go.Proofs.YtbgmnobnaplmlaaGreat
end

section
namespace Go.Proofs.YtbgmnobnaplmlaaGreat
open Go Go.RowKit Go.Pg Go.Pol
set_option linter.unusedSimpArgs false
set_option linter.unusedVariables false
set_option maxRecDepth 20000
attribute [local go_sem] Tryz.underlying3 Tryz.underlying4 Tryz.underlying43 Tryz.underlying41 Tryz.underlying39 Tryz.underlying63 Tryz.underlying69 Tryz.underlying61 Tryz.underlying70 Tryz.underlying78 sz3 by3 z3 szRat zRat szInt zInt szNat zNat szTerm byTerm zTerm szMono byMono zMono szPoly byPoly zPoly
attribute [-bool_to_prop] Bool.and_eq_decide Bool.or_eq_decide Bool.decide_beq_decide decide_eq_decide
/-! ### polynomials as they come in -/
structure RT where
  r : RQ
  m : List Int
abbrev RT.av (t : RT) : AV := .agg [.v (.bool t.r.s), lim t.r.l, lim t.r.d, ivs t.m]
abbrev RT.tm (t : RT) : Tm := (t.r.q, t.m)
abbrev RT.zero : RT := ⟨⟨false, [], []⟩, []⟩
def RT.ok (t : RT) : Bool := t.r.ok && (decide (t.r.q ≠ 0) && rightB t.m)
def trmOk (l : List RT) (i : Nat) : Bool := (l.getD i RT.zero).ok && (decide (i = 0) || decide (ltM (l.getD i RT.zero).m (l.getD (i - 1) RT.zero).m))
def polOk (l : List RT) : Bool := (List.range l.length).all (trmOk l)
theorem rawAt {l : List RT} {i : Nat} (h : i < l.length) : l.getD i RT.zero = l[i] := by rw [List.getD_eq_getElem?_getD, List.getElem?_eq_getElem h]; rfl
theorem right_in {m : List Int} (h : rightB m = true) : Can m ∧ m.length ≤ 64 ∧ ∀ j, gI m j ≤ 1048576 := by
  unfold rightB at h
  simp only [Bool.and_eq_true, decide_eq_true_eq, Bool.not_eq_true', List.all_eq_true] at h
  obtain ⟨⟨h1, h2⟩, h3⟩ := h
  have hj : ∀ j, 0 ≤ gI m j ∧ gI m j ≤ 1048576 := fun j => by
    by_cases hl : j < m.length
    · have := h3 m[j] (List.getElem_mem hl)
      rw [gI_at hl]
      unfold expOk at this
      simp at this; omega
    · rw [gI_out (by omega)]; omega
  refine ⟨⟨fun j => (hj j).1, ?_⟩, h1, fun j => (hj j).2⟩
  by_cases h0 : m.length = 0
  · exact .inl h0
  · rw [getLast_at (by omega)] at h2
    exact .inr (by simpa using h2)
theorem pol_in {l : List RT} {k : Nat} (h : polOk l = true) (hs : ∀ t ∈ l, t.r.lm k) :
    .sl 4 (l.map RT.av) = poA (l.map RT.tm) ∧ SrtM (l.map RT.tm) ∧ PK (l.map RT.tm) k 1048576 ∧ ∀ t ∈ l, t.m.length ≤ 64 := by
  have hall : ∀ i (hi : i < l.length), l[i].ok = true ∧ (i = 0 ∨ ltM l[i].m (l.getD (i - 1) RT.zero).m) := fun i hi => by
    have := List.all_eq_true.1 h i (List.mem_range.2 hi)
    unfold trmOk at this
    rw [rawAt hi] at this
    simpa using this
  have hok : ∀ t ∈ l, t.r.ok = true ∧ t.r.q ≠ 0 ∧ rightB t.m = true := fun t ht => by
    obtain ⟨i, hi, rfl⟩ := List.mem_iff_getElem.1 ht
    have := (hall i hi).1
    unfold RT.ok at this
    simp only [Bool.and_eq_true, decide_eq_true_eq] at this
    exact this
  refine ⟨?_, ⟨fun u hu => ?_, ?_⟩, fun u hu => ?_, fun t ht => (right_in (hok t ht).2.2).2.1⟩
  · rw [poA, List.map_map]
    congr 1
    refine List.map_congr_left fun t ht => ?_
    have := (RQ.ok_av (hs t ht) (hok t ht).1).1
    simp only [AV.agg.injEq, List.cons.injEq] at this
    show AV.agg [_, _, _, _] = AV.agg [_, _, _, _]
    rw [this.1, this.2.1, this.2.2.1]
  · obtain ⟨t, ht, rfl⟩ := List.mem_map.1 hu
    exact ⟨(hok t ht).2.1, (right_in (hok t ht).2.2).1⟩
  · have key : ∀ d i, i + d + 1 < l.length → ltM (l.getD (i + d + 1) RT.zero).m (l.getD i RT.zero).m := by
      intro d
      induction d with
      | zero =>
        intro i hi
        have := (hall (i + 1) hi).2
        rw [rawAt hi]
        rcases this with h0 | h0
        · omega
        · exact h0
      | succ d ih =>
        intro i hi
        have h1 := ih i (by omega)
        have h2 := (hall (i + (d + 1) + 1) hi).2
        rw [rawAt hi]
        rcases h2 with h0 | h0
        · omega
        · exact ordM.tr _ _ _ h0 h1
    rw [List.pairwise_map, List.pairwise_iff_getElem]
    intro i j hi hj hij
    have := key (j - i - 1) i (by omega)
    rw [show i + (j - i - 1) + 1 = j by omega, rawAt hi, rawAt hj] at this
    exact this
  · obtain ⟨t, ht, rfl⟩ := List.mem_map.1 hu
    obtain ⟨h1, h2, h3⟩ := right_in (hok t ht).2.2
    exact ⟨(RQ.ok_av (hs t ht) (hok t ht).1).2, by show t.m.length ≤ 1000; omega, fun j => ⟨h1.1 j, h3 j⟩⟩
end Go.Proofs.YtbgmnobnaplmlaaGreat
end

section
namespace Go.Proofs.YtbgmnobnaplmlaaGreat
open Go Go.RowKit Go.Pg Go.Pol
set_option linter.unusedSimpArgs false
set_option linter.unusedVariables false
set_option maxRecDepth 20000
attribute [local go_sem] Tryz.underlying3 Tryz.underlying4 Tryz.underlying178 Tryz.underlying9 Tryz.underlying48 Tryz.underlying31 Tryz.underlying43 Tryz.underlying41 Tryz.underlying39 Tryz.underlying50 Tryz.underlying22 Tryz.underlying25 Tryz.underlying56 Tryz.underlying28 Tryz.underlying72 Tryz.underlying27 Tryz.underlying30 Tryz.underlying105 Tryz.underlying107 Tryz.underlying70 Tryz.underlying63 Tryz.underlying103 Tryz.underlying154 sz3 by3 z3 szB zB szErr zErr szStr byStr zStr szRat zRat szInt zInt szNat zNat szStep byStep zStep szFig zFig szSlI zSlI szSlS zSlS szVar byVar zVar szSlV zSlV szCoord byCoord zCoord szSlC zSlC szFrame zFrame szCBld byCBld zCBld szCVec byCVec zCVec szPoly byPoly zPoly szTerm zTerm szPtrB zPtrB szFnC zFnC Tryz.underlying135 szHVec byHVec zHVec Tryz.underlying78 szSlP zSlP Tryz.underlying61 szMono zMono szL byL zL
attribute [-bool_to_prop] Bool.and_eq_decide Bool.or_eq_decide Bool.decide_beq_decide decide_eq_decide
/-! ### small coordinates as they come in -/
def degM (p : Po) : Int := p.foldl (fun n t => max n (sumT t.2 t.2.length)) (-1)
theorem degM_take {p : Po} {i : Nat} (hi : i < p.length) : degM (p.take (i + 1)) = max (degM (p.take i)) (sumT p[i].2 p[i].2.length) := by
  unfold degM
  rw [List.take_succ_eq_append_getElem hi, List.foldl_append]; rfl
theorem sumT_b2 {l : List Int} {e : Nat} (h : ∀ j, 0 ≤ gI l j ∧ gI l j ≤ (e : Int)) : ∀ n, 0 ≤ sumT l n ∧ sumT l n ≤ ((n * e : Nat) : Int)
  | 0 => by simp [sumT]
  | n + 1 => by
    have := sumT_b2 h n
    have h1 := h n
    have h2 : sumT l (n + 1) = sumT l n + gI l n := rfl
    rw [h2, Nat.succ_mul]; omega
def RT.two (t : RT) : Bool := decide (t.m.length ≤ 4) && (decide (t.r.l.length ≤ 2) && decide (t.r.d.length ≤ 2))
def cooP (l : List RT) : Bool := decide (l.length ≤ 6) && (polOk l && l.all fun t => t.two && decide (degM (l.map RT.tm) ≤ 8))
/-- What small coordinates are. -/
theorem coo_in {l : List RT} {k : Nat} (hs : ∀ t ∈ l, t.r.lm k) (h : cooP l = true) : .sl 4 (l.map RT.av) = poA (l.map RT.tm) ∧ PB (l.map RT.tm) 8 110 8 := by
  unfold cooP at h
  simp only [Bool.and_eq_true, decide_eq_true_eq, List.all_eq_true] at h
  obtain ⟨h6, ho, h2⟩ := h
  have h3 : ∀ t ∈ l, t.r.lm 2 := fun t ht => by
    have := (h2 t ht).1
    unfold RT.two at this
    simp only [Bool.and_eq_true, decide_eq_true_eq] at this
    exact ⟨(hs t ht).1, (hs t ht).2.1, this.2.1, this.2.2⟩
  obtain ⟨e, st, pk, -⟩ := pol_in ho h3
  refine ⟨e, st, fun u hu => ?_, by rw [List.length_map]; omega⟩
  obtain ⟨t, ht, rfl⟩ := List.mem_map.1 hu
  have hp := pk _ hu
  refine ⟨hp.1.mono (by omega), hp.2.1, fun j => ⟨(hp.2.2 j).1, ?_⟩⟩
  have hd : sumT t.m t.m.length ≤ 8 := by
    have h4 := (h2 t ht).2
    obtain ⟨i, hi, e⟩ := List.mem_iff_getElem.1 hu
    have h5 : ∀ n, n ≤ (l.map RT.tm).length → i < n → sumT t.m t.m.length ≤ degM ((l.map RT.tm).take n) := fun n => by
      induction n with
      | zero => intro _ h; omega
      | succ n ih =>
        intro hn hin
        rw [degM_take (by omega)]
        by_cases e2 : i = n
        · subst e2
          rw [e]
          exact Int.le_max_right _ _
        · exact Int.le_trans (ih (by omega) (by omega)) (Int.le_max_left _ _)
    have := h5 (l.map RT.tm).length (Nat.le_refl _) hi
    rw [List.take_length] at this
    omega
  have key : ∀ n j, j < n → gI t.m j ≤ sumT t.m n := fun n => by
    induction n with
    | zero => intro j h; omega
    | succ n ih =>
      intro j hj
      have e1 : sumT t.m (n + 1) = sumT t.m n + gI t.m n := rfl
      rw [e1]
      have h0 := (hp.2.2 n).1
      have hb := (sumT_b2 (fun j => (hp.2.2 j)) n).1
      by_cases e2 : j = n
      · subst e2; simp only at *; omega
      · have := ih j (by omega); simp only at *; omega
  by_cases hj : j < t.m.length
  · have := key _ _ hj; simp only; omega
  · show gI t.m j ≤ _; rw [gI_out (by omega)]; omega
end Go.Proofs.YtbgmnobnaplmlaaGreat
end
