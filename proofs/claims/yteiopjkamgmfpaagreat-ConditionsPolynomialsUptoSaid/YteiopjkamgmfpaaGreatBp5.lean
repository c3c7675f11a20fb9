/- Contracts of the functions that the law reaches, and the rules by which they are walked. They say what a call hands back for every input within the bounds that each names; no other condition. -/
import Derived.Test.YteiopjkamgmfpaaGreatBp4
section
namespace Go.Proofs.YteiopjkamgmfpaaGreat
open Go Go.RowKit Go.Pg Go.Pol
set_option linter.unusedSimpArgs false
set_option linter.unusedVariables false
set_option maxRecDepth 20000
attribute [local go_sem] Tryz.underlying3 Tryz.underlying4 Tryz.underlying53 Tryz.underlying51 Tryz.underlying49 Tryz.underlying113 Tryz.underlying41 Tryz.underlying111 Tryz.underlying42 Tryz.underlying140 sz3 by3 z3 szRat zRat szInt zInt szNat zNat szTerm byTerm zTerm szMono byMono zMono szPoly byPoly zPoly
attribute [-bool_to_prop] Bool.and_eq_decide Bool.or_eq_decide Bool.decide_beq_decide decide_eq_decide
/-- All sums of neighbours are of a moderate size. -/
def SumOk (l : List Po) (K e : Nat) : Prop := ∀ a b, PK (sumH ltM ((l.drop a).take b)) K e ∧ (sumH ltM ((l.drop a).take b)).length ≤ 1000000
theorem SumOk.take {l : List Po} {K e : Nat} (h : SumOk l K e) (k : Nat) : SumOk (l.take k) K e := fun a b => by
  rw [List.drop_take, List.take_take]; exact h a _
theorem SumOk.drop {l : List Po} {K e : Nat} (h : SumOk l K e) (k : Nat) : SumOk (l.drop k) K e := fun a b => by
  rw [List.drop_drop]; exact h _ b
theorem SumOk.all {l : List Po} {K e : Nat} (h : SumOk l K e) : PK (sumH ltM l) K e ∧ (sumH ltM l).length ≤ 1000000 := by
  have := h 0 l.length
  rwa [List.drop_zero, List.take_length] at this
set_option maxHeartbeats 4000000 in
theorem poSumN : ∀ (n : Nat) (l : List Po) {K e : Nat}, l.length = n → (∀ p ∈ l, SrtM p) → SumOk l K e → l.length ≤ 1000000 → K ≤ 1000000 → e ≤ 16777216 → Pure Tryz.prog 91 [.sl 1 (l.map poA)] (poA (sumH ltM l)) := by
  intro n
  induction n using Nat.strongRecOn with
  | _ n ih =>
    intro l K e hn hs ho hl hK he
    match l, hn, hs, ho, hl with
    | [], hn, hs, ho, hl =>
      rw [show sumH ltM [] = [] from by simp [sumH]]
      refine pure_vkR (r := .v (.slice none 0 0)) ?_ (.nil 4)
      refine pure_intro (tok := 0) Tryz.func91 rfl Tryz.ntmps91 Tryz.results91 Tryz.call91 (by rfl) (by simp) ?_
      (focus (refine wkld w_t w_t w_t w_t ?_; (repeat' first | exact w_t | apply w_l); all_goals intros))
    | [p], hn, hs, ho, hl =>
      rw [show sumH ltM [p] = p from by simp [sumH]]
      refine pure_intro (tok := 0) Tryz.func91 rfl Tryz.ntmps91 Tryz.results91 Tryz.call91 (by rfl) (by simp) ?_
      (focus (refine wkld w_t w_t w_t w_t ?_; (repeat' first | exact w_t | apply w_l); all_goals intros))
    | p :: q :: r, hn, hs, ho, hl =>
      obtain ⟨L, hL⟩ : ∃ L, L = p :: q :: r := ⟨_, rfl⟩
      have h2 : 2 ≤ L.length := by rw [hL]; simp
      have e1 : sumH ltM (p :: q :: r) = addM (sumH ltM (L.take (L.length / 2))) (sumH ltM (L.drop (L.length / 2))) := by rw [sumH, ← hL]
      rw [e1]
      rw [← hL] at hn hs ho hl ⊢
      clear e1 hL
      have s1 : ∀ u ∈ L.take (L.length / 2), SrtM u := fun u hu => hs u (List.mem_of_mem_take hu)
      have s2 : ∀ u ∈ L.drop (L.length / 2), SrtM u := fun u hu => hs u (List.mem_of_mem_drop hu)
      have o1 := (ho.take (L.length / 2)).all
      have o2 := (ho.drop (L.length / 2)).all
      have c1 := ih (L.take (L.length / 2)).length (by rw [List.length_take]; omega) (L.take (L.length / 2)) rfl s1 (ho.take _) (by rw [List.length_take]; omega) hK he
      have c2 := ih (L.drop (L.length / 2)).length (by rw [List.length_drop]; omega) (L.drop (L.length / 2)) rfl s2 (ho.drop _) (by rw [List.length_drop]; omega) hK he
      have c3 := poAdd (sumH ltM (L.take (L.length / 2))) (sumH ltM (L.drop (L.length / 2))) o1.1 o2.1 (sumH_srt ordM _ s1) (sumH_srt ordM _ s2) o1.2 o2.2 hK hK he
      clear ih s1 s2 o1 o2 ho hs
      have hd : (L.length : Int).tdiv 2 = ((L.length / 2 : Nat) : Int) := quo_nat _ 2
      have hh : L.length / 2 ≤ L.length := by omega
      rw [List.map_take] at c1
      rw [List.map_drop] at c2
      have hlm : (L.map poA).length = L.length := List.length_map ..
      have htk : (L.map poA).take L.length = L.map poA := by rw [← hlm, List.take_length]
      generalize sumH ltM (L.take (L.length / 2)) = x at *
      generalize sumH ltM (L.drop (L.length / 2)) = y at *
      generalize addM x y = z at *
      generalize L.length / 2 = h at *
      generalize L.map poA = M at *
      generalize L.length = len at *
      refine pure_intro (tok := 0) Tryz.func91 rfl Tryz.ntmps91 Tryz.results91 Tryz.call91 (by rfl) (by simp) ?_
      (focus (refine wkld (w_a hlm (w_a hd (w_a htk (w_a @l_drop0 w_t)))) (w_a c1 (w_a c2 (w_a c3 w_t))) w_t (w_a (w_d 7 [(3, poA x), (7, poA y), (8, poA z)] [] []) w_t) ?_; (repeat' first | exact w_t | apply w_l); all_goals intros))
theorem poSum (l : List Po) {K e : Nat} (hs : ∀ p ∈ l, SrtM p) (ho : SumOk l K e) (hl : l.length ≤ 1000000) (hK : K ≤ 1000000) (he : e ≤ 16777216) : Pure Tryz.prog 91 [.sl 1 (l.map poA)] (poA (sumH ltM l)) := poSumN _ l rfl hs ho hl hK he
set_option maxHeartbeats 4000000 in
theorem poMul0 (p q : Po) (a b : Po) (hab : (q.length < p.length ∧ a = q ∧ b = p) ∨ (¬ q.length < p.length ∧ a = p ∧ b = q)) {j k e f K E : Nat} (hp : PK a j e) (hq : PK b k f) (sp : SrtM a) (sq : SrtM b) (lp : a.length ≤ 1000000) (lq : b.length ≤ 1000000) (hj : j ≤ 1000000) (hk : k ≤ 1000000) (he : e ≤ 16777216) (hf : f ≤ 16777216)
    (ho : SumOk (a.map fun t => timesP mulM b t) K E) (hK : K ≤ 1000000) (hE : E ≤ 16777216) :
    Pure Tryz.prog 54 [poA p, poA q] (poA (mlM b a)) := by
  have hs : ∀ u ∈ a.map (fun t => timesP mulM b t), SrtM u := fun u hu => by
    obtain ⟨t, ht, rfl⟩ := List.mem_map.1 hu
    exact times_srt mulK sq (sp.1 t ht).1 (sp.1 t ht).2
  have cs := poSum _ hs ho (by rw [List.length_map]; exact lp) hK hE
  rw [show sumH ltM (a.map fun t => timesP mulM b t) = mlM b a from mulH_eq ordM mulK sp sq] at cs
  clear ho hs
  have loop : ∀ (e1 : Nat → AV) (m1 : Mem) (Q : AE → St → Prop), True → True := fun _ _ _ _ => trivial
  rcases hab with ⟨hlt, rfl, rfl⟩ | ⟨hlt, rfl, rfl⟩
  all_goals
    refine pure_intro (tok := 0) Tryz.func54 rfl Tryz.ntmps54 Tryz.results54 Tryz.call54 (by rfl) (by simp) ?_
    (focus (refine wkap (w_a @l_map w_t) w_t (w_r 0) ?_; (repeat' first | exact w_t | apply w_l); all_goals intros))
    rename_i sv0
    refine r_loopE (ι := Nat) (fun i e' m => i ≤ a.length ∧ e' 1 = poA b ∧ e' 18 = poA a ∧ e' 19 = iv a.length ∧ e' 20 = iv i ∧ ∃ sv, e' 5 = .own 17 sv ∧ m 17 = some (.row sv 42 1 (((a.take i).map fun t => timesP mulM b t).map poA) 0)) (fun i => a.length - i) 0 (by rfl) ?_ ?_
    · rintro i e' m ⟨hi, e1, e18, e19, e20, sv, e5, m17⟩
      by_cases hlt : i < a.length
      · have hg := map_atB tmA hlt
        have ht : PK [a[i]] j e := fun u hu => by rw [List.mem_singleton] at hu; subst hu; exact hp _ (List.getElem_mem hlt)
        have c1 := poTimes b a[i] hq ht sq (sp.1 _ (List.getElem_mem hlt)).1 (sp.1 _ (List.getElem_mem hlt)).2 lq hk hj hf he
        have hsn : ((a.take (i + 1)).map fun t => timesP mulM b t).map poA = ((a.take i).map fun t => timesP mulM b t).map poA ++ [poA (timesP mulM b a[i])] := by
          rw [List.take_succ_eq_append_getElem hlt, List.map_append, List.map_append]; rfl
        have hl : (((a.take i).map fun t => timesP mulM b t).map poA).length = i := by rw [List.length_map, List.length_map, List.length_take]; omega
        generalize a[i] = t at *
        generalize ((a.take i).map fun t => timesP mulM b t).map poA = out at *
        generalize timesP mulM b t = tm at *
        (focus (refine wkap (w_a e1 (w_a e18 (w_a e19 (w_a e20 (w_a e5 (w_a m17 (w_a hg (w_a hl (w_a @l_map w_t))))))))) (w_a c1 w_t) (w_r 0) ?_; (repeat' first | exact w_t | apply w_l); all_goals intros))
        exact ⟨i + 1, ⟨by omega, by exact gW e1, by exact gW e18, by exact gW e19, by exact gS, _, by exact gC, by rw [hsn]; exact gC⟩, by omega⟩
      · have hi2 : i = a.length := by omega
        subst hi2
        rw [List.take_length] at m17
        generalize (a.map fun t => timesP mulM b t).map poA = out at *
        (focus (refine wkax (w_a e1 (w_a e18 (w_a e19 (w_a e20 (w_a e5 (w_a m17 (w_a @l_map w_t))))))) w_t w_t (w_a cs w_t) w_t w_t (w_r 0) ?_; (repeat' first | exact w_t | apply w_l); all_goals intros))
        (all_goals (try simp (disch := omega) only [go_sem, decide_eq_true, decide_eq_false, if_pos, if_neg, Int.reduceAdd, Int.reduceSub, Int.reduceToNat, Int.zero_add])); (all_goals first | done | rfl | (congr 2; first | done | omega | (rw [Bool.eq_iff_iff]; simp only [bool_to_prop, Bool.false_eq_true, iff_true, true_iff, iff_false, false_iff]; omega)) | skip)
    · exact ⟨Nat.zero_le _, by exact gC, by exact gC, by (simp (disch := omega) only [go_sem, List.length_map] <;> repeat' first | rfl | refine ⟨?_, ?_⟩), by exact gC, _, by exact gC, by (simp (disch := omega) only [go_sem, List.take_zero, List.map_nil, List.replicate_zero] <;> repeat' first | rfl | refine ⟨?_, ?_⟩)⟩
/-- The product's parts, as the program lays them. -/
def partsM (p q : Po) : List Po := if q.length < p.length then q.map fun t => timesP mulM p t else p.map fun t => timesP mulM q t
theorem poMul (p q : Po) {j k e f K E : Nat} (hp : PK p j e) (hq : PK q k f) (sp : SrtM p) (sq : SrtM q) (lp : p.length ≤ 1000000) (lq : q.length ≤ 1000000) (hj : j ≤ 1000000) (hk : k ≤ 1000000) (he : e ≤ 16777216) (hf : f ≤ 16777216)
    (ho : SumOk (partsM p q) K E) (hK : K ≤ 1000000) (hE : E ≤ 16777216) :
    Pure Tryz.prog 54 [poA p, poA q] (poA (mlM p q)) := by
  unfold partsM at ho
  by_cases h : q.length < p.length
  · rw [if_pos h] at ho
    exact poMul0 p q q p (.inl ⟨h, rfl, rfl⟩) hq hp sq sp lq lp hk hj hf he ho hK hE
  · rw [if_neg h] at ho
    have := poMul0 p q p q (.inr ⟨h, rfl, rfl⟩) hp hq sp sq lp lq hj hk he hf ho hK hE
    rwa [show mlM q p = mlM p q from mulR_comm ordM mulK sq sp] at this
/-- A list of at most one has no sums but itself. -/
theorem SumOk.one {l : List Po} {K e : Nat} (hl : l.length ≤ 1) (h : ∀ p ∈ l, PK p K e ∧ p.length ≤ 1000000) : SumOk l K e := fun a b => by
  have h0 : PK (sumH ltM []) K e ∧ (sumH ltM []).length ≤ 1000000 := by rw [show sumH ltM [] = [] from by simp [sumH]]; exact ⟨.nil, by simp⟩
  match l, hl, h with
  | [], _, _ => simpa using h0
  | [p], _, h =>
    match a, b with
    | 0, 0 => simpa using h0
    | 0, b + 1 => simp only [List.drop_zero, List.take_succ_cons, List.take_nil]; rw [show sumH ltM [p] = p from by simp [sumH]]; exact h p (.head _)
    | a + 1, b => simpa using h0
theorem poMulVar (p : Po) (v : Nat) {j e : Nat} (hp : PK p j e) (sp : SrtM p) (lp : p.length ≤ 1000000) (hj : j ≤ 999999) (he : e ≤ 16777215) : Pure Tryz.prog 54 [poA p, poA (varM v)] (poA (mlM p (varM v))) := by
  have hv : (varM v).length ≤ 1 := by unfold varM; split <;> simp
  refine poMul p (varM v) hp (varM_pk v) sp (varM_srt v) lp (by omega) (by omega) (by omega) (by omega) (by omega) (K := j + 1) (E := e + 1) ?_ (by omega) (by omega)
  unfold partsM
  split
  · refine SumOk.one (by rw [List.length_map]; exact hv) fun u hu => ?_
    obtain ⟨t, ht, rfl⟩ := List.mem_map.1 hu
    exact ⟨hp.times (fun w hw => by rw [List.mem_singleton] at hw; subst hw; exact varM_pk v _ ht), by rw [timesP_len]; exact lp⟩
  · rename_i h
    refine SumOk.one (by rw [List.length_map]; omega) fun u hu => ?_
    obtain ⟨t, ht, rfl⟩ := List.mem_map.1 hu
    refine ⟨((varM_pk v).times (fun w hw => by rw [List.mem_singleton] at hw; subst hw; exact hp _ ht)).mono (by omega) (by omega), by rw [timesP_len]; omega⟩
theorem poScale (p : Po) (a : Rat) {j k e : Nat} (hp : PK p j e) (ha : Sz a k) (sp : SrtM p) (lp : p.length ≤ 1000000) (hj : j ≤ 1000000) (hk : k ≤ 1000000) (he : e ≤ 16777216) : Pure Tryz.prog 123 [poA p, ratQ a] (poA (sclM a p)) := by
  have cs := ratSign a ha (by omega)
  unfold sclM
  by_cases h : a = 0
  · rw [if_pos h]
    have hz : a.num.sign = 0 := by rw [sgn_ne]; exact h
    refine pure_vkR (r := .v (.slice none 0 0)) ?_ (.nil 4)
    refine pure_intro (tok := 0) Tryz.func123 rfl Tryz.ntmps123 Tryz.results123 Tryz.call123 (by rfl) (by simp) ?_
    (focus (refine wklp (w_a hz w_t) (w_a cs w_t) w_t (w_r 0) ?_; (repeat' first | exact w_t | apply w_l); all_goals intros))
  · rw [if_neg h]
    have hz : ¬ a.num.sign = 0 := by rw [sgn_ne]; exact h
    have ct := poTimesN p (a, []) rfl (j := j) (k := k) (e := e) (f := 0) hp (fun u hu => by rw [List.mem_singleton] at hu; subst hu; exact ⟨ha, by simp, fun i => by show 0 ≤ gI [] i ∧ gI [] i ≤ _; rw [gI_out (Nat.zero_le _)]; omega⟩) sp h can_nil lp hj hk he (by omega)
    rw [times_unit] at ct
    simp only at ct
    generalize scaleP a p = r at *
    generalize a.num.sign = z at *
    refine pure_intro (tok := 0) Tryz.func123 rfl Tryz.ntmps123 Tryz.results123 Tryz.call123 (by rfl) (by simp) ?_
    (focus (refine wklp w_t (w_a cs (w_a ct w_t)) w_t (w_r 0) ?_; (repeat' first | exact w_t | apply w_l); all_goals intros))
theorem poNeg (p : Po) {j e : Nat} (hp : PK p j e) (sp : SrtM p) (lp : p.length ≤ 1000000) (hj : j ≤ 1000000) (he : e ≤ 16777216) : Pure Tryz.prog 89 [poA p] (poA (scaleP (-1) p)) := by
  have c := poScale p (-1) hp ((nat_sz1 1 (by omega)).neg) sp lp hj (by omega) he
  have co := ratOfM
  rw [show sclM (-1) p = scaleP (-1) p from if_neg neg1] at c
  generalize scaleP (-1) p = r at *
  generalize (-1 : Rat) = q at *
  refine pure_intro (tok := 0) Tryz.func89 rfl Tryz.ntmps89 Tryz.results89 Tryz.call89 (by rfl) (by simp) ?_
  (focus (refine wklp w_t (w_a co (w_a c w_t)) w_t (w_r 0) ?_; (repeat' first | exact w_t | apply w_l); all_goals intros))
theorem PK.neg {q : Po} {k e : Nat} (hq : PK q k e) : PK (scaleP (-1) q) k e := fun t ht => by
  obtain ⟨s, hs, rfl⟩ := List.mem_map.1 ht
  refine ⟨?_, (hq s hs).2⟩
  show Sz (s.1 * -1) k
  rw [show s.1 * -1 = -s.1 by grind]
  exact (hq s hs).1.neg
theorem scale_len (a : Rat) (p : Po) : (scaleP a p).length = p.length := by unfold scaleP; simp
theorem poSub (p q : Po) {j k e : Nat} (hp : PK p j e) (hq : PK q k e) (sp : SrtM p) (sq : SrtM q) (lp : p.length ≤ 1000000) (lq : q.length ≤ 1000000) (hj : j ≤ 1000000) (hk : k ≤ 1000000) (he : e ≤ 16777216) :
    Pure Tryz.prog 53 [poA p, poA q] (poA (subM p q)) := by
  have c1 := poNeg q hq sq lq hk he
  have c2 := poAdd p (scaleP (-1) q) hp hq.neg sp (scale_srt sq neg1) lp (by rw [scale_len]; exact lq) hj hk he
  show Pure _ _ _ (poA (addM p (scaleP (-1) q)))
  generalize scaleP (-1) q = n at *
  generalize addM p n = r at *
  refine pure_intro (tok := 0) Tryz.func53 rfl Tryz.ntmps53 Tryz.results53 Tryz.call53 (by rfl) (by simp) ?_
  (focus (refine wklp w_t (w_a c1 (w_a c2 w_t)) w_t (w_r 0) ?_; (repeat' first | exact w_t | apply w_l); all_goals intros))
theorem unit_set (v : Nat) : ((List.replicate (v + 1) (iv 0)).set v (iv 1)) = (unitM v).map iv := by
  unfold unitM
  rw [List.map_append, List.map_replicate, List.replicate_succ', List.set_append_right _ _ (by simp)]
  simp
theorem poSingle (c : Rat) (m : List Int) (h : c ≠ 0) {k : Nat} (hc : Sz c k) (hk : k ≤ 1000000) : Pure Tryz.prog 92 [ratQ c, ivs m] (poA [(c, m)]) := by
  have cs := ratSign c hc (by omega)
  have hz : ¬ c.num.sign = 0 := by rw [sgn_ne]; exact h
  generalize c.num.sign = z at *
  refine pure_intro (tok := 0) Tryz.func92 rfl Tryz.ntmps92 Tryz.results92 Tryz.call92 (by rfl) (by simp) ?_
  (focus (refine wklp w_t (w_a cs w_t) w_t (w_r 0) ?_; (repeat' first | exact w_t | apply w_l); all_goals intros))
theorem poVar (v : Nat) (hv : v < 1000) : Pure Tryz.prog 58 [iv v] (poA (varM v)) := by
  unfold varM
  by_cases h : v < 64
  · rw [if_pos h]
    have c1 := ratOf 1 (by omega)
    rw [show ((1 : Nat) : Rat) = 1 from rfl] at c1
    have c2 := poSingle 1 (unitM v) (by decide) (nat_sz1 1 (by omega)) (by omega)
    have hu : (iv 0 :: List.replicate v (iv 0)).set v (iv 1) = (unitM v).map iv := by rw [← List.replicate_succ]; exact unit_set v
    generalize (1 : Rat) = q at *
    have hl : (List.replicate (v + 1) (iv 0)).length = v + 1 := by simp
    refine pure_intro (tok := 0) Tryz.func58 rfl Tryz.ntmps58 Tryz.results58 Tryz.call58 (by rfl) (by simp) ?_
    (focus (refine wkax (w_a hl (w_a hu w_t)) (w_a c1 w_t) w_t (w_a c2 w_t) w_t w_t (w_r 0) ?_; (repeat' first | exact w_t | apply w_l); all_goals intros))
    (all_goals (try simp (disch := omega) only [go_sem, decide_eq_true, decide_eq_false, if_pos, if_neg, Int.reduceAdd, Int.reduceSub, Int.reduceToNat, Int.zero_add])); (all_goals first | done | rfl | (congr 2; first | done | omega | (rw [Bool.eq_iff_iff]; simp only [bool_to_prop, Bool.false_eq_true, iff_true, true_iff, iff_false, false_iff]; omega)) | skip)
  · rw [if_neg h]
    refine pure_vkR (r := .v (.slice none 0 0)) ?_ (.nil 4)
    refine pure_intro (tok := 0) Tryz.func58 rfl Tryz.ntmps58 Tryz.results58 Tryz.call58 (by rfl) (by simp) ?_
    (focus (refine wklp w_t w_t w_t (w_r 0) ?_; (repeat' first | exact w_t | apply w_l); all_goals intros))
end Go.Proofs.YteiopjkamgmfpaaGreat
end

section
namespace Go.Proofs.YteiopjkamgmfpaaGreat
open Go Go.RowKit Go.Pg Go.Pol
set_option linter.unusedSimpArgs false
set_option linter.unusedVariables false
set_option maxRecDepth 20000
attribute [local go_sem] Tryz.underlying3 Tryz.underlying4 Tryz.underlying53 Tryz.underlying51 Tryz.underlying49 Tryz.underlying113 Tryz.underlying41 Tryz.underlying111 Tryz.underlying42 Tryz.underlying140 sz3 by3 z3 szRat zRat szInt zInt szNat zNat szTerm byTerm zTerm szMono byMono zMono szPoly byPoly zPoly
attribute [-bool_to_prop] Bool.and_eq_decide Bool.or_eq_decide Bool.decide_beq_decide decide_eq_decide
theorem rpLex (a b : List Int) (hs : Sm a) (ht : Sm b) : Pure Tryz.prog 65 [ivs a, ivs b, iv 0] (iv (lexC a b (max a.length b.length))) := by
  have c : Pure Tryz.prog 65 [ivs a, ivs b, iv 0] (iv (cmpI a b 0)) := mrCmp a b 0 hs ht
  have e : cmpI a b 0 = lexC a b (max a.length b.length) := by unfold cmpI; rw [if_neg (by omega)]
  rwa [e] at c
theorem qSign (q : Rat) {k : Nat} (h : Sz q k) (hk : k ≤ 10000000) : Pure Tryz.prog 102 [ratQ q] (.v (.int .i64 q.num.sign)) := by
  have c := zSign q.num (by have := h.1; omega)
  have cn := qNorm q h hk
  generalize q.num.sign = z at *
  refine pure_intro (tok := 0) Tryz.func102 rfl Tryz.ntmps102 Tryz.results102 Tryz.call102 (by rfl) (by simp) ?_
  (focus (refine wklp w_t (w_a cn (w_a c w_t)) w_t (w_r 0) ?_; (repeat' first | exact w_t | apply w_l); all_goals intros))
set_option maxHeartbeats 4000000 in
theorem rpAdd (p q : Po) {j k e : Nat} (hp : PK p j e) (hq : PK q k e) (sp : SrtM p) (sq : SrtM q) (lp : p.length ≤ 1000000) (lq : q.length ≤ 1000000) (hj : j ≤ 1000000) (hk : k ≤ 1000000) (he : e ≤ 16777216) :
    Pure Tryz.prog 64 [poA p, poA q] (poA (addM p q)) := by
  refine pure_intro (tok := 0) Tryz.func64 rfl Tryz.ntmps64 Tryz.results64 Tryz.call64 (by rfl) (by simp) ?_
  (focus (refine wkad (w_a @l_map w_t) w_t w_t ?_; (repeat' first | exact w_t | apply w_l); all_goals intros))
  refine r_frz (Frz.nilOwn (d := 5) 100 4 113 (by exact gC)) ?_
  refine r_loopE (ι := Nat × Nat) (fun x e m => x.1 ≤ p.length ∧ x.2 ≤ q.length ∧ e 0 = poA p ∧ e 1 = poA q ∧ e 6 = iv x.1 ∧ e 7 = iv x.2 ∧ ∃ sv out, e 5 = .own 100 sv ∧ m 100 = some (.row sv 113 4 (out.map tmA) 0) ∧ out.length ≤ x.1 + x.2 ∧ addM p q = out ++ addM (p.drop x.1) (q.drop x.2)) (fun x => p.length + q.length - (x.1 + x.2)) (0, 0) (by rfl) ?_ ?_
  · rintro ⟨i, l⟩ e m ⟨hi, hl, e0, e1, e6, e7, sv, out, e5, em, ho, hs⟩
    simp only at hi hl e6 e7 ho hs
    by_cases hil : i < p.length ∧ l < q.length
    · obtain ⟨hi2, hl2⟩ := hil
      have hg := map_atB tmA hi2
      have hh := map_atB tmA hl2
      have st := addM_step hi2 hl2
      have ms := hp _ (List.getElem_mem hi2)
      have mt := hq _ (List.getElem_mem hl2)
      have m1 := hp.sm he (List.getElem_mem hi2)
      have m2 := hq.sm he (List.getElem_mem hl2)
      have d1 := sp.dom _ (List.getElem_mem hi2)
      have d2 := sq.dom _ (List.getElem_mem hl2)
      generalize p[i] = s at *
      generalize q[l] = t at *
      have cl := rpLex s.2 t.2 m1 m2
      have ca := qAdd s.1 t.1 ms.1 mt.1 (by omega) (by omega)
      have cz := qSign (s.1 + t.1) (ms.1.add mt.1) (by omega)
      have hlen : (out.map tmA).length = out.length := List.length_map ..
      rw [st] at hs
      obtain ⟨s1, s2⟩ := s
      obtain ⟨t1, t2⟩ := t
      simp only at *
      rcases lexM_cases d1 d2 with ⟨h1, h2⟩ | ⟨h1, h1', h2, h3⟩ | ⟨h1, h1', h2⟩
      · have h3 : ¬ ltM t2 s2 := fun h => ordM.irr _ (ordM.tr _ _ _ h h1)
        rw [if_neg h3, if_pos h1] at hs
        rw [h2] at cl
        clear st ms mt m1 m2 d1 d2 ca cz
        (focus (refine wkad (w_a e0 (w_a e1 (w_a e6 (w_a e7 (w_a e5 (w_a em (w_a hg (w_a hh (w_a @l_map w_t))))))))) (w_a cl w_t) (w_a (w_d 8 [(10, iv (-1))] [] []) w_t) ?_; (repeat' first | exact w_t | apply w_l); all_goals intros))
        refine ⟨(i, l + 1), ⟨by simp only; omega, by simp only; omega, by exact gW e0, by exact gW e1, by exact gW e6, by exact gS, _, out ++ [(t1, t2)], by exact gC, by (simp (disch := omega) only [go_sem, List.map_append] <;> repeat' first | rfl | refine ⟨?_, ?_⟩), by simp only [List.length_append, List.length_cons, List.length_nil]; omega, by rw [hs, List.append_assoc]; rfl⟩, by simp only; omega⟩
      · rw [if_neg h1', if_neg h1] at hs
        rw [h3] at cl
        by_cases hz : s1 + t1 = 0
        · rw [if_pos hz] at hs
          have hz2 : (s1 + t1).num.sign = 0 := by rw [sgn_ne]; exact hz
          clear st ms mt m1 m2 d1 d2
          generalize (s1 + t1) = z at *
          (focus (refine wkad (w_a e0 (w_a e1 (w_a e6 (w_a e7 (w_a e5 (w_a em (w_a hg (w_a hh (w_a @l_map (w_a hz2 w_t)))))))))) (w_a cl (w_a ca (w_a cz w_t))) (w_a (w_d 8 [(10, iv 0)] [] []) (w_a (w_d 9 [(10, ratQ z)] [] [9]) w_t)) ?_; (repeat' first | exact w_t | apply w_l); all_goals intros))
          refine ⟨(i + 1, l + 1), ⟨by simp only; omega, by simp only; omega, by exact gW e0, by exact gW e1, by exact gS, by exact gS, _, out, by exact gW e5, by exact gW em, by simp only; omega, hs⟩, by simp only; omega⟩
        · rw [if_neg hz] at hs
          have hz2 : ¬ (s1 + t1).num.sign = 0 := by rw [sgn_ne]; exact hz
          clear st ms mt m1 m2 d1 d2
          generalize (s1 + t1) = z at *
          (focus (refine wkax (w_a e0 (w_a e1 (w_a e6 (w_a e7 (w_a e5 (w_a em (w_a hg (w_a hh (w_a @l_map w_t))))))))) (w_a cl (w_a ca (w_a cz w_t))) (w_a (w_d 8 [(10, iv 0)] [] []) (w_a (w_d 9 [(10, ratQ z)] [] [9]) (w_a (w_d 11 [] [9, 1009] [100, 61]) w_t))) w_t w_t w_t (w_r 0) ?_; (repeat' first | exact w_t | apply w_l); all_goals intros))
          refine ⟨(i + 1, l + 1), ⟨by simp only; omega, by simp only; omega, by exact gW e0, by exact gW e1, by exact gS, by exact gS, _, out ++ [(z, s2)], by exact gC, by (simp (disch := omega) only [go_sem, List.map_append] <;> repeat' first | rfl | refine ⟨?_, ?_⟩), by simp only [List.length_append, List.length_cons, List.length_nil]; omega, by rw [hs, List.append_assoc]; rfl⟩, by simp only; omega⟩
      · rw [if_pos h1] at hs
        rw [h2] at cl
        clear st ms mt m1 m2 d1 d2 ca cz
        (focus (refine wkad (w_a e0 (w_a e1 (w_a e6 (w_a e7 (w_a e5 (w_a em (w_a hg (w_a hh (w_a @l_map w_t))))))))) (w_a cl w_t) (w_a (w_d 8 [(10, iv 1)] [] []) w_t) ?_; (repeat' first | exact w_t | apply w_l); all_goals intros))
        refine ⟨(i + 1, l), ⟨by simp only; omega, by simp only; omega, by exact gW e0, by exact gW e1, by exact gS, by exact gW e7, _, out ++ [(s1, s2)], by exact gC, by (simp (disch := omega) only [go_sem, List.map_append] <;> repeat' first | rfl | refine ⟨?_, ?_⟩), by simp only [List.length_append, List.length_cons, List.length_nil]; omega, by rw [hs, List.append_assoc]; rfl⟩, by simp only; omega⟩
    · rw [addM_end (by omega)] at hs
      by_cases hi2 : i < p.length
      · have hl2 : l = q.length := by omega
        subst hl2
        have hg := map_atB tmA hi2
        have hd : p.drop i = p[i] :: p.drop (i + 1) := List.drop_eq_getElem_cons hi2
        rw [hd] at hs
        have hs : addM p q = (out ++ [p[i]]) ++ addM (p.drop (i + 1)) (q.drop q.length) := by
          rw [addM_end (.inr (Nat.le_refl _)), hs]; simp
        clear hd
        generalize p[i] = s at *
        obtain ⟨s1, s2⟩ := s
        (focus (refine wkad (w_a e0 (w_a e1 (w_a e6 (w_a e7 (w_a e5 (w_a em (w_a hg (w_a @l_map w_t)))))))) w_t w_t ?_; (repeat' first | exact w_t | apply w_l); all_goals intros))
        refine ⟨(i + 1, q.length), ⟨by simp only; omega, by simp only; omega, by exact gW e0, by exact gW e1, by exact gS, by exact gW e7, _, out ++ [(s1, s2)], by exact gC, by (simp (disch := omega) only [go_sem, List.map_append] <;> repeat' first | rfl | refine ⟨?_, ?_⟩), by simp only [List.length_append, List.length_cons, List.length_nil]; omega, hs⟩, by simp only; omega⟩
      · have hi3 : i = p.length := by omega
        subst hi3
        by_cases hl2 : l < q.length
        · have hg := map_atB tmA hl2
          have hd : q.drop l = q[l] :: q.drop (l + 1) := List.drop_eq_getElem_cons hl2
          rw [hd] at hs
          have hs : addM p q = (out ++ [q[l]]) ++ addM (p.drop p.length) (q.drop (l + 1)) := by
            rw [addM_end (.inl (Nat.le_refl _)), hs]; simp
          clear hd
          generalize q[l] = s at *
          obtain ⟨s1, s2⟩ := s
          (focus (refine wkad (w_a e0 (w_a e1 (w_a e6 (w_a e7 (w_a e5 (w_a em (w_a hg (w_a @l_map w_t)))))))) w_t w_t ?_; (repeat' first | exact w_t | apply w_l); all_goals intros))
          refine ⟨(p.length, l + 1), ⟨by simp only; omega, by simp only; omega, by exact gW e0, by exact gW e1, by exact gW e6, by exact gS, _, out ++ [(s1, s2)], by exact gC, by (simp (disch := omega) only [go_sem, List.map_append] <;> repeat' first | rfl | refine ⟨?_, ?_⟩), by simp only [List.length_append, List.length_cons, List.length_nil]; omega, hs⟩, by simp only; omega⟩
        · have hl3 : l = q.length := by omega
          subst hl3
          rw [List.drop_length, List.drop_length, List.append_nil, List.append_nil] at hs
          rw [hs]
          (focus (refine wkld (w_a e0 (w_a e1 (w_a e6 (w_a e7 (w_a e5 (w_a em (w_a @l_map w_t))))))) w_t (w_a em w_t) w_t ?_; (repeat' first | exact w_t | apply w_l); all_goals intros))
  · exact ⟨Nat.zero_le _, Nat.zero_le _, by exact gC, by exact gC, by exact gC, by exact gC, _, [], by exact gC, by (simp (disch := omega) only [go_sem, List.map_nil] <;> repeat' first | rfl | refine ⟨?_, ?_⟩), by simp, by simp⟩
set_option maxHeartbeats 4000000 in
theorem rpTimes (p : Po) (t : Tm) {j k e f : Nat} (hp : PK p j e) (ht : PK [t] k f) (lp : p.length ≤ 1000000) (hj : j ≤ 1000000) (hk : k ≤ 1000000) (he : e ≤ 16777216) (hf : f ≤ 16777216) :
    Pure Tryz.prog 100 [poA p, tmA t] (poA (timesP mulM p t)) := by
  obtain ⟨t1, t2⟩ := t
  refine pure_intro (tok := 0) Tryz.func100 rfl Tryz.ntmps100 Tryz.results100 Tryz.call100 (by rfl) (by simp) ?_
  (focus (refine wkad (w_a @l_map w_t) w_t w_t ?_; (repeat' first | exact w_t | apply w_l); all_goals intros))
  rename_i g3
  refine r_frz (Frz.nilOwn (d := 5) 100 4 113 (by exact gC)) ?_
  refine r_loopE (ι := Nat) (fun i e m => i ≤ p.length ∧ e 3 = .pbox 3 g3 0 ∧ m 3 = some (.box g3 113 [.v (.bool (decide (t1.num < 0))), lim (toL t1.num.natAbs), lim (toL t1.den), ivs t2] false) ∧ e 0 = poA p ∧ e 6 = iv i ∧ ∃ sv, e 5 = .own 100 sv ∧ m 100 = some (.row sv 113 4 ((timesP mulM (p.take i) (t1, t2)).map tmA) 0)) (fun i => p.length - i) 0 (by rfl) ?_ ?_
  · rintro i e m ⟨hi, e3, m3, e0, e6, sv, e5, m11⟩
    by_cases hlt : i < p.length
    · have hg := map_atB tmA hlt
      have hs := poTimes1 (t := (t1, t2)) hlt
      have ms := hp _ (List.getElem_mem hlt)
      have m1 := hp.sm he (List.getElem_mem hlt)
      have m2 := ht.sm hf (.head _)
      have mt := (ht _ (.head _)).1
      have hl : (timesP mulM (p.take i) (t1, t2)).length ≤ 1000000 := by rw [timesP_len, List.length_take]; omega
      generalize p[i] = s at *
      have c1 := qMul s.1 t1 ms.1 mt (by omega) (by omega)
      have c3 : Pure Tryz.prog 158 [ivs s.2, ivs t2] (ivs (mulM s.2 t2)) := mrMul s.2 t2 m1.wd m2.wd
      obtain ⟨s1, s2⟩ := s
      simp only at *
      clear ms m1 m2 mt
      generalize s1 * t1 = z at *
      generalize mulM s2 t2 = w at *
      generalize timesP mulM (p.take i) (t1, t2) = out at *
      (focus (refine wkad (w_a e3 (w_a m3 (w_a e0 (w_a e6 (w_a e5 (w_a m11 (w_a hg (w_a @l_map w_t)))))))) (w_a c1 (w_a c3 w_t)) (w_a (w_d 5 [(8, ratQ z), (16, ivs w)] [19, 1019] [100, 31]) w_t) ?_; (repeat' first | exact w_t | apply w_l); all_goals intros))
      exact ⟨i + 1, ⟨by omega, by exact gW e3, by exact gW m3, by exact gW e0, by exact gS, _, by exact gC, by rw [hs, List.map_append]; exact gC⟩, by omega⟩
    · have hi2 : i = p.length := by omega
      subst hi2
      rw [List.take_length] at m11
      (focus (refine wkld (w_a e3 (w_a m3 (w_a e0 (w_a e6 (w_a e5 (w_a m11 (w_a @l_map w_t))))))) w_t (w_a m11 w_t) w_t ?_; (repeat' first | exact w_t | apply w_l); all_goals intros))
  · exact ⟨Nat.zero_le _, by exact gC, by exact gC, by exact gC, by exact gC, _, by exact gC, by (simp (disch := omega) only [go_sem, List.take_zero, timesP, List.map_nil] <;> repeat' first | rfl | refine ⟨?_, ?_⟩)⟩
theorem scale_take {p : Po} {a : Rat} {i : Nat} (hi : i < p.length) : scaleP a (p.take (i + 1)) = scaleP a (p.take i) ++ [(p[i].1 * a, p[i].2)] := by
  unfold scaleP
  rw [List.take_succ_eq_append_getElem hi, List.map_append]; rfl
set_option maxHeartbeats 4000000 in
theorem rpScale0 (p : Po) (a : Rat) {j k e : Nat} (hp : PK p j e) (ha : Sz a k) (lp : p.length ≤ 1000000) (hj : j ≤ 1000000) (hk : k ≤ 1000000) (h : a ≠ 0) :
    Pure Tryz.prog 156 [poA p, ratQ a] (poA (scaleP a p)) := by
  have cs := qSign a ha (by omega)
  have hz : ¬ a.num.sign = 0 := by rw [sgn_ne]; exact h
  generalize a.num.sign = sg at *
  refine pure_intro (tok := 0) Tryz.func156 rfl Tryz.ntmps156 Tryz.results156 Tryz.call156 (by rfl) (by simp) ?_
  (focus (refine wkad (w_a @l_map w_t) w_t w_t ?_; (repeat' first | exact w_t | apply w_l); all_goals intros))
  rename_i g3
  refine r_frz (Frz.nilOwn (d := 5) 100 4 113 (by exact gC)) ?_
  refine r_loopE (ι := Nat) (fun i e m => i ≤ p.length ∧ e 3 = .pbox 3 g3 0 ∧ m 3 = some (.box g3 53 [.v (.bool (decide (a.num < 0))), lim (toL a.num.natAbs), lim (toL a.den)] false) ∧ e 0 = poA p ∧ e 6 = iv i ∧ ∃ sv, e 5 = .own 100 sv ∧ m 100 = some (.row sv 113 4 ((scaleP a (p.take i)).map tmA) 0)) (fun i => p.length - i) 0 (by rfl) ?_ ?_
  · rintro i e m ⟨hi, e3, m3, e0, e6, sv, e5, m11⟩
    by_cases hlt : i < p.length
    · have hg := map_atB tmA hlt
      have hs := scale_take (a := a) hlt
      have ms := (hp _ (List.getElem_mem hlt)).1
      have hl : (scaleP a (p.take i)).length ≤ 1000000 := by rw [scale_len, List.length_take]; omega
      generalize p[i] = s at *
      have c1 := qMul s.1 a ms ha (by omega) (by omega)
      obtain ⟨s1, s2⟩ := s
      simp only at *
      clear ms
      generalize s1 * a = z at *
      generalize scaleP a (p.take i) = out at *
      (focus (refine wkad (w_a e3 (w_a m3 (w_a e0 (w_a e6 (w_a e5 (w_a m11 (w_a hg (w_a @l_map w_t)))))))) (w_a c1 (w_a cs w_t)) (w_a (w_d 5 [(7, ratQ z)] [15, 1015] [100, 32]) w_t) ?_; (repeat' first | exact w_t | apply w_l); all_goals intros))
      exact ⟨i + 1, ⟨by omega, by exact gW e3, by exact gW m3, by exact gW e0, by exact gS, _, by exact gC, by rw [hs, List.map_append]; exact gC⟩, by omega⟩
    · have hi2 : i = p.length := by omega
      subst hi2
      rw [List.take_length] at m11
      (focus (refine wkld (w_a e3 (w_a m3 (w_a e0 (w_a e6 (w_a e5 (w_a m11 (w_a @l_map w_t))))))) w_t (w_a m11 w_t) w_t ?_; (repeat' first | exact w_t | apply w_l); all_goals intros))
  · exact ⟨Nat.zero_le _, by exact gC, by exact gC, by exact gC, by exact gC, _, by exact gC, by (simp (disch := omega) only [go_sem, List.take_zero, scaleP, List.map_nil] <;> repeat' first | rfl | refine ⟨?_, ?_⟩)⟩
theorem rpNeg (p : Po) {j e : Nat} (hp : PK p j e) (lp : p.length ≤ 1000000) (hj : j ≤ 1000000) : Pure Tryz.prog 99 [poA p] (poA (scaleP (-1) p)) := by
  have c := rpScale0 p (-1) hp ((nat_sz1 1 (by omega)).neg) lp hj (by omega) neg1
  have co := qOfM
  generalize scaleP (-1) p = r at *
  generalize (-1 : Rat) = q at *
  refine pure_intro (tok := 0) Tryz.func99 rfl Tryz.ntmps99 Tryz.results99 Tryz.call99 (by rfl) (by simp) ?_
  (focus (refine wklp w_t (w_a co (w_a c w_t)) w_t (w_r 0) ?_; (repeat' first | exact w_t | apply w_l); all_goals intros))
theorem rpSub (p q : Po) {j k e : Nat} (hp : PK p j e) (hq : PK q k e) (sp : SrtM p) (sq : SrtM q) (lp : p.length ≤ 1000000) (lq : q.length ≤ 1000000) (hj : j ≤ 1000000) (hk : k ≤ 1000000) (he : e ≤ 16777216) :
    Pure Tryz.prog 60 [poA p, poA q] (poA (subM p q)) := by
  have c1 := rpNeg q hq lq hk
  have c2 := rpAdd p (scaleP (-1) q) hp hq.neg sp (scale_srt sq neg1) lp (by rw [scale_len]; exact lq) hj hk he
  show Pure _ _ _ (poA (addM p (scaleP (-1) q)))
  generalize scaleP (-1) q = n at *
  generalize addM p n = r at *
  refine pure_intro (tok := 0) Tryz.func60 rfl Tryz.ntmps60 Tryz.results60 Tryz.call60 (by rfl) (by simp) ?_
  (focus (refine wklp w_t (w_a c1 (w_a c2 w_t)) w_t (w_r 0) ?_; (repeat' first | exact w_t | apply w_l); all_goals intros))
theorem mulR_take {p q : Po} {i : Nat} (hi : i < q.length) : mlM p (q.take (i + 1)) = addM (mlM p (q.take i)) (timesP mulM p q[i]) := by
  unfold mlM mulR
  rw [List.take_succ_eq_append_getElem hi, List.foldl_append]; rfl
theorem srt_take {q : Po} (h : SrtM q) (i : Nat) : SrtM (q.take i) := ⟨fun t ht => h.1 t (List.mem_of_mem_take ht), List.Pairwise.sublist (List.take_sublist i q) h.2⟩
set_option maxHeartbeats 4000000 in
theorem rpMul (p q : Po) {j k e f K E : Nat} (hp : PK p j e) (hq : PK q k f) (sp : SrtM p) (sq : SrtM q) (lp : p.length ≤ 1000000) (lq : q.length ≤ 1000000) (hj : j ≤ 500000) (hk : k ≤ 500000) (he : e ≤ 8000000) (hf : f ≤ 8000000)
    (ho : ∀ i, PK (mlM p (q.take i)) K E ∧ (mlM p (q.take i)).length ≤ 1000000) (hK : K ≤ 1000000) (hE : E ≤ 16777216) :
    Pure Tryz.prog 61 [poA p, poA q] (poA (mlM p q)) := by
  refine pure_intro (tok := 0) Tryz.func61 rfl Tryz.ntmps61 Tryz.results61 Tryz.call61 (by rfl) (by simp) ?_
  (focus (refine wkap (w_a @l_map w_t) w_t (w_r 0) ?_; (repeat' first | exact w_t | apply w_l); all_goals intros))
  refine r_frz (Frz.nil (d := 5) 4 (by exact gC)) ?_
  refine r_loopE (ι := Nat) (fun i e' m => i ≤ q.length ∧ e' 0 = poA p ∧ e' 1 = poA q ∧ e' 6 = iv i ∧ e' 5 = poA (mlM p (q.take i))) (fun i => q.length - i) 0 (by rfl) ?_ ?_
  · rintro i e' m ⟨hi, e0, e1, e6, e5⟩
    by_cases hlt : i < q.length
    · have hg := map_atB tmA hlt
      have ht : PK [q[i]] k f := fun u hu => by rw [List.mem_singleton] at hu; subst hu; exact hq _ (List.getElem_mem hlt)
      have c1 := rpTimes p q[i] hp ht lp (by omega) (by omega) (by omega) (by omega)
      have c2 := rpAdd (mlM p (q.take i)) (timesP mulM p q[i]) (k := j + k) (e := max E (e + f)) ((ho i).1.mono (Nat.le_refl _) (by omega)) ((hp.times ht).mono (Nat.le_refl _) (by omega)) (mulR_srt ordM mulK sp (srt_take sq i)) (times_srt mulK sp (sq.1 _ (List.getElem_mem hlt)).1 (sq.1 _ (List.getElem_mem hlt)).2) (ho i).2 (by rw [timesP_len]; exact lp) hK (by omega) (by omega)
      rw [← mulR_take hlt] at c2
      generalize q[i] = t at *
      obtain ⟨t1, t2⟩ := t
      generalize timesP mulM p (t1, t2) = w at *
      generalize mlM p (q.take i) = out at *
      generalize hout : mlM p (q.take (i + 1)) = out' at *
      (focus (refine wkap (w_a e0 (w_a e1 (w_a e6 (w_a e5 (w_a hg (w_a @l_map w_t)))))) (w_a c1 (w_a c2 w_t)) (w_r 0) ?_; (repeat' first | exact w_t | apply w_l); all_goals intros))
      exact ⟨i + 1, ⟨by omega, by exact gW e0, by exact gW e1, by exact gS, by rw [hout]; exact gC⟩, by omega⟩
    · have hi2 : i = q.length := by omega
      subst hi2
      rw [List.take_length] at e5
      (focus (refine wklp (w_a e0 (w_a e1 (w_a e6 (w_a e5 (w_a @l_map w_t))))) w_t w_t (w_r 0) ?_; (repeat' first | exact w_t | apply w_l); all_goals intros))
  · exact ⟨Nat.zero_le _, by exact gC, by exact gC, by exact gC, by (simp (disch := omega) only [go_sem, List.take_zero, mlM, mulR, List.foldl_nil, List.map_nil] <;> repeat' first | rfl | refine ⟨?_, ?_⟩)⟩
theorem rpAddNil (c : Rat) (m : List Int) {k : Nat} (hc : Sz c k) (hk : k ≤ 1000000) : Pure Tryz.prog 86 [.v (.slice none 0 0), ratQ c, ivs m] (poA (if c = 0 then [] else [(c, m)])) := by
  have cs := qSign c hc (by omega)
  have cn := qNorm c hc (by omega)
  by_cases h : c = 0
  · rw [if_pos h]
    have hz : c.num.sign = 0 := by rw [sgn_ne]; exact h
    refine pure_intro (tok := 0) Tryz.func86 rfl Tryz.ntmps86 Tryz.results86 Tryz.call86 (by rfl) (by simp) ?_
    (focus (refine wkax (w_a hz w_t) (w_a cs w_t) w_t w_t w_t w_t (w_r 2) ?_; (repeat' first | exact w_t | apply w_l); all_goals intros))
    (all_goals (try simp (disch := omega) only [go_sem, decide_eq_true, decide_eq_false, if_pos, if_neg, Int.reduceAdd, Int.reduceSub, Int.reduceToNat, Int.zero_add])); (all_goals first | done | rfl | (congr 2; first | done | omega | (rw [Bool.eq_iff_iff]; simp only [bool_to_prop, Bool.false_eq_true, iff_true, true_iff, iff_false, false_iff]; omega)) | skip)
  · rw [if_neg h]
    have hz : ¬ c.num.sign = 0 := by rw [sgn_ne]; exact h
    generalize c.num.sign = z at *
    refine pure_intro (tok := 0) Tryz.func86 rfl Tryz.ntmps86 Tryz.results86 Tryz.call86 (by rfl) (by simp) ?_
    (focus (refine wkax w_t (w_a cs (w_a cn w_t)) w_t w_t w_t w_t (w_r 2) ?_; (repeat' first | exact w_t | apply w_l); all_goals intros))
    (all_goals (try simp (disch := omega) only [go_sem, decide_eq_true, decide_eq_false, if_pos, if_neg, Int.reduceAdd, Int.reduceSub, Int.reduceToNat, Int.zero_add])); (all_goals first | done | rfl | (congr 2; first | done | omega | (rw [Bool.eq_iff_iff]; simp only [bool_to_prop, Bool.false_eq_true, iff_true, true_iff, iff_false, false_iff]; omega)) | skip)
theorem rpVar (v : Nat) (hv : v < 1000) : Pure Tryz.prog 62 [iv v] (poA (varM v)) := by
  unfold varM
  by_cases h : v < 64
  · rw [if_pos h]
    have c1 := qOf 1 (by omega)
    rw [show ((1 : Nat) : Rat) = 1 from rfl] at c1
    have c2 := rpAddNil 1 (unitM v) (nat_sz1 1 (by omega)) (by omega)
    rw [if_neg (show (1 : Rat) ≠ 0 by decide)] at c2
    have hu : (iv 0 :: List.replicate v (iv 0)).set v (iv 1) = (unitM v).map iv := by rw [← List.replicate_succ]; exact unit_set v
    generalize (1 : Rat) = q at *
    have hl : (List.replicate (v + 1) (iv 0)).length = v + 1 := by simp
    refine pure_intro (tok := 0) Tryz.func62 rfl Tryz.ntmps62 Tryz.results62 Tryz.call62 (by rfl) (by simp) ?_
    (focus (refine wkax (w_a hl (w_a hu w_t)) (w_a c1 w_t) w_t (w_a c2 w_t) w_t w_t (w_r 0) ?_; (repeat' first | exact w_t | apply w_l); all_goals intros))
    (all_goals (try simp (disch := omega) only [go_sem, decide_eq_true, decide_eq_false, if_pos, if_neg, Int.reduceAdd, Int.reduceSub, Int.reduceToNat, Int.zero_add])); (all_goals first | done | rfl | (congr 2; first | done | omega | (rw [Bool.eq_iff_iff]; simp only [bool_to_prop, Bool.false_eq_true, iff_true, true_iff, iff_false, false_iff]; omega)) | skip)
  · rw [if_neg h]
    refine pure_vkR (r := .v (.slice none 0 0)) ?_ (.nil 4)
    refine pure_intro (tok := 0) Tryz.func62 rfl Tryz.ntmps62 Tryz.results62 Tryz.call62 (by rfl) (by simp) ?_
    (focus (refine wklp w_t w_t w_t (w_r 0) ?_; (repeat' first | exact w_t | apply w_l); all_goals intros))
theorem rpConst (c : Rat) {k : Nat} (hc : Sz c k) (hk : k ≤ 1000000) : Pure Tryz.prog 45 [ratQ c] (poA (if c = 0 then [] else [(c, [])])) := by
  have c2 := rpAddNil c [] hc hk
  have c2 := pure_vkA c2 (.cons (.refl _) (.cons (.refl _) (.cons (.nil 1) .nil)))
  generalize (if c = 0 then [] else [(c, [])]) = r at *
  refine pure_intro (tok := 0) Tryz.func45 rfl Tryz.ntmps45 Tryz.results45 Tryz.call45 (by rfl) (by simp) ?_
  (focus (refine wklp w_t (w_a c2 w_t) w_t (w_r 0) ?_; (repeat' first | exact w_t | apply w_l); all_goals intros))
theorem cmpQ_self (a : Rat) : cmpQ a a = 0 := by
  unfold cmpQ
  rw [if_neg (Rat.lt_irrefl), if_neg (Rat.lt_irrefl)]
theorem cmpQ_eq {a b : Rat} (h : cmpQ a b = 0) : a = b := by
  unfold cmpQ at h
  split at h
  · omega
  · split at h
    · omega
    · exact Rat.le_antisymm (Rat.not_lt.1 ‹_›) (Rat.not_lt.1 ‹_›)
def cmpT (s t : Tm) : Int := if lexC s.2 t.2 (max s.2.length t.2.length) ≠ 0 then lexC s.2 t.2 (max s.2.length t.2.length) else cmpQ s.1 t.1
def cmpPo : Po → Po → Int
  | [], [] => 0
  | [], _ :: _ => -1
  | _ :: _, [] => 1
  | s :: p, t :: q => if cmpT s t ≠ 0 then cmpT s t else cmpPo p q
theorem cmpT_zero {s t : Tm} (ds : Can s.2) (dt : Can t.2) : cmpT s t = 0 ↔ s = t := by
  unfold cmpT
  constructor
  · intro h
    split at h
    · rename_i h1; exact absurd h h1
    · rename_i h1
      rcases lexM_cases ds dt with ⟨_, h2⟩ | ⟨_, _, h2, _⟩ | ⟨_, _, h2⟩
      · omega
      · exact Prod.ext (cmpQ_eq h) h2
      · omega
  · rintro rfl
    rw [if_neg (by rw [lexC_zero _ fun j _ => rfl]; simp), cmpQ_self]
theorem cmpPo_zero : ∀ {p q : Po}, (∀ t ∈ p, Can t.2) → (∀ t ∈ q, Can t.2) → (cmpPo p q = 0 ↔ p = q)
  | [], [], _, _ => by simp [cmpPo]
  | [], _ :: _, _, _ => by simp [cmpPo]
  | _ :: _, [], _, _ => by simp [cmpPo]
  | s :: p, t :: q, hp, hq => by
    have h1 := cmpT_zero (hp s (.head _)) (hq t (.head _))
    have h2 := cmpPo_zero (p := p) (q := q) (fun u hu => hp u (.tail _ hu)) (fun u hu => hq u (.tail _ hu))
    unfold cmpPo
    by_cases h : cmpT s t = 0
    · rw [if_neg (by simpa using h), h2, h1.1 h]; simp
    · rw [if_pos h]
      constructor
      · intro h3; exact absurd h3 h
      · intro h3; cases h3; exact absurd (h1.2 rfl) h
theorem cmpPo_len {p q : Po} {i : Nat} (h : p.length ≤ i ∨ q.length ≤ i) : cmpPo (p.drop i) (q.drop i) = if (p.drop i).length < (q.drop i).length then -1 else if (q.drop i).length < (p.drop i).length then 1 else 0 := by
  rcases h with h | h
  · rw [List.drop_eq_nil_of_le h]
    cases q.drop i <;> simp [cmpPo]
  · rw [List.drop_eq_nil_of_le h]
    cases p.drop i <;> simp [cmpPo]
set_option maxHeartbeats 4000000 in
theorem rpCmp (p q : Po) {j k e f : Nat} (hp : PK p j e) (hq : PK q k f) (lp : p.length ≤ 1000000) (lq : q.length ≤ 1000000) (hj : j ≤ 2000000) (hk : k ≤ 2000000) (he : e ≤ 16777216) (hf : f ≤ 16777216) :
    Pure Tryz.prog 28 [poA p, poA q] (iv (cmpPo p q)) := by
  refine pure_intro (tok := 0) Tryz.func28 rfl Tryz.ntmps28 Tryz.results28 Tryz.call28 (by rfl) (by simp) ?_
  (focus (refine wkad (w_a @l_map w_t) w_t w_t ?_; (repeat' first | exact w_t | apply w_l); all_goals intros))
  refine r_loopE (ι := Nat) (fun i e m => i ≤ p.length ∧ i ≤ q.length ∧ e 0 = poA p ∧ e 1 = poA q ∧ e 5 = iv i ∧ cmpPo p q = cmpPo (p.drop i) (q.drop i)) (fun i => p.length - i) 0 (by rfl) ?_ ?_
  · rintro i e m ⟨hi, hl, e0, e1, e5, hs⟩
    by_cases hil : i < p.length ∧ i < q.length
    · obtain ⟨hi2, hl2⟩ := hil
      have hg := map_atB tmA hi2
      have hh := map_atB tmA hl2
      have cl := rpLex p[i].2 q[i].2 (hp.sm he (List.getElem_mem hi2)) (hq.sm hf (List.getElem_mem hl2))
      have cq := qCmp p[i].1 q[i].1 (hp _ (List.getElem_mem hi2)).1 (hq _ (List.getElem_mem hl2)).1 (by omega) (by omega)
      rw [List.drop_eq_getElem_cons hi2, List.drop_eq_getElem_cons hl2, cmpPo, cmpT] at hs
      generalize p[i] = s at *
      generalize q[i] = t at *
      obtain ⟨s1, s2⟩ := s
      obtain ⟨t1, t2⟩ := t
      simp only at *
      generalize lexC s2 t2 (max s2.length t2.length) = x at *
      generalize cmpQ s1 t1 = y at *
      by_cases hx : x = 0
      · rw [if_neg (show ¬ x ≠ 0 by omega)] at hs
        by_cases hy : y = 0
        · rw [if_neg (by omega)] at hs
          (focus (refine wkad (w_a e0 (w_a e1 (w_a e5 (w_a hg (w_a hh (w_a @l_map w_t)))))) (w_a cl (w_a cq w_t)) (w_a (w_d 4 [(10, iv x)] [] []) (w_a (w_d 7 [(10, iv y)] [] []) w_t)) ?_; (repeat' first | exact w_t | apply w_l); all_goals intros))
          exact ⟨i + 1, ⟨by omega, by omega, by exact gW e0, by exact gW e1, by exact gS, hs⟩, by omega⟩
        · rw [if_pos hy] at hs
          rw [hs]
          (focus (refine wkld (w_a e0 (w_a e1 (w_a e5 (w_a hg (w_a hh (w_a @l_map w_t)))))) (w_a cl (w_a cq w_t)) w_t (w_a (w_d 4 [(10, iv x)] [] []) (w_a (w_d 7 [(10, iv y)] [] []) w_t)) ?_; (repeat' first | exact w_t | apply w_l); all_goals intros))
      · rw [if_pos hx, if_pos hx] at hs
        rw [hs]
        (focus (refine wkld (w_a e0 (w_a e1 (w_a e5 (w_a hg (w_a hh (w_a @l_map w_t)))))) (w_a cl w_t) w_t (w_a (w_d 4 [(10, iv x)] [] []) w_t) ?_; (repeat' first | exact w_t | apply w_l); all_goals intros))
    · rw [cmpPo_len (by omega), List.length_drop, List.length_drop] at hs
      rw [hs]
      (focus (refine wkld (w_a e0 (w_a e1 (w_a e5 (w_a @l_map w_t)))) w_t w_t w_t ?_; (repeat' first | exact w_t | apply w_l); all_goals intros))
  · exact ⟨Nat.zero_le _, Nat.zero_le _, by exact gC, by exact gC, by exact gC, by simp⟩
theorem rpEqual (p q : Po) {j k e f : Nat} (hp : PK p j e) (hq : PK q k f) (dp : ∀ t ∈ p, Can t.2) (dq : ∀ t ∈ q, Can t.2) (lp : p.length ≤ 1000000) (lq : q.length ≤ 1000000) (hj : j ≤ 2000000) (hk : k ≤ 2000000) (he : e ≤ 16777216) (hf : f ≤ 16777216) :
    Pure Tryz.prog 10 [poA p, poA q] (.v (.bool (decide (p = q)))) := by
  have c := rpCmp p q hp hq lp lq hj hk he hf
  have h := cmpPo_zero dp dq
  rw [show decide (p = q) = decide (cmpPo p q = 0) from by rw [Bool.eq_iff_iff, decide_eq_true_eq, decide_eq_true_eq, h]]
  generalize cmpPo p q = z at *
  clear h
  refine pure_intro (tok := 0) Tryz.func10 rfl Tryz.ntmps10 Tryz.results10 Tryz.call10 (by rfl) (by simp) ?_
  (focus (refine wklp w_t (w_a c w_t) w_t (w_r 0) ?_; (repeat' first | exact w_t | apply w_l); all_goals intros))
end Go.Proofs.YteiopjkamgmfpaaGreat
end

section
namespace Go.Proofs.YteiopjkamgmfpaaGreat
open Go Go.RowKit Go.Pg
set_option linter.unusedSimpArgs false
set_option linter.unusedVariables false
set_option maxRecDepth 20000
attribute [-bool_to_prop] Bool.and_eq_decide Bool.or_eq_decide Bool.decide_beq_decide decide_eq_decide
theorem szPtrB : szOf Tryz.prog 118 = some 1 := by kernel_rfl
theorem zPtrB : zeroOf Tryz.prog 118 = some (.pointer none) := by kernel_rfl
theorem szFnC : szOf Tryz.prog 160 = some 1 := by kernel_rfl
theorem zFnC : zeroOf Tryz.prog 160 = some (.nilFunc) := by kernel_rfl
end Go.Proofs.YteiopjkamgmfpaaGreat
end

section
namespace Go.Proofs.YteiopjkamgmfpaaGreat
open Go Go.RowKit Go.Pg Go.Pol
set_option linter.unusedSimpArgs false
set_option linter.unusedVariables false
set_option maxRecDepth 20000
attribute [local go_sem] Tryz.underlying3 Tryz.underlying4 Tryz.underlying129 Tryz.underlying9 Tryz.underlying26 Tryz.underlying35 Tryz.underlying53 Tryz.underlying51 Tryz.underlying49 Tryz.underlying55 Tryz.underlying22 Tryz.underlying25 Tryz.underlying107 Tryz.underlying32 Tryz.underlying69 Tryz.underlying31 Tryz.underlying34 Tryz.underlying120 Tryz.underlying121 Tryz.underlying42 Tryz.underlying113 Tryz.underlying118 Tryz.underlying160 sz3 by3 z3 szB zB szErr zErr szStr byStr zStr szRat zRat szInt zInt szNat zNat szStep byStep zStep szFig zFig szSlI zSlI szSlS zSlS szVar byVar zVar szSlV zSlV szCoord byCoord zCoord szSlC zSlC szFrame zFrame szCBld byCBld zCBld szCVec byCVec zCVec szPoly byPoly zPoly szTerm zTerm szPtrB zPtrB szFnC zFnC
attribute [-bool_to_prop] Bool.and_eq_decide Bool.or_eq_decide Bool.decide_beq_decide decide_eq_decide
theorem Sub.nil (m : Nat) : Sub (.v (.slice none 0 0)) (.sl m []) := fun w imm x h => by
  rw [h.v_inv]
  exact .pure ((Wk.nil m).rd (.v _))
set_option maxHeartbeats 2000000 in
theorem cbVariable (σ : Mem) (KB KC KV g : Nat) (svC svV : Value) (vs : List Vt) (fr : Nat) (kind step number : Int) (hB : σ KB = some (.box g 120 [.own KC svC, .own KV svV, iv fr] false)) (hV : σ KV = some (.row svV 107 3 (vs.map Vt.av) 0)) (hl : vs.length ≤ 200) (hBV : KB ≠ KV) :
    ACall Tryz.prog 124 [.pbox KB g 0, iv kind, iv step, iv number] σ fun r σ' => ∃ sv, r = poA (varM vs.length) ∧ σ' = upd (upd σ KV (some (.row sv 107 3 ((vs ++ [(kind, step, number)]).map Vt.av) 0))) KB (some (.box g 120 [.own KC svC, .own KV sv, iv fr] false)) := by
  have mB := lents_at hB
  have mV := lents_at hV
  have cv := poVar vs.length (by omega)
  have hln : (vs.map Vt.av).length = vs.length := List.length_map ..
  have hm1 : ((vs.length + 1 : Nat) : Int) - 1 = (vs.length : Int) := by omega
  simp only [Ent.sh, AV.shL, AV.sh] at mB mV
  simp only [List.map_append, List.map_cons, List.map_nil]
  refine acall_lents Tryz.func124 rfl Tryz.ntmps124 Tryz.results124 Tryz.call124 (by rfl) (by simp) ?_
  (focus (refine wkap (w_a mB (w_a mV (w_a hln (w_a hm1 (w_a @l_app w_t))))) (w_a cv w_t) (w_r 0) ?_; (repeat' first | exact w_t | apply w_l); all_goals intros))
  simp (disch := omega) only [go_sem]
  rename_i sv0 sv1
  refine backS (Sub.refl _) ⟨sv1, rfl, rfl⟩ ?_
  (repeat' (first | exact Agr.start _ | (refine Agr.own ?_ (by omega)) | (refine Agr.put ?_ rfl rfl) | (refine Agr.mark ?_ (by omega)) | (rw [List.map_append]; rfl)))
theorem Sub.agg2 {a b a' b' : AV} (h : Sub a a') (k : Sub b b') : Sub (.agg [a, b]) (.agg [a', b']) := Sub.agg _ _ rfl fun j x y h1 h2 => by
  match j with
  | 0 => simp at h1 h2; subst h1; subst h2; exact h
  | 1 => simp at h1 h2; subst h1; subst h2; exact k
  | j + 2 => simp at h1
theorem upd_same' {σ : Mem} {k : Nat} {e : Ent} (h : σ k = some e) : upd σ k (some e) = σ := by
  funext j; rw [upd_at]; split
  · subst_vars; exact h.symm
  · rfl
set_option maxHeartbeats 4000000 in
theorem cbPoint (σ : Mem) (KB KC KV g : Nat) (svC svV : Value) (vs : List Vt) (fr : Nat) (i : Nat) (hB : σ KB = some (.box g 120 [.own KC svC, .own KV svV, iv fr] false)) (hV : σ KV = some (.row svV 107 3 (vs.map Vt.av) 0)) (hl : vs.length ≤ 100) (hBV : KB ≠ KV) (hf : fr ≤ 1000) :
    ACall Tryz.prog 121 [.pbox KB g 0, iv i] σ fun r σ' => ∃ sv, r = coA (if fr = 0 then ([], []) else if fr = 1 then (varM vs.length, []) else (varM vs.length, varM (vs.length + 1))) ∧
      σ' = upd (upd σ KV (some (.row sv 107 3 ((vs ++ (if fr = 0 then [] else if fr = 1 then [(1, (i : Int), 0)] else [(1, (i : Int), 0), (1, (i : Int), 1)])).map Vt.av) 0))) KB (some (.box g 120 [.own KC svC, .own KV sv, iv (fr + 1 : Nat)] false)) := by
  have mB := lents_at hB
  have mV := lents_at hV
  simp only [Ent.sh, AV.shL, AV.sh] at mB mV
  by_cases h0 : fr = 0
  · subst h0
    simp only [if_true, List.append_nil]
    refine acall_lents Tryz.func121 rfl Tryz.ntmps121 Tryz.results121 Tryz.call121 (by rfl) (by simp) ?_
    (focus (refine wkap (w_a mB (w_a mV w_t)) w_t (w_r 0) ?_; (repeat' first | exact w_t | apply w_l); all_goals intros))
    simp (disch := omega) only [go_sem]
    refine backS (Sub.agg2 (Sub.nil 4) (Sub.nil 4)) ⟨svV, rfl, rfl⟩ ?_
    rw [upd_same' hV]
    (repeat' (first | exact Agr.start _ | (refine Agr.own ?_ (by omega)) | (refine Agr.put ?_ rfl rfl) | (refine Agr.mark ?_ (by omega)) | (rw [List.map_append]; rfl)))
  · by_cases h1 : fr = 1
    · subst h1
      simp only [if_neg h0, if_true]
      refine acall_lents Tryz.func121 rfl Tryz.ntmps121 Tryz.results121 Tryz.call121 (by rfl) (by simp) ?_
      (focus (refine wkap (w_a mB (w_a mV w_t)) w_t (w_r 0) ?_; (repeat' first | exact w_t | apply w_l); all_goals intros))
      refine o_fresh (cbVariable _ (KB + 1000) (KC + 1000) (KV + 1000) g svC svV vs 2 1 (i : Int) 0 (by (simp (disch := omega) only [go_sem, mB, mV, if_neg, if_pos] <;> repeat' first | rfl | refine ⟨?_, ?_⟩)) (by (simp (disch := omega) only [go_sem, mB, mV, if_neg, if_pos, List.map_append, List.map_cons, List.map_nil] <;> repeat' first | rfl | refine ⟨?_, ?_⟩)) (by first | omega | (simp; omega)) (by omega)) ?_
      intro sv1
      (focus (refine wkap (w_a mB (w_a mV w_t)) w_t (w_r 0) ?_; (repeat' first | exact w_t | apply w_l); all_goals intros))
      simp (disch := omega) only [go_sem]
      refine backS (Sub.agg2 (Sub.refl _) (Sub.nil 4)) ⟨sv1, rfl, rfl⟩ ?_
      simp only [List.map_append, List.map_cons, List.map_nil]
      intro k
      by_cases hk1 : k = KB
      · rw [hk1]
        simp (disch := omega) only [upd_at, if_pos, if_neg, Option.map_some, Ent.sh, AV.shL, AV.sh]
        try rfl
      · by_cases hk2 : k = KV
        · rw [hk2]
          simp (disch := omega) only [upd_at, if_pos, if_neg, Option.map_some, Ent.sh, AV.shL, AV.sh]
          try rfl
        · simp (disch := omega) only [upd_at, if_neg]
          exact Agr.start σ k
    · simp only [if_neg h0, if_neg h1]
      have hl1 : (vs ++ [((1 : Int), (i : Int), (0 : Int))]).length = vs.length + 1 := by simp
      refine acall_lents Tryz.func121 rfl Tryz.ntmps121 Tryz.results121 Tryz.call121 (by rfl) (by simp) ?_
      (focus (refine wkap (w_a mB (w_a mV (w_a @cast_succ w_t))) w_t (w_r 0) ?_; (repeat' first | exact w_t | apply w_l); all_goals intros))
      refine o_fresh (cbVariable _ (KB + 1000) (KC + 1000) (KV + 1000) g svC svV vs (fr + 1) 1 (i : Int) 0 (by (simp (disch := omega) only [go_sem, mB, mV, if_neg, if_pos] <;> repeat' first | rfl | refine ⟨?_, ?_⟩)) (by (simp (disch := omega) only [go_sem, mB, mV, if_neg, if_pos, List.map_append, List.map_cons, List.map_nil] <;> repeat' first | rfl | refine ⟨?_, ?_⟩)) (by first | omega | (simp; omega)) (by omega)) ?_
      intro sv1
      (focus (refine wkap (w_a mB (w_a mV (w_a @cast_succ w_t))) w_t (w_r 0) ?_; (repeat' first | exact w_t | apply w_l); all_goals intros))
      refine o_fresh (cbVariable _ (KB + 1000) (KC + 1000) (KV + 1000) g svC sv1 (vs ++ [(1, (i : Int), 0)]) (fr + 1) 1 (i : Int) 1 (by (simp (disch := omega) only [go_sem, mB, mV, if_neg, if_pos] <;> repeat' first | rfl | refine ⟨?_, ?_⟩)) (by (simp (disch := omega) only [go_sem, mB, mV, if_neg, if_pos, List.map_append, List.map_cons, List.map_nil] <;> repeat' first | rfl | refine ⟨?_, ?_⟩)) (by first | omega | (simp; omega)) (by omega)) ?_
      intro sv2
      (focus (refine wkap (w_a mB (w_a mV (w_a hl1 w_t))) w_t (w_r 0) ?_; (repeat' first | exact w_t | apply w_l); all_goals intros))
      simp (disch := omega) only [go_sem, hl1]
      refine backS (Sub.refl _) ⟨sv2, rfl, rfl⟩ ?_
      simp only [List.append_assoc, List.cons_append, List.nil_append]
      intro k
      by_cases hk1 : k = KB
      · rw [hk1]
        simp (disch := omega) only [upd_at, if_pos, if_neg, Option.map_some, Ent.sh, AV.shL, AV.sh]
        try rfl
      · by_cases hk2 : k = KV
        · rw [hk2]
          simp (disch := omega) only [upd_at, if_pos, if_neg, Option.map_some, Ent.sh, AV.shL, AV.sh]
          try rfl
        · simp (disch := omega) only [upd_at, if_neg]
          exact Agr.start σ k
set_option maxHeartbeats 4000000 in
theorem cbDep (σ : Mem) (KB KC KV g : Nat) (svC svV : Value) (vs : List Vt) (fr : Nat) (i : Nat) (num : Int) (hB : σ KB = some (.box g 120 [.own KC svC, .own KV svV, iv fr] false)) (hV : σ KV = some (.row svV 107 3 (vs.map Vt.av) 0)) (hl : vs.length ≤ 100) (hBV : KB ≠ KV) (hn : 0 ≤ num ∧ num ≤ 10) :
    ACall Tryz.prog 126 [.pbox KB g 0, iv i, iv num] σ fun r σ' => ∃ sv, r = coA (varM vs.length, varM (vs.length + 1)) ∧
      σ' = upd (upd σ KV (some (.row sv 107 3 ((vs ++ [(2, (i : Int), num), (2, (i : Int), num + 1)]).map Vt.av) 0))) KB (some (.box g 120 [.own KC svC, .own KV sv, iv fr] false)) := by
  have mB := lents_at hB
  have mV := lents_at hV
  simp only [Ent.sh, AV.shL, AV.sh] at mB mV
  have hl1 : (vs ++ [((2 : Int), (i : Int), num)]).length = vs.length + 1 := by simp
  refine acall_lents Tryz.func126 rfl Tryz.ntmps126 Tryz.results126 Tryz.call126 (by rfl) (by simp) ?_
  (focus (refine wkap (w_a mB (w_a mV w_t)) w_t (w_r 0) ?_; (repeat' first | exact w_t | apply w_l); all_goals intros))
  refine o_fresh (cbVariable _ (KB + 1000) (KC + 1000) (KV + 1000) g svC svV vs fr 2 (i : Int) num (by (simp (disch := omega) only [go_sem, mB, mV, if_neg, if_pos] <;> repeat' first | rfl | refine ⟨?_, ?_⟩)) (by (simp (disch := omega) only [go_sem, mB, mV, if_neg, if_pos, List.map_append, List.map_cons, List.map_nil] <;> repeat' first | rfl | refine ⟨?_, ?_⟩)) (by first | omega | (simp; omega)) (by omega)) ?_
  intro sv1
  (focus (refine wkap (w_a mB (w_a mV w_t)) w_t (w_r 0) ?_; (repeat' first | exact w_t | apply w_l); all_goals intros))
  refine o_fresh (cbVariable _ (KB + 1000) (KC + 1000) (KV + 1000) g svC sv1 (vs ++ [(2, (i : Int), num)]) fr 2 (i : Int) (num + 1) (by (simp (disch := omega) only [go_sem, mB, mV, if_neg, if_pos] <;> repeat' first | rfl | refine ⟨?_, ?_⟩)) (by (simp (disch := omega) only [go_sem, mB, mV, if_neg, if_pos, List.map_append, List.map_cons, List.map_nil] <;> repeat' first | rfl | refine ⟨?_, ?_⟩)) (by first | omega | (simp; omega)) (by omega)) ?_
  intro sv2
  (focus (refine wkap (w_a mB (w_a mV (w_a hl1 w_t))) w_t (w_r 0) ?_; (repeat' first | exact w_t | apply w_l); all_goals intros))
  simp (disch := omega) only [go_sem, hl1]
  refine backS (Sub.refl _) ⟨sv2, rfl, rfl⟩ ?_
  simp only [List.append_assoc, List.cons_append, List.nil_append]
  intro k
  by_cases hk1 : k = KB
  · rw [hk1]
    simp (disch := omega) only [upd_at, if_pos, if_neg, Option.map_some, Ent.sh, AV.shL, AV.sh]
    try rfl
  · by_cases hk2 : k = KV
    · rw [hk2]
      simp (disch := omega) only [upd_at, if_pos, if_neg, Option.map_some, Ent.sh, AV.shL, AV.sh]
      try rfl
    · simp (disch := omega) only [upd_at, if_neg]
      exact Agr.start σ k
end Go.Proofs.YteiopjkamgmfpaaGreat
end

section
namespace Go.Proofs.YteiopjkamgmfpaaGreat
open Go Go.RowKit Go.Pg Go.Pol
set_option linter.unusedSimpArgs false
set_option linter.unusedVariables false
set_option maxRecDepth 20000
attribute [local go_sem] Tryz.underlying3 Tryz.underlying4 Tryz.underlying129 Tryz.underlying9 Tryz.underlying26 Tryz.underlying35 Tryz.underlying53 Tryz.underlying51 Tryz.underlying49 Tryz.underlying55 Tryz.underlying22 Tryz.underlying25 Tryz.underlying107 Tryz.underlying32 Tryz.underlying69 Tryz.underlying31 Tryz.underlying34 Tryz.underlying120 Tryz.underlying121 Tryz.underlying42 Tryz.underlying113 Tryz.underlying118 Tryz.underlying160 sz3 by3 z3 szB zB szErr zErr szStr byStr zStr szRat zRat szInt zInt szNat zNat szStep byStep zStep szFig zFig szSlI zSlI szSlS zSlS szVar byVar zVar szSlV zSlV szCoord byCoord zCoord szSlC zSlC szFrame zFrame szCBld byCBld zCBld szCVec byCVec zCVec szPoly byPoly zPoly szTerm zTerm szPtrB zPtrB szFnC zFnC
attribute [-bool_to_prop] Bool.and_eq_decide Bool.or_eq_decide Bool.decide_beq_decide decide_eq_decide
theorem lents_beq {K c : Nat} (h : c < 1000) : (K + 1000 == c) = false := by rw [beq_eq_false_iff_ne]; omega
theorem u16s_inj {a b : List Nat} (h : u16s a = u16s b) : a = b := by
  induction a generalizing b with
  | nil => cases b with
    | nil => rfl
    | cons y b => simp [u16s] at h
  | cons x a ih => cases b with
    | nil => simp [u16s] at h
    | cons y b =>
      rw [u16s_c, u16s_c] at h
      simp only [List.cons.injEq, AV.v.injEq, Value.int.injEq, true_and] at h
      rw [ih h.2, show x = y by omega]
theorem RQ.ok_eq {r : RQ} {k : Nat} (hl : r.lm k) (h : r.ok = true) : r = ⟨decide (r.q.num < 0), toL r.q.num.natAbs, toL r.q.den⟩ := by
  have h1 := (RQ.ok_av hl h).1
  simp only [RQ.av, ratQ, AV.agg.injEq, List.cons.injEq, AV.v.injEq, Value.bool.injEq, lim, AV.sl.injEq, true_and, and_true] at h1
  obtain ⟨s, l, d⟩ := r
  simp only at h1
  rw [RQ.mk.injEq]
  exact ⟨h1.1, u16s_inj h1.2.1, u16s_inj h1.2.2⟩
theorem coOf (c : Po × Po) : Pure Tryz.prog 120 [coA c] (coA c) := by
  obtain ⟨p, q⟩ := c
  refine pure_intro (tok := 0) Tryz.func120 rfl Tryz.ntmps120 Tryz.results120 Tryz.call120 (by rfl) (by simp) ?_
  (focus (refine wklp w_t w_t w_t (w_r 0) ?_; (repeat' first | exact w_t | apply w_l); all_goals intros))
theorem coCombine (f : Nat) (a b r : Po × Po) (c1 : Pure Tryz.prog f [poA a.1, poA b.1] (poA r.1)) (c2 : Pure Tryz.prog f [poA a.2, poA b.2] (poA r.2)) : Pure Tryz.prog 119 [coA a, coA b, .fn f []] (coA r) := by
  obtain ⟨a1, a2⟩ := a
  obtain ⟨b1, b2⟩ := b
  obtain ⟨r1, r2⟩ := r
  simp only at c1 c2
  refine pure_intro (tok := 0) Tryz.func119 rfl Tryz.ntmps119 Tryz.results119 Tryz.call119 (by rfl) (by simp) ?_
  (focus (refine wkld w_t (w_a c1 (w_a c2 w_t)) w_t (w_a (w_d 1 [(5, poA r1), (11, poA r2)] [] [6]) w_t) ?_; (repeat' first | exact w_t | apply w_l); all_goals intros))
theorem coBetween (a b : Po × Po) (h1 : Pure Tryz.prog 53 [poA b.1, poA a.1] (poA (subM b.1 a.1))) (h2 : Pure Tryz.prog 53 [poA b.2, poA a.2] (poA (subM b.2 a.2))) : Pure Tryz.prog 118 [coA a, coA b] (coA (subM b.1 a.1, subM b.2 a.2)) := by
  have c := coCombine 53 b a (subM b.1 a.1, subM b.2 a.2) h1 h2
  have oa := coOf a
  have ob := coOf b
  obtain ⟨a1, a2⟩ := a
  obtain ⟨b1, b2⟩ := b
  simp only at *
  generalize subM b1 a1 = x at *
  generalize subM b2 a2 = y at *
  refine pure_intro (tok := 0) Tryz.func118 rfl Tryz.ntmps118 Tryz.results118 Tryz.call118 (by rfl) (by simp) ?_
  (focus (refine wkld w_t (w_a oa (w_a ob (w_a c w_t))) w_t (w_a (w_d 1 [(1, coA (b1, b2)), (3, coA (a1, a2)), (4, coA (x, y))] [] [4]) w_t) ?_; (repeat' first | exact w_t | apply w_l); all_goals intros))
theorem cbScale (K4 g4 : Nat) (k : Int) (nm : ByteArray) (ar : List Int) (q : Rat) (p r : Po) (c : Pure Tryz.prog 123 [poA p, ratQ q] (poA r)) :
    RdC Tryz.prog [(K4, .box g4 55 [iv k, strA nm, ivs ar, .v (.bool (decide (q.num < 0))), lim (toL q.num.natAbs), lim (toL q.den)] false)] 122 [poA p, .pbox K4 g4 0] (poA r) := by
  intro σ hL
  have m4 := lents_at hL.1
  simp only [Ent.sh, AV.shL, AV.sh] at m4
  refine acall_lents Tryz.func122 rfl Tryz.ntmps122 Tryz.results122 Tryz.call122 (by rfl) (by simp) ?_
  (focus (refine wkap (w_a m4 w_t) (w_a c w_t) (w_r 0) ?_; (repeat' first | exact w_t | apply w_l); all_goals intros))
  simp (disch := omega) only [go_sem]
  exact backS (Sub.refl _) ⟨rfl, rfl⟩ (Agr.start σ)
theorem cbMulV (K g : Nat) (t p r : Po) (c : Pure Tryz.prog 54 [poA p, poA t] (poA r)) :
    RdC Tryz.prog [(K, .box g 42 [poA t] false)] 125 [poA p, .pbox K g 0] (poA r) := by
  intro σ hL
  have m4 := lents_at hL.1
  simp only [Ent.sh, AV.shL, AV.sh] at m4
  refine acall_lents Tryz.func125 rfl Tryz.ntmps125 Tryz.results125 Tryz.call125 (by rfl) (by simp) ?_
  (focus (refine wkap (w_a m4 w_t) (w_a c w_t) (w_r 0) ?_; (repeat' first | exact w_t | apply w_l); all_goals intros))
  simp (disch := omega) only [go_sem]
  exact backS (Sub.refl _) ⟨rfl, rfl⟩ (Agr.start σ)
/-- What a step's closures read: the builder's pointer, the step, the builder, its points. -/
def atL (K3 K4 KB KC KV g3 g4 gB : Nat) (svC svV : Value) (z : AV) (sc : List AV) (cs : List (Po × Po)) : List (Nat × Ent) :=
  [(K3, .box g3 118 [.pbox KB gB 0] false), (K4, .box g4 55 sc false), (KB, .box gB 120 [.own KC svC, .own KV svV, z] false), (KC, .row svC 69 2 (cs.map coA) 0)]
theorem atL_def (K3 K4 KB KC KV g3 g4 gB : Nat) (svC svV : Value) (z : AV) (sc : List AV) (cs : List (Po × Po)) : atL K3 K4 KB KC KV g3 g4 gB svC svV z sc cs =
  [(K3, .box g3 118 [.pbox KB gB 0] false), (K4, .box g4 55 sc false), (KB, .box gB 120 [.own KC svC, .own KV svV, z] false), (KC, .row svC 69 2 (cs.map coA) 0)] := rfl
set_option maxHeartbeats 4000000 in
theorem cbAt (K3 K4 KB KC KV g3 g4 gB : Nat) (svC svV : Value) (fr : Nat) (k0 : Int) (nm : ByteArray) (ar : List Int) (x y w : AV) (cs : List (Po × Po)) (k : Nat) (hx : x.sh = x ∧ y.sh = y ∧ w.sh = w) (hk : k < ar.length) (h0 : 0 ≤ gI ar k ∧ gI ar k < (cs.length : Int)) :
    RdC Tryz.prog (atL K3 K4 KB KC KV g3 g4 gB svC svV (iv fr) [iv k0, strA nm, ivs ar, x, y, w] cs) 116 [iv k, .pbox K3 g3 0, .pbox K4 g4 0] (coA (cs.getD (gI ar k).toNat ([], []))) := by
  intro σ hL
  simp only [atL, hasAll_cons, hasAll_nil] at hL
  obtain ⟨h3, h4, hB, hC, -⟩ := hL
  have m3 := lents_at h3
  have m4 := lents_at h4
  have mB := lents_at hB
  have mC := lents_at hC
  simp only [Ent.sh, AV.shL, AV.sh, hx.1, hx.2.1, hx.2.2] at m3 m4 mB mC
  have hga : (ar.map iv).getD k .u = iv (gI ar k) := by rw [map_atB iv hk, gI_at hk]
  have hgc : (cs.map coA).getD (gI ar k).toNat .u = coA (cs.getD (gI ar k).toNat ([], [])) := getD_mapA (by omega)
  have hll : (ar.map iv).length = ar.length := List.length_map ..
  have hcl : (cs.map coA).length = cs.length := List.length_map ..
  generalize cs.getD (gI ar k).toNat ([], []) = c at *
  generalize gI ar k = a at *
  obtain ⟨c1, c2⟩ := c
  refine acall_lents Tryz.func116 rfl Tryz.ntmps116 Tryz.results116 Tryz.call116 (by rfl) (by simp) ?_
  (focus (refine wkad (w_a m3 (w_a m4 (w_a mB (w_a mC (w_a hga (w_a hgc (w_a hll (w_a hcl (w_a @lents_lt (w_a @lents_beq w_t)))))))))) w_t (w_a (w_d 1 [] [] [4]) w_t) ?_; (repeat' first | exact w_t | apply w_l); all_goals intros))
  simp (disch := omega) only [go_sem]
  refine backS (Sub.refl _) ⟨rfl, rfl⟩ ?_
  exact ((Agr.start σ).own (by omega)).own (by omega)
end Go.Proofs.YteiopjkamgmfpaaGreat
end

section
namespace Go.Proofs.YteiopjkamgmfpaaGreat
open Go Go.RowKit Go.Pg Go.Pol
set_option linter.unusedSimpArgs false
set_option linter.unusedVariables false
set_option maxRecDepth 20000
attribute [local go_sem] Tryz.underlying3 Tryz.underlying4 Tryz.underlying129 Tryz.underlying9 Tryz.underlying26 Tryz.underlying35 Tryz.underlying53 Tryz.underlying51 Tryz.underlying49 Tryz.underlying55 Tryz.underlying22 Tryz.underlying25 Tryz.underlying107 Tryz.underlying32 Tryz.underlying69 Tryz.underlying31 Tryz.underlying34 Tryz.underlying120 Tryz.underlying121 Tryz.underlying42 Tryz.underlying113 Tryz.underlying118 Tryz.underlying160 sz3 by3 z3 szB zB szErr zErr szStr byStr zStr szRat zRat szInt zInt szNat zNat szStep byStep zStep szFig zFig szSlI zSlI szSlS zSlS szVar byVar zVar szSlV zSlV szCoord byCoord zCoord szSlC zSlC szFrame zFrame szCBld byCBld zCBld szCVec byCVec zCVec szPoly byPoly zPoly szTerm zTerm szPtrB zPtrB szFnC zFnC
attribute [-bool_to_prop] Bool.and_eq_decide Bool.or_eq_decide Bool.decide_beq_decide decide_eq_decide
set_option maxHeartbeats 8000000 in
theorem cbAlongS (K3 K4 K7 KB KC KV g3 g4 g7 gB : Nat) (svC svV : Value) (fr : Nat) (k0 : Int) (nm : ByteArray) (ar : List Int) (q : Rat) (cs : List (Po × Po)) (a b x r : Po × Po) (hk : 2 ≤ ar.length) (h0 : 0 ≤ gI ar 0 ∧ gI ar 0 < (cs.length : Int)) (h1 : 0 ≤ gI ar 1 ∧ gI ar 1 < (cs.length : Int)) (ha : cs.getD (gI ar 0).toNat ([], []) = a) (hb : cs.getD (gI ar 1).toNat ([], []) = b)
    (s1 : Pure Tryz.prog 53 [poA b.1, poA a.1] (poA (subM b.1 a.1))) (s2 : Pure Tryz.prog 53 [poA b.2, poA a.2] (poA (subM b.2 a.2)))
    (c1 : Pure Tryz.prog 123 [poA (subM b.1 a.1), ratQ q] (poA x.1)) (c2 : Pure Tryz.prog 123 [poA (subM b.2 a.2), ratQ q] (poA x.2))
    (a1 : Pure Tryz.prog 57 [poA a.1, poA x.1] (poA r.1)) (a2 : Pure Tryz.prog 57 [poA a.2, poA x.2] (poA r.2)) :
    RdC Tryz.prog ((K7, .box g7 160 [.fn 116 [.pbox K3 g3 0, .pbox K4 g4 0]] false) :: atL K3 K4 KB KC KV g3 g4 gB svC svV (iv fr) [iv k0, strA nm, ivs ar, .v (.bool (decide (q.num < 0))), lim (toL q.num.natAbs), lim (toL q.den)] cs) 117 [.fn 122 [.pbox K4 g4 0], .pbox K7 g7 0] (coA r) := by
  intro σ hL
  have t0 := cbAt (K3 + 1000) (K4 + 1000) (KB + 1000) (KC + 1000) (KV + 1000) g3 g4 gB svC svV fr k0 nm ar (.v (.bool (decide (q.num < 0)))) (lim (toL q.num.natAbs)) (lim (toL q.den)) cs 0 ⟨rfl, rfl, rfl⟩ (by omega) h0
  have t1 := cbAt (K3 + 1000) (K4 + 1000) (KB + 1000) (KC + 1000) (KV + 1000) g3 g4 gB svC svV fr k0 nm ar (.v (.bool (decide (q.num < 0)))) (lim (toL q.num.natAbs)) (lim (toL q.den)) cs 1 ⟨rfl, rfl, rfl⟩ (by omega) h1
  rw [ha] at t0
  rw [hb] at t1
  have cB := coBetween a b s1 s2
  have oa := coOf a
  have cC := coCombine 57 a x r a1 a2
  have p1 := cbScale (K4 + 1000) g4 k0 nm ar q (subM b.1 a.1) x.1 c1
  have p2 := cbScale (K4 + 1000) g4 k0 nm ar q (subM b.2 a.2) x.2 c2
  simp only [atL, hasAll_cons, hasAll_nil] at hL
  obtain ⟨h7, h3, h4, hB, hC, -⟩ := hL
  have m3 := lents_at h3
  have m4 := lents_at h4
  have m7 := lents_at h7
  have mB := lents_at hB
  have mC := lents_at hC
  skip
  simp only [Ent.sh, AV.shL, AV.sh] at m3 m4 m7 mB mC
  clear a1 a2 s1 s2 ha hb h0 h1
  obtain ⟨aa, ab⟩ := a
  obtain ⟨ba, bb⟩ := b
  obtain ⟨xa, xb⟩ := x
  obtain ⟨ra, rb⟩ := r
  simp only at *
  generalize subM ba aa = da at *
  generalize subM bb ab = db at *
  refine acall_lents Tryz.func117 rfl Tryz.ntmps117 Tryz.results117 Tryz.call117 (by rfl) (by simp) ?_
  (focus (refine wkax (w_a m3 (w_a m4 (w_a m7 (w_a mB (w_a mC (w_a @lents_lt (w_a @lents_beq (w_a @atL_def w_t)))))))) (w_a cB (w_a oa (w_a cC w_t))) (w_a (w_d 1 [(1, coA (aa, ab)), (3, coA (ba, bb)), (4, coA (da, db))] [] []) (w_a (w_d 2 [(1, coA (aa, ab)), (2, coA (aa, ab)), (6, poA xa), (10, poA xb), (12, coA (ra, rb))] [] [3]) w_t)) w_t w_t (w_a t0 (w_a t1 (w_a p1 (w_a p2 w_t)))) (w_r 0) ?_; (repeat' first | exact w_t | apply w_l); all_goals intros))
  simp (disch := omega) only [go_sem]
  refine backS (Sub.refl _) ⟨rfl, rfl⟩ ?_
  (repeat' (first | exact Agr.start _ | (refine Agr.own ?_ (by omega))))
set_option maxHeartbeats 8000000 in
theorem cbAlongM (K3 K4 K7 KB KC KV g3 g4 g7 gB : Nat) (svC svV : Value) (fr : Nat) (k0 : Int) (nm : ByteArray) (ar : List Int) (rs : Bool) (rl rd : List Nat) (K10 g10 : Nat) (t : Po) (cs : List (Po × Po)) (a b x r : Po × Po) (hk : 2 ≤ ar.length) (h0 : 0 ≤ gI ar 0 ∧ gI ar 0 < (cs.length : Int)) (h1 : 0 ≤ gI ar 1 ∧ gI ar 1 < (cs.length : Int)) (ha : cs.getD (gI ar 0).toNat ([], []) = a) (hb : cs.getD (gI ar 1).toNat ([], []) = b)
    (s1 : Pure Tryz.prog 53 [poA b.1, poA a.1] (poA (subM b.1 a.1))) (s2 : Pure Tryz.prog 53 [poA b.2, poA a.2] (poA (subM b.2 a.2)))
    (c1 : Pure Tryz.prog 54 [poA (subM b.1 a.1), poA t] (poA x.1)) (c2 : Pure Tryz.prog 54 [poA (subM b.2 a.2), poA t] (poA x.2))
    (a1 : Pure Tryz.prog 57 [poA a.1, poA x.1] (poA r.1)) (a2 : Pure Tryz.prog 57 [poA a.2, poA x.2] (poA r.2)) :
    RdC Tryz.prog ((K10, .box g10 42 [poA t] false) :: (K7, .box g7 160 [.fn 116 [.pbox K3 g3 0, .pbox K4 g4 0]] false) :: atL K3 K4 KB KC KV g3 g4 gB svC svV (iv fr) [iv k0, strA nm, ivs ar, .v (.bool rs), lim rl, lim rd] cs) 117 [.fn 125 [.pbox K10 g10 0], .pbox K7 g7 0] (coA r) := by
  intro σ hL
  have t0 := cbAt (K3 + 1000) (K4 + 1000) (KB + 1000) (KC + 1000) (KV + 1000) g3 g4 gB svC svV fr k0 nm ar (.v (.bool rs)) (lim rl) (lim rd) cs 0 ⟨rfl, rfl, rfl⟩ (by omega) h0
  have t1 := cbAt (K3 + 1000) (K4 + 1000) (KB + 1000) (KC + 1000) (KV + 1000) g3 g4 gB svC svV fr k0 nm ar (.v (.bool rs)) (lim rl) (lim rd) cs 1 ⟨rfl, rfl, rfl⟩ (by omega) h1
  rw [ha] at t0
  rw [hb] at t1
  have cB := coBetween a b s1 s2
  have oa := coOf a
  have cC := coCombine 57 a x r a1 a2
  have p1 := cbMulV (K10 + 1000) g10 t (subM b.1 a.1) x.1 c1
  have p2 := cbMulV (K10 + 1000) g10 t (subM b.2 a.2) x.2 c2
  simp only [atL, hasAll_cons, hasAll_nil] at hL
  obtain ⟨h10, h7, h3, h4, hB, hC, -⟩ := hL
  have m3 := lents_at h3
  have m4 := lents_at h4
  have m7 := lents_at h7
  have mB := lents_at hB
  have mC := lents_at hC
  have m10 := lents_at h10
  simp only [Ent.sh, AV.shL, AV.sh] at m3 m4 m7 mB mC m10
  clear a1 a2 s1 s2 ha hb h0 h1
  obtain ⟨aa, ab⟩ := a
  obtain ⟨ba, bb⟩ := b
  obtain ⟨xa, xb⟩ := x
  obtain ⟨ra, rb⟩ := r
  simp only at *
  generalize subM ba aa = da at *
  generalize subM bb ab = db at *
  refine acall_lents Tryz.func117 rfl Tryz.ntmps117 Tryz.results117 Tryz.call117 (by rfl) (by simp) ?_
  (focus (refine wkax (w_a m3 (w_a m4 (w_a m7 (w_a mB (w_a mC (w_a m10 (w_a @lents_lt (w_a @lents_beq (w_a @atL_def w_t))))))))) (w_a cB (w_a oa (w_a cC w_t))) (w_a (w_d 1 [(1, coA (aa, ab)), (3, coA (ba, bb)), (4, coA (da, db))] [] []) (w_a (w_d 2 [(1, coA (aa, ab)), (2, coA (aa, ab)), (6, poA xa), (10, poA xb), (12, coA (ra, rb))] [] [3]) w_t)) w_t w_t (w_a t0 (w_a t1 (w_a p1 (w_a p2 w_t)))) (w_r 0) ?_; (repeat' first | exact w_t | apply w_l); all_goals intros))
  simp (disch := omega) only [go_sem]
  refine backS (Sub.refl _) ⟨rfl, rfl⟩ ?_
  (repeat' (first | exact Agr.start _ | (refine Agr.own ?_ (by omega))))
end Go.Proofs.YteiopjkamgmfpaaGreat
end

section
namespace Go.Proofs.YteiopjkamgmfpaaGreat
open Go Go.RowKit Go.Pg Go.Pol
set_option linter.unusedSimpArgs false
set_option linter.unusedVariables false
set_option maxRecDepth 20000
attribute [local go_sem] Tryz.underlying3 Tryz.underlying4 Tryz.underlying129 Tryz.underlying9 Tryz.underlying26 Tryz.underlying35 Tryz.underlying53 Tryz.underlying51 Tryz.underlying49 Tryz.underlying55 Tryz.underlying22 Tryz.underlying25 Tryz.underlying107 Tryz.underlying32 Tryz.underlying69 Tryz.underlying31 Tryz.underlying34 Tryz.underlying120 Tryz.underlying121 Tryz.underlying42 Tryz.underlying113 Tryz.underlying118 Tryz.underlying160 sz3 by3 z3 szB zB szErr zErr szStr byStr zStr szRat zRat szInt zInt szNat zNat szStep byStep zStep szFig zFig szSlI zSlI szSlS zSlS szVar byVar zVar szSlV zSlV szCoord byCoord zCoord szSlC zSlC szFrame zFrame szCBld byCBld zCBld szCVec byCVec zCVec szPoly byPoly zPoly szTerm zTerm szPtrB zPtrB szFnC zFnC
attribute [-bool_to_prop] Bool.and_eq_decide Bool.or_eq_decide Bool.decide_beq_decide decide_eq_decide
/-! ### sizes of what a step computes -/
theorem PK.sub {p q : Po} {j k e : Nat} (hp : PK p j e) (hq : PK q k e) : PK (subM p q) (j + k + 1) e := hp.add hq.neg
theorem PK.scl {p : Po} {j k e : Nat} {a : Rat} (hp : PK p j e) (ha : Sz a k) : PK (sclM a p) (j + k) e := by
  unfold sclM; split
  · exact .nil
  · exact hp.scale ha
theorem PK.mulV {p : Po} {j e v : Nat} (hp : PK p j e) : PK (mlM p (varM v)) (j + 1) (e + 1) := by
  rw [mul_var]; split
  · refine hp.times (t := (1, unitM v)) fun u hu => ?_
    rw [List.mem_singleton] at hu
    subst hu
    have h := varM_pk v (1, unitM v) (by unfold varM; rw [if_pos (by assumption)]; exact .head _)
    exact h
  · exact .nil
theorem scl_srt {a : Rat} {p : Po} (h : SrtM p) : SrtM (sclM a p) := by
  unfold sclM; split
  · exact .nil
  · exact scale_srt h ‹_›
theorem scl_len (a : Rat) (p : Po) : (sclM a p).length ≤ p.length := by
  unfold sclM; split
  · simp
  · rw [scale_len]; exact Nat.le_refl _
theorem mulV_len (p : Po) (v : Nat) : (mlM p (varM v)).length ≤ p.length := by
  rw [mul_var]; split
  · rw [timesP_len]; exact Nat.le_refl _
  · simp
theorem sub_len (p q : Po) : (subM p q).length ≤ p.length + q.length := by
  have := addP_len (lt := ltM) p (scaleP (-1) q)
  rw [scale_len] at this; exact this
/-- A coordinate of a frame in order. -/
structure Co (p : Po) : Prop where
  pk : PK p 110 1
  st : SrtM p
  ln : p.length ≤ 4000
/-- A step in order. -/
structure StOk (cs : List (Po × Po)) (s : RS) : Prop where
  k0 : 0 ≤ arS s.k
  al : (s.ar.length : Int) = arS s.k
  ai : ∀ k, k < s.ar.length → 0 ≤ gI s.ar k ∧ gI s.ar k < (cs.length : Int)
  r2 : s.k = 2 → s.r.ok = true
  rl : s.r.lm 2
set_option maxHeartbeats 8000000 in
theorem cbStep1 (σ : Mem) (KB KC KV g : Nat) (svC svV : Value) (cs : List (Po × Po)) (vs : List Vt) (fr : Nat) (i : Nat) (s : RS) (hB : σ KB = some (.box g 120 [.own KC svC, .own KV svV, iv fr] false)) (hV : σ KV = some (.row svV 107 3 (vs.map Vt.av) 0)) (hC : σ KC = some (.row svC 69 2 (cs.map coA) 0)) (hBV : KB ≠ KV) (hBC : KB ≠ KC) (hVC : KV ≠ KC) (hl : vs.length ≤ 64) (hf : fr ≤ 100) (hk : s.k = 1) : ACall Tryz.prog 73 [.pbox KB g 0, s.av, iv i] σ fun r σ' => ∃ sv, r = coA (FS.nxt ⟨cs, vs, fr⟩ i s).2 ∧
      σ' = upd (upd σ KV (some (.row sv 107 3 ((vs ++ (FS.nxt ⟨cs, vs, fr⟩ i s).1).map Vt.av) 0))) KB (some (.box g 120 [.own KC svC, .own KV sv, iv (if s.k = 1 then fr + 1 else fr : Nat)] false)) := by
  have mB := lents_at hB
  have mV := lents_at hV
  have mC := lents_at hC
  simp only [Ent.sh, AV.shL, AV.sh] at mB mV mC
  have en : FS.nxt ⟨cs, vs, fr⟩ i s = ((if fr = 0 then [] else if fr = 1 then [(1, (i : Int), 0)] else [(1, (i : Int), 0), (1, (i : Int), 1)]), (if fr = 0 then ([], []) else if fr = 1 then (varM vs.length, []) else (varM vs.length, varM (vs.length + 1)))) := by
    unfold FS.nxt; simp only; rw [if_pos hk]; split
    · rfl
    · split <;> rfl
  rw [en]
  simp only [if_pos hk]
  generalize hnv : (if fr = 0 then [] else if fr = 1 then [((1 : Int), (i : Int), (0 : Int))] else [(1, (i : Int), 0), (1, (i : Int), 1)]) = nv at *
  generalize hnc : (if fr = 0 then (([] : Po), ([] : Po)) else if fr = 1 then (varM vs.length, []) else (varM vs.length, varM (vs.length + 1))) = nc at *
  obtain ⟨k, nm, ar, r, rl, rd⟩ := s
  simp only at hk
  subst hk
  refine acall_lents Tryz.func73 rfl Tryz.ntmps73 Tryz.results73 Tryz.call73 (by rfl) (by simp) ?_
  (focus (refine wkad (w_a mB (w_a mV (w_a mC (w_a @lents_lt w_t)))) w_t w_t ?_; (repeat' first | exact w_t | apply w_l); all_goals intros))
  refine o_fresh ((cbPoint _ (KB + 1000) (KC + 1000) (KV + 1000) g svC svV vs fr i (by (simp (disch := omega) only [go_sem, mB, mV, if_neg, if_pos] <;> repeat' first | rfl | refine ⟨?_, ?_⟩)) (by (simp (disch := omega) only [go_sem, mB, mV, if_neg, if_pos] <;> repeat' first | rfl | refine ⟨?_, ?_⟩)) (by omega) (by omega) (by omega))) ?_
  rw [hnv, hnc]
  intro sv1
  obtain ⟨n1, n2⟩ := nc
  (focus (refine wkad (w_a mB (w_a mV (w_a mC (w_a @lents_lt w_t)))) w_t w_t ?_; (repeat' first | exact w_t | apply w_l); all_goals intros))
  simp (disch := omega) only [go_sem]
  refine backS (Sub.refl _) ⟨sv1, rfl, rfl⟩ ?_
  intro k
  by_cases hk1 : k = KB
  · rw [hk1]
    simp (disch := omega) only [upd_at, if_pos, if_neg, Option.map_some, Ent.sh, AV.shL, AV.sh]
    try rfl
  · by_cases hk2 : k = KV
    · rw [hk2]
      simp (disch := omega) only [upd_at, if_pos, if_neg, Option.map_some, Ent.sh, AV.shL, AV.sh]
      try rfl
    · simp (disch := omega) only [upd_at, if_neg]
      exact Agr.start σ k

set_option maxHeartbeats 8000000 in
theorem cbStep6 (σ : Mem) (KB KC KV g : Nat) (svC svV : Value) (cs : List (Po × Po)) (vs : List Vt) (fr : Nat) (i : Nat) (s : RS) (hB : σ KB = some (.box g 120 [.own KC svC, .own KV svV, iv fr] false)) (hV : σ KV = some (.row svV 107 3 (vs.map Vt.av) 0)) (hC : σ KC = some (.row svC 69 2 (cs.map coA) 0)) (hBV : KB ≠ KV) (hBC : KB ≠ KC) (hVC : KV ≠ KC) (hl : vs.length ≤ 64) (hf : fr ≤ 100) (hk : s.k = 6) : ACall Tryz.prog 73 [.pbox KB g 0, s.av, iv i] σ fun r σ' => ∃ sv, r = coA (FS.nxt ⟨cs, vs, fr⟩ i s).2 ∧
      σ' = upd (upd σ KV (some (.row sv 107 3 ((vs ++ (FS.nxt ⟨cs, vs, fr⟩ i s).1).map Vt.av) 0))) KB (some (.box g 120 [.own KC svC, .own KV sv, iv (if s.k = 1 then fr + 1 else fr : Nat)] false)) := by
  have mB := lents_at hB
  have mV := lents_at hV
  have mC := lents_at hC
  simp only [Ent.sh, AV.shL, AV.sh] at mB mV mC
  have en : FS.nxt ⟨cs, vs, fr⟩ i s = ([(1, (i : Int), 0), (2, (i : Int), 1), (2, (i : Int), 2)], (varM (vs.length + 1), varM (vs.length + 2))) := by
    unfold FS.nxt; simp only [hk]; rfl
  rw [en]
  simp only [if_neg (show ¬ s.k = 1 by omega)]
  have hl1 : (vs ++ [((1 : Int), (i : Int), (0 : Int))]).length = vs.length + 1 := by simp
  obtain ⟨k, nm, ar, r, rl, rd⟩ := s
  simp only at hk
  subst hk
  refine acall_lents Tryz.func73 rfl Tryz.ntmps73 Tryz.results73 Tryz.call73 (by rfl) (by simp) ?_
  (focus (refine wkad (w_a mB (w_a mV (w_a mC (w_a @lents_lt w_t)))) w_t w_t ?_; (repeat' first | exact w_t | apply w_l); all_goals intros))
  refine o_fresh ((cbVariable _ (KB + 1000) (KC + 1000) (KV + 1000) g svC svV vs fr 1 (i : Int) 0 (by (simp (disch := omega) only [go_sem, mB, mV, if_neg, if_pos] <;> repeat' first | rfl | refine ⟨?_, ?_⟩)) (by (simp (disch := omega) only [go_sem, mB, mV, if_neg, if_pos] <;> repeat' first | rfl | refine ⟨?_, ?_⟩)) (by omega) (by omega))) ?_
  intro sv1
  (focus (refine wkad (w_a mB (w_a mV (w_a mC (w_a @lents_lt w_t)))) w_t w_t ?_; (repeat' first | exact w_t | apply w_l); all_goals intros))
  refine o_fresh ((cbDep _ (KB + 1000) (KC + 1000) (KV + 1000) g svC sv1 (vs ++ [(1, (i : Int), 0)]) fr i 1 (by (simp (disch := omega) only [go_sem, mB, mV, if_neg, if_pos] <;> repeat' first | rfl | refine ⟨?_, ?_⟩)) (by (simp (disch := omega) only [go_sem, mB, mV, if_neg, if_pos, List.map_append, List.map_cons, List.map_nil] <;> repeat' first | rfl | refine ⟨?_, ?_⟩)) (by rw [hl1]; omega) (by omega) (by omega))) ?_
  intro sv2
  rw [hl1]
  (focus (refine wkad (w_a mB (w_a mV (w_a mC (w_a @lents_lt w_t)))) w_t w_t ?_; (repeat' first | exact w_t | apply w_l); all_goals intros))
  simp (disch := omega) only [go_sem]
  refine backS (Sub.refl _) ⟨sv2, rfl, rfl⟩ ?_
  simp only [List.append_assoc, List.cons_append, List.nil_append]
  intro k
  by_cases hk1 : k = KB
  · rw [hk1]
    simp (disch := omega) only [upd_at, if_pos, if_neg, Option.map_some, Ent.sh, AV.shL, AV.sh]
    try rfl
  · by_cases hk2 : k = KV
    · rw [hk2]
      simp (disch := omega) only [upd_at, if_pos, if_neg, Option.map_some, Ent.sh, AV.shL, AV.sh]
      try rfl
    · simp (disch := omega) only [upd_at, if_neg]
      exact Agr.start σ k

set_option maxHeartbeats 8000000 in
theorem cbStep7 (σ : Mem) (KB KC KV g : Nat) (svC svV : Value) (cs : List (Po × Po)) (vs : List Vt) (fr : Nat) (i : Nat) (s : RS) (hB : σ KB = some (.box g 120 [.own KC svC, .own KV svV, iv fr] false)) (hV : σ KV = some (.row svV 107 3 (vs.map Vt.av) 0)) (hC : σ KC = some (.row svC 69 2 (cs.map coA) 0)) (hBV : KB ≠ KV) (hBC : KB ≠ KC) (hVC : KV ≠ KC) (hl : vs.length ≤ 64) (hf : fr ≤ 100) (hk : s.k ≠ 1 ∧ s.k ≠ 2 ∧ s.k ≠ 3 ∧ s.k ≠ 4 ∧ s.k ≠ 5 ∧ s.k ≠ 6) : ACall Tryz.prog 73 [.pbox KB g 0, s.av, iv i] σ fun r σ' => ∃ sv, r = coA (FS.nxt ⟨cs, vs, fr⟩ i s).2 ∧
      σ' = upd (upd σ KV (some (.row sv 107 3 ((vs ++ (FS.nxt ⟨cs, vs, fr⟩ i s).1).map Vt.av) 0))) KB (some (.box g 120 [.own KC svC, .own KV sv, iv (if s.k = 1 then fr + 1 else fr : Nat)] false)) := by
  have mB := lents_at hB
  have mV := lents_at hV
  have mC := lents_at hC
  simp only [Ent.sh, AV.shL, AV.sh] at mB mV mC
  have en : FS.nxt ⟨cs, vs, fr⟩ i s = ([(2, (i : Int), 0), (2, (i : Int), 1)], (varM vs.length, varM (vs.length + 1))) := by
    unfold FS.nxt; simp only; rw [if_neg hk.1, if_neg hk.2.1, if_neg hk.2.2.1, if_neg hk.2.2.2.1, if_neg hk.2.2.2.2.1, if_neg hk.2.2.2.2.2]
  rw [en]
  simp only [if_neg hk.1]
  obtain ⟨k, nm, ar, r, rl, rd⟩ := s
  simp only at hk
  obtain ⟨k1, k2, k3, k4, k5, k6⟩ := hk
  refine acall_lents Tryz.func73 rfl Tryz.ntmps73 Tryz.results73 Tryz.call73 (by rfl) (by simp) ?_
  (focus (refine wkad (w_a mB (w_a mV (w_a mC (w_a @lents_lt w_t)))) w_t w_t ?_; (repeat' first | exact w_t | apply w_l); all_goals intros))
  refine o_fresh ((cbDep _ (KB + 1000) (KC + 1000) (KV + 1000) g svC svV vs fr i 0 (by (simp (disch := omega) only [go_sem, mB, mV, if_neg, if_pos] <;> repeat' first | rfl | refine ⟨?_, ?_⟩)) (by (simp (disch := omega) only [go_sem, mB, mV, if_neg, if_pos] <;> repeat' first | rfl | refine ⟨?_, ?_⟩)) (by omega) (by omega) (by omega))) ?_
  intro sv2
  (focus (refine wkad (w_a mB (w_a mV (w_a mC (w_a @lents_lt w_t)))) w_t w_t ?_; (repeat' first | exact w_t | apply w_l); all_goals intros))
  simp (disch := omega) only [go_sem]
  refine backS (Sub.refl _) ⟨sv2, rfl, rfl⟩ ?_
  simp only [Int.zero_add]
  intro k
  by_cases hk1 : k = KB
  · rw [hk1]
    simp (disch := omega) only [upd_at, if_pos, if_neg, Option.map_some, Ent.sh, AV.shL, AV.sh]
    try rfl
  · by_cases hk2 : k = KV
    · rw [hk2]
      simp (disch := omega) only [upd_at, if_pos, if_neg, Option.map_some, Ent.sh, AV.shL, AV.sh]
      try rfl
    · simp (disch := omega) only [upd_at, if_neg]
      exact Agr.start σ k

end Go.Proofs.YteiopjkamgmfpaaGreat
end

section
namespace Go.Proofs.YteiopjkamgmfpaaGreat
open Go Go.RowKit Go.Pg Go.Pol
set_option linter.unusedSimpArgs false
set_option linter.unusedVariables false
set_option maxRecDepth 20000
attribute [local go_sem] Tryz.underlying3 Tryz.underlying4 Tryz.underlying129 Tryz.underlying9 Tryz.underlying26 Tryz.underlying35 Tryz.underlying53 Tryz.underlying51 Tryz.underlying49 Tryz.underlying55 Tryz.underlying22 Tryz.underlying25 Tryz.underlying107 Tryz.underlying32 Tryz.underlying69 Tryz.underlying31 Tryz.underlying34 Tryz.underlying120 Tryz.underlying121 Tryz.underlying42 Tryz.underlying113 Tryz.underlying118 Tryz.underlying160 sz3 by3 z3 szB zB szErr zErr szStr byStr zStr szRat zRat szInt zInt szNat zNat szStep byStep zStep szFig zFig szSlI zSlI szSlS zSlS szVar byVar zVar szSlV zSlV szCoord byCoord zCoord szSlC zSlC szFrame zFrame szCBld byCBld zCBld szCVec byCVec zCVec szPoly byPoly zPoly szTerm zTerm szPtrB zPtrB szFnC zFnC
attribute [-bool_to_prop] Bool.and_eq_decide Bool.or_eq_decide Bool.decide_beq_decide decide_eq_decide
set_option maxHeartbeats 8000000 in
theorem cbStep2 (σ : Mem) (KB KC KV g : Nat) (svC svV : Value) (cs : List (Po × Po)) (vs : List Vt) (fr : Nat) (i : Nat) (s : RS) (hB : σ KB = some (.box g 120 [.own KC svC, .own KV svV, iv fr] false)) (hV : σ KV = some (.row svV 107 3 (vs.map Vt.av) 0)) (hC : σ KC = some (.row svC 69 2 (cs.map coA) 0)) (hBV : KB ≠ KV) (hBC : KB ≠ KC) (hVC : KV ≠ KC) (hl : vs.length ≤ 64) (hf : fr ≤ 100) (hok : StOk cs s) (hco : ∀ c ∈ cs, Co c.1 ∧ Co c.2) (hk : s.k = 2) : ACall Tryz.prog 73 [.pbox KB g 0, s.av, iv i] σ fun r σ' => ∃ sv, r = coA (FS.nxt ⟨cs, vs, fr⟩ i s).2 ∧
      σ' = upd (upd σ KV (some (.row sv 107 3 ((vs ++ (FS.nxt ⟨cs, vs, fr⟩ i s).1).map Vt.av) 0))) KB (some (.box g 120 [.own KC svC, .own KV sv, iv (if s.k = 1 then fr + 1 else fr : Nat)] false)) := by
  have mB := lents_at hB
  have mV := lents_at hV
  have mC := lents_at hC
  simp only [Ent.sh, AV.shL, AV.sh] at mB mV mC
  have har : arS s.k = 2 := by rw [hk]; rfl
  have hal := hok.al
  have h0 := hok.ai 0 (by omega)
  obtain ⟨a1, a2⟩ : Co (cs.getD (gI s.ar 0).toNat ([], [])).1 ∧ Co (cs.getD (gI s.ar 0).toNat ([], [])).2 := hco _ (getD_mem (by omega))
  have h1 := hok.ai 1 (by omega)
  obtain ⟨b1, b2⟩ : Co (cs.getD (gI s.ar 1).toNat ([], [])).1 ∧ Co (cs.getD (gI s.ar 1).toNat ([], [])).2 := hco _ (getD_mem (by omega))
  have en : FS.nxt ⟨cs, vs, fr⟩ i s = ([], (addM (cs.getD (gI s.ar 0).toNat ([], [])).1 (sclM s.r.q (subM (cs.getD (gI s.ar 1).toNat ([], [])).1 (cs.getD (gI s.ar 0).toNat ([], [])).1)), addM (cs.getD (gI s.ar 0).toNat ([], [])).2 (sclM s.r.q (subM (cs.getD (gI s.ar 1).toNat ([], [])).2 (cs.getD (gI s.ar 0).toNat ([], [])).2)))) := by
    unfold FS.nxt; simp only [hk]; rfl
  rw [en]
  simp only [if_neg (show ¬ s.k = 1 by omega)]
  clear en
  generalize ha : cs.getD (gI s.ar 0).toNat ([], []) = a at *
  generalize hb : cs.getD (gI s.ar 1).toNat ([], []) = b at *
  have ro := hok.r2 hk
  have zr := (RQ.ok_av hok.rl ro).2
  have s1 := poSub b.1 a.1 b1.pk a1.pk b1.st a1.st (by have := b1.ln; omega) (by have := a1.ln; omega) (by omega) (by omega) (by omega)
  have s2 := poSub b.2 a.2 b2.pk a2.pk b2.st a2.st (by have := b2.ln; omega) (by have := a2.ln; omega) (by omega) (by omega) (by omega)
  have d1 := b1.pk.sub a1.pk
  have d2 := b2.pk.sub a2.pk
  have t1 := sub_srt ordM b1.st a1.st
  have t2 := sub_srt ordM b2.st a2.st
  have l1 := sub_len b.1 a.1
  have l2 := sub_len b.2 a.2
  have n1 := a1.ln
  have n2 := a2.ln
  have n3 := b1.ln
  have n4 := b2.ln
  have c1 := poScale (subM b.1 a.1) s.r.q d1 zr t1 (by omega) (by omega) (by omega) (by omega)
  have c2 := poScale (subM b.2 a.2) s.r.q d2 zr t2 (by omega) (by omega) (by omega) (by omega)
  have e1 := poAdd a.1 (sclM s.r.q (subM b.1 a.1)) a1.pk (d1.scl zr) a1.st (scl_srt t1) (by omega) (by have := scl_len s.r.q (subM b.1 a.1); omega) (by omega) (by omega) (by omega)
  have e2 := poAdd a.2 (sclM s.r.q (subM b.2 a.2)) a2.pk (d2.scl zr) a2.st (scl_srt t2) (by omega) (by have := scl_len s.r.q (subM b.2 a.2); omega) (by omega) (by omega) (by omega)
  have re := RQ.ok_eq hok.rl ro
  obtain ⟨k, nm, ar, r⟩ := s
  simp only at *
  subst hk
  generalize hq : r.q = q at *
  rw [re]
  have al := fun g3 g4 g7 => cbAlongS 3 4 7 (KB + 1000) (KC + 1000) (KV + 1000) g3 g4 g7 g svC svV fr 2 nm ar q cs a b (sclM q (subM b.1 a.1), sclM q (subM b.2 a.2)) (addM a.1 (sclM q (subM b.1 a.1)), addM a.2 (sclM q (subM b.2 a.2))) (by omega) h0 h1 ha hb s1 s2 c1 c2 e1 e2
  clear s1 s2 c1 c2 e1 e2 d1 d2 t1 t2 l1 l2 a1 a2 b1 b2 hco hok re ro zr hq n1 n2 n3 n4
  generalize addM a.1 (sclM q (subM b.1 a.1)) = x1 at *
  generalize addM a.2 (sclM q (subM b.2 a.2)) = x2 at *
  refine acall_lents Tryz.func73 rfl Tryz.ntmps73 Tryz.results73 Tryz.call73 (by rfl) (by simp) ?_
  (focus (refine wkad (w_a mB (w_a mV (w_a mC (w_a @lents_lt w_t)))) w_t w_t ?_; (repeat' first | exact w_t | apply w_l); all_goals intros))
  rename_i g3 g4 g6 g7
  have al := al g3 g4 g7
  (focus (refine wkax (w_a mB (w_a mV (w_a mC (w_a @lents_lt (w_a @atL_def w_t))))) w_t w_t w_t w_t (w_a al w_t) (w_r 0) ?_; (repeat' first | exact w_t | apply w_l); all_goals intros))
  simp (disch := omega) only [go_sem]
  refine backS (Sub.refl _) ⟨svV, rfl, rfl⟩ ?_
  rw [upd_same' hV, upd_same' hB]
  (repeat' (first | exact Agr.start _ | (refine Agr.own ?_ (by omega))))
set_option maxHeartbeats 8000000 in
theorem cbStep3 (σ : Mem) (KB KC KV g : Nat) (svC svV : Value) (cs : List (Po × Po)) (vs : List Vt) (fr : Nat) (i : Nat) (s : RS) (hB : σ KB = some (.box g 120 [.own KC svC, .own KV svV, iv fr] false)) (hV : σ KV = some (.row svV 107 3 (vs.map Vt.av) 0)) (hC : σ KC = some (.row svC 69 2 (cs.map coA) 0)) (hBV : KB ≠ KV) (hBC : KB ≠ KC) (hVC : KV ≠ KC) (hl : vs.length ≤ 64) (hf : fr ≤ 100) (hok : StOk cs s) (hco : ∀ c ∈ cs, Co c.1 ∧ Co c.2) (hk : s.k = 3) : ACall Tryz.prog 73 [.pbox KB g 0, s.av, iv i] σ fun r σ' => ∃ sv, r = coA (FS.nxt ⟨cs, vs, fr⟩ i s).2 ∧
      σ' = upd (upd σ KV (some (.row sv 107 3 ((vs ++ (FS.nxt ⟨cs, vs, fr⟩ i s).1).map Vt.av) 0))) KB (some (.box g 120 [.own KC svC, .own KV sv, iv (if s.k = 1 then fr + 1 else fr : Nat)] false)) := by
  have mB := lents_at hB
  have mV := lents_at hV
  have mC := lents_at hC
  simp only [Ent.sh, AV.shL, AV.sh] at mB mV mC
  have har : arS s.k = 3 := by rw [hk]; rfl
  have hal := hok.al
  have h0 := hok.ai 0 (by omega)
  obtain ⟨a1, a2⟩ : Co (cs.getD (gI s.ar 0).toNat ([], [])).1 ∧ Co (cs.getD (gI s.ar 0).toNat ([], [])).2 := hco _ (getD_mem (by omega))
  have h1 := hok.ai 1 (by omega)
  obtain ⟨b1, b2⟩ : Co (cs.getD (gI s.ar 1).toNat ([], [])).1 ∧ Co (cs.getD (gI s.ar 1).toNat ([], [])).2 := hco _ (getD_mem (by omega))
  have h2 := hok.ai 2 (by omega)
  obtain ⟨c1, c2⟩ : Co (cs.getD (gI s.ar 2).toNat ([], [])).1 ∧ Co (cs.getD (gI s.ar 2).toNat ([], [])).2 := hco _ (getD_mem (by omega))
  have en : FS.nxt ⟨cs, vs, fr⟩ i s = ([], (addM (cs.getD (gI s.ar 0).toNat ([], [])).1 (subM (cs.getD (gI s.ar 2).toNat ([], [])).1 (cs.getD (gI s.ar 1).toNat ([], [])).1), addM (cs.getD (gI s.ar 0).toNat ([], [])).2 (subM (cs.getD (gI s.ar 2).toNat ([], [])).2 (cs.getD (gI s.ar 1).toNat ([], [])).2))) := by
    unfold FS.nxt; simp only [hk]; rfl
  rw [en]
  simp only [if_neg (show ¬ s.k = 1 by omega)]
  clear en
  generalize ha : cs.getD (gI s.ar 0).toNat ([], []) = a at *
  generalize hb : cs.getD (gI s.ar 1).toNat ([], []) = b at *
  generalize hc : cs.getD (gI s.ar 2).toNat ([], []) = c at *
  have n1 := a1.ln
  have n2 := a2.ln
  have n3 := b1.ln
  have n4 := b2.ln
  have n5 := c1.ln
  have n6 := c2.ln
  have s1 := poSub c.1 b.1 c1.pk b1.pk c1.st b1.st (by omega) (by omega) (by omega) (by omega) (by omega)
  have s2 := poSub c.2 b.2 c2.pk b2.pk c2.st b2.st (by omega) (by omega) (by omega) (by omega) (by omega)
  have l1 := sub_len c.1 b.1
  have l2 := sub_len c.2 b.2
  have e1 := poAdd a.1 (subM c.1 b.1) a1.pk (c1.pk.sub b1.pk) a1.st (sub_srt ordM c1.st b1.st) (by omega) (by omega) (by omega) (by omega) (by omega)
  have e2 := poAdd a.2 (subM c.2 b.2) a2.pk (c2.pk.sub b2.pk) a2.st (sub_srt ordM c2.st b2.st) (by omega) (by omega) (by omega) (by omega) (by omega)
  have cB := coBetween b c s1 s2
  have oa := coOf a
  have cC := coCombine 57 a (subM c.1 b.1, subM c.2 b.2) (addM a.1 (subM c.1 b.1), addM a.2 (subM c.2 b.2)) e1 e2
  obtain ⟨k, nm, ar, ⟨rs, rl, rd⟩⟩ := s
  simp only at *
  subst hk
  have t0 := fun g3 g4 => cbAt 3 4 (KB + 1000) (KC + 1000) (KV + 1000) g3 g4 g svC svV fr 3 nm ar (.v (.bool rs)) (lim rl) (lim rd) cs 0 ⟨rfl, rfl, rfl⟩ (by omega) h0
  have t1 := fun g3 g4 => cbAt 3 4 (KB + 1000) (KC + 1000) (KV + 1000) g3 g4 g svC svV fr 3 nm ar (.v (.bool rs)) (lim rl) (lim rd) cs 1 ⟨rfl, rfl, rfl⟩ (by omega) h1
  have t2 := fun g3 g4 => cbAt 3 4 (KB + 1000) (KC + 1000) (KV + 1000) g3 g4 g svC svV fr 3 nm ar (.v (.bool rs)) (lim rl) (lim rd) cs 2 ⟨rfl, rfl, rfl⟩ (by omega) h2
  rw [ha] at t0
  rw [hb] at t1
  rw [hc] at t2
  clear s1 s2 e1 e2 l1 l2 a1 a2 b1 b2 c1 c2 hco hok n1 n2 n3 n4 n5 n6 ha hb hc
  generalize addM a.1 (subM c.1 b.1) = x1 at *
  generalize addM a.2 (subM c.2 b.2) = x2 at *
  generalize subM c.1 b.1 = y1 at *
  generalize subM c.2 b.2 = y2 at *
  obtain ⟨aa, ab⟩ := a
  obtain ⟨ba, bb⟩ := b
  obtain ⟨ca, cb⟩ := c
  refine acall_lents Tryz.func73 rfl Tryz.ntmps73 Tryz.results73 Tryz.call73 (by rfl) (by simp) ?_
  (repeat' (first | (with_reducible first | refine stp ?_ | apply gx1 | apply gx2 | apply gx3 | apply gx4 | apply gx5 | apply gx6 | apply gx7 | apply gy8 | apply gz2 | apply gz3 | refine gwr (t0 _ _) ?_ ?_ | refine gwr (t1 _ _) ?_ ?_ | refine gwr (t2 _ _) ?_ ?_ | refine gw0 (oa) ?_ ?_ | refine gw3 (oa) ?_ ?_ ?_ | refine gw0 (cB) ?_ ?_ | refine gw3 (cB) ?_ ?_ ?_ | refine gw0 (cC) ?_ ?_ | refine gw3 (cC) ?_ ?_ ?_) | ((with_reducible apply gyr (t2 _ _)); (focus rfl); (focus rfl); iterate 3 focus ((with_reducible refine gE ?_); (try simp (disch := omega) only [go_sem, mB, mV, mC, lents_lt, lents_beq, atL_def, decide_eq_true, decide_eq_false, if_pos, if_neg, Int.reduceAdd, Int.reduceSub, Int.reduceToNat, Int.zero_add]) <;> first | rfl | done)) | ((with_reducible apply gyr (t1 _ _)); (focus rfl); (focus rfl); iterate 3 focus ((with_reducible refine gE ?_); (try simp (disch := omega) only [go_sem, mB, mV, mC, lents_lt, lents_beq, atL_def, decide_eq_true, decide_eq_false, if_pos, if_neg, Int.reduceAdd, Int.reduceSub, Int.reduceToNat, Int.zero_add]) <;> first | rfl | done)) | ((with_reducible apply gyr (t0 _ _)); (focus rfl); (focus rfl); iterate 3 focus ((with_reducible refine gE ?_); (try simp (disch := omega) only [go_sem, mB, mV, mC, lents_lt, lents_beq, atL_def, decide_eq_true, decide_eq_false, if_pos, if_neg, Int.reduceAdd, Int.reduceSub, Int.reduceToNat, Int.zero_add]) <;> first | rfl | done)) | (with_reducible refine all_v ?_; intro _) | ((with_reducible refine gE ?_); (try simp (disch := omega) only [go_sem, mB, mV, mC, lents_lt, lents_beq, atL_def, decide_eq_true, decide_eq_false, if_pos, if_neg, Int.reduceAdd, Int.reduceSub, Int.reduceToNat, Int.zero_add]) <;> first | rfl | omega) | with_reducible refine t_in_other (by decide) ?_ | ((with_reducible apply gy1); iterate 3 focus rfl) | ((with_reducible apply gy2); iterate 3 focus rfl) | ((with_reducible apply gy3); iterate 2 focus rfl) | ((with_reducible apply gy4); iterate 1 focus rfl) | ((with_reducible apply gy5); iterate 4 focus rfl) | ((with_reducible apply gy5c); iterate 4 focus rfl) | ((with_reducible apply gy6); iterate 4 focus rfl) | ((with_reducible apply d_bar); iterate 3 focus rfl) | ((with_reducible apply q_pub); iterate 1 focus rfl) | ((with_reducible apply gy7); iterate 1 focus rfl) | ((with_reducible apply gy9); (focus ((with_reducible refine gE ?_); (try simp (disch := omega) only [go_sem, mB, mV, mC, lents_lt, lents_beq, atL_def, decide_eq_true, decide_eq_false, if_pos, if_neg, Int.reduceAdd, Int.reduceSub, Int.reduceToNat, Int.zero_add]) <;> rfl))) | ((with_reducible apply gz1); (focus first | rfl | (simp (disch := omega) only [go_sem, mB, mV, mC, lents_lt, lents_beq, atL_def, decide_eq_true, decide_eq_false, if_pos, if_neg, Int.reduceAdd, Int.reduceSub, Int.reduceToNat, Int.zero_add]; done))) | ((with_reducible apply r_drawD (id := 9) (pickR [(1, coA (aa, ab)), (2, coA (aa, ab)), (4, coA (ba, bb)), (6, coA (ca, cb)), (7, coA (y1, y2)), (8, coA (x1, x2))]) [] [6]); (focus kernel_rfl); (focus rfl); (focus kernel_rfl); (focus (simp only [List.length_cons, List.length_nil, Nat.reduceAdd]; rfl))) | ((with_reducible first | apply og_split | apply dg_split | apply cg_split); all_goals (intro hc; (try simp only [bool_to_prop] at hc); try (exfalso; omega)))))
  simp (disch := omega) only [go_sem]
  refine backS (Sub.refl _) ⟨svV, rfl, rfl⟩ ?_
  rw [upd_same' hV, upd_same' hB]
  (repeat' (first | exact Agr.start _ | (refine Agr.own ?_ (by omega))))
set_option maxHeartbeats 8000000 in
theorem cbStep4 (σ : Mem) (KB KC KV g : Nat) (svC svV : Value) (cs : List (Po × Po)) (vs : List Vt) (fr : Nat) (i : Nat) (s : RS) (hB : σ KB = some (.box g 120 [.own KC svC, .own KV svV, iv fr] false)) (hV : σ KV = some (.row svV 107 3 (vs.map Vt.av) 0)) (hC : σ KC = some (.row svC 69 2 (cs.map coA) 0)) (hBV : KB ≠ KV) (hBC : KB ≠ KC) (hVC : KV ≠ KC) (hl : vs.length ≤ 64) (hf : fr ≤ 100) (hok : StOk cs s) (hco : ∀ c ∈ cs, Co c.1 ∧ Co c.2) (hk : s.k = 4) : ACall Tryz.prog 73 [.pbox KB g 0, s.av, iv i] σ fun r σ' => ∃ sv, r = coA (FS.nxt ⟨cs, vs, fr⟩ i s).2 ∧
      σ' = upd (upd σ KV (some (.row sv 107 3 ((vs ++ (FS.nxt ⟨cs, vs, fr⟩ i s).1).map Vt.av) 0))) KB (some (.box g 120 [.own KC svC, .own KV sv, iv (if s.k = 1 then fr + 1 else fr : Nat)] false)) := by
  have mB := lents_at hB
  have mV := lents_at hV
  have mC := lents_at hC
  simp only [Ent.sh, AV.shL, AV.sh] at mB mV mC
  have har : arS s.k = 3 := by rw [hk]; rfl
  have hal := hok.al
  have h0 := hok.ai 0 (by omega)
  obtain ⟨a1, a2⟩ : Co (cs.getD (gI s.ar 0).toNat ([], [])).1 ∧ Co (cs.getD (gI s.ar 0).toNat ([], [])).2 := hco _ (getD_mem (by omega))
  have h1 := hok.ai 1 (by omega)
  obtain ⟨b1, b2⟩ : Co (cs.getD (gI s.ar 1).toNat ([], [])).1 ∧ Co (cs.getD (gI s.ar 1).toNat ([], [])).2 := hco _ (getD_mem (by omega))
  have h2 := hok.ai 2 (by omega)
  obtain ⟨c1, c2⟩ : Co (cs.getD (gI s.ar 2).toNat ([], [])).1 ∧ Co (cs.getD (gI s.ar 2).toNat ([], [])).2 := hco _ (getD_mem (by omega))
  have en : FS.nxt ⟨cs, vs, fr⟩ i s = ([], (addM (cs.getD (gI s.ar 0).toNat ([], [])).1 (subM (cs.getD (gI s.ar 1).toNat ([], [])).2 (cs.getD (gI s.ar 2).toNat ([], [])).2), addM (cs.getD (gI s.ar 0).toNat ([], [])).2 (subM (cs.getD (gI s.ar 2).toNat ([], [])).1 (cs.getD (gI s.ar 1).toNat ([], [])).1))) := by
    unfold FS.nxt; simp only [hk]; rfl
  rw [en]
  simp only [if_neg (show ¬ s.k = 1 by omega)]
  clear en
  generalize ha : cs.getD (gI s.ar 0).toNat ([], []) = a at *
  generalize hb : cs.getD (gI s.ar 1).toNat ([], []) = b at *
  generalize hc : cs.getD (gI s.ar 2).toNat ([], []) = c at *
  have n1 := a1.ln
  have n2 := a2.ln
  have n3 := b1.ln
  have n4 := b2.ln
  have n5 := c1.ln
  have n6 := c2.ln
  have s1 := poSub c.1 b.1 c1.pk b1.pk c1.st b1.st (by omega) (by omega) (by omega) (by omega) (by omega)
  have s2 := poSub c.2 b.2 c2.pk b2.pk c2.st b2.st (by omega) (by omega) (by omega) (by omega) (by omega)
  have l1 := sub_len c.1 b.1
  have l2 := sub_len c.2 b.2
  have l3 := sub_len b.2 c.2
  have hn := poNeg (subM c.2 b.2) (c2.pk.sub b2.pk) (sub_srt ordM c2.st b2.st) (by omega) (by omega) (by omega)
  rw [show scaleP (-1) (subM c.2 b.2) = subM b.2 c.2 from neg_sub ordM c2.st b2.st] at hn
  have e1 := poAdd a.1 (subM b.2 c.2) a1.pk (b2.pk.sub c2.pk) a1.st (sub_srt ordM b2.st c2.st) (by omega) (by omega) (by omega) (by omega) (by omega)
  have e2 := poAdd a.2 (subM c.1 b.1) a2.pk (c1.pk.sub b1.pk) a2.st (sub_srt ordM c1.st b1.st) (by omega) (by omega) (by omega) (by omega) (by omega)
  have cB := coBetween b c s1 s2
  have oa := coOf a
  have cC := coCombine 57 a (subM b.2 c.2, subM c.1 b.1) (addM a.1 (subM b.2 c.2), addM a.2 (subM c.1 b.1)) e1 e2
  obtain ⟨k, nm, ar, ⟨rs, rl, rd⟩⟩ := s
  simp only at *
  subst hk
  have t0 := fun g3 g4 => cbAt 3 4 (KB + 1000) (KC + 1000) (KV + 1000) g3 g4 g svC svV fr 4 nm ar (.v (.bool rs)) (lim rl) (lim rd) cs 0 ⟨rfl, rfl, rfl⟩ (by omega) h0
  have t1 := fun g3 g4 => cbAt 3 4 (KB + 1000) (KC + 1000) (KV + 1000) g3 g4 g svC svV fr 4 nm ar (.v (.bool rs)) (lim rl) (lim rd) cs 1 ⟨rfl, rfl, rfl⟩ (by omega) h1
  have t2 := fun g3 g4 => cbAt 3 4 (KB + 1000) (KC + 1000) (KV + 1000) g3 g4 g svC svV fr 4 nm ar (.v (.bool rs)) (lim rl) (lim rd) cs 2 ⟨rfl, rfl, rfl⟩ (by omega) h2
  rw [ha] at t0
  rw [hb] at t1
  rw [hc] at t2
  clear s1 s2 e1 e2 l1 l2 l3 a1 a2 b1 b2 c1 c2 hco hok n1 n2 n3 n4 n5 n6 ha hb hc
  generalize addM a.1 (subM b.2 c.2) = x1 at *
  generalize addM a.2 (subM c.1 b.1) = x2 at *
  generalize subM c.1 b.1 = y1 at *
  generalize subM c.2 b.2 = y2 at *
  generalize subM b.2 c.2 = y3 at *
  obtain ⟨aa, ab⟩ := a
  obtain ⟨ba, bb⟩ := b
  obtain ⟨ca, cb⟩ := c
  refine acall_lents Tryz.func73 rfl Tryz.ntmps73 Tryz.results73 Tryz.call73 (by rfl) (by simp) ?_
  (repeat' (first | (with_reducible first | refine stp ?_ | apply gx1 | apply gx2 | apply gx3 | apply gx4 | apply gx5 | apply gx6 | apply gx7 | apply gy8 | apply gz2 | apply gz3 | refine gwr (t0 _ _) ?_ ?_ | refine gwr (t1 _ _) ?_ ?_ | refine gwr (t2 _ _) ?_ ?_ | refine gw0 (oa) ?_ ?_ | refine gw3 (oa) ?_ ?_ ?_ | refine gw0 (cB) ?_ ?_ | refine gw3 (cB) ?_ ?_ ?_ | refine gw0 (cC) ?_ ?_ | refine gw3 (cC) ?_ ?_ ?_ | refine gw0 (hn) ?_ ?_ | refine gw3 (hn) ?_ ?_ ?_) | ((with_reducible apply gyr (t2 _ _)); (focus rfl); (focus rfl); iterate 3 focus ((with_reducible refine gE ?_); (try simp (disch := omega) only [go_sem, mB, mV, mC, lents_lt, lents_beq, atL_def, decide_eq_true, decide_eq_false, if_pos, if_neg, Int.reduceAdd, Int.reduceSub, Int.reduceToNat, Int.zero_add]) <;> first | rfl | done)) | ((with_reducible apply gyr (t1 _ _)); (focus rfl); (focus rfl); iterate 3 focus ((with_reducible refine gE ?_); (try simp (disch := omega) only [go_sem, mB, mV, mC, lents_lt, lents_beq, atL_def, decide_eq_true, decide_eq_false, if_pos, if_neg, Int.reduceAdd, Int.reduceSub, Int.reduceToNat, Int.zero_add]) <;> first | rfl | done)) | ((with_reducible apply gyr (t0 _ _)); (focus rfl); (focus rfl); iterate 3 focus ((with_reducible refine gE ?_); (try simp (disch := omega) only [go_sem, mB, mV, mC, lents_lt, lents_beq, atL_def, decide_eq_true, decide_eq_false, if_pos, if_neg, Int.reduceAdd, Int.reduceSub, Int.reduceToNat, Int.zero_add]) <;> first | rfl | done)) | (with_reducible refine all_v ?_; intro _) | ((with_reducible refine gE ?_); (try simp (disch := omega) only [go_sem, mB, mV, mC, lents_lt, lents_beq, atL_def, decide_eq_true, decide_eq_false, if_pos, if_neg, Int.reduceAdd, Int.reduceSub, Int.reduceToNat, Int.zero_add]) <;> first | rfl | omega) | with_reducible refine t_in_other (by decide) ?_ | ((with_reducible apply gy1); iterate 3 focus rfl) | ((with_reducible apply gy2); iterate 3 focus rfl) | ((with_reducible apply gy3); iterate 2 focus rfl) | ((with_reducible apply gy4); iterate 1 focus rfl) | ((with_reducible apply gy5); iterate 4 focus rfl) | ((with_reducible apply gy5c); iterate 4 focus rfl) | ((with_reducible apply gy6); iterate 4 focus rfl) | ((with_reducible apply d_bar); iterate 3 focus rfl) | ((with_reducible apply q_pub); iterate 1 focus rfl) | ((with_reducible apply gy7); iterate 1 focus rfl) | ((with_reducible apply gy9); (focus ((with_reducible refine gE ?_); (try simp (disch := omega) only [go_sem, mB, mV, mC, lents_lt, lents_beq, atL_def, decide_eq_true, decide_eq_false, if_pos, if_neg, Int.reduceAdd, Int.reduceSub, Int.reduceToNat, Int.zero_add]) <;> rfl))) | ((with_reducible apply gz1); (focus first | rfl | (simp (disch := omega) only [go_sem, mB, mV, mC, lents_lt, lents_beq, atL_def, decide_eq_true, decide_eq_false, if_pos, if_neg, Int.reduceAdd, Int.reduceSub, Int.reduceToNat, Int.zero_add]; done))) | ((with_reducible apply r_drawD (id := 11) (pickR [(1, coA (ba, bb)), (3, coA (ca, cb)), (4, coA (y1, y2))]) [] []); (focus kernel_rfl); (focus rfl); (focus kernel_rfl); (focus (simp only [List.length_cons, List.length_nil, Nat.reduceAdd]; rfl))) | ((with_reducible apply r_drawD (id := 12) (pickR [(1, coA (aa, ab)), (2, coA (aa, ab)), (5, poA y3), (9, coA (x1, x2))]) [] [6]); (focus kernel_rfl); (focus rfl); (focus kernel_rfl); (focus (simp only [List.length_cons, List.length_nil, Nat.reduceAdd]; rfl))) | ((with_reducible first | apply og_split | apply dg_split | apply cg_split); all_goals (intro hc; (try simp only [bool_to_prop] at hc); try (exfalso; omega)))))
  simp (disch := omega) only [go_sem]
  refine backS (Sub.refl _) ⟨svV, rfl, rfl⟩ ?_
  rw [upd_same' hV, upd_same' hB]
  (repeat' (first | exact Agr.start _ | (refine Agr.own ?_ (by omega))))
set_option maxHeartbeats 8000000 in
theorem cbStep5 (σ : Mem) (KB KC KV g : Nat) (svC svV : Value) (cs : List (Po × Po)) (vs : List Vt) (fr : Nat) (i : Nat) (s : RS) (hB : σ KB = some (.box g 120 [.own KC svC, .own KV svV, iv fr] false)) (hV : σ KV = some (.row svV 107 3 (vs.map Vt.av) 0)) (hC : σ KC = some (.row svC 69 2 (cs.map coA) 0)) (hBV : KB ≠ KV) (hBC : KB ≠ KC) (hVC : KV ≠ KC) (hl : vs.length ≤ 64) (hf : fr ≤ 100) (hok : StOk cs s) (hco : ∀ c ∈ cs, Co c.1 ∧ Co c.2) (hk : s.k = 5) : ACall Tryz.prog 73 [.pbox KB g 0, s.av, iv i] σ fun r σ' => ∃ sv, r = coA (FS.nxt ⟨cs, vs, fr⟩ i s).2 ∧
      σ' = upd (upd σ KV (some (.row sv 107 3 ((vs ++ (FS.nxt ⟨cs, vs, fr⟩ i s).1).map Vt.av) 0))) KB (some (.box g 120 [.own KC svC, .own KV sv, iv (if s.k = 1 then fr + 1 else fr : Nat)] false)) := by
  have mB := lents_at hB
  have mV := lents_at hV
  have mC := lents_at hC
  simp only [Ent.sh, AV.shL, AV.sh] at mB mV mC
  have har : arS s.k = 2 := by rw [hk]; rfl
  have hal := hok.al
  have h0 := hok.ai 0 (by omega)
  obtain ⟨a1, a2⟩ : Co (cs.getD (gI s.ar 0).toNat ([], [])).1 ∧ Co (cs.getD (gI s.ar 0).toNat ([], [])).2 := hco _ (getD_mem (by omega))
  have h1 := hok.ai 1 (by omega)
  obtain ⟨b1, b2⟩ : Co (cs.getD (gI s.ar 1).toNat ([], [])).1 ∧ Co (cs.getD (gI s.ar 1).toNat ([], [])).2 := hco _ (getD_mem (by omega))
  have en : FS.nxt ⟨cs, vs, fr⟩ i s = ([(1, (i : Int), 0)], (addM (cs.getD (gI s.ar 0).toNat ([], [])).1 (mlM (subM (cs.getD (gI s.ar 1).toNat ([], [])).1 (cs.getD (gI s.ar 0).toNat ([], [])).1) (varM vs.length)), addM (cs.getD (gI s.ar 0).toNat ([], [])).2 (mlM (subM (cs.getD (gI s.ar 1).toNat ([], [])).2 (cs.getD (gI s.ar 0).toNat ([], [])).2) (varM vs.length)))) := by
    unfold FS.nxt; simp only [hk]; rfl
  rw [en]
  simp only [if_neg (show ¬ s.k = 1 by omega)]
  clear en
  generalize ha : cs.getD (gI s.ar 0).toNat ([], []) = a at *
  generalize hb : cs.getD (gI s.ar 1).toNat ([], []) = b at *
  have s1 := poSub b.1 a.1 b1.pk a1.pk b1.st a1.st (by have := b1.ln; omega) (by have := a1.ln; omega) (by omega) (by omega) (by omega)
  have s2 := poSub b.2 a.2 b2.pk a2.pk b2.st a2.st (by have := b2.ln; omega) (by have := a2.ln; omega) (by omega) (by omega) (by omega)
  have d1 := b1.pk.sub a1.pk
  have d2 := b2.pk.sub a2.pk
  have t1 := sub_srt ordM b1.st a1.st
  have t2 := sub_srt ordM b2.st a2.st
  have l1 := sub_len b.1 a.1
  have l2 := sub_len b.2 a.2
  have n1 := a1.ln
  have n2 := a2.ln
  have n3 := b1.ln
  have n4 := b2.ln
  have c1 := poMulVar (subM b.1 a.1) vs.length d1 t1 (by omega) (by omega) (by omega)
  have c2 := poMulVar (subM b.2 a.2) vs.length d2 t2 (by omega) (by omega) (by omega)
  have e1 := poAdd a.1 (mlM (subM b.1 a.1) (varM vs.length)) (a1.pk.mono (Nat.le_refl _) (show 1 ≤ 2 by omega)) d1.mulV a1.st (mulR_srt ordM mulK t1 (varM_srt _)) (by omega) (by have := mulV_len (subM b.1 a.1) vs.length; omega) (by omega) (by omega) (by omega)
  have e2 := poAdd a.2 (mlM (subM b.2 a.2) (varM vs.length)) (a2.pk.mono (Nat.le_refl _) (show 1 ≤ 2 by omega)) d2.mulV a2.st (mulR_srt ordM mulK t2 (varM_srt _)) (by omega) (by have := mulV_len (subM b.2 a.2) vs.length; omega) (by omega) (by omega) (by omega)
  obtain ⟨k, nm, ar, ⟨rs, rl, rd⟩⟩ := s
  simp only at *
  subst hk
  have al := fun sv1 g3 g4 g7 g10 => cbAlongM 3 4 7 (KB + 1000) (KC + 1000) (KV + 1000) g3 g4 g7 g svC sv1 fr 5 nm ar rs rl rd 10 g10 (varM vs.length) cs a b (mlM (subM b.1 a.1) (varM vs.length), mlM (subM b.2 a.2) (varM vs.length)) (addM a.1 (mlM (subM b.1 a.1) (varM vs.length)), addM a.2 (mlM (subM b.2 a.2) (varM vs.length))) (by omega) h0 h1 ha hb s1 s2 c1 c2 e1 e2
  clear s1 s2 c1 c2 e1 e2 d1 d2 t1 t2 l1 l2 a1 a2 b1 b2 hco hok n1 n2 n3 n4
  generalize addM a.1 (mlM (subM b.1 a.1) (varM vs.length)) = x1 at *
  generalize addM a.2 (mlM (subM b.2 a.2) (varM vs.length)) = x2 at *
  refine acall_lents Tryz.func73 rfl Tryz.ntmps73 Tryz.results73 Tryz.call73 (by rfl) (by simp) ?_
  (focus (refine wkad (w_a mB (w_a mV (w_a mC (w_a @lents_lt w_t)))) w_t w_t ?_; (repeat' first | exact w_t | apply w_l); all_goals intros))
  refine o_fresh ((cbVariable _ (KB + 1000) (KC + 1000) (KV + 1000) g svC svV vs fr 1 (i : Int) 0 (by (simp (disch := omega) only [go_sem, mB, mV, if_neg, if_pos] <;> repeat' first | rfl | refine ⟨?_, ?_⟩)) (by (simp (disch := omega) only [go_sem, mB, mV, if_neg, if_pos] <;> repeat' first | rfl | refine ⟨?_, ?_⟩)) (by omega) (by omega))) ?_
  intro sv1
  generalize varM vs.length = t at *
  (focus (refine wkad (w_a mB (w_a mV (w_a mC (w_a @lents_lt w_t)))) w_t w_t ?_; (repeat' first | exact w_t | apply w_l); all_goals intros))
  rename_i g3 g4 g6 g7 g10
  have al := al sv1 g3 g4 g7 g10
  (focus (refine wkax (w_a mB (w_a mV (w_a mC (w_a @lents_lt (w_a @atL_def w_t))))) w_t w_t w_t w_t (w_a al w_t) (w_r 0) ?_; (repeat' first | exact w_t | apply w_l); all_goals intros))
  simp (disch := omega) only [go_sem]
  refine backS (Sub.refl _) ⟨sv1, rfl, rfl⟩ ?_
  intro k
  by_cases hk1 : k = KB
  · rw [hk1]
    simp (disch := omega) only [upd_at, if_pos, if_neg, Option.map_some, Ent.sh, AV.shL, AV.sh]
    try rfl
  · by_cases hk2 : k = KV
    · rw [hk2]
      simp (disch := omega) only [upd_at, if_pos, if_neg, Option.map_some, Ent.sh, AV.shL, AV.sh]
      try rfl
    · simp (disch := omega) only [upd_at, if_neg]
      exact Agr.start σ k

theorem cbStep (σ : Mem) (KB KC KV g : Nat) (svC svV : Value) (cs : List (Po × Po)) (vs : List Vt) (fr : Nat) (i : Nat) (s : RS) (hB : σ KB = some (.box g 120 [.own KC svC, .own KV svV, iv fr] false)) (hV : σ KV = some (.row svV 107 3 (vs.map Vt.av) 0)) (hC : σ KC = some (.row svC 69 2 (cs.map coA) 0)) (hBV : KB ≠ KV) (hBC : KB ≠ KC) (hVC : KV ≠ KC) (hl : vs.length ≤ 64) (hf : fr ≤ 100) (hok : StOk cs s) (hco : ∀ c ∈ cs, Co c.1 ∧ Co c.2) : ACall Tryz.prog 73 [.pbox KB g 0, s.av, iv i] σ fun r σ' => ∃ sv, r = coA (FS.nxt ⟨cs, vs, fr⟩ i s).2 ∧
      σ' = upd (upd σ KV (some (.row sv 107 3 ((vs ++ (FS.nxt ⟨cs, vs, fr⟩ i s).1).map Vt.av) 0))) KB (some (.box g 120 [.own KC svC, .own KV sv, iv (if s.k = 1 then fr + 1 else fr : Nat)] false)) := by
  by_cases k1 : s.k = 1
  · exact cbStep1 σ KB KC KV g svC svV cs vs fr i s hB hV hC hBV hBC hVC hl hf k1
  · by_cases k2 : s.k = 2
    · exact cbStep2 σ KB KC KV g svC svV cs vs fr i s hB hV hC hBV hBC hVC hl hf hok hco k2
    · by_cases k3 : s.k = 3
      · exact cbStep3 σ KB KC KV g svC svV cs vs fr i s hB hV hC hBV hBC hVC hl hf hok hco k3
      · by_cases k4 : s.k = 4
        · exact cbStep4 σ KB KC KV g svC svV cs vs fr i s hB hV hC hBV hBC hVC hl hf hok hco k4
        · by_cases k5 : s.k = 5
          · exact cbStep5 σ KB KC KV g svC svV cs vs fr i s hB hV hC hBV hBC hVC hl hf hok hco k5
          · by_cases k6 : s.k = 6
            · exact cbStep6 σ KB KC KV g svC svV cs vs fr i s hB hV hC hBV hBC hVC hl hf k6
            · exact cbStep7 σ KB KC KV g svC svV cs vs fr i s hB hV hC hBV hBC hVC hl hf ⟨k1, k2, k3, k4, k5, k6⟩
end Go.Proofs.YteiopjkamgmfpaaGreat
end

section
namespace Go.Pg
open Go Go.RowKit
set_option linter.unusedSimpArgs false
set_option linter.unusedVariables false
section
variable {P : Program} {all rest : List Oper} {K : St → Prop} {e : Nat → AV} {m : Mem} {dst : Option Nat} {d t j : Nat} {op : Op} {ty : TypeId} {pos : String} {af : Array Edge} {r : Res} {rs : Nat → AV} {bar : List Nat} {fu k : Nat} {σs : Mem}
/-- An append that steps that look at no memory may pass. -/
theorem gy5d (hb : bar.contains k = true) (hs : (bar.contains (k + 1000) || bar.contains (k + 3000)) = false) (h2 : bar.contains (k + 2000) = true) (ho : all[k]? = some ⟨some d, op, ty, pos, af, none⟩) (h : Ev (opRes P ⟨e, m⟩ op = r)) (hkp : Ev (resKeep noMem r)) (hk : aRes P d (some d) r (dList P 0 all rs bar noMem fu (k + 1) K) ⟨e, m⟩) : dList P 0 all rs bar σs (fu + 1) k K ⟨e, m⟩ := by
  rw [dList_succ]
  unfold xStep
  rw [ho]
  simp only [Bool.or_eq_false_iff] at hs
  simp only [nextS, hb, hs, h2, if_true, Bool.false_eq_true, if_false]
  have h : opRes P ⟨e, m⟩ op = r := h
  refine ⟨?_, fun _ => ⟨rfl, by rw [h]; exact hkp, fun h => by cases h⟩⟩
  unfold fStep
  rw [aList_none, h, Option.getD_some, Nat.zero_add]
  exact hk
end
end Go.Pg
end

section
namespace Go.Proofs.YteiopjkamgmfpaaGreat
open Go Go.RowKit Go.Pg Go.Pol
set_option linter.unusedSimpArgs false
set_option linter.unusedVariables false
set_option maxRecDepth 20000
attribute [local go_sem] Tryz.underlying3 Tryz.underlying4 Tryz.underlying129 Tryz.underlying9 Tryz.underlying26 Tryz.underlying35 Tryz.underlying53 Tryz.underlying51 Tryz.underlying49 Tryz.underlying55 Tryz.underlying22 Tryz.underlying25 Tryz.underlying107 Tryz.underlying32 Tryz.underlying69 Tryz.underlying31 Tryz.underlying34 Tryz.underlying120 Tryz.underlying121 Tryz.underlying42 Tryz.underlying113 Tryz.underlying118 Tryz.underlying160 sz3 by3 z3 szErr zErr szStr byStr zStr szStep byStep zStep szFig zFig szSlI zSlI szSlS zSlS szVar byVar zVar szSlV zSlV szCoord byCoord zCoord szSlC zSlC szFrame zFrame szCBld byCBld zCBld szCVec byCVec zCVec szPoly byPoly zPoly szTerm zTerm
attribute [-bool_to_prop] Bool.and_eq_decide Bool.or_eq_decide Bool.decide_beq_decide decide_eq_decide
/-! ### the parameters of a frame -/
abbrev frmA (cs : List (Po × Po)) (vs : List Vt) : AV := .agg [.sl 2 (cs.map coA), .sl 3 (vs.map Vt.av)]
def parsN (l : List Vt) (i : Nat) : List Int := ((List.range i).filter fun j => decide ((l.getD j (0, 0, 0)).1 = 1)).map fun n : Nat => (n : Int)
/-! ### how many there are -/
def cnt1 (l : List Vt) : Nat := (l.filter fun v => decide (v.1 = 1)).length
def cF (ss : List RS) : Nat → Nat
  | 0 => 0
  | i + 1 => cF ss i + if (ss.getD i RS.zero).k = 1 then 1 else 0
def cP (ss : List RS) : Nat → Nat
  | 0 => 0
  | i + 1 => cP ss i + if (ss.getD i RS.zero).k = 5 ∨ (ss.getD i RS.zero).k = 6 then 1 else 0
def cD (ss : List RS) : Nat → Nat
  | 0 => 0
  | i + 1 => cD ss i + if (ss.getD i RS.zero).k = 1 ∨ (ss.getD i RS.zero).k = 2 ∨ (ss.getD i RS.zero).k = 3 ∨ (ss.getD i RS.zero).k = 4 ∨ (ss.getD i RS.zero).k = 5 then 0 else 2
end Go.Proofs.YteiopjkamgmfpaaGreat
end

section
namespace Go.Proofs.YteiopjkamgmfpaaGreat
open Go Go.RowKit Go.Pg Go.Pol
set_option linter.unusedSimpArgs false
set_option linter.unusedVariables false
set_option maxRecDepth 20000
attribute [local go_sem] Tryz.underlying3 Tryz.underlying4 Tryz.underlying129 Tryz.underlying9 Tryz.underlying26 Tryz.underlying35 Tryz.underlying53 Tryz.underlying51 Tryz.underlying49 Tryz.underlying55 Tryz.underlying22 Tryz.underlying25 Tryz.underlying107 Tryz.underlying32 Tryz.underlying69 Tryz.underlying31 Tryz.underlying34 Tryz.underlying120 Tryz.underlying121 Tryz.underlying42 Tryz.underlying113 Tryz.underlying118 Tryz.underlying160 sz3 by3 z3 szB zB szErr zErr szStr byStr zStr szRat zRat szInt zInt szNat zNat szStep byStep zStep szFig zFig szSlI zSlI szSlS zSlS szVar byVar zVar szSlV zSlV szCoord byCoord zCoord szSlC zSlC szFrame zFrame szCBld byCBld zCBld szCVec byCVec zCVec szPoly byPoly zPoly szTerm zTerm szPtrB zPtrB szFnC zFnC
attribute [-bool_to_prop] Bool.and_eq_decide Bool.or_eq_decide Bool.decide_beq_decide decide_eq_decide
theorem frN_fr (ss : List RS) : ∀ i, (frN ss i).fr ≤ i
  | 0 => Nat.le_refl _
  | i + 1 => by
    have := frN_fr ss i
    unfold frN
    simp only [FS.push]
    split <;> omega
theorem nfN_mono (ss : List RS) : ∀ i k, nfN ss i ≤ nfN ss (i + k)
  | i, 0 => Nat.le_refl _
  | i, k + 1 => Nat.le_trans (nfN_mono ss i k) (by show _ ≤ nfN ss (i + k) + _; omega)
/-- What is known of a figure in order. -/
structure FigOk (ss : List RS) : Prop where
  len : ss.length ≤ 40
  er : ∀ i, i < ss.length → errS ss i = 0
  lm : ∀ s ∈ ss, s.r.lm 2
  nf : nfN ss ss.length ≤ 20
theorem FigOk.fi {ss : List RS} (h : FigOk ss) {i : Nat} (hi : i ≤ ss.length) (hj : ∀ j, j < i → bigN ss j = false) : ∃ D, FI (frN ss i) (nfN ss i) D ∧ nfN ss i ≤ 20 := by
  have hr : ∀ s ∈ ss, s.k = 2 → s.r.ok = true := fun s hs => by
    obtain ⟨j, hj, rfl⟩ := List.mem_iff_getElem.1 hs
    exact (errS_ok hj (h.er j hj)).2.2.2
  obtain ⟨D, hD⟩ := frN_ok ss hr (fun s hs => lm_bd (h.lm s hs)) i hi hj
  refine ⟨D, hD, Nat.le_trans ?_ h.nf⟩
  have := nfN_mono ss i (ss.length - i)
  rwa [show i + (ss.length - i) = ss.length by omega] at this
theorem FI.co {f : FS} {n D : Nat} (h : FI f n D) (hn : n ≤ 20) : ∀ c ∈ f.cs, Co c.1 ∧ Co c.2 := fun c hc => by
  obtain ⟨h1, h2⟩ := h.cs c hc
  obtain ⟨l1, l2⟩ := h.ln c hc
  have hv := h.nv
  exact ⟨⟨h1.pk (by omega) h.D0 h.Dl hn, h1.1, l1⟩, ⟨h2.pk (by omega) h.D0 h.Dl hn, h2.1, l2⟩⟩
theorem FigOk.st {ss : List RS} (h : FigOk ss) {i : Nat} (hi : i < ss.length) : StOk (frN ss i).cs ss[i] := by
  obtain ⟨h1, h2, h3, h4⟩ := errS_ok hi (h.er i hi)
  exact ⟨h1, h2, fun k hk => by rw [frN_len]; exact h3 k hk, h4, h.lm _ (List.getElem_mem hi)⟩
/-- What the next frame is. -/
theorem frN_succ {ss : List RS} {i : Nat} (hi : i < ss.length) : frN ss (i + 1) = ⟨(frN ss i).cs ++ [((frN ss i).nxt i ss[i]).2], (frN ss i).vs ++ ((frN ss i).nxt i ss[i]).1, if ss[i].k = 1 then (frN ss i).fr + 1 else (frN ss i).fr⟩ := by
  show (frN ss i).push i (ss.getD i RS.zero) = _
  rw [show ss.getD i RS.zero = ss[i] from by rw [List.getD_eq_getElem?_getD, List.getElem?_eq_getElem hi]; rfl]; rfl
theorem bigN_at {ss : List RS} {i : Nat} (hi : i < ss.length) : bigN ss i = (decide (64 < ((frN ss i).vs ++ ((frN ss i).nxt i ss[i]).1).length) || decide (4000 < ((frN ss i).nxt i ss[i]).2.1.length) || decide (4000 < ((frN ss i).nxt i ss[i]).2.2.length)) := by
  unfold bigN
  rw [frN_succ hi, show ss.getD i ⟨0, .empty, [], ⟨false, [], []⟩⟩ = ss[i] from by rw [List.getD_eq_getElem?_getD, List.getElem?_eq_getElem hi]; rfl]
theorem nxt_vars (f : FS) (i : Nat) (s : RS) : (f.nxt i s).1.length ≤ 3 := by
  unfold FS.nxt; simp only
  repeat' split
  all_goals simp
set_option maxHeartbeats 8000000 in
theorem coFrame1 (ss : List RS) (gs : List RG) (cR : Pure Tryz.prog 49 [figA ss gs] (iv 0)) (ho : FigOk ss) :
    Pure Tryz.prog 32 [figA ss gs] (if (List.range ss.length).any (bigN ss) = true then .tup [.agg [.v (.slice none 0 0), .v (.slice none 0 0)], iv 4] else .tup [frmA (frN ss ss.length).cs (frN ss ss.length).vs, iv 0]) := by
  have cR : Pure Tryz.prog 49 [.agg [.sl 6 (ss.map RS.av), .sl 5 (gs.map RG.av)]] (iv 0) := cR
  show Pure _ _ [.agg [.sl 6 (ss.map RS.av), .sl 5 (gs.map RG.av)]] _
  have hg : ∀ i (h : i < ss.length), (ss.map RS.av).getD i .u = ss[i].av := fun i h => map_atB RS.av h
  have hls : (ss.map RS.av).length = ss.length := List.length_map ..
  have hlen := ho.len
  generalize ss.map RS.av = M at *
  generalize gs.map RG.av = N at *
  refine pure_intro (tok := 0) Tryz.func32 rfl Tryz.ntmps32 Tryz.results32 Tryz.call32 (by rfl) (by simp) ?_
  (focus (refine wkad (w_a hls w_t) (w_a cR w_t) w_t ?_; (repeat' first | exact w_t | apply w_l); all_goals intros))
  rename_i g1 g2 gb
  refine r_frz (Frz.nilBox (k := 16) 0 20 2 69 (by exact gC) rfl (by omega)) ?_
  refine r_frz (Frz.nilBox (k := 16) 1 21 3 107 (by exact gC) rfl (by omega)) ?_
  refine r_loopE (ι := Nat) (fun i e m => i ≤ ss.length ∧ e 2 = .pbox 2 g2 0 ∧ m 2 = some (.box g2 34 [.v (.slice none 0 0), .v (.slice none 0 0)] false) ∧ e 5 = .pbox 16 gb 0 ∧ e 18 = .sl 6 M ∧ e 19 = iv ss.length ∧ e 20 = iv i ∧ (∃ svC svV, m 16 = some (.box gb 120 [.own 20 svC, .own 21 svV, iv (frN ss i).fr] false) ∧ m 20 = some (.row svC 69 2 ((frN ss i).cs.map coA) 0) ∧ m 21 = some (.row svV 107 3 ((frN ss i).vs.map Vt.av) 0)) ∧ ∀ j, j < i → bigN ss j = false) (fun i => ss.length - i) 0 (by rfl) ?_ ?_
  · rintro i e m ⟨hi, e2, m2, e5, e18, e19, e20, ⟨svC, svV, m16, m20, m21⟩, hbig⟩
    by_cases hlt : i < ss.length
    · have hgi := hg i hlt
      obtain ⟨D, hD, hn⟩ := ho.fi hi hbig
      have hco := hD.co hn
      have hst := ho.st hlt
      have hfr := frN_fr ss i
      have hnv := hD.nv
      have hb := bigN_at hlt
      have hsu := frN_succ hlt
      have hn3 := nxt_vars (frN ss i) i ss[i]
      have hcl := frN_len ss i
      have hst2 := fun m' hB hV hC => cbStep m' 16 20 21 gb svC svV (frN ss i).cs (frN ss i).vs (frN ss i).fr i ss[i] hB hV hC (by omega) (by omega) (by omega) hnv (by omega) hst hco
      rw [show (FS.mk (frN ss i).cs (frN ss i).vs (frN ss i).fr) = frN ss i from rfl] at hst2
      clear hD hco hst
      generalize hs : ss[i] = s at *
      generalize hf : frN ss i = f at *
      generalize hx : f.nxt i s = nx at *
      obtain ⟨nv, c1, c2⟩ := nx
      obtain ⟨k, nm, ar, ⟨rs, rl, rd⟩⟩ := s
      obtain ⟨cs, vs, fr⟩ := f
      simp only at *
      (focus (refine wkad (w_a e2 (w_a m2 (w_a e5 (w_a e18 (w_a e19 (w_a e20 (w_a m16 (w_a m20 (w_a m21 (w_a hgi (w_a hls w_t))))))))))) w_t w_t ?_; (repeat' first | exact w_t | apply w_l); all_goals intros))
      refine o_fresh (hst2 _ (by exact gW m16) (by exact gW m21) (by exact gW m20)) ?_
      intro sv
      generalize hfr2 : (if k = 1 then fr + 1 else fr) = fr2 at *
      have hvl : ((vs ++ nv).map Vt.av).length = (vs ++ nv).length := List.length_map ..
      have hvl2 : (vs ++ nv).length ≤ 67 := by rw [List.length_append]; omega
      have hnx : ∀ j, j < i + 1 → bigN ss i = false → bigN ss j = false := fun j hj h => by
        by_cases e : j = i
        · rw [e]; exact h
        · exact hbig j (by omega)
      have hany : bigN ss i = true → (List.range ss.length).any (bigN ss) = true := fun h => List.any_eq_true.2 ⟨i, List.mem_range.2 hlt, h⟩
      generalize vs ++ nv = vs2 at *
      have hc1 : (c1.map tmA).length = c1.length := List.length_map ..
      have hc2 : (c2.map tmA).length = c2.length := List.length_map ..
      have hcsl : (cs.map coA).length = cs.length := List.length_map ..
      by_cases b1 : 64 < vs2.length
      · rw [if_pos (hany (by rw [hb]; simp [b1]))]
        (focus (refine wkld (w_a e2 (w_a m2 (w_a e5 (w_a e18 (w_a e19 (w_a e20 (w_a hvl (w_a hls w_t)))))))) w_t (w_a e2 w_t) w_t ?_; (repeat' first | exact w_t | apply w_l); all_goals intros))
      · by_cases b2 : 4000 < c1.length
        · rw [if_pos (hany (by rw [hb]; simp [b2]))]
          (focus (refine wkld (w_a e2 (w_a m2 (w_a e5 (w_a e18 (w_a e19 (w_a e20 (w_a hvl (w_a hc1 (w_a hls w_t))))))))) w_t (w_a e2 w_t) w_t ?_; (repeat' first | exact w_t | apply w_l); all_goals intros))
        · by_cases b3 : 4000 < c2.length
          · rw [if_pos (hany (by rw [hb]; simp [b3]))]
            (focus (refine wkld (w_a e2 (w_a m2 (w_a e5 (w_a e18 (w_a e19 (w_a e20 (w_a hvl (w_a hc1 (w_a hc2 (w_a hls w_t)))))))))) w_t (w_a e2 w_t) w_t ?_; (repeat' first | exact w_t | apply w_l); all_goals intros))
          · have hbf : bigN ss i = false := by rw [hb]; simp [b1, b2, b3]
            clear hany
            (repeat' (first | ((with_reducible apply gy5d); iterate 4 focus rfl) | (with_reducible first | refine stp ?_ | apply gx1 | apply gx2 | apply gx3 | apply gx4 | apply gx5 | apply gx6 | apply gx7 | apply gy8 | apply gz2 | apply gz3) | (with_reducible refine all_v ?_; intro _) | ((with_reducible refine gE ?_); (try simp (disch := omega) only [go_sem, e2, m2, e5, e18, e19, e20, m20, hvl, hc1, hc2, hcsl, hls, decide_eq_true, decide_eq_false, if_pos, if_neg, Int.reduceAdd, Int.reduceSub, Int.reduceToNat, Int.zero_add]) <;> first | rfl | omega) | with_reducible refine t_in_other (by decide) ?_ | ((with_reducible apply gy1); iterate 3 focus rfl) | ((with_reducible apply gy2); iterate 3 focus rfl) | ((with_reducible apply gy3); iterate 2 focus rfl) | ((with_reducible apply gy4); iterate 1 focus rfl) | ((with_reducible apply gy5); iterate 4 focus rfl) | ((with_reducible apply gy5c); iterate 4 focus rfl) | ((with_reducible apply gy6); iterate 4 focus rfl) | ((with_reducible apply d_bar); iterate 3 focus rfl) | ((with_reducible apply q_pub); iterate 1 focus rfl) | ((with_reducible apply gy7); iterate 1 focus rfl) | ((with_reducible apply gy9); (focus ((with_reducible refine gE ?_); (try simp (disch := omega) only [go_sem, e2, m2, e5, e18, e19, e20, m20, hvl, hc1, hc2, hcsl, hls, decide_eq_true, decide_eq_false, if_pos, if_neg, Int.reduceAdd, Int.reduceSub, Int.reduceToNat, Int.zero_add]) <;> rfl))) | ((with_reducible apply gz1); (focus first | rfl | (simp (disch := omega) only [go_sem, e2, m2, e5, e18, e19, e20, m20, hvl, hc1, hc2, hcsl, hls, decide_eq_true, decide_eq_false, if_pos, if_neg, Int.reduceAdd, Int.reduceSub, Int.reduceToNat, Int.zero_add]; done))) | ((with_reducible apply r_drawD (id := 11) (pickR []) [12, 2012, 16] [20, 60]); (focus kernel_rfl); (focus rfl); (focus kernel_rfl); (focus (simp only [List.length_cons, List.length_nil, Nat.reduceAdd]; rfl))) | ((with_reducible first | apply og_split | apply dg_split | apply cg_split); all_goals (intro hc; (try simp only [bool_to_prop] at hc); try (exfalso; omega)))))
            rename_i svC2
            refine ⟨i + 1, ⟨by omega, by exact gW e2, by exact gW m2, by exact gW e5, by exact gW e18, by exact gW e19, by exact gS, ⟨svC2, sv, ?_, ?_, ?_⟩, fun j hj => hnx j hj hbf⟩, by omega⟩
            · rw [hsu]; exact gW hfr2
            · rw [hsu, List.map_append]; exact gC
            · rw [hsu]; exact gC
    · have hin : i = ss.length := by omega
      subst hin
      have hno : ¬ (List.range ss.length).any (bigN ss) = true := by
        rw [List.any_eq_true]
        rintro ⟨j, hj, hb⟩
        rw [hbig j (List.mem_range.1 hj)] at hb
        cases hb
      rw [if_neg hno]
      generalize (frN ss ss.length).fr = fr at *
      generalize (frN ss ss.length).cs = cs at *
      generalize (frN ss ss.length).vs = vs at *
      (focus (refine wkld (w_a e2 (w_a m2 (w_a e5 (w_a e18 (w_a e19 (w_a e20 (w_a m16 (w_a m20 (w_a m21 (w_a hls w_t)))))))))) w_t (w_a e2 (w_a m2 (w_a m16 (w_a m20 (w_a m21 w_t))))) w_t ?_; (repeat' first | exact w_t | apply w_l); all_goals intros))
  · exact ⟨Nat.zero_le _, by exact gC, by exact gC, by exact gC, by exact gC, by exact gW hls, by exact gC, ⟨_, _, by (simp (disch := omega) only [go_sem, List.set_cons_zero, List.set_cons_succ, frN] <;> repeat' first | rfl | refine ⟨?_, ?_⟩), by (simp (disch := omega) only [go_sem, frN, List.map_nil] <;> repeat' first | rfl | refine ⟨?_, ?_⟩), by (simp (disch := omega) only [go_sem, frN, List.map_nil] <;> repeat' first | rfl | refine ⟨?_, ?_⟩)⟩, fun j hj => by omega⟩
end Go.Proofs.YteiopjkamgmfpaaGreat
end

section
namespace Go.Proofs.YteiopjkamgmfpaaGreat
open Go Go.RowKit Go.Pg
set_option linter.unusedSimpArgs false
set_option linter.unusedVariables false
set_option maxRecDepth 20000
attribute [local go_sem] Tryz.underlying3 Tryz.underlying4 Tryz.underlying129 Tryz.underlying9 Tryz.underlying26 Tryz.underlying35 Tryz.underlying53 Tryz.underlying51 Tryz.underlying49 Tryz.underlying55 Tryz.underlying22 Tryz.underlying25 Tryz.underlying57 Tryz.underlying23 Tryz.underlying34 Tryz.underlying31 Tryz.underlying32 Tryz.underlying28 Tryz.underlying38 sz3 by3 z3 szB zB szErr zErr szStr byStr zStr szL byL zL szRat zRat szInt zInt szNat zNat szStep byStep zStep szFig zFig szSlI zSlI szSlS zSlS szFact byFact zFact szSlF zSlF szFrame zFrame szSlC zSlC szSlV zSlV szCond byCond zCond szSlCd zSlCd
attribute [-bool_to_prop] Bool.and_eq_decide Bool.or_eq_decide Bool.decide_beq_decide decide_eq_decide
/-! ### the conditions of a figure -/
def cndN (ss : List RS) : Nat → List RC
  | 0 => []
  | i + 1 => cndN ss i ++ if cHas (ss.getD i RS.zero).k = true then [cOf (ss.getD i RS.zero) i] else []
theorem cndN_y {ss : List RS} {i : Nat} (hi : i < ss.length) (h : cHas ss[i].k = true) : (cndN ss (i + 1)).map RC.av = (cndN ss i).map RC.av ++ [(cOf ss[i] i).av] := by
  show (cndN ss i ++ _).map RC.av = _
  rw [show ss.getD i RS.zero = ss[i] from by rw [List.getD_eq_getElem?_getD, List.getElem?_eq_getElem hi]; rfl, if_pos h, List.map_append]; rfl
theorem cndN_n {ss : List RS} {i : Nat} (hi : i < ss.length) (h : cHas ss[i].k = false) : (cndN ss (i + 1)).map RC.av = (cndN ss i).map RC.av := by
  show (cndN ss i ++ _).map RC.av = _
  rw [show ss.getD i RS.zero = ss[i] from by rw [List.getD_eq_getElem?_getD, List.getElem?_eq_getElem hi]; rfl, if_neg (by rw [h]; simp), List.append_nil]
theorem cndN_len (ss : List RS) : ∀ i, (cndN ss i).length ≤ i
  | 0 => by simp [cndN]
  | i + 1 => by
    show (cndN ss i ++ _).length ≤ _
    have := cndN_len ss i
    rw [List.length_append]
    split <;> simp <;> omega
/-- Where a condition comes from. -/
theorem cndN_mem {ss : List RS} : ∀ {i : Nat} {c : RC}, c ∈ cndN ss i → ∃ j, j < i ∧ cHas (ss.getD j RS.zero).k = true ∧ c = cOf (ss.getD j RS.zero) j
  | 0, c, h => by simp [cndN] at h
  | i + 1, c, h => by
    rcases List.mem_append.1 (show c ∈ cndN ss i ++ _ from h) with h1 | h1
    · obtain ⟨j, h2, h3⟩ := cndN_mem h1
      exact ⟨j, by omega, h3⟩
    · split at h1
      · rename_i h2
        rw [List.mem_singleton] at h1
        exact ⟨i, by omega, h2, h1⟩
      · cases h1
set_option maxHeartbeats 8000000 in
theorem cnOf (ss : List RS) (gs : List RG) (cs : List (Po × Po)) (vs : List Vt) (z : Int) (co : Pure Tryz.prog 32 [figA ss gs] (.tup [frmA cs vs, iv z])) (hl : ss.length ≤ 1000) (hk : z = 0 → ∀ i (h : i < ss.length), (ss[i].ar.length : Int) = arS ss[i].k) :
    Pure Tryz.prog 13 [figA ss gs] (.tup [.sl 3 (if z = 0 then (cndN ss ss.length).map RC.av else []), iv z]) := by
  have hg : ∀ i (h : i < ss.length), (ss.map RS.av).getD i .u = ss[i].av := fun i h => map_atB RS.av h
  have hls : (ss.map RS.av).length = ss.length := List.length_map ..
  by_cases hz : z = 0
  · subst hz
    rw [if_pos rfl]
    have hy := fun i (h : i < ss.length) => cndN_y (ss := ss) h
    have hn := fun i (h : i < ss.length) => cndN_n (ss := ss) h
    have hcl := cndN_len ss
    have hst : ∀ i (h : i < ss.length), Pure Tryz.prog 33 [ss[i].av, iv i] (.tup [(cOf ss[i] i).av, .v (.bool (cHas ss[i].k))]) := fun i h => cnStep ss[i] i (hk rfl i h)
    show Pure _ _ [.agg [.sl 6 (ss.map RS.av), .sl 5 (gs.map RG.av)]] _
    have co : Pure Tryz.prog 32 [.agg [.sl 6 (ss.map RS.av), .sl 5 (gs.map RG.av)]] (.tup [.agg [.sl 2 (cs.map coA), .sl 3 (vs.map Vt.av)], iv 0]) := co
    clear hk
    generalize ss.map RS.av = M at *
    generalize gs.map RG.av = N at *
    generalize cs.map coA = C at *
    generalize vs.map Vt.av = V at *
    refine pure_intro (tok := 0) Tryz.func13 rfl Tryz.ntmps13 Tryz.results13 Tryz.call13 (by rfl) (by simp) ?_
    (focus (refine wkap (w_a hls w_t) (w_a co w_t) (w_r 0) ?_; (repeat' first | exact w_t | apply w_l); all_goals intros))
    rename_i g1 g4
    refine r_frz (Frz.nilOwn (d := 6) 37 3 28 (by exact gC)) ?_
    refine r_loopE (ι := Nat) (fun i e m => i ≤ ss.length ∧ e 1 = .pbox 1 g1 0 ∧ m 1 = some (.box g1 25 [.sl 6 M, .sl 5 N] false) ∧ e 20 = .sl 6 M ∧ e 21 = iv ss.length ∧ e 22 = iv i ∧ ∃ sv, e 6 = .own 37 sv ∧ m 37 = some (.row sv 28 3 ((cndN ss i).map RC.av) 0)) (fun i => ss.length - i) 0 (by rfl) ?_ ?_
    · rintro i e m ⟨hi, e1, m1, e20, e21, e22, sv, e6, m6⟩
      by_cases hlt : i < ss.length
      · have hgi := hg i hlt
        have cst := hst i hlt
        have hy := hy i hlt
        have hn := hn i hlt
        have hll : ((cndN ss i).map RC.av).length ≤ 1000 := by rw [List.length_map]; have := hcl i; omega
        clear hst hg hcl
        generalize (cndN ss i).map RC.av = L at *
        generalize cOf ss[i] i = c at *
        obtain ⟨ck, ca, ci⟩ := c
        generalize ss[i] = s at *
        obtain ⟨k, nm, ar, ⟨rs, rl, rd⟩⟩ := s
        simp only at *
        generalize cHas k = b at *
        cases b with
        | true =>
          have hy := hy rfl
          (focus (refine wkap (w_a e1 (w_a m1 (w_a e20 (w_a e21 (w_a e22 (w_a e6 (w_a m6 (w_a hls (w_a hgi w_t))))))))) (w_a cst w_t) (w_r 0) ?_; (repeat' first | exact w_t | apply w_l); all_goals intros))
          exact ⟨i + 1, ⟨by omega, by exact gW e1, by exact gW m1, by exact gW e20, by exact gW e21, by exact gS, _, by exact gC, by rw [hy]; exact gC⟩, by omega⟩
        | false =>
          have hn := hn rfl
          (focus (refine wkap (w_a e1 (w_a m1 (w_a e20 (w_a e21 (w_a e22 (w_a e6 (w_a m6 (w_a hls (w_a hgi w_t))))))))) (w_a cst w_t) (w_r 0) ?_; (repeat' first | exact w_t | apply w_l); all_goals intros))
          exact ⟨i + 1, ⟨by omega, by exact gW e1, by exact gW m1, by exact gW e20, by exact gW e21, by exact gS, sv, by exact gW e6, by rw [hn]; exact gW m6⟩, by omega⟩
      · have hin : i = ss.length := by omega
        subst hin
        clear hst hg hcl hy hn
        generalize (cndN ss ss.length).map RC.av = L at *
        (focus (refine wklp (w_a e1 (w_a m1 (w_a e20 (w_a e21 (w_a e22 (w_a e6 (w_a m6 (w_a hls w_t)))))))) w_t (w_a m6 w_t) (w_r 0) ?_; (repeat' first | exact w_t | apply w_l); all_goals intros))
    · exact ⟨Nat.zero_le _, by exact gC, by exact gC, by exact gC, by exact gW hls, by exact gC, _, by exact gC, by (simp (disch := omega) only [go_sem, cndN, List.map_nil] <;> repeat' first | rfl | refine ⟨?_, ?_⟩)⟩
  · rw [if_neg hz]
    refine pure_vkR (r := .tup [.v (.slice none 0 0), iv z]) ?_ (Vk.tupL (.cons (.nil 3) (.cons (.refl _) .nil)))
    show Pure _ _ [.agg [.sl 6 (ss.map RS.av), .sl 5 (gs.map RG.av)]] _
    have co : Pure Tryz.prog 32 [.agg [.sl 6 (ss.map RS.av), .sl 5 (gs.map RG.av)]] (.tup [.agg [.sl 2 (cs.map coA), .sl 3 (vs.map Vt.av)], iv z]) := co
    clear hk hg
    generalize ss.map RS.av = M at *
    generalize gs.map RG.av = N at *
    generalize cs.map coA = C at *
    generalize vs.map Vt.av = V at *
    refine pure_intro (tok := 0) Tryz.func13 rfl Tryz.ntmps13 Tryz.results13 Tryz.call13 (by rfl) (by simp) ?_
    (focus (refine wklp (w_a hls (w_a hz w_t)) (w_a co w_t) w_t (w_r 0) ?_; (repeat' first | exact w_t | apply w_l); all_goals intros))
def cndOk (c : RC) (ss : List RS) : Bool := decide (0 ≤ c.st ∧ c.st < (ss.length : Int)) && (cHas (ss.getD c.st.toNat RS.zero).k && sameC c (cOf (ss.getD c.st.toNat RS.zero) c.st.toNat))
theorem cOf_len {s : RS} {i : Nat} (h : s.ar.length ≤ 1000) : (cOf s i).ar.length ≤ 1000 := by
  unfold cOf
  repeat' split
  all_goals first | exact h | simp
theorem arS_le' (k : Int) : arS k ≤ 4 := by
  unfold arS
  repeat' split
  all_goals omega
set_option maxHeartbeats 8000000 in
theorem cnRight (c : RC) (ss : List RS) (gs : List RG) (cr : Pure Tryz.prog 49 [figA ss gs] (iv 0)) (hc : c.ar.length ≤ 1000) (hl : ss.length ≤ 1000) (hk : ∀ i (h : i < ss.length), (ss[i].ar.length : Int) = arS ss[i].k) : Pure Tryz.prog 20 [c.av, figA ss gs] (.v (.bool (cndOk c ss))) := by
  have cr : Pure Tryz.prog 49 [.agg [.sl 6 (ss.map RS.av), .sl 5 (gs.map RG.av)]] (iv 0) := cr
  show Pure _ _ [c.av, .agg [.sl 6 (ss.map RS.av), .sl 5 (gs.map RG.av)]] _
  have hls : (ss.map RS.av).length = ss.length := List.length_map ..
  obtain ⟨k, ar, st⟩ := c
  unfold cndOk
  simp only at *
  by_cases hs : 0 ≤ st ∧ st < (ss.length : Int)
  · rw [decide_eq_true hs, Bool.true_and]
    obtain ⟨s, rfl⟩ : ∃ s : Nat, st = s := ⟨st.toNat, by omega⟩
    rw [Int.toNat_natCast]
    have hlt : s < ss.length := by omega
    have hgi : (ss.map RS.av).getD s .u = ss[s].av := map_atB RS.av hlt
    rw [show ss.getD s RS.zero = ss[s] from by rw [List.getD_eq_getElem?_getD, List.getElem?_eq_getElem hlt]; rfl]
    have cst := cnStep ss[s] s (hk s hlt)
    have cm := cnSame ⟨k, ar, s⟩ (cOf ss[s] s) (by show ar.length ≤ _; omega) (by have := cOf_len (s := ss[s]) (i := s) (by have := hk s hlt; have := arS_le' ss[s].k; omega); omega)
    clear hk
    generalize sameC ⟨k, ar, s⟩ (cOf ss[s] s) = v at *
    generalize cOf ss[s] s = c at *
    obtain ⟨ck, ca, ci⟩ := c
    generalize ss.map RS.av = M at *
    generalize gs.map RG.av = N at *
    generalize ss[s] = t at *
    obtain ⟨k', nm, ar', ⟨rs, rl, rd⟩⟩ := t
    simp only at *
    generalize cHas k' = b at *
    cases b
    · refine pure_intro (tok := 0) Tryz.func20 rfl Tryz.ntmps20 Tryz.results20 Tryz.call20 (by rfl) (by simp) ?_
      (focus (refine wkld (w_a hls (w_a hgi w_t)) (w_a cr (w_a cst (w_a cm w_t))) w_t (w_a (w_d 3 [(8, .tup [.agg [iv ck, ivs ca, iv ci], .v (.bool false)])] [] [5]) w_t) ?_; (repeat' first | exact w_t | apply w_l); all_goals intros))
    · refine pure_intro (tok := 0) Tryz.func20 rfl Tryz.ntmps20 Tryz.results20 Tryz.call20 (by rfl) (by simp) ?_
      (focus (refine wkld (w_a hls (w_a hgi w_t)) (w_a cr (w_a cst (w_a cm w_t))) w_t (w_a (w_d 3 [(8, .tup [.agg [iv ck, ivs ca, iv ci], .v (.bool true)])] [] [5]) w_t) ?_; (repeat' first | exact w_t | apply w_l); all_goals intros))
  · rw [decide_eq_false hs, Bool.false_and]
    clear hk
    generalize ss.map RS.av = M at *
    generalize gs.map RG.av = N at *
    by_cases h0 : st < 0
    · refine pure_intro (tok := 0) Tryz.func20 rfl Tryz.ntmps20 Tryz.results20 Tryz.call20 (by rfl) (by simp) ?_
      (focus (refine wkld (w_a hls w_t) (w_a cr w_t) w_t w_t ?_; (repeat' first | exact w_t | apply w_l); all_goals intros))
    · have h1 : (ss.length : Int) ≤ st := by omega
      refine pure_intro (tok := 0) Tryz.func20 rfl Tryz.ntmps20 Tryz.results20 Tryz.call20 (by rfl) (by simp) ?_
      (focus (refine wkld (w_a hls w_t) (w_a cr w_t) w_t w_t ?_; (repeat' first | exact w_t | apply w_l); all_goals intros))
set_option maxHeartbeats 8000000 in
theorem rkRight (c : RC) (ss : List RS) (gs : List RG) (hc : c.ar.length ≤ 1000) (hl : ss.length ≤ 1000) (hk : ∀ i (h : i < ss.length), (ss[i].ar.length : Int) = arS ss[i].k) : Pure Tryz.prog 24 [c.av, figA ss gs] (.v (.bool (cndOk c ss))) := by
  show Pure _ _ [c.av, .agg [.sl 6 (ss.map RS.av), .sl 5 (gs.map RG.av)]] _
  have hls : (ss.map RS.av).length = ss.length := List.length_map ..
  obtain ⟨k, ar, st⟩ := c
  unfold cndOk
  simp only at *
  by_cases hs : 0 ≤ st ∧ st < (ss.length : Int)
  · rw [decide_eq_true hs, Bool.true_and]
    obtain ⟨s, rfl⟩ : ∃ s : Nat, st = s := ⟨st.toNat, by omega⟩
    rw [Int.toNat_natCast]
    have hlt : s < ss.length := by omega
    have hgi : (ss.map RS.av).getD s .u = ss[s].av := map_atB RS.av hlt
    rw [show ss.getD s RS.zero = ss[s] from by rw [List.getD_eq_getElem?_getD, List.getElem?_eq_getElem hlt]; rfl]
    have cst : Pure Tryz.prog 19 [.agg [.sl 6 (ss.map RS.av), .sl 5 (gs.map RG.av)], iv s] (.tup [(cOf ss[s] s).av, .v (.bool (cHas ss[s].k))]) := rkStep ss gs s ss[s] hlt rfl (hk s hlt)
    have cm := rkSame ⟨k, ar, s⟩ (cOf ss[s] s) (by show ar.length ≤ _; omega) (by have := cOf_len (s := ss[s]) (i := s) (by have := hk s hlt; have := arS_le' ss[s].k; omega); omega)
    clear hk
    generalize sameC ⟨k, ar, s⟩ (cOf ss[s] s) = v at *
    generalize cOf ss[s] s = c at *
    obtain ⟨ck, ca, ci⟩ := c
    generalize ss.map RS.av = M at *
    generalize gs.map RG.av = N at *
    generalize ss[s] = t at *
    obtain ⟨k', nm, ar', ⟨rs, rl, rd⟩⟩ := t
    simp only at *
    generalize cHas k' = b at *
    cases b
    · refine pure_intro (tok := 0) Tryz.func24 rfl Tryz.ntmps24 Tryz.results24 Tryz.call24 (by rfl) (by simp) ?_
      (focus (refine wklp (w_a hls (w_a hgi w_t)) (w_a cst (w_a cm w_t)) w_t (w_r 0) ?_; (repeat' first | exact w_t | apply w_l); all_goals intros))
    · refine pure_intro (tok := 0) Tryz.func24 rfl Tryz.ntmps24 Tryz.results24 Tryz.call24 (by rfl) (by simp) ?_
      (focus (refine wklp (w_a hls (w_a hgi w_t)) (w_a cst (w_a cm w_t)) w_t (w_r 0) ?_; (repeat' first | exact w_t | apply w_l); all_goals intros))
  · rw [decide_eq_false hs, Bool.false_and]
    clear hk
    generalize ss.map RS.av = M at *
    generalize gs.map RG.av = N at *
    by_cases h0 : st < 0
    · refine pure_intro (tok := 0) Tryz.func24 rfl Tryz.ntmps24 Tryz.results24 Tryz.call24 (by rfl) (by simp) ?_
      (focus (refine wklp (w_a hls w_t) w_t w_t (w_r 0) ?_; (repeat' first | exact w_t | apply w_l); all_goals intros))
    · have h1 : (ss.length : Int) ≤ st := by omega
      refine pure_intro (tok := 0) Tryz.func24 rfl Tryz.ntmps24 Tryz.results24 Tryz.call24 (by rfl) (by simp) ?_
      (focus (refine wklp (w_a hls w_t) w_t w_t (w_r 0) ?_; (repeat' first | exact w_t | apply w_l); all_goals intros))
end Go.Proofs.YteiopjkamgmfpaaGreat
end

section
namespace Go.Proofs.YteiopjkamgmfpaaGreat
open Go Go.RowKit Go.Pg Go.Pol
set_option linter.unusedSimpArgs false
set_option linter.unusedVariables false
set_option maxRecDepth 20000
attribute [-bool_to_prop] Bool.and_eq_decide Bool.or_eq_decide Bool.decide_beq_decide decide_eq_decide
set_option linter.unusedSimpArgs false
set_option linter.unusedVariables false
/-! ### polynomials of bounded length, size and exponents -/
structure PB (p : Po) (n j e : Nat) : Prop where
  s : SrtM p
  k : PK p j e
  l : p.length ≤ n
theorem PB.mono {p : Po} {n j e m i f : Nat} (h : PB p n j e) (hn : n ≤ m) (hj : j ≤ i) (he : e ≤ f) : PB p m i f := ⟨h.s, h.k.mono hj he, Nat.le_trans h.l hn⟩
theorem PB.nil {n j e : Nat} : PB [] n j e := ⟨.nil, .nil, Nat.zero_le _⟩
theorem PB.add {p q : Po} {n j e m k f : Nat} (h : PB p n j e) (g : PB q m k f) : PB (addM p q) (n + m) (j + k + 1) (max e f) :=
  ⟨addP_srt ordM h.s g.s, (h.k.mono (Nat.le_refl _) (Nat.le_max_left ..)).add (g.k.mono (Nat.le_refl _) (Nat.le_max_right ..)), Nat.le_trans (addP_len p q) (Nat.add_le_add h.l g.l)⟩
theorem PB.neg {p : Po} {n j e : Nat} (h : PB p n j e) : PB (scaleP (-1) p) n j e := ⟨scale_srt h.s neg1, h.k.neg, by rw [scale_len]; exact h.l⟩
theorem PB.sub {p q : Po} {n j e m k f : Nat} (h : PB p n j e) (g : PB q m k f) : PB (subM p q) (n + m) (j + k + 1) (max e f) := h.add g.neg
theorem PB.times {p : Po} {t : Tm} {n j e k f : Nat} (h : PB p n j e) (ht : PK [t] k f) (h0 : t.1 ≠ 0) (hd : Can t.2) : PB (timesP mulM p t) n (j + k) (e + f) :=
  ⟨times_srt mulK h.s h0 hd, h.k.times ht, by rw [timesP_len]; exact h.l⟩
theorem PB.take {q : Po} {m k f : Nat} (g : PB q m k f) (i : Nat) : PB (q.take i) m k f :=
  ⟨srt_take g.s i, fun t ht => g.k t (List.mem_of_mem_take ht), by rw [List.length_take]; have := g.l; omega⟩
theorem PB.one {q : Po} {m k f : Nat} (g : PB q m k f) {t : Tm} (ht : t ∈ q) : PK [t] k f := fun u hu => by rw [List.mem_singleton] at hu; subst hu; exact g.k _ ht
theorem mul_pbN {p q : Po} {n j e m k f : Nat} (h : PB p n j e) (g : PB q m k f) : ∀ i, i ≤ q.length → PB (mlM p (q.take i)) (n * i) (i * (j + k + 1)) (e + f)
  | 0, _ => by rw [List.take_zero]; exact .nil
  | i + 1, hi => by
    rw [mulR_take hi]
    have h1 := mul_pbN h g i (by omega)
    have h2 := h.times (g.one (List.getElem_mem hi)) (g.s.1 _ (List.getElem_mem hi)).1 (g.s.1 _ (List.getElem_mem hi)).2
    refine (h1.add h2).mono ?_ ?_ ?_
    · rw [Nat.mul_succ]; omega
    · rw [Nat.succ_mul]; omega
    · omega
theorem mul_pbI {p q : Po} {n j e m k f : Nat} (h : PB p n j e) (g : PB q m k f) (i : Nat) : PB (mlM p (q.take i)) (n * m) (m * (j + k + 1)) (e + f) := by
  by_cases hi : i ≤ q.length
  · have hm := g.l
    exact (mul_pbN h g i hi).mono (Nat.mul_le_mul_left _ (by omega)) (Nat.mul_le_mul_right _ (by omega)) (Nat.le_refl _)
  · rw [List.take_of_length_le (by omega)]
    have := mul_pbN h g q.length (Nat.le_refl _)
    rw [List.take_length] at this
    exact this.mono (Nat.mul_le_mul_left _ g.l) (Nat.mul_le_mul_right _ g.l) (Nat.le_refl _)
theorem PB.mul {p q : Po} {n j e m k f : Nat} (h : PB p n j e) (g : PB q m k f) : PB (mlM p q) (n * m) (m * (j + k + 1)) (e + f) := by
  have := mul_pbI h g q.length
  rwa [List.take_length] at this
/-- Sums by halves. -/
theorem sumH_pb {s e n : Nat} (l : List Po) (h : ∀ p ∈ l, PB p n s e) : PB (sumH ltM l) (l.length * n) (l.length * (s + 1) - 1) e := by
  fun_induction sumH ltM l with
  | case1 => exact .nil
  | case2 p => exact (h p (.head _)).mono (by simp) (by simp) (Nat.le_refl _)
  | case3 p q l ih1 ih2 =>
    have h1 := ih1 fun u hu => h u (List.mem_of_mem_take hu)
    have h2 := ih2 fun u hu => h u (List.mem_of_mem_drop hu)
    rw [List.length_take] at h1
    rw [List.length_drop] at h2
    have hL : 2 ≤ (p :: q :: l).length := by simp
    generalize (p :: q :: l).length = L at *
    rw [Nat.min_eq_left (by omega)] at h1
    have e1 : L / 2 + (L - L / 2) = L := by omega
    have a1 : 1 ≤ L / 2 * (s + 1) := Nat.le_trans (by omega) (Nat.le_mul_of_pos_right (L / 2) (show 0 < s + 1 by omega))
    have a2 : 1 ≤ (L - L / 2) * (s + 1) := Nat.le_trans (show 1 ≤ L - L / 2 by omega) (Nat.le_mul_of_pos_right (L - L / 2) (show 0 < s + 1 by omega))
    refine (h1.add h2).mono ?_ ?_ (by omega)
    · rw [← Nat.add_mul, e1]; exact Nat.le_refl _
    · have e2 : L / 2 * (s + 1) + (L - L / 2) * (s + 1) = L * (s + 1) := by rw [← Nat.add_mul, e1]
      omega
theorem sum_ok {s e n N : Nat} (l : List Po) (h : ∀ p ∈ l, PB p n s e) (hN : l.length ≤ N) (hb : N * n ≤ 1000000) : SumOk l (N * (s + 1)) e := fun a b => by
  have h1 : ∀ p ∈ (l.drop a).take b, PB p n s e := fun p hp => h p (List.mem_of_mem_drop (List.mem_of_mem_take hp))
  have h2 := sumH_pb _ h1
  have h3 : ((l.drop a).take b).length ≤ N := by rw [List.length_take, List.length_drop]; omega
  refine ⟨h2.k.mono ?_ (Nat.le_refl _), Nat.le_trans h2.l (Nat.le_trans (Nat.mul_le_mul_right _ h3) hb)⟩
  have := Nat.mul_le_mul_right (s + 1) h3
  omega
theorem parts_ok {p q : Po} {n j e m k f : Nat} (h : PB p n j e) (g : PB q m k f) (hn : n * m ≤ 1000000) : SumOk (partsM p q) (min n m * (j + k + 1)) (e + f) := by
  unfold partsM
  have l1 := h.l
  have l2 := g.l
  split
  · rename_i hlt
    have := sum_ok (q.map fun t => timesP mulM p t) (n := p.length) (s := j + k) (e := e + f) (N := q.length) (fun u hu => by
      obtain ⟨t, ht, rfl⟩ := List.mem_map.1 hu
      have h' : PB p p.length j e := ⟨h.s, h.k, Nat.le_refl _⟩
      exact h'.times (g.one ht) (g.s.1 t ht).1 (g.s.1 t ht).2) (by rw [List.length_map]; exact Nat.le_refl _) (by rw [Nat.mul_comm]; exact Nat.le_trans (Nat.mul_le_mul l1 l2) hn)
    exact fun a b => ⟨(this a b).1.mono (Nat.mul_le_mul_right _ (by omega)) (Nat.le_refl _), (this a b).2⟩
  · rename_i hlt
    have := sum_ok (p.map fun t => timesP mulM q t) (n := q.length) (s := k + j) (e := f + e) (N := p.length) (fun u hu => by
      obtain ⟨t, ht, rfl⟩ := List.mem_map.1 hu
      have h' : PB q q.length k f := ⟨g.s, g.k, Nat.le_refl _⟩
      exact h'.times (h.one ht) (h.s.1 t ht).1 (h.s.1 t ht).2) (by rw [List.length_map]; exact Nat.le_refl _) (Nat.le_trans (Nat.mul_le_mul l1 l2) hn)
    refine fun a b => ⟨(this a b).1.mono ?_ (by omega), (this a b).2⟩
    rw [Nat.add_comm k j]
    exact Nat.mul_le_mul_right _ (by omega)
/-! ### the contracts in these terms -/
theorem hpAdd {p q : Po} {n j e m k f : Nat} (h : PB p n j e) (g : PB q m k f) (hn : n ≤ 1000000) (hm : m ≤ 1000000) (hj : j ≤ 1000000) (hk : k ≤ 1000000) (he : e ≤ 100) (hf : f ≤ 100) :
    Pure Tryz.prog 57 [poA p, poA q] (poA (addM p q)) ∧ Pure Tryz.prog 64 [poA p, poA q] (poA (addM p q)) :=
  have l1 := h.l
  have l2 := g.l
  ⟨poAdd p q (h.k.mono (Nat.le_refl _) he) (g.k.mono (Nat.le_refl _) hf) h.s g.s (by omega) (by omega) hj hk (by omega), rpAdd p q (h.k.mono (Nat.le_refl _) he) (g.k.mono (Nat.le_refl _) hf) h.s g.s (by omega) (by omega) hj hk (by omega)⟩
theorem hpSub {p q : Po} {n j e m k f : Nat} (h : PB p n j e) (g : PB q m k f) (hn : n ≤ 1000000) (hm : m ≤ 1000000) (hj : j ≤ 1000000) (hk : k ≤ 1000000) (he : e ≤ 100) (hf : f ≤ 100) :
    Pure Tryz.prog 53 [poA p, poA q] (poA (subM p q)) ∧ Pure Tryz.prog 60 [poA p, poA q] (poA (subM p q)) :=
  have l1 := h.l
  have l2 := g.l
  ⟨poSub p q (h.k.mono (Nat.le_refl _) he) (g.k.mono (Nat.le_refl _) hf) h.s g.s (by omega) (by omega) hj hk (by omega), rpSub p q (h.k.mono (Nat.le_refl _) he) (g.k.mono (Nat.le_refl _) hf) h.s g.s (by omega) (by omega) hj hk (by omega)⟩
theorem hpMul {p q : Po} {n j e m k f : Nat} (h : PB p n j e) (g : PB q m k f) (hn : n ≤ 1000000) (hm : m ≤ 1000000) (hj : j ≤ 500000) (hk : k ≤ 500000) (he : e ≤ 100) (hf : f ≤ 100) (hnm : n * m ≤ 1000000) (hK : min n m * (j + k + 1) ≤ 1000000) (hR : m * (j + k + 1) ≤ 1000000) :
    Pure Tryz.prog 54 [poA p, poA q] (poA (mlM p q)) ∧ Pure Tryz.prog 61 [poA p, poA q] (poA (mlM p q)) :=
  have l1 := h.l
  have l2 := g.l
  ⟨poMul p q h.k g.k h.s g.s (by omega) (by omega) (by omega) (by omega) (by omega) (by omega) (parts_ok h g hnm) hK (by omega),
   rpMul p q h.k g.k h.s g.s (by omega) (by omega) hj hk (by omega) (by omega) (fun i => ⟨(mul_pbI h g i).k, Nat.le_trans (mul_pbI h g i).l hnm⟩) hR (by omega)⟩
end Go.Proofs.YteiopjkamgmfpaaGreat
end

section
namespace Go.Proofs.YteiopjkamgmfpaaGreat
open Go Go.RowKit Go.Pg Go.Pol
set_option linter.unusedSimpArgs false
set_option linter.unusedVariables false
set_option maxRecDepth 20000
attribute [-bool_to_prop] Bool.and_eq_decide Bool.or_eq_decide Bool.decide_beq_decide decide_eq_decide
set_option linter.unusedSimpArgs false
set_option linter.unusedVariables false
/-! ### the equations, as plain polynomials -/
abbrev Pt := Po × Po
abbrev dfM (a b : Pt) : Pt := (subM b.1 a.1, subM b.2 a.2)
def crossM (a b c d : Pt) : Po := subM (mlM (subM b.1 a.1) (subM d.2 c.2)) (mlM (subM b.2 a.2) (subM d.1 c.1))
def dotM (a b c d : Pt) : Po := addM (mlM (subM b.1 a.1) (subM d.1 c.1)) (mlM (subM b.2 a.2) (subM d.2 c.2))
def dblM (p : Po) : Po := addM p p
abbrev oneM : Po := [(1, [])]
def slopeM (t : Po) : Po := addM oneM (mlM t t)
def circM (o a x : Pt) (t : Po) : List Po :=
  let s := dblM (addM (subM o.1 a.1) (mlM t (subM o.2 a.2)))
  [subM (mlM (slopeM t) (subM x.1 a.1)) s, subM (mlM (slopeM t) (subM x.2 a.2)) (mlM t s)]
def otherM (p q o x : Pt) : List Po :=
  let n := dotM p q p q
  let s := dblM (dotM p o p q)
  [subM (mlM n (subM x.1 p.1)) (mlM s (subM q.1 p.1)), subM (mlM n (subM x.2 p.2)) (mlM s (subM q.2 p.2))]
def diffM (a b c d : Pt) : Po := subM (dotM a b a b) (dotM c d c d)
def eqsM (k : Int) (a b c d x : Pt) (t : Po) : List Po :=
  if k = 6 then circM a b x t
  else if k = 7 then [crossM b c b x, dotM b c a x]
  else if k = 8 then [dotM b c a x, addM (crossM b c b a) (crossM b c b x)]
  else if k = 9 then [crossM a b a x, crossM c d c x]
  else if k = 10 then otherM a b c x
  else if k = 11 then [diffM a x b x, diffM a x c x]
  else if k = 12 then [crossM a b a x, diffM c x c d]
  else if k = 13 then [diffM a x a b, diffM c x c d]
  else if k = 14 then [diffM a x a b, diffM b x a b]
  else []
/-! ### bounds -/
structure CB (c : Pt) : Prop where
  x : PB c.1 8 110 8
  y : PB c.2 8 110 8
theorem CB.df {a b : Pt} (h : CB a) (g : CB b) : PB (subM b.1 a.1) 16 221 8 ∧ PB (subM b.2 a.2) 16 221 8 := ⟨(g.x.sub h.x).mono (by omega) (by omega) (by omega), (g.y.sub h.y).mono (by omega) (by omega) (by omega)⟩
theorem PB.m2 {p q : Po} (h : PB p 16 221 8) (g : PB q 16 221 8) : PB (mlM p q) 256 7088 16 := (h.mul g).mono (by omega) (by omega) (by omega)
theorem CB.cross {a b c d : Pt} (ha : CB a) (hb : CB b) (hc : CB c) (hd : CB d) : PB (crossM a b c d) 512 14177 16 :=
  (((ha.df hb).1.m2 (hc.df hd).2).sub ((ha.df hb).2.m2 (hc.df hd).1)).mono (by omega) (by omega) (by omega)
theorem CB.dot {a b c d : Pt} (ha : CB a) (hb : CB b) (hc : CB c) (hd : CB d) : PB (dotM a b c d) 512 14177 16 :=
  (((ha.df hb).1.m2 (hc.df hd).1).add ((ha.df hb).2.m2 (hc.df hd).2)).mono (by omega) (by omega) (by omega)
theorem one_pb : PB oneM 1 1 0 := by
  refine ⟨Srt.nil.cons (by decide) can_nil (by simp), fun t ht => ?_, by simp⟩
  rw [List.mem_singleton] at ht; subst ht
  exact ⟨nat_sz1 1 (by omega), by simp, fun j => by rw [gI_out (Nat.zero_le _)]; omega⟩
theorem var_pb (v : Nat) : PB (varM v) 1 1 1 := ⟨varM_srt v, varM_pk v, by unfold varM; split <;> simp⟩
theorem one_mul {p : Po} (h : SrtM p) : mlM oneM p = p := by
  rw [mul_const (by decide) h]
  unfold scaleP
  conv => rhs; rw [← List.map_id p]
  exact List.map_congr_left fun t ht => by show (t.1 * 1, t.2) = t; rw [Rat.mul_one]
end Go.Proofs.YteiopjkamgmfpaaGreat
end

section
namespace Go.Proofs.YteiopjkamgmfpaaGreat
open Go Go.RowKit Go.Pg
set_option linter.unusedSimpArgs false
set_option linter.unusedVariables false
set_option maxRecDepth 20000
attribute [-bool_to_prop] Bool.and_eq_decide Bool.or_eq_decide Bool.decide_beq_decide decide_eq_decide
theorem szHVec : szOf Tryz.prog 103 = some 2 := by kernel_rfl
theorem byHVec : bytOf Tryz.prog 103 = some 48 := by kernel_rfl
theorem zHVec : zeroOf Tryz.prog 103 = some (.agg #[.slice none 0 0, .slice none 0 0]) := by kernel_rfl
theorem szA2P : szOf Tryz.prog 102 = some 2 := by kernel_rfl
theorem zA2P : zeroOf Tryz.prog 102 = some (.agg #[.slice none 0 0, .slice none 0 0]) := by kernel_rfl
end Go.Proofs.YteiopjkamgmfpaaGreat
end

section
namespace Go.Proofs.YteiopjkamgmfpaaGreat
open Go Go.RowKit Go.Pg Go.Pol
set_option linter.unusedSimpArgs false
set_option linter.unusedVariables false
set_option maxRecDepth 20000
attribute [local go_sem] Tryz.underlying3 Tryz.underlying4 Tryz.underlying129 Tryz.underlying9 Tryz.underlying26 Tryz.underlying35 Tryz.underlying53 Tryz.underlying51 Tryz.underlying49 Tryz.underlying55 Tryz.underlying22 Tryz.underlying25 Tryz.underlying107 Tryz.underlying32 Tryz.underlying69 Tryz.underlying31 Tryz.underlying34 Tryz.underlying120 Tryz.underlying121 Tryz.underlying42 Tryz.underlying113 Tryz.underlying118 Tryz.underlying160 sz3 by3 z3 szB zB szErr zErr szStr byStr zStr szRat zRat szInt zInt szNat zNat szStep byStep zStep szFig zFig szSlI zSlI szSlS zSlS szVar byVar zVar szSlV zSlV szCoord byCoord zCoord szSlC zSlC szFrame zFrame szCBld byCBld zCBld szCVec byCVec zCVec szPoly byPoly zPoly szTerm zTerm szPtrB zPtrB szFnC zFnC Tryz.underlying103 szHVec byHVec zHVec
attribute [-bool_to_prop] Bool.and_eq_decide Bool.or_eq_decide Bool.decide_beq_decide decide_eq_decide
/-! ### package hypotheses: vectors -/
theorem CB.subs {a b : Pt} (ha : CB a) (hb : CB b) : (Pure Tryz.prog 53 [poA b.1, poA a.1] (poA (subM b.1 a.1)) ∧ Pure Tryz.prog 60 [poA b.1, poA a.1] (poA (subM b.1 a.1))) ∧ (Pure Tryz.prog 53 [poA b.2, poA a.2] (poA (subM b.2 a.2)) ∧ Pure Tryz.prog 60 [poA b.2, poA a.2] (poA (subM b.2 a.2))) :=
  ⟨hpSub hb.x ha.x (by omega) (by omega) (by omega) (by omega) (by omega) (by omega), hpSub hb.y ha.y (by omega) (by omega) (by omega) (by omega) (by omega) (by omega)⟩
theorem hpM2 {p q : Po} (h : PB p 16 221 8) (g : PB q 16 221 8) : Pure Tryz.prog 54 [poA p, poA q] (poA (mlM p q)) ∧ Pure Tryz.prog 61 [poA p, poA q] (poA (mlM p q)) :=
  hpMul h g (by omega) (by omega) (by omega) (by omega) (by omega) (by omega) (by omega) (by omega) (by omega)
theorem hyBetween {a b : Pt} (ha : CB a) (hb : CB b) : Pure Tryz.prog 52 [coA a, coA b] (coA (dfM a b)) := by
  obtain ⟨⟨h1, -⟩, h2, -⟩ := ha.subs hb
  clear ha hb
  obtain ⟨a1, a2⟩ := a
  obtain ⟨b1, b2⟩ := b
  unfold dfM
  simp only at *
  generalize subM b1 a1 = d1 at *
  generalize subM b2 a2 = d2 at *
  refine pure_intro (tok := 0) Tryz.func52 rfl Tryz.ntmps52 Tryz.results52 Tryz.call52 (by rfl) (by simp) ?_
  (focus (refine wkld w_t (w_a h1 (w_a h2 w_t)) w_t (w_a (w_d 1 [(4, poA d1), (9, poA d2)] [] [4]) w_t) ?_; (repeat' first | exact w_t | apply w_l); all_goals intros))
theorem hyDotC (u v : Pt) (p q r : Po) (m1 : Pure Tryz.prog 54 [poA u.1, poA v.1] (poA p)) (m2 : Pure Tryz.prog 54 [poA u.2, poA v.2] (poA q)) (ad : Pure Tryz.prog 57 [poA p, poA q] (poA r)) : Pure Tryz.prog 51 [coA u, coA v] (poA r) := by
  obtain ⟨u1, u2⟩ := u
  obtain ⟨v1, v2⟩ := v
  simp only at *
  refine pure_intro (tok := 0) Tryz.func51 rfl Tryz.ntmps51 Tryz.results51 Tryz.call51 (by rfl) (by simp) ?_
  (focus (refine wkld w_t (w_a m1 (w_a m2 (w_a ad w_t))) w_t (w_a (w_d 1 [(4, poA p), (9, poA q), (10, poA r)] [] []) w_t) ?_; (repeat' first | exact w_t | apply w_l); all_goals intros))
theorem hyDot {a b c d : Pt} (ha : CB a) (hb : CB b) (hc : CB c) (hd : CB d) : Pure Tryz.prog 21 [coA a, coA b, coA c, coA d] (poA (dotM a b c d)) := by
  have b1 := hyBetween ha hb
  have b2 := hyBetween hc hd
  obtain ⟨x1, y1⟩ := ha.df hb
  obtain ⟨x2, y2⟩ := hc.df hd
  have cd := hyDotC (dfM a b) (dfM c d) _ _ _ (hpM2 x1 x2).1 (hpM2 y1 y2).1 (hpAdd (x1.m2 x2) (y1.m2 y2) (by omega) (by omega) (by omega) (by omega) (by omega) (by omega)).1
  rw [show addM (mlM (subM b.1 a.1) (subM d.1 c.1)) (mlM (subM b.2 a.2) (subM d.2 c.2)) = dotM a b c d from rfl] at cd
  generalize dotM a b c d = r at *
  clear x1 y1 x2 y2 ha hb hc hd
  obtain ⟨a1, a2⟩ := a
  obtain ⟨b1, b2⟩ := b
  obtain ⟨c1, c2⟩ := c
  obtain ⟨d1, d2⟩ := d
  generalize dfM _ _ = u at *
  generalize dfM _ _ = v at *
  obtain ⟨u1, u2⟩ := u
  obtain ⟨v1, v2⟩ := v
  refine pure_intro (tok := 0) Tryz.func21 rfl Tryz.ntmps21 Tryz.results21 Tryz.call21 (by rfl) (by simp) ?_
  (focus (refine wkld w_t (w_a b1 (w_a b2 (w_a cd w_t))) w_t (w_a (w_d 1 [(2, coA (u1, u2)), (5, coA (v1, v2)), (6, poA r)] [] []) w_t) ?_; (repeat' first | exact w_t | apply w_l); all_goals intros))
theorem hyCross {a b c d : Pt} (ha : CB a) (hb : CB b) (hc : CB c) (hd : CB d) : Pure Tryz.prog 22 [coA a, coA b, coA c, coA d] (poA (crossM a b c d)) := by
  have k1 := hyBetween ha hb
  have k2 := hyBetween hc hd
  obtain ⟨x1, y1⟩ := ha.df hb
  obtain ⟨x2, y2⟩ := hc.df hd
  have m1 := (hpM2 x1 y2).1
  have m2 := (hpM2 y1 x2).1
  have s := (hpSub (x1.m2 y2) (y1.m2 x2) (by omega) (by omega) (by omega) (by omega) (by omega) (by omega)).1
  rw [show subM (mlM (subM b.1 a.1) (subM d.2 c.2)) (mlM (subM b.2 a.2) (subM d.1 c.1)) = crossM a b c d from rfl] at s
  generalize crossM a b c d = r at *
  clear x1 y1 x2 y2 ha hb hc hd
  unfold dfM at k1 k2
  generalize mlM (subM b.1 a.1) (subM d.2 c.2) = p at *
  generalize mlM (subM b.2 a.2) (subM d.1 c.1) = q at *
  generalize subM b.1 a.1 = u1 at *
  generalize subM b.2 a.2 = u2 at *
  generalize subM d.1 c.1 = v1 at *
  generalize subM d.2 c.2 = v2 at *
  obtain ⟨a1, a2⟩ := a
  obtain ⟨b1, b2⟩ := b
  obtain ⟨c1, c2⟩ := c
  obtain ⟨d1, d2⟩ := d
  refine pure_intro (tok := 0) Tryz.func22 rfl Tryz.ntmps22 Tryz.results22 Tryz.call22 (by rfl) (by simp) ?_
  (focus (refine wkld w_t (w_a k1 (w_a k2 (w_a m1 (w_a m2 (w_a s w_t))))) w_t (w_a (w_d 1 [(2, coA (u1, u2)), (5, coA (v1, v2))] [] [9, 10]) (w_a (w_d 2 [(4, poA p), (9, poA q), (10, poA r)] [] []) w_t)) ?_; (repeat' first | exact w_t | apply w_l); all_goals intros))
theorem rhCross {a b c d : Pt} (ha : CB a) (hb : CB b) (hc : CB c) (hd : CB d) : Pure Tryz.prog 26 [coA a, coA b, coA c, coA d] (poA (crossM a b c d)) := by
  obtain ⟨⟨-, s1⟩, -, s2⟩ := ha.subs hb
  obtain ⟨⟨-, t1⟩, -, t2⟩ := hc.subs hd
  obtain ⟨x1, y1⟩ := ha.df hb
  obtain ⟨x2, y2⟩ := hc.df hd
  have m1 := (hpM2 x1 y2).2
  have m2 := (hpM2 y1 x2).2
  have s := (hpSub (x1.m2 y2) (y1.m2 x2) (by omega) (by omega) (by omega) (by omega) (by omega) (by omega)).2
  rw [show subM (mlM (subM b.1 a.1) (subM d.2 c.2)) (mlM (subM b.2 a.2) (subM d.1 c.1)) = crossM a b c d from rfl] at s
  generalize crossM a b c d = r at *
  clear x1 y1 x2 y2 ha hb hc hd
  generalize mlM (subM b.1 a.1) (subM d.2 c.2) = p at *
  generalize mlM (subM b.2 a.2) (subM d.1 c.1) = q at *
  generalize subM b.1 a.1 = u1 at *
  generalize subM b.2 a.2 = u2 at *
  generalize subM d.1 c.1 = v1 at *
  generalize subM d.2 c.2 = v2 at *
  obtain ⟨a1, a2⟩ := a
  obtain ⟨b1, b2⟩ := b
  obtain ⟨c1, c2⟩ := c
  obtain ⟨d1, d2⟩ := d
  try simp only at *
  refine pure_intro (tok := 0) Tryz.func26 rfl Tryz.ntmps26 Tryz.results26 Tryz.call26 (by rfl) (by simp) ?_
  (focus (refine wkld w_t (w_a s1 (w_a s2 (w_a t1 (w_a t2 (w_a m1 (w_a m2 (w_a s w_t))))))) w_t (w_a (w_d 1 [(4, poA u1), (9, poA v2), (10, poA p), (15, poA u2), (20, poA v1), (21, poA q), (22, poA r)] [] []) w_t) ?_; (repeat' first | exact w_t | apply w_l); all_goals intros))
theorem rhDot {a b c d : Pt} (ha : CB a) (hb : CB b) (hc : CB c) (hd : CB d) : Pure Tryz.prog 59 [coA a, coA b, coA c, coA d] (poA (dotM a b c d)) := by
  obtain ⟨⟨-, s1⟩, -, s2⟩ := ha.subs hb
  obtain ⟨⟨-, t1⟩, -, t2⟩ := hc.subs hd
  obtain ⟨x1, y1⟩ := ha.df hb
  obtain ⟨x2, y2⟩ := hc.df hd
  have m1 := (hpM2 x1 x2).2
  have m2 := (hpM2 y1 y2).2
  have s := (hpAdd (x1.m2 x2) (y1.m2 y2) (by omega) (by omega) (by omega) (by omega) (by omega) (by omega)).2
  rw [show addM (mlM (subM b.1 a.1) (subM d.1 c.1)) (mlM (subM b.2 a.2) (subM d.2 c.2)) = dotM a b c d from rfl] at s
  generalize dotM a b c d = r at *
  clear x1 y1 x2 y2 ha hb hc hd
  generalize mlM (subM b.1 a.1) (subM d.1 c.1) = p at *
  generalize mlM (subM b.2 a.2) (subM d.2 c.2) = q at *
  generalize subM b.1 a.1 = u1 at *
  generalize subM b.2 a.2 = u2 at *
  generalize subM d.1 c.1 = v1 at *
  generalize subM d.2 c.2 = v2 at *
  obtain ⟨a1, a2⟩ := a
  obtain ⟨b1, b2⟩ := b
  obtain ⟨c1, c2⟩ := c
  obtain ⟨d1, d2⟩ := d
  try simp only at *
  refine pure_intro (tok := 0) Tryz.func59 rfl Tryz.ntmps59 Tryz.results59 Tryz.call59 (by rfl) (by simp) ?_
  (focus (refine wkld w_t (w_a s1 (w_a s2 (w_a t1 (w_a t2 (w_a m1 (w_a m2 (w_a s w_t))))))) w_t (w_a (w_d 1 [(4, poA u1), (9, poA v1), (10, poA p), (15, poA u2), (20, poA v2), (21, poA q), (22, poA r)] [] []) w_t) ?_; (repeat' first | exact w_t | apply w_l); all_goals intros))
theorem rhNorm {a b : Pt} (ha : CB a) (hb : CB b) : Pure Tryz.prog 25 [coA a, coA b] (poA (dotM a b a b)) := by
  have c := rhDot ha hb ha hb
  generalize dotM a b a b = r at *
  clear ha hb
  obtain ⟨a1, a2⟩ := a
  obtain ⟨b1, b2⟩ := b
  refine pure_intro (tok := 0) Tryz.func25 rfl Tryz.ntmps25 Tryz.results25 Tryz.call25 (by rfl) (by simp) ?_
  (focus (refine wklp w_t (w_a c w_t) w_t (w_r 0) ?_; (repeat' first | exact w_t | apply w_l); all_goals intros))
end Go.Proofs.YteiopjkamgmfpaaGreat
end

section
namespace Go.Proofs.YteiopjkamgmfpaaGreat
open Go Go.RowKit Go.Pg
set_option linter.unusedSimpArgs false
set_option linter.unusedVariables false
set_option maxRecDepth 20000
attribute [-bool_to_prop] Bool.and_eq_decide Bool.or_eq_decide Bool.decide_beq_decide decide_eq_decide
end Go.Proofs.YteiopjkamgmfpaaGreat
end

section
namespace Go.Proofs.YteiopjkamgmfpaaGreat
open Go Go.RowKit Go.Pg Go.Pol
set_option linter.unusedSimpArgs false
set_option linter.unusedVariables false
set_option maxRecDepth 20000
attribute [local go_sem] Tryz.underlying3 Tryz.underlying4 Tryz.underlying129 Tryz.underlying9 Tryz.underlying26 Tryz.underlying35 Tryz.underlying53 Tryz.underlying51 Tryz.underlying49 Tryz.underlying55 Tryz.underlying22 Tryz.underlying25 Tryz.underlying107 Tryz.underlying32 Tryz.underlying69 Tryz.underlying31 Tryz.underlying34 Tryz.underlying120 Tryz.underlying121 Tryz.underlying42 Tryz.underlying113 Tryz.underlying118 Tryz.underlying160 sz3 by3 z3 szB zB szErr zErr szStr byStr zStr szRat zRat szInt zInt szNat zNat szStep byStep zStep szFig zFig szSlI zSlI szSlS zSlS szVar byVar zVar szSlV zSlV szCoord byCoord zCoord szSlC zSlC szFrame zFrame szCBld byCBld zCBld szCVec byCVec zCVec szPoly byPoly zPoly szTerm zTerm szPtrB zPtrB szFnC zFnC
attribute [-bool_to_prop] Bool.and_eq_decide Bool.or_eq_decide Bool.decide_beq_decide decide_eq_decide
theorem Sub.tup2 {a b a' b' : AV} (h : Sub a a') (k : Sub b b') : Sub (.tup [a, b]) (.tup [a', b']) := Sub.tup _ _ rfl fun j x y h1 h2 => by
  match j with
  | 0 => simp at h1 h2; subst h1; subst h2; exact h
  | 1 => simp at h1 h2; subst h1; subst h2; exact k
  | j + 2 => simp at h1
theorem Agr.re {m σ : Mem} {t k : Nat} {e1 e e' : Ent} (h : Agr m (upd σ k (some e1))) (ht : t = k + 1000) (he : e' = e.sh) : Agr (upd m t (some e')) (upd σ k (some e)) := by
  have := h.put (k := k) (e := e) ht he
  rwa [upd_over] at this
/-- A frame's handles under other names. -/
theorem Sub.frame (KC KV KC' KV' : Nat) (svC svV : Value) : Sub (.agg [.own KC svC, .own KV svV]) (.agg [.own KC' svC, .own KV' svV]) := Sub.agg2 (Sub.own _ _ _) (Sub.own _ _ _)
set_option maxHeartbeats 2000000 in
theorem rcParam (σ : Mem) (KC KV : Nat) (svC svV : Value) (vs : List Vt) (kind step number : Int) (hV : σ KV = some (.row svV 107 3 (vs.map Vt.av) 0)) (hl : vs.length ≤ 200) :
    ACall Tryz.prog 47 [.agg [.own KC svC, .own KV svV], iv kind, iv step, iv number] σ fun r σ' => ∃ sv, r = .tup [.agg [.own KC svC, .own KV sv], poA (varM vs.length)] ∧ σ' = upd σ KV (some (.row sv 107 3 ((vs ++ [(kind, step, number)]).map Vt.av) 0)) := by
  have mV := lents_at hV
  have cv := rpVar vs.length (by omega)
  have hln : (vs.map Vt.av).length = vs.length := List.length_map ..
  have hm1 : ((vs.length + 1 : Nat) : Int) - 1 = (vs.length : Int) := by omega
  simp only [Ent.sh, AV.shL, AV.sh] at mV
  simp only [List.map_append, List.map_cons, List.map_nil]
  refine acall_lents Tryz.func47 rfl Tryz.ntmps47 Tryz.results47 Tryz.call47 (by rfl) (by simp) ?_
  (focus (refine wkad (w_a mV (w_a hln (w_a hm1 (w_a @l_app (w_a @lents_lt (w_a @lents_beq w_t)))))) (w_a cv w_t) (w_a (w_d 2 [(5, poA (varM vs.length))] [] [8]) w_t) ?_; (repeat' first | exact w_t | apply w_l); all_goals intros))
  simp (disch := omega) only [go_sem]
  rename_i sv1
  refine backS (Sub.tup2 (Sub.frame _ _ _ _ _ _) (Sub.refl _)) ⟨sv1, rfl, rfl⟩ ?_
  (repeat (refine Agr.own ?_ (by omega)))
  refine Agr.put ?_ rfl rfl
  (repeat' (first | exact Agr.start _ | (refine Agr.own ?_ (by omega))))
set_option maxHeartbeats 4000000 in
theorem rcFree (σ : Mem) (KC KV : Nat) (svC svV : Value) (vs : List Vt) (i fr : Nat) (hV : σ KV = some (.row svV 107 3 (vs.map Vt.av) 0)) (hl : vs.length ≤ 100) (hf : fr ≤ 1000) :
    ACall Tryz.prog 43 [.agg [.own KC svC, .own KV svV], iv i, iv fr] σ fun r σ' => ∃ sv, r = .tup [.agg [.own KC svC, .own KV sv], coA (if fr = 0 then ([], []) else if fr = 1 then (varM vs.length, []) else (varM vs.length, varM (vs.length + 1)))] ∧
      σ' = upd σ KV (some (.row sv 107 3 ((vs ++ (if fr = 0 then [] else if fr = 1 then [(1, (i : Int), 0)] else [(1, (i : Int), 0), (1, (i : Int), 1)])).map Vt.av) 0)) := by
  have mV := lents_at hV
  simp only [Ent.sh, AV.shL, AV.sh] at mV
  by_cases h0 : fr = 0
  · subst h0
    simp only [if_true, List.append_nil]
    refine acall_lents Tryz.func43 rfl Tryz.ntmps43 Tryz.results43 Tryz.call43 (by rfl) (by simp) ?_
    (focus (refine wkad (w_a mV w_t) w_t (w_a (w_d 6 [] [] [6, 7]) w_t) ?_; (repeat' first | exact w_t | apply w_l); all_goals intros))
    simp (disch := omega) only [go_sem]
    refine backS (Sub.tup2 (Sub.frame _ _ _ _ _ _) (Sub.agg2 (Sub.nil 4) (Sub.nil 4))) ⟨svV, rfl, rfl⟩ ?_
    rw [upd_same' hV]
    (repeat' (first | exact Agr.start _ | (refine Agr.own ?_ (by omega))))
  · by_cases h1 : fr = 1
    · subst h1
      simp only [if_neg h0, if_true]
      refine acall_lents Tryz.func43 rfl Tryz.ntmps43 Tryz.results43 Tryz.call43 (by rfl) (by simp) ?_
      (focus (refine wkad (w_a mV w_t) w_t w_t ?_; (repeat' first | exact w_t | apply w_l); all_goals intros))
      refine o_fresh (rcParam _ (KC + 1000) (KV + 1000) svC svV vs 1 (i : Int) 0 (by (simp (disch := omega) only [go_sem, mV, if_neg, if_pos, List.map_append, List.map_cons, List.map_nil] <;> repeat' first | rfl | refine ⟨?_, ?_⟩)) (by first | omega | (simp; omega))) ?_
      intro sv1
      (focus (refine wkad (w_a mV w_t) w_t (w_a (w_d 6 [] [] [6, 7]) w_t) ?_; (repeat' first | exact w_t | apply w_l); all_goals intros))
      simp (disch := omega) only [go_sem]
      refine backS (Sub.tup2 (Sub.frame _ _ _ _ _ _) (Sub.agg2 (Sub.refl _) (Sub.nil 4))) ⟨sv1, rfl, rfl⟩ ?_
      simp only [List.map_append, List.map_cons, List.map_nil]
      (repeat (refine Agr.own ?_ (by omega)))
      refine Agr.put ?_ rfl rfl
      (repeat' (first | exact Agr.start _ | (refine Agr.own ?_ (by omega))))
    · simp only [if_neg h0, if_neg h1]
      have hl1 : (vs ++ [((1 : Int), (i : Int), (0 : Int))]).length = vs.length + 1 := by simp
      refine acall_lents Tryz.func43 rfl Tryz.ntmps43 Tryz.results43 Tryz.call43 (by rfl) (by simp) ?_
      (focus (refine wkad (w_a mV w_t) w_t w_t ?_; (repeat' first | exact w_t | apply w_l); all_goals intros))
      refine o_fresh (rcParam _ (KC + 1000) (KV + 1000) svC svV vs 1 (i : Int) 0 (by (simp (disch := omega) only [go_sem, mV, if_neg, if_pos, List.map_append, List.map_cons, List.map_nil] <;> repeat' first | rfl | refine ⟨?_, ?_⟩)) (by first | omega | (simp; omega))) ?_
      intro sv1
      (focus (refine wkad (w_a mV w_t) w_t w_t ?_; (repeat' first | exact w_t | apply w_l); all_goals intros))
      refine o_fresh (rcParam _ (KC + 1000) (KV + 1000) svC sv1 (vs ++ [(1, (i : Int), 0)]) 1 (i : Int) 1 (by (simp (disch := omega) only [go_sem, mV, if_neg, if_pos, List.map_append, List.map_cons, List.map_nil] <;> repeat' first | rfl | refine ⟨?_, ?_⟩)) (by first | omega | (simp; omega))) ?_
      intro sv2
      (focus (refine wkad (w_a mV (w_a hl1 w_t)) w_t (w_a (w_d 6 [] [] [6, 7]) w_t) ?_; (repeat' first | exact w_t | apply w_l); all_goals intros))
      simp (disch := omega) only [go_sem, hl1]
      refine backS (Sub.tup2 (Sub.frame _ _ _ _ _ _) (Sub.refl _)) ⟨sv2, rfl, rfl⟩ ?_
      simp only [List.append_assoc, List.cons_append, List.nil_append]
      (repeat (refine Agr.own ?_ (by omega)))
      refine Agr.re (e1 := .row sv1 107 3 ((vs ++ [(1, (i : Int), 0)]).map Vt.av) 0) ?_ rfl rfl
      (repeat (refine Agr.own ?_ (by omega)))
      refine Agr.put ?_ rfl rfl
      (repeat' (first | exact Agr.start _ | (refine Agr.own ?_ (by omega))))
set_option maxHeartbeats 4000000 in
theorem rcDep (σ : Mem) (KC KV : Nat) (svC svV : Value) (vs : List Vt) (i : Nat) (num : Int) (hV : σ KV = some (.row svV 107 3 (vs.map Vt.av) 0)) (hl : vs.length ≤ 100) (hn : 0 ≤ num ∧ num ≤ 10) :
    ACall Tryz.prog 48 [.agg [.own KC svC, .own KV svV], iv i, iv num] σ fun r σ' => ∃ sv, r = .tup [.agg [.own KC svC, .own KV sv], coA (varM vs.length, varM (vs.length + 1))] ∧
      σ' = upd σ KV (some (.row sv 107 3 ((vs ++ [(2, (i : Int), num), (2, (i : Int), num + 1)]).map Vt.av) 0)) := by
  have mV := lents_at hV
  simp only [Ent.sh, AV.shL, AV.sh] at mV
  have hl1 : (vs ++ [((2 : Int), (i : Int), num)]).length = vs.length + 1 := by simp
  refine acall_lents Tryz.func48 rfl Tryz.ntmps48 Tryz.results48 Tryz.call48 (by rfl) (by simp) ?_
  (focus (refine wkad (w_a mV w_t) w_t w_t ?_; (repeat' first | exact w_t | apply w_l); all_goals intros))
  refine o_fresh (rcParam _ (KC + 1000) (KV + 1000) svC svV vs 2 (i : Int) num (by (simp (disch := omega) only [go_sem, mV, if_neg, if_pos, List.map_append, List.map_cons, List.map_nil] <;> repeat' first | rfl | refine ⟨?_, ?_⟩)) (by first | omega | (simp; omega))) ?_
  intro sv1
  (focus (refine wkad (w_a mV w_t) w_t w_t ?_; (repeat' first | exact w_t | apply w_l); all_goals intros))
  refine o_fresh (rcParam _ (KC + 1000) (KV + 1000) svC sv1 (vs ++ [(2, (i : Int), num)]) 2 (i : Int) (num + 1) (by (simp (disch := omega) only [go_sem, mV, if_neg, if_pos, List.map_append, List.map_cons, List.map_nil] <;> repeat' first | rfl | refine ⟨?_, ?_⟩)) (by first | omega | (simp; omega))) ?_
  intro sv2
  (focus (refine wkad (w_a mV (w_a hl1 w_t)) w_t (w_a (w_d 4 [] [] [6, 7]) w_t) ?_; (repeat' first | exact w_t | apply w_l); all_goals intros))
  simp (disch := omega) only [go_sem, hl1]
  refine backS (Sub.tup2 (Sub.frame _ _ _ _ _ _) (Sub.refl _)) ⟨sv2, rfl, rfl⟩ ?_
  simp only [List.append_assoc, List.cons_append, List.nil_append]
  (repeat (refine Agr.own ?_ (by omega)))
  refine Agr.re (e1 := .row sv1 107 3 ((vs ++ [(2, (i : Int), num)]).map Vt.av) 0) ?_ rfl rfl
  (repeat (refine Agr.own ?_ (by omega)))
  refine Agr.put ?_ rfl rfl
  (repeat' (first | exact Agr.start _ | (refine Agr.own ?_ (by omega))))
theorem rcAlong (a b : Po × Po) (m d1 d2 e1 e2 f1 f2 : Po) (s1 : Pure Tryz.prog 60 [poA b.1, poA a.1] (poA d1)) (s2 : Pure Tryz.prog 60 [poA b.2, poA a.2] (poA d2))
    (m1 : Pure Tryz.prog 61 [poA m, poA d1] (poA e1)) (m2 : Pure Tryz.prog 61 [poA m, poA d2] (poA e2)) (a1 : Pure Tryz.prog 64 [poA a.1, poA e1] (poA f1)) (a2 : Pure Tryz.prog 64 [poA a.2, poA e2] (poA f2)) :
    Pure Tryz.prog 44 [coA a, coA b, poA m] (coA (f1, f2)) := by
  obtain ⟨x1, x2⟩ := a
  obtain ⟨y1, y2⟩ := b
  simp only at *
  refine pure_intro (tok := 0) Tryz.func44 rfl Tryz.ntmps44 Tryz.results44 Tryz.call44 (by rfl) (by simp) ?_
  (focus (refine wkld w_t (w_a s1 (w_a s2 (w_a m1 (w_a m2 (w_a a1 (w_a a2 w_t)))))) w_t (w_a (w_d 1 [(7, poA d1), (8, poA e1), (9, poA f1), (17, poA d2), (18, poA e2), (19, poA f2)] [] [6]) w_t) ?_; (repeat' first | exact w_t | apply w_l); all_goals intros))
theorem rcPlus (p q r d f : Po) (s : Pure Tryz.prog 60 [poA q, poA r] (poA d)) (a : Pure Tryz.prog 64 [poA p, poA d] (poA f)) : Pure Tryz.prog 46 [poA p, poA q, poA r] (poA f) := by
  refine pure_intro (tok := 0) Tryz.func46 rfl Tryz.ntmps46 Tryz.results46 Tryz.call46 (by rfl) (by simp) ?_
  (focus (refine wklp w_t (w_a s (w_a a w_t)) w_t (w_r 0) ?_; (repeat' first | exact w_t | apply w_l); all_goals intros))
end Go.Proofs.YteiopjkamgmfpaaGreat
end

section
namespace Go.Proofs.YteiopjkamgmfpaaGreat
open Go Go.RowKit Go.Pg Go.Pol
set_option linter.unusedSimpArgs false
set_option linter.unusedVariables false
set_option maxRecDepth 20000
attribute [-bool_to_prop] Bool.and_eq_decide Bool.or_eq_decide Bool.decide_beq_decide decide_eq_decide
abbrev cstM (q : Rat) : Po := if q = 0 then [] else [(q, [])]
theorem cst_pk (q : Rat) {k : Nat} (h : Sz q k) : PK (cstM q) k 1 := by
  unfold cstM
  split
  · exact PK.nil
  · intro t ht
    rw [List.mem_singleton] at ht
    subst ht
    exact ⟨h, Nat.zero_le _, fun j => by rw [gI_out (Nat.zero_le _)]; omega⟩
theorem cst_srt (q : Rat) : SrtM (cstM q) := by
  unfold cstM
  split
  · exact .nil
  · rename_i h
    exact Srt.nil.cons h can_nil (by simp)
theorem cst_len (q : Rat) : (cstM q).length ≤ 1 := by
  unfold cstM
  split <;> simp
theorem cst_mul (q : Rat) {d : Po} (sd : SrtM d) : mlM (cstM q) d = sclM q d := by
  unfold sclM cstM
  by_cases h : q = 0
  · rw [if_pos h, if_pos h]; exact mulR_nil d
  · rw [if_neg h, if_neg h]; exact mul_const h sd
theorem PK.take {p : Po} {k e : Nat} (h : PK p k e) (i : Nat) : PK (p.take i) k e := fun t ht => h t (List.mem_of_mem_take ht)
theorem var_mul (v : Nat) {d : Po} (sd : SrtM d) : mlM (varM v) d = mlM d (varM v) := mulR_comm ordM mulK (varM_srt v) sd
theorem var_len (v : Nat) : (varM v).length ≤ 1 := by unfold varM; split <;> simp
theorem rcMulC (q : Rat) (d : Po) (hq : Sz q 2) (hd : PK d 221 1) (sd : SrtM d) (ld : d.length ≤ 8000) : Pure Tryz.prog 61 [poA (cstM q), poA d] (poA (sclM q d)) := by
  rw [← cst_mul q sd]
  have := cst_len q
  refine rpMul (cstM q) d (cst_pk q hq) hd (cst_srt q) sd (by omega) (by omega) (by omega) (by omega) (by omega) (by omega) (K := 223) (E := 1) (fun i => ?_) (by omega) (by omega)
  rw [cst_mul q (srt_take sd i)]
  have h1 := scl_len q (d.take i)
  have h2 : (d.take i).length ≤ d.length := by rw [List.length_take]; omega
  exact ⟨((hd.take i).scl hq).mono (by omega) (by omega), by omega⟩
theorem rcMulV (v : Nat) (d : Po) (hd : PK d 221 1) (sd : SrtM d) (ld : d.length ≤ 8000) : Pure Tryz.prog 61 [poA (varM v), poA d] (poA (mlM d (varM v))) := by
  rw [← var_mul v sd]
  have := var_len v
  refine rpMul (varM v) d (varM_pk v) hd (varM_srt v) sd (by omega) (by omega) (by omega) (by omega) (by omega) (by omega) (K := 222) (E := 2) (fun i => ?_) (by omega) (by omega)
  rw [var_mul v (srt_take sd i)]
  have h1 := mulV_len (d.take i) v
  have h2 : (d.take i).length ≤ d.length := by rw [List.length_take]; omega
  exact ⟨(hd.take i).mulV.mono (by omega) (by omega), by omega⟩
/-- A point on the way between two, by a share that is a number. -/
theorem rcAlongS (a b : Po × Po) (q : Rat) (hq : Sz q 2) (a1 : Co a.1) (a2 : Co a.2) (b1 : Co b.1) (b2 : Co b.2) : Pure Tryz.prog 44 [coA a, coA b, poA (cstM q)] (coA (addM a.1 (sclM q (subM b.1 a.1)), addM a.2 (sclM q (subM b.2 a.2)))) := by
  have n1 := a1.ln
  have n2 := a2.ln
  have n3 := b1.ln
  have n4 := b2.ln
  have s1 := rpSub b.1 a.1 b1.pk a1.pk b1.st a1.st (by omega) (by omega) (by omega) (by omega) (by omega)
  have s2 := rpSub b.2 a.2 b2.pk a2.pk b2.st a2.st (by omega) (by omega) (by omega) (by omega) (by omega)
  have d1 := b1.pk.sub a1.pk
  have d2 := b2.pk.sub a2.pk
  have t1 := sub_srt ordM b1.st a1.st
  have t2 := sub_srt ordM b2.st a2.st
  have l1 := sub_len b.1 a.1
  have l2 := sub_len b.2 a.2
  have m1 := rcMulC q (subM b.1 a.1) hq d1 t1 (by omega)
  have m2 := rcMulC q (subM b.2 a.2) hq d2 t2 (by omega)
  have e1 := rpAdd a.1 (sclM q (subM b.1 a.1)) a1.pk (d1.scl hq) a1.st (scl_srt t1) (by omega) (by have := scl_len q (subM b.1 a.1); omega) (by omega) (by omega) (by omega)
  have e2 := rpAdd a.2 (sclM q (subM b.2 a.2)) a2.pk (d2.scl hq) a2.st (scl_srt t2) (by omega) (by have := scl_len q (subM b.2 a.2); omega) (by omega) (by omega) (by omega)
  exact rcAlong a b (cstM q) _ _ _ _ _ _ s1 s2 m1 m2 e1 e2
/-- The same, by a share that is a variable. -/
theorem rcAlongM (a b : Po × Po) (v : Nat) (a1 : Co a.1) (a2 : Co a.2) (b1 : Co b.1) (b2 : Co b.2) : Pure Tryz.prog 44 [coA a, coA b, poA (varM v)] (coA (addM a.1 (mlM (subM b.1 a.1) (varM v)), addM a.2 (mlM (subM b.2 a.2) (varM v)))) := by
  have n1 := a1.ln
  have n2 := a2.ln
  have n3 := b1.ln
  have n4 := b2.ln
  have s1 := rpSub b.1 a.1 b1.pk a1.pk b1.st a1.st (by omega) (by omega) (by omega) (by omega) (by omega)
  have s2 := rpSub b.2 a.2 b2.pk a2.pk b2.st a2.st (by omega) (by omega) (by omega) (by omega) (by omega)
  have d1 := b1.pk.sub a1.pk
  have d2 := b2.pk.sub a2.pk
  have t1 := sub_srt ordM b1.st a1.st
  have t2 := sub_srt ordM b2.st a2.st
  have l1 := sub_len b.1 a.1
  have l2 := sub_len b.2 a.2
  have m1 := rcMulV v (subM b.1 a.1) d1 t1 (by omega)
  have m2 := rcMulV v (subM b.2 a.2) d2 t2 (by omega)
  have e1 := rpAdd a.1 (mlM (subM b.1 a.1) (varM v)) (a1.pk.mono (Nat.le_refl 110) (show 1 ≤ 1 + 1 by omega)) d1.mulV a1.st (mulR_srt ordM mulK t1 (varM_srt v)) (by omega) (by have := mulV_len (subM b.1 a.1) v; omega) (by omega) (by omega) (by omega)
  have e2 := rpAdd a.2 (mlM (subM b.2 a.2) (varM v)) (a2.pk.mono (Nat.le_refl 110) (show 1 ≤ 1 + 1 by omega)) d2.mulV a2.st (mulR_srt ordM mulK t2 (varM_srt v)) (by omega) (by have := mulV_len (subM b.2 a.2) v; omega) (by omega) (by omega) (by omega)
  exact rcAlong a b (varM v) _ _ _ _ _ _ s1 s2 m1 m2 e1 e2
theorem rcPlusC (p q r : Po) (hp : Co p) (hq : Co q) (hr : Co r) : Pure Tryz.prog 46 [poA p, poA q, poA r] (poA (addM p (subM q r))) := by
  have n1 := hp.ln
  have n2 := hq.ln
  have n3 := hr.ln
  have l1 := sub_len q r
  have s := rpSub q r hq.pk hr.pk hq.st hr.st (by omega) (by omega) (by omega) (by omega) (by omega)
  have a := rpAdd p (subM q r) hp.pk (hq.pk.sub hr.pk) hp.st (sub_srt ordM hq.st hr.st) (by omega) (by omega) (by omega) (by omega) (by omega)
  exact rcPlus p q r _ _ s a
end Go.Proofs.YteiopjkamgmfpaaGreat
end

section
namespace Go.Proofs.YteiopjkamgmfpaaGreat
open Go Go.RowKit Go.Pg Go.Pol
set_option linter.unusedSimpArgs false
set_option linter.unusedVariables false
set_option maxRecDepth 20000
attribute [local go_sem] Tryz.underlying3 Tryz.underlying4 Tryz.underlying129 Tryz.underlying9 Tryz.underlying26 Tryz.underlying35 Tryz.underlying53 Tryz.underlying51 Tryz.underlying49 Tryz.underlying55 Tryz.underlying22 Tryz.underlying25 Tryz.underlying107 Tryz.underlying32 Tryz.underlying69 Tryz.underlying31 Tryz.underlying34 Tryz.underlying120 Tryz.underlying121 Tryz.underlying42 Tryz.underlying113 Tryz.underlying118 Tryz.underlying160 sz3 by3 z3 szB zB szErr zErr szStr byStr zStr szRat zRat szInt zInt szNat zNat szStep byStep zStep szFig zFig szSlI zSlI szSlS zSlS szVar byVar zVar szSlV zSlV szCoord byCoord zCoord szSlC zSlC szFrame zFrame szCBld byCBld zCBld szCVec byCVec zCVec szPoly byPoly zPoly szTerm zTerm szPtrB zPtrB szFnC zFnC
attribute [-bool_to_prop] Bool.and_eq_decide Bool.or_eq_decide Bool.decide_beq_decide decide_eq_decide
theorem Agr.at {m σ : Mem} (h : Agr m σ) {k : Nat} {e : Ent} (hk : σ k = some e) : m (k + 1000) = some e.sh := by rw [h k, hk]; rfl
def ptsN (cs : List (Po × Po)) (ar : List Int) : List (Po × Po) := ar.map fun a => cs.getD a.toNat ([], [])
theorem ptsN_len (cs : List (Po × Po)) (ar : List Int) : (ptsN cs ar).length = ar.length := by unfold ptsN; simp
theorem ptsN_get {cs : List (Po × Po)} {ar : List Int} {k : Nat} (h : k < ar.length) : (ptsN cs ar)[k]'(by rw [ptsN_len]; exact h) = cs.getD (gI ar k).toNat ([], []) := by
  unfold ptsN
  rw [List.getElem_map, gI_at h]
theorem pts_at {cs : List (Po × Po)} {ar : List Int} {k : Nat} (h : k < ar.length) : ((ptsN cs ar).map coA).getD k .u = coA (cs.getD (gI ar k).toNat ([], [])) := by
  rw [map_atB coA (by rw [ptsN_len]; exact h), ptsN_get h]
theorem ptsN_take {cs : List (Po × Po)} {ar : List Int} {k : Nat} (h : k < ar.length) : (ptsN cs ar).take (k + 1) = (ptsN cs ar).take k ++ [cs.getD (gI ar k).toNat ([], [])] := by
  rw [List.take_add_one, List.getElem?_eq_getElem (by rw [ptsN_len]; exact h), ptsN_get h]; rfl
theorem arS_le (k : Int) : arS k ≤ 4 := by
  unfold arS
  repeat' split
  all_goals omega
set_option maxHeartbeats 16000000 in
theorem rcNext (σ : Mem) (KC KV : Nat) (svC svV : Value) (cs : List (Po × Po)) (vs : List Vt) (fr i : Nat) (ss : List RS) (gs : List RG) (s : RS) (hi : i < ss.length) (hs : ss[i] = s) (hV : σ KV = some (.row svV 107 3 (vs.map Vt.av) 0)) (hC : σ KC = some (.row svC 69 2 (cs.map coA) 0)) (hVC : KV ≠ KC) (hl : vs.length ≤ 64) (hf : fr ≤ 100) (hi1 : i ≤ 1000) (hok : StOk cs s) (hco : ∀ c ∈ cs, Co c.1 ∧ Co c.2) :
    ACall Tryz.prog 18 [.agg [.own KC svC, .own KV svV], figA ss gs, iv i, iv fr] σ fun r σ' => ∃ sv, r = .tup [.agg [.own KC svC, .own KV sv], coA (FS.nxt ⟨cs, vs, fr⟩ i s).2] ∧
      σ' = upd σ KV (some (.row sv 107 3 ((vs ++ (FS.nxt ⟨cs, vs, fr⟩ i s).1).map Vt.av) 0)) := by
  have hgi : (ss.map RS.av).getD i .u = s.av := by rw [← hs]; exact map_atB RS.av hi
  have hls : (ss.map RS.av).length = ss.length := List.length_map ..
  have hcl : (cs.map coA).length = cs.length := List.length_map ..
  show ACall _ _ [.agg [.own KC svC, .own KV svV], .agg [.sl 6 (ss.map RS.av), .sl 5 (gs.map RG.av)], iv i, iv fr] _ _
  generalize ss.map RS.av = M at *
  generalize gs.map RG.av = N at *
  clear hs
  obtain ⟨k0, nm, ar, ⟨rs, rl, rd⟩⟩ := s
  have hll : (ar.map iv).length = ar.length := List.length_map ..
  refine acall_lents Tryz.func18 rfl Tryz.ntmps18 Tryz.results18 Tryz.call18 (by rfl) (by simp) ?_
  (focus (refine wkad (w_a hgi (w_a hls (w_a hll w_t))) w_t w_t ?_; (repeat' first | exact w_t | apply w_l); all_goals intros))
  rename_i g4 g5 g8 g9 g10
  refine r_frz (Frz.nilOwn (d := 11) 37 2 69 (by exact gC)) ?_
  refine r_loopE (ι := Nat) (fun k e m => k ≤ ar.length ∧ e 2 = iv i ∧ e 3 = iv fr ∧ e 4 = .pbox 4 g4 0 ∧ m 4 = some (.box g4 34 [.own (KC + 1000) svC, .own (KV + 1000) svV] false) ∧ e 8 = .pbox 8 g8 0 ∧ m 8 = some (.box g8 34 [.v (.slice none 0 0), .v (.slice none 0 0)] false) ∧ e 9 = .pbox 9 g9 0 ∧ m 9 = some (.box g9 69 [.v (.slice none 0 0), .v (.slice none 0 0)] false) ∧ e 10 = .pbox 10 g10 0 ∧ m 10 = some (.box g10 55 [iv k0, strA nm, ivs ar, .v (.bool rs), lim rl, lim rd] false) ∧ e 24 = ivs ar ∧ e 25 = iv ar.length ∧ e 26 = iv k ∧ (∃ sv, e 11 = .own 37 sv ∧ m 37 = some (.row sv 69 2 (((ptsN cs ar).take k).map coA) 0)) ∧ Agr m σ) (fun k => ar.length - k) 0 (by rfl) ?_ ?_
  · rintro k e m ⟨hk, hA2, hA3, e4, m4, e8, m8, e9, m9, e10, m10, e24, e25, e26, ⟨sv, e11, m37⟩, hAg⟩
    have mV := Agr.at hAg hV
    have mC := Agr.at hAg hC
    simp only [Ent.sh, AV.shL, AV.sh] at mV mC
    by_cases hlt : k < ar.length
    · have h0 := hok.ai k hlt
      simp only at h0
      have hga : (ar.map iv).getD k .u = iv (gI ar k) := by rw [map_atB iv hlt, gI_at hlt]
      have hgc : (cs.map coA).getD (gI ar k).toNat .u = coA (cs.getD (gI ar k).toNat ([], [])) := getD_mapA (by omega)
      have htk := ptsN_take (cs := cs) hlt
      have har4 : ar.length ≤ 4 := by
        have h1 : (ar.length : Int) = arS k0 := hok.al
        have h2 := arS_le k0
        omega
      have hL : ((ptsN cs ar).take k).length ≤ 4 := by
        have h1 : (ar.length : Int) = arS k0 := hok.al
        have h2 := arS_le k0
        rw [List.length_take]
        omega
      generalize (ptsN cs ar).take k = L at *
      generalize cs.getD (gI ar k).toNat ([], []) = c at *
      generalize gI ar k = a at *
      obtain ⟨c1, c2⟩ := c
      (focus (refine wkad (w_a hA2 (w_a hA3 (w_a e4 (w_a m4 (w_a e8 (w_a m8 (w_a e9 (w_a m9 (w_a e10 (w_a m10 (w_a e11 (w_a e24 (w_a e25 (w_a e26 (w_a m37 (w_a mV (w_a mC (w_a hll (w_a hcl (w_a hga (w_a hgc w_t))))))))))))))))))))) w_t w_t ?_; (repeat' first | exact w_t | apply w_l); all_goals intros))
      rename_i sv2
      refine ⟨k + 1, ⟨by omega, by (simp (disch := omega) only [go_sem, hA2] <;> repeat' first | rfl | refine ⟨?_, ?_⟩), by (simp (disch := omega) only [go_sem, hA3] <;> repeat' first | rfl | refine ⟨?_, ?_⟩), by exact gW e4, by exact gW m4, by exact gW e8, by exact gW m8, by exact gW e9, by exact gW m9, by exact gW e10, by exact gW m10, by exact gW e24, by exact gW e25, by exact gS, ⟨_, by exact gC, by (rw [htk, List.map_append]; exact gC)⟩, ?_⟩, by omega⟩
      (repeat' (first | exact hAg | (refine Agr.own ?_ (by omega))))
    · have hkk : k = ar.length := by omega
      subst hkk
      rw [show (ptsN cs ar).take ar.length = ptsN cs ar from List.take_of_length_le (by rw [ptsN_len]; exact Nat.le_refl _)] at m37
      have hlp : ((ptsN cs ar).map coA).length = ar.length := by rw [List.length_map, ptsN_len]
      by_cases k1 : k0 = 1
      · subst k1
        have en : FS.nxt ⟨cs, vs, fr⟩ i ⟨1, nm, ar, ⟨rs, rl, rd⟩⟩ = (if fr = 0 then [] else if fr = 1 then [(1, (i : Int), 0)] else [(1, (i : Int), 0), (1, (i : Int), 1)], if fr = 0 then ([], []) else if fr = 1 then (varM vs.length, []) else (varM vs.length, varM (vs.length + 1))) := by
          unfold FS.nxt
          simp only [if_true]
          by_cases f0 : fr = 0
          · simp only [if_pos f0]
          · by_cases f1 : fr = 1
            · simp only [if_neg f0, if_pos f1]
            · simp only [if_neg f0, if_neg f1]
        rw [en]
        have cF := rcFree m (KC + 1000) (KV + 1000) svC svV vs i fr mV (by omega) (by omega)
        generalize (if fr = 0 then (([], []) : Po × Po) else if fr = 1 then (varM vs.length, []) else (varM vs.length, varM (vs.length + 1))) = x at *
        generalize (if fr = 0 then ([] : List Vt) else if fr = 1 then [(1, (i : Int), 0)] else [(1, (i : Int), 0), (1, (i : Int), 1)]) = nv at *
        obtain ⟨x1, x2⟩ := x
        (focus (refine wkad (w_a hA2 (w_a hA3 (w_a e4 (w_a m4 (w_a e8 (w_a m8 (w_a e9 (w_a m9 (w_a e10 (w_a m10 (w_a e11 (w_a e24 (w_a e25 (w_a e26 (w_a m37 (w_a mV (w_a mC (w_a hll (w_a hlp (w_a @lents_lt (w_a @lents_beq w_t))))))))))))))))))))) w_t w_t ?_; (repeat' first | exact w_t | apply w_l); all_goals intros))
        refine o_fresh cF ?_
        intro sv1
        (focus (refine wkad (w_a hA2 (w_a hA3 (w_a e4 (w_a m4 (w_a e8 (w_a m8 (w_a e9 (w_a m9 (w_a e10 (w_a m10 (w_a e11 (w_a e24 (w_a e25 (w_a e26 (w_a m37 (w_a mV (w_a mC (w_a hll (w_a hlp (w_a @lents_lt (w_a @lents_beq w_t))))))))))))))))))))) w_t w_t ?_; (repeat' first | exact w_t | apply w_l); all_goals intros))
        simp (disch := omega) only [go_sem, e8, e9]
        refine backS (Sub.tup2 (Sub.frame _ _ _ _ _ _) (Sub.refl _)) ⟨sv1, rfl, rfl⟩ ?_
        (repeat (refine Agr.own ?_ (by omega)))
        refine Agr.put ?_ rfl rfl
        (repeat' (first | exact hAg | (refine Agr.own ?_ (by omega))))
      · by_cases k2 : k0 = 2
        · subst k2
          have hal2 : ar.length = 2 := by have h1 : (ar.length : Int) = arS 2 := hok.al; have h2 : arS 2 = 2 := rfl; omega
          have h0 : 0 ≤ gI ar 0 ∧ gI ar 0 < (cs.length : Int) := hok.ai 0 (show 0 < ar.length by omega)
          obtain ⟨a1, a2⟩ : Co (cs.getD (gI ar 0).toNat ([], [])).1 ∧ Co (cs.getD (gI ar 0).toNat ([], [])).2 := hco _ (getD_mem (by omega))
          have p0 : ((ptsN cs ar).map coA).getD 0 .u = coA (cs.getD (gI ar 0).toNat ([], [])) := pts_at (by omega)
          generalize ha : cs.getD (gI ar 0).toNat ([], []) = a at *
          have h1 : 0 ≤ gI ar 1 ∧ gI ar 1 < (cs.length : Int) := hok.ai 1 (show 1 < ar.length by omega)
          obtain ⟨b1, b2⟩ : Co (cs.getD (gI ar 1).toNat ([], [])).1 ∧ Co (cs.getD (gI ar 1).toNat ([], [])).2 := hco _ (getD_mem (by omega))
          have p1 : ((ptsN cs ar).map coA).getD 1 .u = coA (cs.getD (gI ar 1).toNat ([], [])) := pts_at (by omega)
          generalize hb : cs.getD (gI ar 1).toNat ([], []) = b at *
          have ro := hok.r2 rfl
          have zr := (RQ.ok_av hok.rl ro).2
          have re := RQ.ok_eq hok.rl ro
          have en : FS.nxt ⟨cs, vs, fr⟩ i ⟨2, nm, ar, ⟨rs, rl, rd⟩⟩ = ([], (addM a.1 (sclM (RQ.q ⟨rs, rl, rd⟩) (subM b.1 a.1)), addM a.2 (sclM (RQ.q ⟨rs, rl, rd⟩) (subM b.2 a.2)))) := by
            rw [← ha, ← hb]; rfl
          rw [en]
          simp only at zr re
          generalize hq : RQ.q ⟨rs, rl, rd⟩ = q at *
          simp only [RQ.mk.injEq] at re
          obtain ⟨rfl, rfl, rfl⟩ := re
          have al := rcAlongS a b q zr a1 a2 b1 b2
          have cc := rpConst q zr (by omega)
          generalize addM a.1 (sclM q (subM b.1 a.1)) = x1 at *
          generalize addM a.2 (sclM q (subM b.2 a.2)) = x2 at *
          clear a1 a2 b1 b2 ha hb hok hco en
          obtain ⟨aa, ab⟩ := a
          obtain ⟨ba, bb⟩ := b
          (focus (refine wkad (w_a hA2 (w_a hA3 (w_a e4 (w_a m4 (w_a e8 (w_a m8 (w_a e9 (w_a m9 (w_a e10 (w_a m10 (w_a e11 (w_a e24 (w_a e25 (w_a e26 (w_a m37 (w_a mV (w_a mC (w_a hll (w_a hlp (w_a @lents_lt (w_a @lents_beq (w_a hal2 (w_a p0 (w_a p1 w_t)))))))))))))))))))))))) (w_a cc (w_a al w_t)) (w_a (w_d 12 [(9, poA (cstM q)), (10, coA (x1, x2))] [] [8, 9]) w_t) ?_; (repeat' first | exact w_t | apply w_l); all_goals intros))
          simp (disch := omega) only [go_sem, e8, e9]
          refine backS (Sub.tup2 (Sub.frame _ _ _ _ _ _) (Sub.refl _)) ⟨svV, rfl, rfl⟩ ?_
          simp only [List.append_nil, upd_same' hV]
          (repeat' (first | exact hAg | (refine Agr.own ?_ (by omega))))
        · by_cases k3 : k0 = 3
          · subst k3
            have hal2 : ar.length = 3 := by have h1 : (ar.length : Int) = arS 3 := hok.al; have h2 : arS 3 = 3 := rfl; omega
            have h0 : 0 ≤ gI ar 0 ∧ gI ar 0 < (cs.length : Int) := hok.ai 0 (show 0 < ar.length by omega)
            obtain ⟨a1, a2⟩ : Co (cs.getD (gI ar 0).toNat ([], [])).1 ∧ Co (cs.getD (gI ar 0).toNat ([], [])).2 := hco _ (getD_mem (by omega))
            have p0 : ((ptsN cs ar).map coA).getD 0 .u = coA (cs.getD (gI ar 0).toNat ([], [])) := pts_at (by omega)
            generalize ha : cs.getD (gI ar 0).toNat ([], []) = a at *
            have h1 : 0 ≤ gI ar 1 ∧ gI ar 1 < (cs.length : Int) := hok.ai 1 (show 1 < ar.length by omega)
            obtain ⟨b1, b2⟩ : Co (cs.getD (gI ar 1).toNat ([], [])).1 ∧ Co (cs.getD (gI ar 1).toNat ([], [])).2 := hco _ (getD_mem (by omega))
            have p1 : ((ptsN cs ar).map coA).getD 1 .u = coA (cs.getD (gI ar 1).toNat ([], [])) := pts_at (by omega)
            generalize hb : cs.getD (gI ar 1).toNat ([], []) = b at *
            have h2 : 0 ≤ gI ar 2 ∧ gI ar 2 < (cs.length : Int) := hok.ai 2 (show 2 < ar.length by omega)
            obtain ⟨c1, c2⟩ : Co (cs.getD (gI ar 2).toNat ([], [])).1 ∧ Co (cs.getD (gI ar 2).toNat ([], [])).2 := hco _ (getD_mem (by omega))
            have p2 : ((ptsN cs ar).map coA).getD 2 .u = coA (cs.getD (gI ar 2).toNat ([], [])) := pts_at (by omega)
            generalize hc : cs.getD (gI ar 2).toNat ([], []) = c at *
            have en : FS.nxt ⟨cs, vs, fr⟩ i ⟨3, nm, ar, ⟨rs, rl, rd⟩⟩ = ([], (addM a.1 (subM c.1 b.1), addM a.2 (subM c.2 b.2))) := by
              rw [← ha, ← hb, ← hc]; rfl
            rw [en]
            have q1 := rcPlusC a.1 c.1 b.1 a1 c1 b1
            have q2 := rcPlusC a.2 c.2 b.2 a2 c2 b2
            generalize addM a.1 (subM c.1 b.1) = x1 at *
            generalize addM a.2 (subM c.2 b.2) = x2 at *
            clear a1 a2 b1 b2 c1 c2 ha hb hc hok hco en
            obtain ⟨aa, ab⟩ := a
            obtain ⟨ba, bb⟩ := b
            obtain ⟨ca, cb⟩ := c
            (focus (refine wkad (w_a hA2 (w_a hA3 (w_a e4 (w_a m4 (w_a e8 (w_a m8 (w_a e9 (w_a m9 (w_a e10 (w_a m10 (w_a e11 (w_a e24 (w_a e25 (w_a e26 (w_a m37 (w_a mV (w_a mC (w_a hll (w_a hlp (w_a @lents_lt (w_a @lents_beq (w_a hal2 (w_a p0 (w_a p1 (w_a p2 w_t))))))))))))))))))))))))) (w_a q1 (w_a q2 w_t)) (w_a (w_d 14 [(13, poA x1), (26, poA x2)] [] [8, 9]) w_t) ?_; (repeat' first | exact w_t | apply w_l); all_goals intros))
            simp (disch := omega) only [go_sem, e8, e9]
            refine backS (Sub.tup2 (Sub.frame _ _ _ _ _ _) (Sub.refl _)) ⟨svV, rfl, rfl⟩ ?_
            simp only [List.append_nil, upd_same' hV]
            (repeat' (first | exact hAg | (refine Agr.own ?_ (by omega))))
          · by_cases k4 : k0 = 4
            · subst k4
              have hal2 : ar.length = 3 := by have h1 : (ar.length : Int) = arS 4 := hok.al; have h2 : arS 4 = 3 := rfl; omega
              have h0 : 0 ≤ gI ar 0 ∧ gI ar 0 < (cs.length : Int) := hok.ai 0 (show 0 < ar.length by omega)
              obtain ⟨a1, a2⟩ : Co (cs.getD (gI ar 0).toNat ([], [])).1 ∧ Co (cs.getD (gI ar 0).toNat ([], [])).2 := hco _ (getD_mem (by omega))
              have p0 : ((ptsN cs ar).map coA).getD 0 .u = coA (cs.getD (gI ar 0).toNat ([], [])) := pts_at (by omega)
              generalize ha : cs.getD (gI ar 0).toNat ([], []) = a at *
              have h1 : 0 ≤ gI ar 1 ∧ gI ar 1 < (cs.length : Int) := hok.ai 1 (show 1 < ar.length by omega)
              obtain ⟨b1, b2⟩ : Co (cs.getD (gI ar 1).toNat ([], [])).1 ∧ Co (cs.getD (gI ar 1).toNat ([], [])).2 := hco _ (getD_mem (by omega))
              have p1 : ((ptsN cs ar).map coA).getD 1 .u = coA (cs.getD (gI ar 1).toNat ([], [])) := pts_at (by omega)
              generalize hb : cs.getD (gI ar 1).toNat ([], []) = b at *
              have h2 : 0 ≤ gI ar 2 ∧ gI ar 2 < (cs.length : Int) := hok.ai 2 (show 2 < ar.length by omega)
              obtain ⟨c1, c2⟩ : Co (cs.getD (gI ar 2).toNat ([], [])).1 ∧ Co (cs.getD (gI ar 2).toNat ([], [])).2 := hco _ (getD_mem (by omega))
              have p2 : ((ptsN cs ar).map coA).getD 2 .u = coA (cs.getD (gI ar 2).toNat ([], [])) := pts_at (by omega)
              generalize hc : cs.getD (gI ar 2).toNat ([], []) = c at *
              have en : FS.nxt ⟨cs, vs, fr⟩ i ⟨4, nm, ar, ⟨rs, rl, rd⟩⟩ = ([], (addM a.1 (subM b.2 c.2), addM a.2 (subM c.1 b.1))) := by
                rw [← ha, ← hb, ← hc]; rfl
              rw [en]
              have q1 := rcPlusC a.1 b.2 c.2 a1 b2 c2
              have q2 := rcPlusC a.2 c.1 b.1 a2 c1 b1
              generalize addM a.1 (subM b.2 c.2) = x1 at *
              generalize addM a.2 (subM c.1 b.1) = x2 at *
              clear a1 a2 b1 b2 c1 c2 ha hb hc hok hco en
              obtain ⟨aa, ab⟩ := a
              obtain ⟨ba, bb⟩ := b
              obtain ⟨ca, cb⟩ := c
              (focus (refine wkad (w_a hA2 (w_a hA3 (w_a e4 (w_a m4 (w_a e8 (w_a m8 (w_a e9 (w_a m9 (w_a e10 (w_a m10 (w_a e11 (w_a e24 (w_a e25 (w_a e26 (w_a m37 (w_a mV (w_a mC (w_a hll (w_a hlp (w_a @lents_lt (w_a @lents_beq (w_a hal2 (w_a p0 (w_a p1 (w_a p2 w_t))))))))))))))))))))))))) (w_a q1 (w_a q2 w_t)) (w_a (w_d 16 [(13, poA x1), (26, poA x2)] [] [8, 9]) w_t) ?_; (repeat' first | exact w_t | apply w_l); all_goals intros))
              simp (disch := omega) only [go_sem, e8, e9]
              refine backS (Sub.tup2 (Sub.frame _ _ _ _ _ _) (Sub.refl _)) ⟨svV, rfl, rfl⟩ ?_
              simp only [List.append_nil, upd_same' hV]
              (repeat' (first | exact hAg | (refine Agr.own ?_ (by omega))))
            · by_cases k5 : k0 = 5
              · subst k5
                have hal2 : ar.length = 2 := by have h1 : (ar.length : Int) = arS 5 := hok.al; have h2 : arS 5 = 2 := rfl; omega
                have h0 : 0 ≤ gI ar 0 ∧ gI ar 0 < (cs.length : Int) := hok.ai 0 (show 0 < ar.length by omega)
                obtain ⟨a1, a2⟩ : Co (cs.getD (gI ar 0).toNat ([], [])).1 ∧ Co (cs.getD (gI ar 0).toNat ([], [])).2 := hco _ (getD_mem (by omega))
                have p0 : ((ptsN cs ar).map coA).getD 0 .u = coA (cs.getD (gI ar 0).toNat ([], [])) := pts_at (by omega)
                generalize ha : cs.getD (gI ar 0).toNat ([], []) = a at *
                have h1 : 0 ≤ gI ar 1 ∧ gI ar 1 < (cs.length : Int) := hok.ai 1 (show 1 < ar.length by omega)
                obtain ⟨b1, b2⟩ : Co (cs.getD (gI ar 1).toNat ([], [])).1 ∧ Co (cs.getD (gI ar 1).toNat ([], [])).2 := hco _ (getD_mem (by omega))
                have p1 : ((ptsN cs ar).map coA).getD 1 .u = coA (cs.getD (gI ar 1).toNat ([], [])) := pts_at (by omega)
                generalize hb : cs.getD (gI ar 1).toNat ([], []) = b at *
                have en : FS.nxt ⟨cs, vs, fr⟩ i ⟨5, nm, ar, ⟨rs, rl, rd⟩⟩ = ([(1, (i : Int), 0)], (addM a.1 (mlM (subM b.1 a.1) (varM vs.length)), addM a.2 (mlM (subM b.2 a.2) (varM vs.length)))) := by
                  rw [← ha, ← hb]; rfl
                rw [en]
                have al := rcAlongM a b vs.length a1 a2 b1 b2
                have cP := rcParam m (KC + 1000) (KV + 1000) svC svV vs 1 (i : Int) 0 mV (by omega)
                generalize addM a.1 (mlM (subM b.1 a.1) (varM vs.length)) = x1 at *
                generalize addM a.2 (mlM (subM b.2 a.2) (varM vs.length)) = x2 at *
                clear a1 a2 b1 b2 ha hb hok hco en
                obtain ⟨aa, ab⟩ := a
                obtain ⟨ba, bb⟩ := b
                generalize varM vs.length = vv at *
                (focus (refine wkad (w_a hA2 (w_a hA3 (w_a e4 (w_a m4 (w_a e8 (w_a m8 (w_a e9 (w_a m9 (w_a e10 (w_a m10 (w_a e11 (w_a e24 (w_a e25 (w_a e26 (w_a m37 (w_a mV (w_a mC (w_a hll (w_a hlp (w_a @lents_lt (w_a @lents_beq (w_a hal2 w_t)))))))))))))))))))))) w_t w_t ?_; (repeat' first | exact w_t | apply w_l); all_goals intros))
                refine o_fresh cP ?_
                intro sv1
                (focus (refine wkad (w_a hA2 (w_a hA3 (w_a e4 (w_a m4 (w_a e8 (w_a m8 (w_a e9 (w_a m9 (w_a e10 (w_a m10 (w_a e11 (w_a e24 (w_a e25 (w_a e26 (w_a m37 (w_a mV (w_a mC (w_a hll (w_a hlp (w_a @lents_lt (w_a @lents_beq (w_a hal2 (w_a p0 (w_a p1 w_t)))))))))))))))))))))))) (w_a al w_t) (w_a (w_d 19 [(8, coA (x1, x2))] [] [8, 9]) w_t) ?_; (repeat' first | exact w_t | apply w_l); all_goals intros))
                simp (disch := omega) only [go_sem, e8, e9]
                refine backS (Sub.tup2 (Sub.frame _ _ _ _ _ _) (Sub.refl _)) ⟨sv1, rfl, rfl⟩ ?_
                (repeat (refine Agr.own ?_ (by omega)))
                refine Agr.put ?_ rfl rfl
                (repeat' (first | exact hAg | (refine Agr.own ?_ (by omega))))
              · by_cases k6 : k0 = 6
                · subst k6
                  have en : FS.nxt ⟨cs, vs, fr⟩ i ⟨6, nm, ar, ⟨rs, rl, rd⟩⟩ = ([(1, (i : Int), 0), (2, (i : Int), 1), (2, (i : Int), 2)], (varM (vs.length + 1), varM (vs.length + 2))) := rfl
                  rw [en]
                  have hl1 : (vs ++ [((1 : Int), (i : Int), (0 : Int))]).length = vs.length + 1 := by simp
                  have cP := rcParam m (KC + 1000) (KV + 1000) svC svV vs 1 (i : Int) 0 mV (by omega)
                  (focus (refine wkad (w_a hA2 (w_a hA3 (w_a e4 (w_a m4 (w_a e8 (w_a m8 (w_a e9 (w_a m9 (w_a e10 (w_a m10 (w_a e11 (w_a e24 (w_a e25 (w_a e26 (w_a m37 (w_a mV (w_a mC (w_a hll (w_a hlp (w_a @lents_lt (w_a @lents_beq w_t))))))))))))))))))))) w_t w_t ?_; (repeat' first | exact w_t | apply w_l); all_goals intros))
                  refine o_fresh cP ?_
                  intro sv1
                  (focus (refine wkad (w_a hA2 (w_a hA3 (w_a e4 (w_a m4 (w_a e8 (w_a m8 (w_a e9 (w_a m9 (w_a e10 (w_a m10 (w_a e11 (w_a e24 (w_a e25 (w_a e26 (w_a m37 (w_a mV (w_a mC (w_a hll (w_a hlp (w_a @lents_lt (w_a @lents_beq w_t))))))))))))))))))))) w_t w_t ?_; (repeat' first | exact w_t | apply w_l); all_goals intros))
                  refine o_fresh (rcDep _ (KC + 1000) (KV + 1000) svC sv1 (vs ++ [(1, (i : Int), 0)]) i 1 (by (simp (disch := omega) only [go_sem, mV, if_neg, if_pos, List.map_append, List.map_cons, List.map_nil] <;> repeat' first | rfl | refine ⟨?_, ?_⟩)) (by first | omega | (simp; omega)) (by omega)) ?_
                  intro sv2
                  (focus (refine wkad (w_a hA2 (w_a hA3 (w_a e4 (w_a m4 (w_a e8 (w_a m8 (w_a e9 (w_a m9 (w_a e10 (w_a m10 (w_a e11 (w_a e24 (w_a e25 (w_a e26 (w_a m37 (w_a mV (w_a mC (w_a hll (w_a hlp (w_a @lents_lt (w_a @lents_beq (w_a hl1 w_t)))))))))))))))))))))) w_t w_t ?_; (repeat' first | exact w_t | apply w_l); all_goals intros))
                  simp (disch := omega) only [go_sem, hl1, e8, e9]
                  refine backS (Sub.tup2 (Sub.frame _ _ _ _ _ _) (Sub.refl _)) ⟨sv2, rfl, rfl⟩ ?_
                  simp only [List.append_assoc, List.cons_append, List.nil_append]
                  (repeat (refine Agr.own ?_ (by omega)))
                  refine Agr.re (e1 := .row sv1 107 3 ((vs ++ [(1, (i : Int), 0)]).map Vt.av) 0) ?_ rfl rfl
                  (repeat (refine Agr.own ?_ (by omega)))
                  refine Agr.put ?_ rfl rfl
                  (repeat' (first | exact hAg | (refine Agr.own ?_ (by omega))))
                · have en : FS.nxt ⟨cs, vs, fr⟩ i ⟨k0, nm, ar, ⟨rs, rl, rd⟩⟩ = ([(2, (i : Int), 0), (2, (i : Int), 1)], (varM vs.length, varM (vs.length + 1))) := by
                    unfold FS.nxt
                    simp only [if_neg k1, if_neg k2, if_neg k3, if_neg k4, if_neg k5, if_neg k6]
                  rw [en]
                  have cD := rcDep m (KC + 1000) (KV + 1000) svC svV vs i 0 mV (by omega) (by omega)
                  (focus (refine wkad (w_a hA2 (w_a hA3 (w_a e4 (w_a m4 (w_a e8 (w_a m8 (w_a e9 (w_a m9 (w_a e10 (w_a m10 (w_a e11 (w_a e24 (w_a e25 (w_a e26 (w_a m37 (w_a mV (w_a mC (w_a hll (w_a hlp (w_a @lents_lt (w_a @lents_beq w_t))))))))))))))))))))) w_t w_t ?_; (repeat' first | exact w_t | apply w_l); all_goals intros))
                  refine o_fresh cD ?_
                  intro sv1
                  (focus (refine wkad (w_a hA2 (w_a hA3 (w_a e4 (w_a m4 (w_a e8 (w_a m8 (w_a e9 (w_a m9 (w_a e10 (w_a m10 (w_a e11 (w_a e24 (w_a e25 (w_a e26 (w_a m37 (w_a mV (w_a mC (w_a hll (w_a hlp (w_a @lents_lt (w_a @lents_beq w_t))))))))))))))))))))) w_t w_t ?_; (repeat' first | exact w_t | apply w_l); all_goals intros))
                  simp (disch := omega) only [go_sem, e8, e9]
                  refine backS (Sub.tup2 (Sub.frame _ _ _ _ _ _) (Sub.refl _)) ⟨sv1, rfl, rfl⟩ ?_
                  (repeat (refine Agr.own ?_ (by omega)))
                  refine Agr.put ?_ rfl rfl
                  (repeat' (first | exact hAg | (refine Agr.own ?_ (by omega))))
  · refine ⟨Nat.zero_le _, by exact gC, by exact gC, by exact gC, by exact gC, by exact gC, by exact gC, by exact gC, by exact gC, by exact gC, by exact gC, by exact gC, by exact gW hll, by exact gC, ⟨_, by exact gC, by (simp (disch := omega) only [go_sem, List.take_zero, List.map_nil] <;> repeat' first | rfl | refine ⟨?_, ?_⟩)⟩, ?_⟩
    (repeat' (first | exact Agr.start _ | (refine Agr.own ?_ (by omega))))
end Go.Proofs.YteiopjkamgmfpaaGreat
end

section
namespace Go.Proofs.YteiopjkamgmfpaaGreat
open Go Go.RowKit Go.Pg Go.Pol
set_option linter.unusedSimpArgs false
set_option linter.unusedVariables false
set_option maxRecDepth 20000
attribute [local go_sem] Tryz.underlying3 Tryz.underlying4 Tryz.underlying129 Tryz.underlying9 Tryz.underlying26 Tryz.underlying35 Tryz.underlying53 Tryz.underlying51 Tryz.underlying49 Tryz.underlying55 Tryz.underlying22 Tryz.underlying25 Tryz.underlying107 Tryz.underlying32 Tryz.underlying69 Tryz.underlying31 Tryz.underlying34 Tryz.underlying120 Tryz.underlying121 Tryz.underlying42 Tryz.underlying113 Tryz.underlying118 Tryz.underlying160 sz3 by3 z3 szB zB szErr zErr szStr byStr zStr szRat zRat szInt zInt szNat zNat szStep byStep zStep szFig zFig szSlI zSlI szSlS zSlS szVar byVar zVar szSlV zSlV szCoord byCoord zCoord szSlC zSlC szFrame zFrame szCBld byCBld zCBld szCVec byCVec zCVec szPoly byPoly zPoly szTerm zTerm szPtrB zPtrB szFnC zFnC Tryz.underlying103 szHVec byHVec zHVec Tryz.underlying140 szSlP zSlP Tryz.underlying57 Tryz.underlying23 szL byL zL szFact byFact zFact szSlF zSlF
attribute [-bool_to_prop] Bool.and_eq_decide Bool.or_eq_decide Bool.decide_beq_decide decide_eq_decide
/-! ### the first variable of a step -/
def fstN (vs : List Vt) (i : Int) : Nat → Option Nat
  | 0 => none
  | y + 1 => match fstN vs i y with
    | some v => some v
    | none => if (vs.getD y (0, 0, 0)).2.1 = i then some y else none
theorem fstN_none {vs : List Vt} {i : Int} : ∀ {n : Nat}, (∀ j, j < n → (vs.getD j (0, 0, 0)).2.1 ≠ i) → fstN vs i n = none
  | 0, _ => rfl
  | n + 1, h => by
    unfold fstN
    rw [fstN_none fun j hj => h j (by omega)]
    simp only
    rw [if_neg (h n (by omega))]
theorem fstN_at {vs : List Vt} {i : Int} {y : Nat} (h : ∀ j, j < y → (vs.getD j (0, 0, 0)).2.1 ≠ i) (hy : (vs.getD y (0, 0, 0)).2.1 = i) : ∀ {n : Nat}, y < n → fstN vs i n = some y
  | 0, hn => by omega
  | n + 1, hn => by
    unfold fstN
    by_cases e : y = n
    · subst e
      rw [fstN_none h]
      simp only
      rw [if_pos hy]
    · rw [fstN_at h hy (n := n) (by omega)]
def parM (vs : List Vt) (i : Int) : Po := match fstN vs i vs.length with
  | some v => varM v
  | none => []
theorem parM_pb (vs : List Vt) (i : Int) : PB (parM vs i) 1 1 1 := by
  unfold parM
  split
  · exact var_pb _
  · exact .nil
end Go.Proofs.YteiopjkamgmfpaaGreat
end

section
namespace Go.Proofs.YteiopjkamgmfpaaGreat
open Go Go.RowKit Go.Pg Go.Pol
set_option linter.unusedSimpArgs false
set_option linter.unusedVariables false
set_option maxRecDepth 20000
attribute [local go_sem] Tryz.underlying3 Tryz.underlying4 Tryz.underlying129 Tryz.underlying9 Tryz.underlying26 Tryz.underlying35 Tryz.underlying53 Tryz.underlying51 Tryz.underlying49 Tryz.underlying55 Tryz.underlying22 Tryz.underlying57 Tryz.underlying23 Tryz.underlying25 sz3 by3 z3 szB zB szL byL zL szErr zErr szStr byStr zStr szRat zRat szInt zInt szNat zNat szStep byStep zStep szFact byFact zFact szFig zFig szSlI zSlI szSlS zSlS szSlF zSlF
attribute [-bool_to_prop] Bool.and_eq_decide Bool.or_eq_decide Bool.decide_beq_decide decide_eq_decide
/-! ### the sizes that the laws of figures take -/
def fitS (s : RS) : Bool := !(decide (2 < s.r.l.length) || decide (2 < s.r.d.length) || decide (8 < s.ar.length))
def fitsB (ss : List RS) (gs : List RG) : Bool := ss.all fitS && (decide (nfN ss ss.length ≤ 12) && (decide (ss.length ≤ 42) && decide (gs.length ≤ 10)))
theorem all_at {α : Type} {p : α → Bool} {l : List α} {i : Nat} (h : i < l.length) (hp : p l[i] = false) : l.all p = false := by
  rw [Bool.eq_false_iff]
  intro ha
  rw [List.all_eq_true] at ha
  rw [ha _ (List.getElem_mem h)] at hp
  cases hp
theorem all_of {α : Type} {p : α → Bool} {l : List α} (h : ∀ j (hj : j < l.length), p l[j] = true) : l.all p = true := by
  rw [List.all_eq_true]
  intro x hx
  obtain ⟨j, hj, rfl⟩ := List.mem_iff_getElem.1 hx
  exact h j hj
theorem nfN_le (ss : List RS) : ∀ i, nfN ss i ≤ i
  | 0 => Nat.le_refl _
  | i + 1 => by
    have := nfN_le ss i
    unfold nfN
    split <;> omega
end Go.Proofs.YteiopjkamgmfpaaGreat
end

section
namespace Go.Proofs.YteiopjkamgmfpaaGreat
open Go Go.RowKit Go.Pg Go.Pol
set_option linter.unusedSimpArgs false
set_option linter.unusedVariables false
set_option maxRecDepth 20000
attribute [local go_sem] Tryz.underlying3 Tryz.underlying4 Tryz.underlying129 Tryz.underlying9 Tryz.underlying26 Tryz.underlying35 Tryz.underlying53 Tryz.underlying51 Tryz.underlying49 Tryz.underlying55 Tryz.underlying22 Tryz.underlying25 Tryz.underlying107 Tryz.underlying32 Tryz.underlying69 Tryz.underlying31 Tryz.underlying34 Tryz.underlying120 Tryz.underlying121 Tryz.underlying42 Tryz.underlying113 Tryz.underlying118 Tryz.underlying160 sz3 by3 z3 szB zB szErr zErr szStr byStr zStr szRat zRat szInt zInt szNat zNat szStep byStep zStep szFig zFig szSlI zSlI szSlS zSlS szVar byVar zVar szSlV zSlV szCoord byCoord zCoord szSlC zSlC szFrame zFrame szCBld byCBld zCBld szCVec byCVec zCVec szPoly byPoly zPoly szTerm zTerm szPtrB zPtrB szFnC zFnC Tryz.underlying57 Tryz.underlying23 szL byL zL szFact byFact zFact szSlF zSlF
attribute [-bool_to_prop] Bool.and_eq_decide Bool.or_eq_decide Bool.decide_beq_decide decide_eq_decide
theorem figE_ok {ss : List RS} {gs : List RG} (h : figE ss gs = 0) : ss.length ≤ 40 ∧ ∀ i, i < ss.length → errS ss i = 0 := by
  unfold figE at h
  split at h
  · omega
  · rename_i h1
    split at h
    · rename_i h2; exact absurd h h2
    · rename_i h2
      refine ⟨by omega, fstE_all ?_⟩
      rcases Decidable.em (fstE (errS ss) ss.length = 0) with h3 | h3
      · exact h3
      · exact absurd h3 h2
end Go.Proofs.YteiopjkamgmfpaaGreat
end

section
namespace Go.Proofs.YteiopjkamgmfpaaGreat
open Go Go.RowKit Go.Pg Go.Pol
set_option linter.unusedSimpArgs false
set_option linter.unusedVariables false
set_option maxRecDepth 20000
attribute [-bool_to_prop] Bool.and_eq_decide Bool.or_eq_decide Bool.decide_beq_decide decide_eq_decide
section
variable {N n : Nat} {cs : List AV}
theorem agInt : aggTy Tryz.prog 3 = false := by kernel_rfl
theorem csInt : Tryz.prog.cellsOf 3 = 1 := by kernel_rfl
theorem shIvs (h : Shape Tryz.prog N n 26 cs) : ∃ l : List Int, cs = [ivs l] ∧ l.length ≤ N := by
  obtain ⟨bs, rfl, hl, _⟩ := shape_sliceOf (g := fun k : Int => [iv k]) (Q := fun _ => True) Tryz.underlying26 h fun m x hx => by
    obtain ⟨i, rfl, _⟩ := shape_int Tryz.underlying3 hx
    exact ⟨i, rfl, trivial⟩
  refine ⟨bs, ?_, hl⟩
  rw [csInt]
  have : (bs.map fun b : Int => wrapA Tryz.prog 3 [iv b]) = bs.map iv := List.map_congr_left fun b _ => wrapA_one agInt _
  rw [this]
theorem shStep (h : Shape Tryz.prog N n 55 cs) : ∃ s : RS, cs = [iv s.k, strA s.nm, ivs s.ar, .v (.bool s.r.s), lim s.r.l, lim s.r.d] ∧ s.r.lm N ∧ s.nm.size ≤ N ∧ s.ar.length ≤ N := by
  obtain ⟨m, rfl, hs⟩ := shape_struct Tryz.underlying55 (by kernel_rfl) h
  obtain ⟨x, y, rfl, h1, hs⟩ := hs.inv
  obtain ⟨x2, y, rfl, h2, hs⟩ := hs.inv
  obtain ⟨x3, y, rfl, h3, hs⟩ := hs.inv
  obtain ⟨x4, y, rfl, h4, hs⟩ := hs.inv
  obtain rfl := hs.inv0
  obtain ⟨k, rfl, _⟩ := shape_int Tryz.underlying3 h1
  obtain ⟨nm, rfl, hn⟩ := shape_string Tryz.underlying9 h2
  obtain ⟨ar, rfl, ha⟩ := shIvs h3
  obtain ⟨r, rfl, hr⟩ := shRat h4
  exact ⟨⟨k, nm, ar, r⟩, rfl, hr, hn, ha⟩
theorem shFact (h : Shape Tryz.prog N n 57 cs) : ∃ g : RG, cs = [iv g.k, ivs g.ar, .v (.bool g.r.s), lim g.r.l, lim g.r.d] ∧ g.r.lm N ∧ g.ar.length ≤ N := by
  obtain ⟨m, rfl, hs⟩ := shape_struct Tryz.underlying57 (by kernel_rfl) h
  obtain ⟨x, y, rfl, h1, hs⟩ := hs.inv
  obtain ⟨x3, y, rfl, h3, hs⟩ := hs.inv
  obtain ⟨x4, y, rfl, h4, hs⟩ := hs.inv
  obtain rfl := hs.inv0
  obtain ⟨k, rfl, _⟩ := shape_int Tryz.underlying3 h1
  obtain ⟨ar, rfl, ha⟩ := shIvs h3
  obtain ⟨r, rfl, hr⟩ := shRat h4
  exact ⟨⟨k, ar, r⟩, rfl, hr, ha⟩
theorem shSteps (h : Shape Tryz.prog N n 22 cs) : ∃ l : List RS, cs = [.sl 6 (l.map RS.av)] ∧ l.length ≤ N ∧ ∀ s ∈ l, s.r.lm N ∧ s.nm.size ≤ N ∧ s.ar.length ≤ N := by
  obtain ⟨bs, rfl, hl, hq⟩ := shape_sliceOf (g := fun s : RS => [iv s.k, strA s.nm, ivs s.ar, .v (.bool s.r.s), lim s.r.l, lim s.r.d]) (Q := fun s => s.r.lm N ∧ s.nm.size ≤ N ∧ s.ar.length ≤ N) Tryz.underlying22 h fun m x hx => shStep hx
  refine ⟨bs, ?_, hl, hq⟩
  rw [show Tryz.prog.cellsOf 55 = 6 from by kernel_rfl]
  have : (bs.map fun s : RS => wrapA Tryz.prog 55 [iv s.k, strA s.nm, ivs s.ar, .v (.bool s.r.s), lim s.r.l, lim s.r.d]) = bs.map RS.av := List.map_congr_left fun b _ => wrapA_agg Tryz.underlying55 _
  rw [this]
theorem shFacts (h : Shape Tryz.prog N n 23 cs) : ∃ l : List RG, cs = [.sl 5 (l.map RG.av)] ∧ l.length ≤ N ∧ ∀ s ∈ l, s.r.lm N ∧ s.ar.length ≤ N := by
  obtain ⟨bs, rfl, hl, hq⟩ := shape_sliceOf (g := fun s : RG => [iv s.k, ivs s.ar, .v (.bool s.r.s), lim s.r.l, lim s.r.d]) (Q := fun s => s.r.lm N ∧ s.ar.length ≤ N) Tryz.underlying23 h fun m x hx => shFact hx
  refine ⟨bs, ?_, hl, hq⟩
  rw [show Tryz.prog.cellsOf 57 = 5 from by kernel_rfl]
  have : (bs.map fun s : RG => wrapA Tryz.prog 57 [iv s.k, ivs s.ar, .v (.bool s.r.s), lim s.r.l, lim s.r.d]) = bs.map RG.av := List.map_congr_left fun b _ => wrapA_agg Tryz.underlying57 _
  rw [this]
theorem shFigure (h : Shape Tryz.prog N n 25 cs) : ∃ (ss : List RS) (gs : List RG), wrapA Tryz.prog 25 cs = figA ss gs ∧ ss.length ≤ N ∧ gs.length ≤ N ∧ (∀ s ∈ ss, s.r.lm N ∧ s.nm.size ≤ N ∧ s.ar.length ≤ N) ∧ ∀ s ∈ gs, s.r.lm N ∧ s.ar.length ≤ N := by
  obtain ⟨m, rfl, hs⟩ := shape_struct Tryz.underlying25 (by kernel_rfl) h
  obtain ⟨x, y, rfl, h1, hs⟩ := hs.inv
  obtain ⟨x3, y, rfl, h3, hs⟩ := hs.inv
  obtain rfl := hs.inv0
  obtain ⟨ss, rfl, hl, hq⟩ := shSteps h1
  obtain ⟨gs, rfl, kl, kq⟩ := shFacts h3
  exact ⟨ss, gs, wrapA_agg Tryz.underlying25 _, hl, kl, hq, kq⟩
end
theorem lm_mono {r : RQ} {a b : Nat} (h : r.lm a) (hab : a ≤ b) : r.lm b := ⟨h.1, h.2.1, Nat.le_trans h.2.2.1 hab, Nat.le_trans h.2.2.2 hab⟩
end Go.Proofs.YteiopjkamgmfpaaGreat
end

section
namespace Go.Proofs.YteiopjkamgmfpaaGreat
open Go Go.RowKit Go.Pg Go.Pol
set_option linter.unusedSimpArgs false
set_option linter.unusedVariables false
set_option maxRecDepth 20000
attribute [-bool_to_prop] Bool.and_eq_decide Bool.or_eq_decide Bool.decide_beq_decide decide_eq_decide
set_option linter.unusedSimpArgs false
set_option linter.unusedVariables false
/-! ### figures with few terms -/
theorem nodup_len {α : Type} [DecidableEq α] : ∀ (l m : List α), l.Nodup → (∀ x ∈ l, x ∈ m) → l.length ≤ m.length
  | [], _, _, _ => Nat.zero_le _
  | x :: l, m, h, hs => by
    obtain ⟨h1, h2⟩ := List.nodup_cons.1 h
    have hx := hs x (.head _)
    have := nodup_len l (m.erase x) h2 fun y hy => (List.mem_erase_of_ne (show y ≠ x from fun e => h1 (by rw [← e]; exact hy))).2 (hs y (.tail _ hy))
    rw [List.length_erase_of_mem hx] at this
    have hp := List.length_pos_of_mem hx
    rw [List.length_cons]; omega
theorem srt_nodup {p : Po} (h : SrtM p) : (p.map (·.2)).Nodup := by
  rw [List.Nodup, List.pairwise_map]
  refine List.Pairwise.imp ?_ h.2
  intro s t hst e
  rw [e] at hst
  exact ordM.irr _ hst
theorem len_of {r a b : Po} (hr : SrtM r) (h : ∀ t ∈ r, t.2 ∈ a.map (·.2) ∨ t.2 ∈ b.map (·.2)) : r.length ≤ a.length + b.length := by
  have := nodup_len (r.map (·.2)) (a.map (·.2) ++ b.map (·.2)) (srt_nodup hr) fun x hx => by
    obtain ⟨t, ht, rfl⟩ := List.mem_map.1 hx
    exact List.mem_append.2 (h t ht)
  simpa using this
theorem mem_scl {q : Rat} {p : Po} {t : Tm} (h : t ∈ sclM q p) : t.2 ∈ p.map (·.2) := by
  unfold sclM at h
  split at h
  · cases h
  · obtain ⟨s, hs, rfl⟩ := List.mem_map.1 h
    exact List.mem_map.2 ⟨s, hs, rfl⟩
theorem mem_add {p q : Po} {t : Tm} (h : t ∈ addM p q) : t.2 ∈ p.map (·.2) ∨ t.2 ∈ q.map (·.2) := by
  obtain ⟨s, hs, e⟩ := mem_addP h
  rcases List.mem_append.1 hs with h1 | h1
  · exact .inl (List.mem_map.2 ⟨s, h1, e.symm⟩)
  · exact .inr (List.mem_map.2 ⟨s, h1, e.symm⟩)
theorem mem_neg {p : Po} {x : List Int} (h : x ∈ (scaleP (-1) p).map (·.2)) : x ∈ p.map (·.2) := by
  unfold scaleP at h
  rw [List.map_map] at h
  exact h
theorem len_div {a b : Po} (q : Rat) (ha : SrtM a) (hb : SrtM b) : (addM a (sclM q (subM b a))).length ≤ a.length + b.length :=
  len_of (addP_srt ordM ha (scl_srt (sub_srt ordM hb ha))) fun t ht => by
    rcases mem_add ht with h | h
    · exact .inl h
    · obtain ⟨s, hs, e⟩ := List.mem_map.1 h
      have h1 := mem_scl hs
      obtain ⟨u, hu, e2⟩ := List.mem_map.1 h1
      rcases mem_add hu with h2 | h2
      · exact .inr (by rw [← e, ← e2]; exact h2)
      · exact .inl (by rw [← e, ← e2]; exact mem_neg h2)
/-- Coordinates are in order, whatever the steps. -/
theorem at_srt {f : FS} (h : ∀ c ∈ f.cs, SrtM c.1 ∧ SrtM c.2) (s : RS) (k : Nat) : SrtM (f.at s k).1 ∧ SrtM (f.at s k).2 := by
  unfold FS.at
  by_cases hk : (gI s.ar k).toNat < f.cs.length
  · exact h _ (getD_mem hk)
  · rw [List.getD_eq_getElem?_getD, List.getElem?_eq_none (by omega)]
    exact ⟨.nil, .nil⟩
theorem nxt_srt {f : FS} (h : ∀ c ∈ f.cs, SrtM c.1 ∧ SrtM c.2) (i : Nat) (s : RS) : SrtM (f.nxt i s).2.1 ∧ SrtM (f.nxt i s).2.2 := by
  obtain ⟨a1, a2⟩ := at_srt h s 0
  obtain ⟨b1, b2⟩ := at_srt h s 1
  obtain ⟨c1, c2⟩ := at_srt h s 2
  have hv := varM_srt
  unfold FS.nxt
  simp only
  split
  · split
    · exact ⟨.nil, .nil⟩
    · split
      · exact ⟨hv _, .nil⟩
      · exact ⟨hv _, hv _⟩
  · split
    · exact ⟨addP_srt ordM a1 (scl_srt (sub_srt ordM b1 a1)), addP_srt ordM a2 (scl_srt (sub_srt ordM b2 a2))⟩
    · split
      · exact ⟨addP_srt ordM a1 (sub_srt ordM c1 b1), addP_srt ordM a2 (sub_srt ordM c2 b2)⟩
      · split
        · exact ⟨addP_srt ordM a1 (sub_srt ordM b2 c2), addP_srt ordM a2 (sub_srt ordM c1 b1)⟩
        · split
          · exact ⟨addP_srt ordM a1 (mulR_srt ordM mulK (sub_srt ordM b1 a1) (hv _)), addP_srt ordM a2 (mulR_srt ordM mulK (sub_srt ordM b2 a2) (hv _))⟩
          · split
            · exact ⟨hv _, hv _⟩
            · exact ⟨hv _, hv _⟩
theorem frN_srt (ss : List RS) : ∀ i, ∀ c ∈ (frN ss i).cs, SrtM c.1 ∧ SrtM c.2
  | 0, c, h => by simp [frN] at h
  | i + 1, c, h => by
    rcases List.mem_append.1 (show c ∈ (frN ss i).cs ++ [_] from h) with h1 | h1
    · exact frN_srt ss i c h1
    · rw [List.mem_singleton] at h1
      subst h1
      exact nxt_srt (frN_srt ss i) i _
/-! the bounds of the numbers of terms -/
def wOf (w : List Int) (s : RS) : Int :=
  if s.k = 2 then gI w (gI s.ar 0).toNat + gI w (gI s.ar 1).toNat
  else if s.k = 3 ∨ s.k = 4 then gI w (gI s.ar 0).toNat + gI w (gI s.ar 1).toNat + gI w (gI s.ar 2).toNat
  else if s.k = 5 then 2 * gI w (gI s.ar 0).toNat + gI w (gI s.ar 1).toNat
  else 1
def wts (ss : List RS) : Nat → List Int
  | 0 => []
  | i + 1 => wts ss i ++ [wOf (wts ss i) (ss.getD i RS.zero)]
theorem wts_len (ss : List RS) : ∀ i, (wts ss i).length = i
  | 0 => rfl
  | i + 1 => by show (wts ss i ++ [_]).length = i + 1; rw [List.length_append, wts_len ss i]; rfl
theorem gI_app (l : List Int) (x : Int) (n : Nat) : gI (l ++ [x]) n = if n < l.length then gI l n else if n = l.length then x else 0 := by
  split
  · rename_i h
    rw [gI_at (by simp; omega), gI_at h, List.getElem_append_left h]
  · split
    · rename_i h1 h2
      subst h2
      rw [gI_at (by simp)]
      simp
    · rw [gI_out (by simp; omega)]
theorem wts_bd (ss : List RS) : ∀ i n, 0 ≤ gI (wts ss i) n ∧ gI (wts ss i) n ≤ ((3 ^ i : Nat) : Int)
  | 0, n => by rw [gI_out (Nat.zero_le _)]; omega
  | i + 1, n => by
    show 0 ≤ gI (wts ss i ++ [_]) n ∧ gI (wts ss i ++ [_]) n ≤ _
    have hp : (3 ^ (i + 1) : Nat) = 3 * 3 ^ i := by rw [Nat.pow_succ, Nat.mul_comm]
    have hq : 1 ≤ 3 ^ i := Nat.one_le_pow _ _ (by omega)
    rw [gI_app, hp]
    have h0 := wts_bd ss i n
    have h1 := wts_bd ss i (gI (ss.getD i RS.zero).ar 0).toNat
    have h2 := wts_bd ss i (gI (ss.getD i RS.zero).ar 1).toNat
    have h3 := wts_bd ss i (gI (ss.getD i RS.zero).ar 2).toNat
    unfold wOf
    generalize (3 ^ i : Nat) = z at *
    split
    · omega
    · split
      · split
        · omega
        · split
          · omega
          · split <;> omega
      · omega
theorem at_w {f : FS} {w : List Int} (h : ∀ n, ((f.cs.getD n ([], [])).1.length : Int) ≤ gI w n ∧ ((f.cs.getD n ([], [])).2.length : Int) ≤ gI w n) (s : RS) (k : Nat) : ((f.at s k).1.length : Int) ≤ gI w (gI s.ar k).toNat ∧ ((f.at s k).2.length : Int) ≤ gI w (gI s.ar k).toNat := h _
theorem nxt_w {f : FS} {w : List Int} (h0 : ∀ c ∈ f.cs, SrtM c.1 ∧ SrtM c.2) (h : ∀ n, ((f.cs.getD n ([], [])).1.length : Int) ≤ gI w n ∧ ((f.cs.getD n ([], [])).2.length : Int) ≤ gI w n) (i : Nat) (s : RS) :
    ((f.nxt i s).2.1.length : Int) ≤ wOf w s ∧ ((f.nxt i s).2.2.length : Int) ≤ wOf w s := by
  obtain ⟨a1, a2⟩ := at_w h s 0
  obtain ⟨b1, b2⟩ := at_w h s 1
  obtain ⟨c1, c2⟩ := at_w h s 2
  obtain ⟨r1, r2⟩ := at_srt h0 s 0
  obtain ⟨t1, t2⟩ := at_srt h0 s 1
  have hv := fun v => (var_pb v).l
  have d1 := len_div s.r.q r1 t1
  have d2 := len_div s.r.q r2 t2
  unfold FS.nxt wOf
  simp only
  generalize f.at s 0 = a at *
  generalize f.at s 1 = b at *
  generalize f.at s 2 = c at *
  have hw : ∀ p q r : Po, (addM p (subM q r)).length ≤ p.length + (q.length + r.length) := fun (p q r : Po) => Nat.le_trans (addP_len (lt := ltM) p (subM q r)) (Nat.add_le_add_left (sub_len q r) _)
  have hw' : ∀ (p q : Po) (v : Nat), (addM p (mlM (subM q p) (varM v))).length ≤ p.length + (q.length + p.length) := fun (p q : Po) (v : Nat) => Nat.le_trans (addP_len (lt := ltM) p (mlM (subM q p) (varM v))) (Nat.add_le_add_left (Nat.le_trans (mulV_len (subM q p) v) (sub_len q p)) _)
  have two : ∀ {x y : Po} {v : Int}, (x.length : Int) ≤ v → (y.length : Int) ≤ v → (x.length : Int) ≤ v ∧ (y.length : Int) ≤ v := fun h k => ⟨h, k⟩
  have v1 := hv f.vs.length
  have v2 := hv (f.vs.length + 1)
  have v3 := hv (f.vs.length + 2)
  have n0 : ((([] : Po)).length : Int) ≤ 1 := by simp
  by_cases k1 : s.k = 1
  · rw [if_pos k1, if_neg (show ¬ s.k = 2 by omega), if_neg (show ¬ (s.k = 3 ∨ s.k = 4) by omega), if_neg (show ¬ s.k = 5 by omega)]
    split
    · exact two n0 n0
    · split
      · exact two (x := varM f.vs.length) (by omega) n0
      · exact two (x := varM f.vs.length) (y := varM (f.vs.length + 1)) (by omega) (by omega)
  · rw [if_neg k1]
    by_cases k2 : s.k = 2
    · rw [if_pos k2, if_pos k2]
      exact two (x := addM a.1 (sclM s.r.q (subM b.1 a.1))) (y := addM a.2 (sclM s.r.q (subM b.2 a.2))) (by omega) (by omega)
    · rw [if_neg k2, if_neg k2]
      by_cases k3 : s.k = 3
      · rw [if_pos k3, if_pos (Or.inl k3)]
        have h1 := hw a.1 c.1 b.1
        have h2 := hw a.2 c.2 b.2
        exact two (x := addM a.1 (subM c.1 b.1)) (y := addM a.2 (subM c.2 b.2)) (by omega) (by omega)
      · rw [if_neg k3]
        by_cases k4 : s.k = 4
        · rw [if_pos k4, if_pos (Or.inr k4)]
          have h1 := hw a.1 b.2 c.2
          have h2 := hw a.2 c.1 b.1
          exact two (x := addM a.1 (subM b.2 c.2)) (y := addM a.2 (subM c.1 b.1)) (by omega) (by omega)
        · rw [if_neg k4, if_neg (show ¬ (s.k = 3 ∨ s.k = 4) by omega)]
          by_cases k5 : s.k = 5
          · rw [if_pos k5, if_pos k5]
            have h1 := hw' a.1 b.1 f.vs.length
            have h2 := hw' a.2 b.2 f.vs.length
            exact two (x := addM a.1 (mlM (subM b.1 a.1) (varM f.vs.length))) (y := addM a.2 (mlM (subM b.2 a.2) (varM f.vs.length))) (by omega) (by omega)
          · rw [if_neg k5, if_neg k5]
            split
            · exact two (x := varM (f.vs.length + 1)) (y := varM (f.vs.length + 2)) (by omega) (by omega)
            · exact two (x := varM f.vs.length) (y := varM (f.vs.length + 1)) (by omega) (by omega)
theorem frN_w (ss : List RS) : ∀ i n, (((frN ss i).cs.getD n ([], [])).1.length : Int) ≤ gI (wts ss i) n ∧ (((frN ss i).cs.getD n ([], [])).2.length : Int) ≤ gI (wts ss i) n
  | 0, n => by simp [frN, wts, gI]
  | i + 1, n => by
    have ih := frN_w ss i
    show ((((frN ss i).cs ++ [_]).getD n ([], [])).1.length : Int) ≤ gI (wts ss i ++ [_]) n ∧ ((((frN ss i).cs ++ [_]).getD n ([], [])).2.length : Int) ≤ gI (wts ss i ++ [_]) n
    rw [gI_app, wts_len]
    have hl := frN_len ss i
    by_cases h1 : n < i
    · rw [if_pos h1, List.getD_eq_getElem?_getD, List.getElem?_append_left (by omega), ← List.getD_eq_getElem?_getD]
      exact ih n
    · rw [if_neg h1]
      by_cases h2 : n = i
      · rw [if_pos h2, List.getD_eq_getElem?_getD, List.getElem?_append_right (by omega), hl, h2, Nat.sub_self]
        exact nxt_w (frN_srt ss i) ih i _
      · rw [if_neg h2, List.getD_eq_getElem?_getD, List.getElem?_eq_none (by simp; omega)]
        simp
theorem vs_le (ss : List RS) : ∀ i, (frN ss i).vs.length ≤ 3 * i
  | 0 => by simp [frN]
  | i + 1 => by
    show ((frN ss i).vs ++ ((frN ss i).nxt i (ss.getD i RS.zero)).1).length ≤ _
    rw [List.length_append]
    have := vs_le ss i
    have := nxt_vars (frN ss i) i (ss.getD i RS.zero)
    omega
def thinB (ss : List RS) (gs : List RG) : Bool :=
  (wts ss ss.length).all (fun w => decide (w ≤ 8)) && gs.all fun g => !(decide (g.k = 6) || decide (g.k = 7)) || g.ar.all fun a => decide (gI (wts ss ss.length) a.toNat ≤ 3)
def rat2 (r : RQ) : Bool := decide (r.l.length ≤ 2) && decide (r.d.length ≤ 2)
def fewB (ss : List RS) (gs : List RG) : Bool :=
  decide (ss.length ≤ 8) && (decide (gs.length ≤ 3) && (decide (figE ss gs = 0) && (thinB ss gs && (ss.all (fun s => rat2 s.r) && gs.all fun g => rat2 g.r))))
end Go.Proofs.YteiopjkamgmfpaaGreat
end

section
namespace Go.Proofs.YteiopjkamgmfpaaGreat
open Go Go.RowKit Go.Pg Go.Pol
set_option linter.unusedSimpArgs false
set_option linter.unusedVariables false
set_option maxRecDepth 20000
attribute [-bool_to_prop] Bool.and_eq_decide Bool.or_eq_decide Bool.decide_beq_decide decide_eq_decide
set_option linter.unusedSimpArgs false
set_option linter.unusedVariables false
/-! ### degrees in some variables -/
/-- The sum of a monomial's exponents at the first n variables that are in S. -/
def dgS (S : Nat → Bool) (m : List Int) : Nat → Int
  | 0 => 0
  | n + 1 => dgS S m n + if S n then gI m n else 0
theorem dgS_mul (S : Nat → Bool) (a b : List Int) : ∀ n, dgS S (mulM a b) n = dgS S a n + dgS S b n
  | 0 => rfl
  | n + 1 => by
    show dgS S (mulM a b) n + _ = (dgS S a n + _) + (dgS S b n + _)
    rw [dgS_mul S a b n, show gI (mulM a b) n = gI a n + gI b n from gI_zip _ rfl a b n]
    split <;> omega
/-- Polynomials in the first V variables, of a degree of at most d in those of S. -/
def DP (S : Nat → Bool) (V : Nat) (d : Int) (p : Po) : Prop := ∀ t ∈ p, t.2.length ≤ V ∧ dgS S t.2 V ≤ d
theorem DP.mono {S : Nat → Bool} {V : Nat} {d e : Int} {p : Po} (h : DP S V d p) (hd : d ≤ e) : DP S V e p := fun t ht => ⟨(h t ht).1, by have := (h t ht).2; omega⟩
theorem DP.add {S : Nat → Bool} {V : Nat} {d : Int} {p q : Po} (h : DP S V d p) (g : DP S V d q) : DP S V d (addM p q) := fun t ht => by
  rcases mem_add ht with h1 | h1
  · obtain ⟨u, hu, e⟩ := List.mem_map.1 h1
    rw [← e]; exact h u hu
  · obtain ⟨u, hu, e⟩ := List.mem_map.1 h1
    rw [← e]; exact g u hu
theorem DP.neg {S : Nat → Bool} {V : Nat} {d : Int} {p : Po} (h : DP S V d p) : DP S V d (scaleP (-1) p) := fun t ht => by
  obtain ⟨u, hu, rfl⟩ := List.mem_map.1 ht
  exact h u hu
theorem DP.sub {S : Nat → Bool} {V : Nat} {d : Int} {p q : Po} (h : DP S V d p) (g : DP S V d q) : DP S V d (subM p q) := h.add g.neg
theorem DP.mul {S : Nat → Bool} {V : Nat} {d e : Int} {p q : Po} (h : DP S V d p) (g : DP S V e q) : DP S V (d + e) (mlM p q) := by
  have key : ∀ (q out : Po), DP S V e q → DP S V (d + e) out → DP S V (d + e) (q.foldl (fun out t => addP ltM out (timesP mulM p t)) out) := by
    intro q
    induction q with
    | nil => exact fun out _ h2 => h2
    | cons t q ih =>
      intro out h1 h2
      rw [List.foldl_cons]
      refine ih _ (fun u hu => h1 u (.tail _ hu)) (h2.add fun u hu => ?_)
      obtain ⟨s, hs, rfl⟩ := List.mem_map.1 hu
      obtain ⟨a1, a2⟩ := h s hs
      obtain ⟨b1, b2⟩ := h1 t (.head _)
      exact ⟨by show (mulM s.2 t.2).length ≤ V; rw [mulM_len]; omega, by show dgS S (mulM s.2 t.2) V ≤ _; rw [dgS_mul]; omega⟩
  exact key q [] g fun t ht => by cases ht
/-! ### distributing -/
end Go.Proofs.YteiopjkamgmfpaaGreat
end

section
namespace Go.Proofs.YteiopjkamgmfpaaGreat
open Go Go.RowKit Go.Pg Go.Pol
set_option linter.unusedSimpArgs false
set_option linter.unusedVariables false
set_option maxRecDepth 20000
attribute [local go_sem] Tryz.underlying3 Tryz.underlying4 Tryz.underlying129 Tryz.underlying9 Tryz.underlying26 Tryz.underlying35 Tryz.underlying53 Tryz.underlying51 Tryz.underlying49 Tryz.underlying55 Tryz.underlying22 Tryz.underlying25 Tryz.underlying107 Tryz.underlying32 Tryz.underlying69 Tryz.underlying31 Tryz.underlying34 Tryz.underlying120 Tryz.underlying121 Tryz.underlying42 Tryz.underlying113 Tryz.underlying118 Tryz.underlying160 sz3 by3 z3 szB zB szErr zErr szStr byStr zStr szRat zRat szInt zInt szNat zNat szStep byStep zStep szFig zFig szSlI zSlI szSlS zSlS szVar byVar zVar szSlV zSlV szCoord byCoord zCoord szSlC zSlC szFrame zFrame szCBld byCBld zCBld szCVec byCVec zCVec szPoly byPoly zPoly szTerm zTerm szPtrB zPtrB szFnC zFnC Tryz.underlying103 szHVec byHVec zHVec Tryz.underlying140 szSlP zSlP Tryz.underlying57 Tryz.underlying23 szL byL zL szFact byFact zFact szSlF zSlF Tryz.underlying102 szA2P zA2P
attribute [-bool_to_prop] Bool.and_eq_decide Bool.or_eq_decide Bool.decide_beq_decide decide_eq_decide
/-! ### package hypotheses: the equations -/
theorem poConst1 : Pure Tryz.prog 55 [ratQ 1] (poA oneM) := by
  have z1 : Sz (1 : Rat) 1 := nat_sz1 1 (by omega)
  have z0 : Sz (0 : Rat) 1 := nat_sz1 0 (by omega)
  have o0 : Pure Tryz.prog 56 [iv 0] (ratQ 0) := ratOf 0 (by omega)
  have ad := ratAdd 1 0 z1 z0 (by omega) (by omega)
  rw [Rat.add_zero] at ad
  have sg : Pure Tryz.prog 92 [ratQ 1, .v (.slice none 0 0)] (poA oneM) := pure_vkA (poSingle 1 [] (by decide) z1 (by omega)) (.cons (.refl _) (.cons (.nil 1) .nil))
  generalize (0 : Rat) = q0 at *
  generalize hr : oneM = r at *
  generalize (1 : Rat) = q1 at *
  refine pure_intro (tok := 0) Tryz.func55 rfl Tryz.ntmps55 Tryz.results55 Tryz.call55 (by rfl) (by simp) ?_
  (focus (refine wkld w_t (w_a o0 (w_a ad (w_a sg w_t))) w_t (w_a (w_d 1 [(1, ratQ q0), (2, ratQ q1), (3, poA r)] [] []) w_t) ?_; (repeat' first | exact w_t | apply w_l); all_goals intros))
end Go.Proofs.YteiopjkamgmfpaaGreat
end

section
namespace Go.Proofs.YteiopjkamgmfpaaGreat
open Go Go.RowKit Go.Pg Go.Pol
set_option linter.unusedSimpArgs false
set_option linter.unusedVariables false
set_option maxRecDepth 20000
attribute [local go_sem] Tryz.underlying3 Tryz.underlying4 Tryz.underlying129 Tryz.underlying9 Tryz.underlying26 Tryz.underlying35 Tryz.underlying53 Tryz.underlying51 Tryz.underlying49 Tryz.underlying55 Tryz.underlying22 Tryz.underlying25 Tryz.underlying107 Tryz.underlying32 Tryz.underlying69 Tryz.underlying31 Tryz.underlying34 Tryz.underlying120 Tryz.underlying121 Tryz.underlying42 Tryz.underlying113 Tryz.underlying118 Tryz.underlying160 sz3 by3 z3 szB zB szErr zErr szStr byStr zStr szRat zRat szInt zInt szNat zNat szStep byStep zStep szFig zFig szSlI zSlI szSlS zSlS szVar byVar zVar szSlV zSlV szCoord byCoord zCoord szSlC zSlC szFrame zFrame szCBld byCBld zCBld szCVec byCVec zCVec szPoly byPoly zPoly szTerm zTerm szPtrB zPtrB szFnC zFnC Tryz.underlying103 szHVec byHVec zHVec Tryz.underlying140 szSlP zSlP Tryz.underlying57 Tryz.underlying23 szL byL zL szFact byFact zFact szSlF zSlF
attribute [-bool_to_prop] Bool.and_eq_decide Bool.or_eq_decide Bool.decide_beq_decide decide_eq_decide
/-! ### the reference's equations -/
set_option maxHeartbeats 4000000 in
theorem rhFirst (cs : List Pt) (vs : List Vt) (i : Int) (w : Nat) (hv : vs.length ≤ 900) (hf : fstN vs i vs.length = some w) : Pure Tryz.prog 63 [frmA cs vs, iv i] (iv w) := by
  have hlm : (vs.map Vt.av).length = vs.length := List.length_map ..
  have hg : ∀ j (h : j < vs.length), (vs.map Vt.av).getD j .u = Vt.av (vs.getD j (0, 0, 0)) := fun j h => by rw [map_atB Vt.av h, List.getD_eq_getElem?_getD, List.getElem?_eq_getElem h]; rfl
  show Pure _ _ [.agg [.sl 2 (cs.map coA), .sl 3 (vs.map Vt.av)], iv i] _
  generalize cs.map coA = C at *
  generalize vs.map Vt.av = V at *
  refine pure_intro (tok := 0) Tryz.func63 rfl Tryz.ntmps63 Tryz.results63 Tryz.call63 (by rfl) (by simp) ?_
  (focus (refine wkap (w_a hlm w_t) w_t (w_r 0) ?_; (repeat' first | exact w_t | apply w_l); all_goals intros))
  rename_i g2
  refine r_loopE (ι := Nat) (fun y e m => y ≤ vs.length ∧ e 1 = iv i ∧ e 2 = .pbox 2 g2 0 ∧ m 2 = some (.box g2 34 [.sl 2 C, .sl 3 V] false) ∧ e 5 = iv y ∧ ∀ j, j < y → (vs.getD j (0, 0, 0)).2.1 ≠ i) (fun y => vs.length - y) 0 (by rfl) ?_ ?_
  · rintro y e m ⟨hy, e1, e2, m2, e5, hj⟩
    by_cases hlt : y < vs.length
    · have hgy := hg y hlt
      by_cases hx : (vs.getD y (0, 0, 0)).2.1 = i
      · rw [fstN_at hj hx hlt] at hf
        obtain rfl : y = w := by simpa using hf
        clear hj hg hf
        generalize vs.getD y (0, 0, 0) = v at *
        obtain ⟨v1, v2, v3⟩ := v
        simp only at hx
        subst hx
        (focus (refine wklp (w_a e1 (w_a e2 (w_a m2 (w_a e5 (w_a hlm (w_a hgy w_t)))))) w_t w_t (w_r 0) ?_; (repeat' first | exact w_t | apply w_l); all_goals intros))
      · have hnx : ∀ j, j < y + 1 → (vs.getD j (0, 0, 0)).2.1 ≠ i := fun j hjj => by
          by_cases e : j = y
          · rw [e]; exact hx
          · exact hj j (by omega)
        clear hj hg hf
        generalize vs.getD y (0, 0, 0) = v at *
        obtain ⟨v1, v2, v3⟩ := v
        simp only at hx
        (focus (refine wkap (w_a e1 (w_a e2 (w_a m2 (w_a e5 (w_a hlm (w_a hgy (w_a hx w_t))))))) w_t (w_r 0) ?_; (repeat' first | exact w_t | apply w_l); all_goals intros))
        exact ⟨y + 1, ⟨by omega, by exact gW e1, by exact gW e2, by exact gW m2, by exact gS, hnx⟩, by omega⟩
    · rw [fstN_none fun j h => hj j (by omega)] at hf
      cases hf
  · exact ⟨Nat.zero_le _, by exact gC, by exact gC, by exact gC, by exact gC, fun j h => by omega⟩
theorem rhSlope (cs : List Pt) (vs : List Vt) (i : Int) (w : Nat) (hv : vs.length ≤ 900) (hw : w < 900) (hf : fstN vs i vs.length = some w) : Pure Tryz.prog 27 [frmA cs vs, iv i] (.tup [poA (slopeM (varM w)), poA (varM w)]) := by
  have c1 : Pure Tryz.prog 63 [.agg [.sl 2 (cs.map coA), .sl 3 (vs.map Vt.av)], iv i] (iv w) := rhFirst cs vs i w hv hf
  have c2 := rpVar w (by omega)
  have o1 : Pure Tryz.prog 15 [iv 1] (ratQ 1) := qOf 1 (by omega)
  have k1 := rpConst 1 (nat_sz1 1 (by omega)) (by omega)
  rw [if_neg (by decide)] at k1
  have hv1 := var_pb w
  have m := (hpMul hv1 hv1 (by omega) (by omega) (by omega) (by omega) (by omega) (by omega) (by omega) (by omega) (by omega)).2
  have a : Pure Tryz.prog 64 [poA oneM, poA (mlM (varM w) (varM w))] (poA (slopeM (varM w))) := (hpAdd one_pb (hv1.mul hv1) (by omega) (by omega) (by omega) (by omega) (by omega) (by omega)).2
  have k1 : Pure Tryz.prog 45 [ratQ 1] (poA oneM) := k1
  show Pure _ _ [.agg [.sl 2 (cs.map coA), .sl 3 (vs.map Vt.av)], iv i] _
  clear hv1
  generalize cs.map coA = C at *
  generalize vs.map Vt.av = V at *
  generalize slopeM (varM w) = sl at *
  generalize mlM (varM w) (varM w) = sq at *
  generalize varM w = t at *
  generalize oneM = one at *
  generalize (1 : Rat) = q at *
  refine pure_intro (tok := 0) Tryz.func27 rfl Tryz.ntmps27 Tryz.results27 Tryz.call27 (by rfl) (by simp) ?_
  (focus (refine wkld w_t (w_a c1 (w_a c2 (w_a o1 (w_a k1 (w_a m (w_a a w_t)))))) w_t w_t ?_; (repeat' first | exact w_t | apply w_l); all_goals intros))
abbrev nilC : AV := .agg [.v (.slice none 0 0), .v (.slice none 0 0)]
end Go.Proofs.YteiopjkamgmfpaaGreat
end

section
namespace Go.Proofs.YteiopjkamgmfpaaGreat
open Go Go.RowKit Go.Pg Go.Pol
set_option linter.unusedSimpArgs false
set_option linter.unusedVariables false
set_option maxRecDepth 20000
attribute [-bool_to_prop] Bool.and_eq_decide Bool.or_eq_decide Bool.decide_beq_decide decide_eq_decide
/-! ### arguments of a known number -/
theorem ar2 {ar : List Int} {n : Nat} (hl : (ar.length : Int) = 2) (h : ∀ k, k < ar.length → 0 ≤ gI ar k ∧ gI ar k < (n : Int)) : ∃ a b : Nat, ar = [(a : Int), (b : Int)] ∧ a < n ∧ b < n := by
  match ar, hl, h with
  | [x, y], _, h =>
    have h0 := h 0 (by simp)
    have h1 := h 1 (by simp)
    simp only [gI, List.getD_cons_zero, List.getD_cons_succ] at h0 h1
    exact ⟨x.toNat, y.toNat, by rw [Int.toNat_of_nonneg h0.1, Int.toNat_of_nonneg h1.1], by omega, by omega⟩
theorem ar3 {ar : List Int} {n : Nat} (hl : (ar.length : Int) = 3) (h : ∀ k, k < ar.length → 0 ≤ gI ar k ∧ gI ar k < (n : Int)) : ∃ a b c : Nat, ar = [(a : Int), (b : Int), (c : Int)] ∧ a < n ∧ b < n ∧ c < n := by
  match ar, hl, h with
  | [x, y, z], _, h =>
    have h0 := h 0 (by simp)
    have h1 := h 1 (by simp)
    have h2 := h 2 (by simp)
    simp only [gI, List.getD_cons_zero, List.getD_cons_succ] at h0 h1 h2
    exact ⟨x.toNat, y.toNat, z.toNat, by rw [Int.toNat_of_nonneg h0.1, Int.toNat_of_nonneg h1.1, Int.toNat_of_nonneg h2.1], by omega, by omega, by omega⟩
theorem ar4 {ar : List Int} {n : Nat} (hl : (ar.length : Int) = 4) (h : ∀ k, k < ar.length → 0 ≤ gI ar k ∧ gI ar k < (n : Int)) : ∃ a b c d : Nat, ar = [(a : Int), (b : Int), (c : Int), (d : Int)] ∧ a < n ∧ b < n ∧ c < n ∧ d < n := by
  match ar, hl, h with
  | [x, y, z, w], _, h =>
    have h0 := h 0 (by simp)
    have h1 := h 1 (by simp)
    have h2 := h 2 (by simp)
    have h3 := h 3 (by simp)
    simp only [gI, List.getD_cons_zero, List.getD_cons_succ] at h0 h1 h2 h3
    exact ⟨x.toNat, y.toNat, z.toNat, w.toNat, by rw [Int.toNat_of_nonneg h0.1, Int.toNat_of_nonneg h1.1, Int.toNat_of_nonneg h2.1, Int.toNat_of_nonneg h3.1], by omega, by omega, by omega, by omega⟩
end Go.Proofs.YteiopjkamgmfpaaGreat
end

section
namespace Go.Proofs.YteiopjkamgmfpaaGreat
open Go Go.RowKit Go.Pg Go.Pol
set_option linter.unusedSimpArgs false
set_option linter.unusedVariables false
set_option maxRecDepth 20000
attribute [local go_sem] Tryz.underlying3 Tryz.underlying4 Tryz.underlying129 Tryz.underlying9 Tryz.underlying26 Tryz.underlying35 Tryz.underlying53 Tryz.underlying51 Tryz.underlying49 Tryz.underlying55 Tryz.underlying22 Tryz.underlying25 Tryz.underlying57 Tryz.underlying23 sz3 by3 z3 szB zB szErr zErr szStr byStr zStr szL byL zL szRat zRat szInt zInt szNat zNat szStep byStep zStep szFig zFig szSlI zSlI szSlS zSlS szFact byFact zFact szSlF zSlF
attribute [-bool_to_prop] Bool.and_eq_decide Bool.or_eq_decide Bool.decide_beq_decide decide_eq_decide
theorem wts_at {ss : List RS} {i a : Nat} (h : a < i) : ((wts ss i).map iv).getD a .u = iv (gI (wts ss i) a) := by
  rw [map_atB iv (by rw [wts_len]; exact h), gI_at (by rw [wts_len]; exact h)]
theorem wts_succ {ss : List RS} {i : Nat} (hi : i < ss.length) : (wts ss (i + 1)).map iv = (wts ss i).map iv ++ [iv (wOf (wts ss i) ss[i])] := by
  show (wts ss i ++ [_]).map iv = _
  rw [List.map_append, show ss.getD i RS.zero = ss[i] from by rw [List.getD_eq_getElem?_getD, List.getElem?_eq_getElem hi]; rfl]; rfl
set_option maxHeartbeats 8000000 in
theorem rlWeights (ss : List RS) (gs : List RG) (hl : ss.length ≤ 8) (he : ∀ i, i < ss.length → errS ss i = 0) : Pure Tryz.prog 31 [figA ss gs] (ivs (wts ss ss.length)) := by
  have hg : ∀ i (h : i < ss.length), (ss.map RS.av).getD i .u = ss[i].av := fun i h => map_atB RS.av h
  have hls : (ss.map RS.av).length = ss.length := List.length_map ..
  have hok : ∀ i (h : i < ss.length), (ss[i].ar.length : Int) = arS ss[i].k ∧ ∀ k, k < ss[i].ar.length → 0 ≤ gI ss[i].ar k ∧ gI ss[i].ar k < (i : Int) := fun i h => ⟨(errS_ok h (he i h)).2.1, (errS_ok h (he i h)).2.2.1⟩
  have hws : ∀ i (h : i < ss.length), (wts ss (i + 1)).map iv = (wts ss i).map iv ++ [iv (wOf (wts ss i) ss[i])] := fun i h => wts_succ h
  have hwl : ∀ i, ((wts ss i).map iv).length = i := fun i => by rw [List.length_map, wts_len]
  have hbd : ∀ i n, i ≤ 8 → 0 ≤ gI (wts ss i) n ∧ gI (wts ss i) n ≤ 6561 := fun i n h => by
    have := wts_bd ss i n
    have h3 : (3 ^ i : Nat) ≤ 3 ^ 8 := Nat.pow_le_pow_right (by omega) h
    omega
  show Pure _ _ [.agg [.sl 6 (ss.map RS.av), .sl 5 (gs.map RG.av)]] (.sl 1 ((wts ss ss.length).map iv))
  generalize ss.map RS.av = M at *
  generalize gs.map RG.av = N at *
  refine pure_intro (tok := 0) Tryz.func31 rfl Tryz.ntmps31 Tryz.results31 Tryz.call31 (by rfl) (by simp) ?_
  (focus (refine wkad (w_a hls w_t) w_t w_t ?_; (repeat' first | exact w_t | apply w_l); all_goals intros))
  rename_i g1
  refine r_frz (Frz.nilOwn (d := 3) 83 1 3 (by exact gC)) ?_
  refine r_loopE (ι := Nat) (fun i e m => i ≤ ss.length ∧ e 1 = .pbox 1 g1 0 ∧ m 1 = some (.box g1 25 [.sl 6 M, .sl 5 N] false) ∧ e 4 = iv i ∧ ∃ sv, e 3 = .own 83 sv ∧ m 83 = some (.row sv 3 1 ((wts ss i).map iv) 0)) (fun i => ss.length - i) 0 (by rfl) ?_ ?_
  · rintro i e m ⟨hi, e1, m1, e4, sv, e3, m83⟩
    by_cases hlt : i < ss.length
    · have hgi := hg i hlt
      obtain ⟨ha, hr⟩ := hok i hlt
      have hwi := hwl i
      have hn := hws i hlt
      have hx := fun a (h : a < i) => wts_at (ss := ss) h
      have hb := fun n => hbd i n (by omega)
      clear hg hok hws hwl hbd
      generalize wts ss i = w at *
      generalize ss[i] = s at *
      obtain ⟨k, nm, ar, ⟨rs, rl, rd⟩⟩ := s
      unfold wOf at hn
      unfold arS at ha
      simp only at *
      generalize w.map iv = W at *
      by_cases k2 : k = 2
      · subst k2
        obtain ⟨a, b, rfl, h1, h2⟩ := ar2 (by simpa using ha) hr
        have b1 := hb a
        have b2 := hb b
        have x1 := hx a h1
        have x2 := hx b h2
        simp only [if_pos, gI, List.getD_cons_zero, List.getD_cons_succ, Int.toNat_natCast] at hn x1 x2 b1 b2
        generalize w.getD a 0 = x at *
        generalize w.getD b 0 = y at *
        clear hb hx hr ha
        (focus (refine wkad (w_a e1 (w_a m1 (w_a e4 (w_a e3 (w_a m83 (w_a hls (w_a hgi (w_a hwi (w_a x1 (w_a x2 w_t)))))))))) w_t w_t ?_; (repeat' first | exact w_t | apply w_l); all_goals intros))
        exact ⟨i + 1, ⟨by omega, by exact gW e1, by exact gW m1, by exact gS, _, by exact gC, by rw [hn]; exact gC⟩, by omega⟩
      · by_cases k34 : k = 3 ∨ k = 4
        · obtain ⟨a, b, c, rfl, h1, h2, h3⟩ := ar3 (by rcases k34 with rfl | rfl <;> simpa using ha) hr
          have b1 := hb a
          have b2 := hb b
          have b3 := hb c
          have x1 := hx a h1
          have x2 := hx b h2
          have x3 := hx c h3
          rw [if_neg k2, if_pos k34] at hn
          simp only [gI, List.getD_cons_zero, List.getD_cons_succ, Int.toNat_natCast] at hn x1 x2 x3 b1 b2 b3
          generalize w.getD a 0 = x at *
          generalize w.getD b 0 = y at *
          generalize w.getD c 0 = z at *
          clear hb hx hr ha k2
          rcases k34 with rfl | rfl
          all_goals
            (focus (refine wkad (w_a e1 (w_a m1 (w_a e4 (w_a e3 (w_a m83 (w_a hls (w_a hgi (w_a hwi (w_a x1 (w_a x2 (w_a x3 w_t))))))))))) w_t w_t ?_; (repeat' first | exact w_t | apply w_l); all_goals intros))
            exact ⟨i + 1, ⟨by omega, by exact gW e1, by exact gW m1, by exact gS, _, by exact gC, by rw [hn]; exact gC⟩, by omega⟩
        · rw [if_neg k2, if_neg k34] at hn
          by_cases k5 : k = 5
          · subst k5
            obtain ⟨a, b, rfl, h1, h2⟩ := ar2 (by simpa using ha) hr
            have b1 := hb a
            have b2 := hb b
            have x1 := hx a h1
            have x2 := hx b h2
            simp only [if_pos, gI, List.getD_cons_zero, List.getD_cons_succ, Int.toNat_natCast] at hn x1 x2 b1 b2
            generalize w.getD a 0 = x at *
            generalize w.getD b 0 = y at *
            clear hb hx hr ha k2 k34
            (focus (refine wkad (w_a e1 (w_a m1 (w_a e4 (w_a e3 (w_a m83 (w_a hls (w_a hgi (w_a hwi (w_a x1 (w_a x2 w_t)))))))))) w_t w_t ?_; (repeat' first | exact w_t | apply w_l); all_goals intros))
            exact ⟨i + 1, ⟨by omega, by exact gW e1, by exact gW m1, by exact gS, _, by exact gC, by rw [hn]; exact gC⟩, by omega⟩
          · have k3 : ¬ k = 3 := fun h => k34 (.inl h)
            have k4 : ¬ k = 4 := fun h => k34 (.inr h)
            rw [if_neg k5] at hn
            clear hb hx hr ha k34
            (focus (refine wkad (w_a e1 (w_a m1 (w_a e4 (w_a e3 (w_a m83 (w_a hls (w_a hgi (w_a hwi w_t)))))))) w_t w_t ?_; (repeat' first | exact w_t | apply w_l); all_goals intros))
            exact ⟨i + 1, ⟨by omega, by exact gW e1, by exact gW m1, by exact gS, _, by exact gC, by rw [hn]; exact gC⟩, by omega⟩
    · have hin : i = ss.length := by omega
      subst hin
      clear hws hg hok hbd
      have hwi := hwl ss.length
      generalize (wts ss ss.length).map iv = W at *
      (focus (refine wkld (w_a e1 (w_a m1 (w_a e4 (w_a e3 (w_a m83 (w_a hls (w_a hwi w_t))))))) w_t (w_a m83 w_t) w_t ?_; (repeat' first | exact w_t | apply w_l); all_goals intros))
  · exact ⟨Nat.zero_le _, by exact gC, by exact gC, by exact gC, _, by exact gC, by (simp (disch := omega) only [go_sem, wts, List.map_nil] <;> repeat' first | rfl | refine ⟨?_, ?_⟩)⟩
def thinG (w : List Int) (g : RG) : Bool := !(decide (g.k = 6) || decide (g.k = 7)) || g.ar.all fun a => decide (gI w a.toNat ≤ 3)
theorem all_take {α : Type} {p : α → Bool} {l : List α} (h : ∀ j (hj : j < l.length), p l[j] = true) : l.all p = true := all_of h
set_option maxHeartbeats 8000000 in
theorem rlThin (ss : List RS) (gs : List RG) (hl : ss.length ≤ 8) (hlg : gs.length ≤ 1000) (he : ∀ i, i < ss.length → errS ss i = 0) (heg : ∀ g ∈ gs, g.ar.length ≤ 100 ∧ ∀ k, k < g.ar.length → 0 ≤ gI g.ar k ∧ gI g.ar k < (ss.length : Int)) : Pure Tryz.prog 12 [figA ss gs] (.v (.bool (thinB ss gs))) := by
  have cw : Pure Tryz.prog 31 [.agg [.sl 6 (ss.map RS.av), .sl 5 (gs.map RG.av)]] (.sl 1 ((wts ss ss.length).map iv)) := rlWeights ss gs hl he
  have hlen := wts_len ss ss.length
  have hbd : ∀ n, 0 ≤ gI (wts ss ss.length) n ∧ gI (wts ss ss.length) n ≤ 6561 := fun n => by
    have := wts_bd ss ss.length n
    have h3 : (3 ^ ss.length : Nat) ≤ 3 ^ 8 := Nat.pow_le_pow_right (by omega) hl
    omega
  have hg : ∀ i (h : i < gs.length), (gs.map RG.av).getD i .u = gs[i].av := fun i h => map_atB RG.av h
  have hlm : (gs.map RG.av).length = gs.length := List.length_map ..
  show Pure _ _ [.agg [.sl 6 (ss.map RS.av), .sl 5 (gs.map RG.av)]] _
  have hT : thinB ss gs = ((wts ss ss.length).all (fun w => decide (w ≤ 8)) && gs.all (thinG (wts ss ss.length))) := rfl
  rw [hT]
  have hx : ∀ a, a < ss.length → ((wts ss ss.length).map iv).getD a .u = iv (gI (wts ss ss.length) a) := fun a h => wts_at h
  clear hT
  generalize ss.map RS.av = M at *
  generalize gs.map RG.av = N at *
  generalize wts ss ss.length = w at *
  generalize ss.length = n at *
  have hwl : (w.map iv).length = n := by rw [List.length_map, hlen]
  generalize hW : w.map iv = W at *
  refine pure_intro (tok := 0) Tryz.func12 rfl Tryz.ntmps12 Tryz.results12 Tryz.call12 (by rfl) (by simp) ?_
  (focus (refine wkap w_t (w_a cw w_t) (w_r 0) ?_; (repeat' first | exact w_t | apply w_l); all_goals intros))
  rename_i g1
  refine r_loopE (ι := Nat) (fun i e m => i ≤ n ∧ e 1 = .pbox 1 g1 0 ∧ m 1 = some (.box g1 25 [.sl 6 M, .sl 5 N] false) ∧ e 3 = .sl 1 W ∧ e 4 = iv i ∧ ∀ j, j < i → gI w j ≤ 8) (fun i => n - i) 0 (by rfl) ?_ ?_
  · rintro i e m ⟨hi, e1, m1, e3, e4, hj⟩
    by_cases hlt : i < n
    · have x1 := hx i hlt
      have b1 := hbd i
      have hgw : gI w i = w[i]'(by omega) := gI_at (by omega)
      by_cases h8 : 8 < gI w i
      · have : (w.all fun w => decide (w ≤ 8)) = false := all_at (i := i) (by omega) (by rw [← hgw]; simpa using h8)
        rw [this, Bool.false_and]
        generalize gI w i = x at *
        (focus (refine wklp (w_a e1 (w_a m1 (w_a e3 (w_a e4 (w_a hwl (w_a x1 w_t)))))) w_t w_t (w_r 0) ?_; (repeat' first | exact w_t | apply w_l); all_goals intros))
      · have hnx : ∀ j, j < i + 1 → gI w j ≤ 8 := fun j hjj => by
          by_cases e : j = i
          · rw [e]; omega
          · exact hj j (by omega)
        clear hj hgw
        generalize gI w i = x at *
        (focus (refine wkap (w_a e1 (w_a m1 (w_a e3 (w_a e4 (w_a hwl (w_a x1 w_t)))))) w_t (w_r 0) ?_; (repeat' first | exact w_t | apply w_l); all_goals intros))
        exact ⟨i + 1, ⟨by omega, by exact gW e1, by exact gW m1, by exact gW e3, by exact gS, hnx⟩, by omega⟩
    · have hin : n = i := by omega
      subst hin
      have : (w.all fun w => decide (w ≤ 8)) = true := all_take fun j hjj => by have := hj j (by omega); rw [gI_at hjj] at this; simpa using this
      rw [this, Bool.true_and]
      clear hj
      (focus (refine wkap (w_a e1 (w_a m1 (w_a e3 (w_a e4 (w_a hwl w_t))))) w_t (w_r 0) ?_; (repeat' first | exact w_t | apply w_l); all_goals intros))
      refine r_loopE (ι := Nat) (fun i e m => i ≤ gs.length ∧ e 1 = .pbox 1 g1 0 ∧ m 1 = some (.box g1 25 [.sl 6 M, .sl 5 N] false) ∧ e 3 = .sl 1 W ∧ e 5 = iv i ∧ ∀ j (hj : j < gs.length), j < i → thinG w gs[j] = true) (fun i => gs.length - i) 0 (by rfl) ?_ ?_
      · rintro i e m ⟨hi, e1, m1, e3, e5, hj⟩
        by_cases hlt : i < gs.length
        · have hgi := hg i hlt
          obtain ⟨ha, hr⟩ := heg _ (List.getElem_mem hlt)
          have hno : thinG w gs[i] = false → gs.all (thinG w) = false := fun h => all_at hlt h
          have hnx : thinG w gs[i] = true → ∀ j (hj : j < gs.length), j < i + 1 → thinG w gs[j] = true := fun h j hjj h2 => by
            by_cases e : j = i
            · subst e; exact h
            · exact hj j hjj (by omega)
          clear hj hg heg
          generalize gs.all (thinG w) = v at *
          generalize gs[i] = g at *
          obtain ⟨k, ar, ⟨rs, rl, rd⟩⟩ := g
          simp only at *
          have hla : (ar.map iv).length = ar.length := List.length_map ..
          have hga : ∀ j (h : j < ar.length), (ar.map iv).getD j .u = iv ar[j] := fun j h => map_atB iv h
          (focus (refine wkap (w_a e1 (w_a m1 (w_a e3 (w_a e5 (w_a hlm (w_a hgi w_t)))))) w_t (w_r 0) ?_; (repeat' first | exact w_t | apply w_l); all_goals intros))
          rename_i g6
          refine r_loopE (ι := Nat) (fun y e m => y ≤ ar.length ∧ e 1 = .pbox 1 g1 0 ∧ m 1 = some (.box g1 25 [.sl 6 M, .sl 5 N] false) ∧ e 3 = .sl 1 W ∧ e 5 = iv i ∧ e 6 = .pbox 6 g6 0 ∧ m 6 = some (.box g6 57 [iv k, ivs ar, .v (.bool rs), lim rl, lim rd] false) ∧ e 7 = iv y ∧ ((k = 6 ∨ k = 7) → ∀ j (hj : j < ar.length), j < y → gI w ar[j].toNat ≤ 3)) (fun y => ar.length - y) 0 (by rfl) ?_ ?_
          · rintro y e m ⟨hy, e1, m1, e3, e5, e6, m6, e7, hq⟩
            by_cases hly : y < ar.length
            · have hgy := hga y hly
              have hry := hr y hly
              rw [gI_at hly] at hry
              obtain ⟨a, hae⟩ : ∃ a : Nat, ar[y] = a := ⟨ar[y].toNat, by omega⟩
              have han : a < n := by omega
              have hxa := hx a han
              have hba := hbd a
              rw [hae] at hgy
              by_cases hk : k = 6 ∨ k = 7
              · by_cases h3 : 3 < gI w a
                · have : thinG w ⟨k, ar, ⟨rs, rl, rd⟩⟩ = false := by
                    unfold thinG
                    have h1 : (decide (k = 6) || decide (k = 7)) = true := by simpa using hk
                    have h2 : (ar.all fun a => decide (gI w a.toNat ≤ 3)) = false := all_at hly (by rw [hae, Int.toNat_natCast]; simpa using h3)
                    simp only [h1, h2]; rfl
                  rw [hno this]
                  clear hq hno hnx hga hr hx hbd this
                  generalize gI w a = x at *
                  rcases hk with rfl | rfl
                  all_goals
                    (focus (refine wklp (w_a e1 (w_a m1 (w_a e3 (w_a e5 (w_a e6 (w_a m6 (w_a e7 (w_a hla (w_a hgy (w_a hwl (w_a hxa w_t))))))))))) w_t w_t (w_r 0) ?_; (repeat' first | exact w_t | apply w_l); all_goals intros))
                · have hq2 : ∀ j (hj : j < ar.length), j < y + 1 → gI w ar[j].toNat ≤ 3 := fun j hjj h2 => by
                    by_cases e : j = y
                    · subst e; rw [hae, Int.toNat_natCast]; omega
                    · exact hq hk j hjj (by omega)
                  clear hq hno hnx hga hr hx hbd
                  generalize gI w a = x at *
                  rcases hk with rfl | rfl
                  all_goals
                    (focus (refine wkap (w_a e1 (w_a m1 (w_a e3 (w_a e5 (w_a e6 (w_a m6 (w_a e7 (w_a hla (w_a hgy (w_a hwl (w_a hxa w_t))))))))))) w_t (w_r 0) ?_; (repeat' first | exact w_t | apply w_l); all_goals intros))
                    exact ⟨y + 1, ⟨by omega, by exact gW e1, by exact gW m1, by exact gW e3, by exact gW e5, by exact gW e6, by exact gW m6, by exact gS, fun _ => hq2⟩, by omega⟩
              · have k6 : ¬ k = 6 := fun h => hk (.inl h)
                have k7 : ¬ k = 7 := fun h => hk (.inr h)
                clear hq hno hnx hga hr hx hbd
                (focus (refine wkap (w_a e1 (w_a m1 (w_a e3 (w_a e5 (w_a e6 (w_a m6 (w_a e7 (w_a hla w_t)))))))) w_t (w_r 0) ?_; (repeat' first | exact w_t | apply w_l); all_goals intros))
                exact ⟨y + 1, ⟨by omega, by exact gW e1, by exact gW m1, by exact gW e3, by exact gW e5, by exact gW e6, by exact gW m6, by exact gS, fun h => absurd h hk⟩, by omega⟩
            · have : thinG w ⟨k, ar, ⟨rs, rl, rd⟩⟩ = true := by
                unfold thinG
                by_cases hk : k = 6 ∨ k = 7
                · have h2 : (ar.all fun a => decide (gI w a.toNat ≤ 3)) = true := all_take fun j hjj => by have := hq hk j hjj (by omega); simpa using this
                  simp only [h2, Bool.or_true]
                · have h1 : (decide (k = 6) || decide (k = 7)) = false := by simpa using hk
                  simp only [h1]; rfl
              have := hnx this
              clear hq hno hnx hga hr hx hbd
              (focus (refine wkap (w_a e1 (w_a m1 (w_a e3 (w_a e5 (w_a e6 (w_a m6 (w_a e7 (w_a hla w_t)))))))) w_t (w_r 0) ?_; (repeat' first | exact w_t | apply w_l); all_goals intros))
              exact ⟨i + 1, ⟨by omega, by exact gW e1, by exact gW m1, by exact gW e3, by exact gS, this⟩, by omega⟩
          · exact ⟨Nat.zero_le _, by exact gW e1, by exact gW m1, by exact gW e3, by exact gW e5, by exact gC, by exact gC, by exact gC, fun _ j _ h => by omega⟩
        · have : gs.all (thinG w) = true := all_take fun j hjj => hj j hjj (by omega)
          rw [this]
          clear hj hg heg hx hbd
          (focus (refine wklp (w_a e1 (w_a m1 (w_a e3 (w_a e5 (w_a hlm w_t))))) w_t w_t (w_r 0) ?_; (repeat' first | exact w_t | apply w_l); all_goals intros))
      · exact ⟨Nat.zero_le _, by exact gW e1, by exact gW m1, by exact gW e3, by exact gC, fun j _ h => by omega⟩
  · exact ⟨Nat.zero_le _, by exact gC, by exact gC, by exact gC, by exact gC, fun j h => by omega⟩
/-! ### the figures of few terms -/
theorem arG_le (k : Int) : arG k ≤ 8 := by
  unfold arG
  repeat' split
  all_goals omega
theorem figE_goals {ss : List RS} {gs : List RG} (h : figE ss gs = 0) : ∀ g ∈ gs, g.ar.length ≤ 100 ∧ ∀ k, k < g.ar.length → 0 ≤ gI g.ar k ∧ gI g.ar k < (ss.length : Int) := fun g hg => by
  unfold figE at h
  split at h
  · omega
  · split at h
    · rename_i h2; exact absurd h h2
    · obtain ⟨j, hj, rfl⟩ := List.mem_iff_getElem.1 hg
      have h1 := fstE_all h j hj
      rw [show gs.getD j ⟨0, [], ⟨false, [], []⟩⟩ = gs[j] from by rw [List.getD_eq_getElem?_getD, List.getElem?_eq_getElem hj]; rfl] at h1
      have hle := arG_le gs[j].k
      generalize gs[j] = g at *
      unfold errG at h1
      split at h1
      · omega
      · split at h1
        · omega
        · split at h1
          · omega
          · rename_i h2 h3 h4
            exact ⟨by omega, fun k hk => outB_in (by simpa using h4) hk⟩
theorem figE_steps {ss : List RS} {gs : List RG} (h : figE ss gs = 0) : ∀ i, i < ss.length → errS ss i = 0 := by
  unfold figE at h
  split at h
  · omega
  · split at h
    · rename_i h2; exact absurd h h2
    · rename_i h2
      exact fstE_all (Decidable.byContradiction fun h3 => h2 h3)
set_option maxHeartbeats 8000000 in
theorem rlFew (ss : List RS) (gs : List RG) (cR : Pure Tryz.prog 11 [figA ss gs] (iv (figE ss gs))) : Pure Tryz.prog 4 [figA ss gs] (.v (.bool (fewB ss gs))) := by
  have cR : Pure Tryz.prog 11 [.agg [.sl 6 (ss.map RS.av), .sl 5 (gs.map RG.av)]] (iv (figE ss gs)) := cR
  have hls : (ss.map RS.av).length = ss.length := List.length_map ..
  have hlg : (gs.map RG.av).length = gs.length := List.length_map ..
  have hgS : ∀ i (h : i < ss.length), (ss.map RS.av).getD i .u = ss[i].av := fun i h => map_atB RS.av h
  have hgG : ∀ i (h : i < gs.length), (gs.map RG.av).getD i .u = gs[i].av := fun i h => map_atB RG.av h
  have cT : ss.length ≤ 8 → gs.length ≤ 3 → figE ss gs = 0 → Pure Tryz.prog 12 [.agg [.sl 6 (ss.map RS.av), .sl 5 (gs.map RG.av)]] (.v (.bool (thinB ss gs))) := fun a b h => rlThin ss gs a (by omega) (figE_steps h) (figE_goals h)
  show Pure _ _ [.agg [.sl 6 (ss.map RS.av), .sl 5 (gs.map RG.av)]] _
  unfold fewB
  have noS : ∀ i (h : i < ss.length), rat2 ss[i].r = false → (ss.all fun s => rat2 s.r) = false := fun i h e => all_at h e
  have noG : ∀ i (h : i < gs.length), rat2 gs[i].r = false → (gs.all fun s => rat2 s.r) = false := fun i h e => all_at h e
  have yeS : (∀ i (h : i < ss.length), rat2 ss[i].r = true) → (ss.all fun s => rat2 s.r) = true := fun e => all_take e
  have yeG : (∀ i (h : i < gs.length), rat2 gs[i].r = true) → (gs.all fun s => rat2 s.r) = true := fun e => all_take e
  generalize (ss.all fun s => rat2 s.r) = vS at *
  generalize (gs.all fun s => rat2 s.r) = vG at *
  generalize thinB ss gs = vT at *
  generalize figE ss gs = z at *
  generalize ss.map RS.av = M at *
  generalize gs.map RG.av = N at *
  by_cases h8 : ss.length ≤ 8
  · by_cases h3 : gs.length ≤ 3
    · rw [decide_eq_true h8, decide_eq_true h3, Bool.true_and, Bool.true_and]
      by_cases hz : z = 0
      · subst hz
        have cT := cT h8 h3 rfl
        rw [decide_eq_true rfl, Bool.true_and]
        cases vT with
        | false =>
          rw [Bool.false_and]
          refine pure_intro (tok := 0) Tryz.func4 rfl Tryz.ntmps4 Tryz.results4 Tryz.call4 (by rfl) (by simp) ?_
          (focus (refine wklp (w_a hls (w_a hlg w_t)) (w_a cR (w_a cT w_t)) w_t (w_r 0) ?_; (repeat' first | exact w_t | apply w_l); all_goals intros))
        | true =>
          rw [Bool.true_and]
          refine pure_intro (tok := 0) Tryz.func4 rfl Tryz.ntmps4 Tryz.results4 Tryz.call4 (by rfl) (by simp) ?_
          (focus (refine wkap (w_a hls (w_a hlg w_t)) (w_a cR (w_a cT w_t)) (w_r 0) ?_; (repeat' first | exact w_t | apply w_l); all_goals intros))
          rename_i g1
          clear cR cT
          refine r_loopE (ι := Nat) (fun i e m => i ≤ ss.length ∧ e 1 = .pbox 1 g1 0 ∧ m 1 = some (.box g1 25 [.sl 6 M, .sl 5 N] false) ∧ e 3 = iv i ∧ ∀ j (h : j < ss.length), j < i → rat2 ss[j].r = true) (fun i => ss.length - i) 0 (by rfl) ?_ ?_
          · rintro i e m ⟨hi, e1, m1, e3, hj⟩
            by_cases hlt : i < ss.length
            · have hg := hgS i hlt
              have no := noS i hlt
              have nx : rat2 ss[i].r = true → ∀ j (h : j < ss.length), j < i + 1 → rat2 ss[j].r = true := fun h j hjj h2 => by
                by_cases e : j = i
                · subst e; exact h
                · exact hj j hjj (by omega)
              clear hj noS yeS hgS hgG noG yeG
              unfold rat2 at no nx
              generalize ss[i] = s at *
              obtain ⟨k, nm, ar, ⟨rs, rl, rd⟩⟩ := s
              simp only at *
              by_cases a1 : rl.length ≤ 2 ∧ rd.length ≤ 2
              · have := nx (by simp [a1.1, a1.2])
                obtain ⟨a1, a2⟩ := a1
                clear nx no
                (focus (refine wkap (w_a e1 (w_a m1 (w_a e3 (w_a hls (w_a hg (w_a @u16s_len w_t)))))) w_t (w_r 0) ?_; (repeat' first | exact w_t | apply w_l); all_goals intros))
                exact ⟨i + 1, ⟨by omega, by exact gW e1, by exact gW m1, by exact gS, this⟩, by omega⟩
              · rw [no (by simp only [Bool.and_eq_false_iff, decide_eq_false_iff_not]; omega), Bool.false_and]
                clear nx no
                (focus (refine wkap (w_a e1 (w_a m1 (w_a e3 (w_a hls (w_a hg (w_a @u16s_len w_t)))))) w_t (w_r 0) ?_; (repeat' first | exact w_t | apply w_l); all_goals intros))
                all_goals first | ((all_goals (try simp (disch := omega) only [go_sem, decide_eq_true, decide_eq_false, if_pos, if_neg, Int.reduceAdd, Int.reduceSub, Int.reduceToNat, Int.zero_add])); (all_goals first | done | rfl | (congr 2; first | done | omega | (rw [Bool.eq_iff_iff]; simp only [bool_to_prop, Bool.false_eq_true, iff_true, true_iff, iff_false, false_iff]; omega)) | skip)) | omega
            · rw [yeS fun j h => hj j h (by omega), Bool.true_and]
              clear hj noS yeS hgS
              (focus (refine wkap (w_a e1 (w_a m1 (w_a e3 (w_a hls w_t)))) w_t (w_r 0) ?_; (repeat' first | exact w_t | apply w_l); all_goals intros))
              refine r_loopE (ι := Nat) (fun i e m => i ≤ gs.length ∧ e 1 = .pbox 1 g1 0 ∧ m 1 = some (.box g1 25 [.sl 6 M, .sl 5 N] false) ∧ e 4 = iv i ∧ ∀ j (h : j < gs.length), j < i → rat2 gs[j].r = true) (fun i => gs.length - i) 0 (by rfl) ?_ ?_
              · rintro i e m ⟨hi, e1, m1, e4, hj⟩
                by_cases hlt : i < gs.length
                · have hg := hgG i hlt
                  have no := noG i hlt
                  have nx : rat2 gs[i].r = true → ∀ j (h : j < gs.length), j < i + 1 → rat2 gs[j].r = true := fun h j hjj h2 => by
                    by_cases e : j = i
                    · subst e; exact h
                    · exact hj j hjj (by omega)
                  clear hj hgG noG yeG
                  unfold rat2 at no nx
                  generalize gs[i] = s at *
                  obtain ⟨k, ar, ⟨rs, rl, rd⟩⟩ := s
                  simp only at *
                  by_cases a1 : rl.length ≤ 2 ∧ rd.length ≤ 2
                  · have := nx (by simp [a1.1, a1.2])
                    obtain ⟨a1, a2⟩ := a1
                    clear nx no
                    (focus (refine wkap (w_a e1 (w_a m1 (w_a e4 (w_a hlg (w_a hg (w_a @u16s_len w_t)))))) w_t (w_r 0) ?_; (repeat' first | exact w_t | apply w_l); all_goals intros))
                    exact ⟨i + 1, ⟨by omega, by exact gW e1, by exact gW m1, by exact gS, this⟩, by omega⟩
                  · rw [no (by simp only [Bool.and_eq_false_iff, decide_eq_false_iff_not]; omega)]
                    clear nx no
                    (focus (refine wkap (w_a e1 (w_a m1 (w_a e4 (w_a hlg (w_a hg (w_a @u16s_len w_t)))))) w_t (w_r 0) ?_; (repeat' first | exact w_t | apply w_l); all_goals intros))
                    all_goals first | ((all_goals (try simp (disch := omega) only [go_sem, decide_eq_true, decide_eq_false, if_pos, if_neg, Int.reduceAdd, Int.reduceSub, Int.reduceToNat, Int.zero_add])); (all_goals first | done | rfl | (congr 2; first | done | omega | (rw [Bool.eq_iff_iff]; simp only [bool_to_prop, Bool.false_eq_true, iff_true, true_iff, iff_false, false_iff]; omega)) | skip)) | omega
                · rw [yeG fun j h => hj j h (by omega)]
                  clear hj hgG noG yeG
                  (focus (refine wklp (w_a e1 (w_a m1 (w_a e4 (w_a hlg w_t)))) w_t w_t (w_r 0) ?_; (repeat' first | exact w_t | apply w_l); all_goals intros))
              · exact ⟨Nat.zero_le _, by exact gW e1, by exact gW m1, by exact gC, fun j h h2 => by omega⟩
          · exact ⟨Nat.zero_le _, by exact gC, by exact gC, by exact gC, fun j h h2 => by omega⟩
      · rw [decide_eq_false hz, Bool.false_and]
        clear cT
        refine pure_intro (tok := 0) Tryz.func4 rfl Tryz.ntmps4 Tryz.results4 Tryz.call4 (by rfl) (by simp) ?_
        (focus (refine wklp (w_a hls (w_a hlg (w_a hz w_t))) (w_a cR w_t) w_t (w_r 0) ?_; (repeat' first | exact w_t | apply w_l); all_goals intros))
    · rw [decide_eq_true h8, decide_eq_false h3, Bool.true_and, Bool.false_and]
      clear cT
      refine pure_intro (tok := 0) Tryz.func4 rfl Tryz.ntmps4 Tryz.results4 Tryz.call4 (by rfl) (by simp) ?_
      (focus (refine wklp (w_a hls (w_a hlg w_t)) (w_a cR w_t) w_t (w_r 0) ?_; (repeat' first | exact w_t | apply w_l); all_goals intros))
  · rw [decide_eq_false h8, Bool.false_and]
    clear cT
    refine pure_intro (tok := 0) Tryz.func4 rfl Tryz.ntmps4 Tryz.results4 Tryz.call4 (by rfl) (by simp) ?_
    (focus (refine wklp (w_a hls (w_a hlg w_t)) (w_a cR w_t) w_t (w_r 0) ?_; (repeat' first | exact w_t | apply w_l); all_goals intros))
end Go.Proofs.YteiopjkamgmfpaaGreat
end

section
namespace Go.Proofs.YteiopjkamgmfpaaGreat
open Go Go.RowKit Go.Pg Go.Pol
set_option linter.unusedSimpArgs false
set_option linter.unusedVariables false
set_option maxRecDepth 20000
attribute [-bool_to_prop] Bool.and_eq_decide Bool.or_eq_decide Bool.decide_beq_decide decide_eq_decide
set_option linter.unusedSimpArgs false
set_option linter.unusedVariables false
/-! ### the steps of a small figure -/
theorem few_in {ss : List RS} {gs : List RG} (hs : ∀ s ∈ ss, s.sm) (h : fewB ss gs = true) : ss.length ≤ 8 ∧ figE ss gs = 0 ∧ FigOk ss ∧ thinB ss gs = true := by
  unfold fewB at h
  simp only [Bool.and_eq_true, decide_eq_true_eq, List.all_eq_true] at h
  obtain ⟨h1, h2, h3, h4, h5, h6⟩ := h
  refine ⟨h1, h3, ⟨by omega, figE_steps h3, fun s hm => ?_, ?_⟩, h4⟩
  · have := h5 s hm
    unfold rat2 at this
    simp only [Bool.and_eq_true, decide_eq_true_eq] at this
    obtain ⟨k1, k2, k3, k4⟩ := (hs s hm).1
    exact ⟨k1, k2, this.1, this.2⟩
  · have := nfN_le ss ss.length
    omega
theorem wts_pre (ss : List RS) {i j : Nat} (h : j < i) : ∀ d, gI (wts ss (i + d)) j = gI (wts ss i) j
  | 0 => rfl
  | d + 1 => by
    show gI (wts ss (i + d) ++ [_]) j = _
    rw [gI_app, wts_len, if_pos (by omega)]
    exact wts_pre ss h d
theorem few_cb {ss : List RS} {gs : List RG} (hl : ss.length ≤ 8) (ok : FigOk ss) (ht : thinB ss gs = true) : (∀ j, j < ss.length → bigN ss j = false) ∧ ∀ j, CB ((frN ss ss.length).cs.getD j ([], [])) := by
  have hw : ∀ j, gI (wts ss ss.length) j ≤ 8 := fun j => by
    by_cases h : j < (wts ss ss.length).length
    · unfold thinB at ht
      simp only [Bool.and_eq_true, List.all_eq_true, decide_eq_true_eq] at ht
      rw [gI_at h]
      exact ht.1 _ (List.getElem_mem h)
    · rw [gI_out (by omega)]; omega
  have big : ∀ j, j < ss.length → bigN ss j = false := fun j hj => by
    rw [bigN_at hj]
    have hv := vs_le ss (j + 1)
    rw [frN_succ hj] at hv
    have h1 := frN_w ss (j + 1) j
    have h2 := wts_pre ss (show j < j + 1 by omega) (ss.length - (j + 1))
    rw [show j + 1 + (ss.length - (j + 1)) = ss.length by omega] at h2
    have h3 := hw j
    rw [frN_succ hj, List.getD_eq_getElem?_getD, List.getElem?_append_right (by rw [frN_len]; omega), frN_len, Nat.sub_self] at h1
    simp only [List.getElem?_cons_zero, Option.getD_some] at h1
    simp only [Bool.or_eq_false_iff, decide_eq_false_iff_not]
    simp only at hv
    omega
  refine ⟨big, fun j => ?_⟩
  obtain ⟨D, hD, hn⟩ := ok.fi (Nat.le_refl _) big
  have h1 := frN_w ss ss.length j
  have h3 := hw j
  by_cases hj : j < (frN ss ss.length).cs.length
  · obtain ⟨c1, c2⟩ := hD.co hn _ (getD_mem (d := (([], []) : Pt)) hj)
    exact ⟨⟨c1.st, c1.pk.mono (Nat.le_refl _) (by omega), by omega⟩, ⟨c2.st, c2.pk.mono (Nat.le_refl _) (by omega), by omega⟩⟩
  · rw [List.getD_eq_getElem?_getD, List.getElem?_eq_none (by omega)]
    exact ⟨.nil, .nil⟩
theorem fstN_lt {vs : List Vt} {i : Int} {w : Nat} : ∀ {n : Nat}, fstN vs i n = some w → w < n
  | 0, h => by cases h
  | n + 1, h => by
    unfold fstN at h
    split at h
    · rename_i v hv
      have := fstN_lt hv
      injection h with h
      omega
    · split at h
      · injection h with h; omega
      · cases h
theorem fstN_ne {vs : List Vt} {i : Int} : ∀ {n : Nat}, fstN vs i n = none → ∀ j, j < n → (vs.getD j (0, 0, 0)).2.1 ≠ i
  | 0, _, j, hj => by omega
  | n + 1, h, j, hj => by
    unfold fstN at h
    split at h
    · cases h
    · rename_i hn
      split at h
      · cases h
      · rename_i hx
        by_cases e : j = n
        · rw [e]; exact hx
        · exact fstN_ne hn j (by omega)
theorem vs_pre (ss : List RS) (i : Nat) : ∀ d, ∃ l, (frN ss (i + d)).vs = (frN ss i).vs ++ l
  | 0 => ⟨[], by rw [List.append_nil]; rfl⟩
  | d + 1 => by
    obtain ⟨l, hl⟩ := vs_pre ss i d
    refine ⟨l ++ ((frN ss (i + d)).nxt (i + d) (ss.getD (i + d) RS.zero)).1, ?_⟩
    show (frN ss (i + d)).vs ++ _ = _
    rw [hl, List.append_assoc]
    rfl
/-- A step on a circle has a variable. -/
theorem circ_var {ss : List RS} {i : Nat} (hi : i < ss.length) (hk : ss[i].k = 6) : ∃ w, fstN (frN ss ss.length).vs i (frN ss ss.length).vs.length = some w ∧ w < (frN ss ss.length).vs.length := by
  cases h : fstN (frN ss ss.length).vs i (frN ss ss.length).vs.length with
  | some w => exact ⟨w, rfl, fstN_lt h⟩
  | none =>
    exfalso
    obtain ⟨l, hl⟩ := vs_pre ss (i + 1) (ss.length - (i + 1))
    rw [show i + 1 + (ss.length - (i + 1)) = ss.length by omega, frN_succ hi] at hl
    have hn : ((frN ss i).nxt i ss[i]).1 = [(1, (i : Int), 0), (2, (i : Int), 1), (2, (i : Int), 2)] := by
      unfold FS.nxt
      simp [hk]
    simp only at hl
    rw [hn] at hl
    have hm : ((1, (i : Int), 0) : Vt) ∈ (frN ss ss.length).vs := by rw [hl]; simp
    obtain ⟨j, hj, e⟩ := List.mem_iff_getElem.1 hm
    have := fstN_ne h j hj
    rw [List.getD_eq_getElem?_getD, List.getElem?_eq_getElem hj, e] at this
    exact this rfl
/-- The hypotheses of a figure's step. -/
def eqE (ss : List RS) (i : Nat) : List Po :=
  let f := frN ss ss.length
  let s := ss.getD i RS.zero
  let p := fun k => f.cs.getD (gI s.ar k).toNat ([], [])
  eqsM s.k (p 0) (p 1) (p 2) (p 3) (f.cs.getD i ([], [])) (parM f.vs i)
theorem parM_some {vs : List Vt} {i : Int} {w : Nat} (h : fstN vs i vs.length = some w) : parM vs i = varM w := by unfold parM; rw [h]
end Go.Proofs.YteiopjkamgmfpaaGreat
end
