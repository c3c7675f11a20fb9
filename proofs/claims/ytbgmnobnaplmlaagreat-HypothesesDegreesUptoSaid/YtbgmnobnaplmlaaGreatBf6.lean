/- Contracts of the functions that the law reaches, and the rules by which they are walked. They say what a call hands back for every input within the bounds that each names; no other condition. -/
import Derived.Test.YtbgmnobnaplmlaaGreatBf5
section
namespace Go.Proofs.YtbgmnobnaplmlaaGreat
open Go Go.RowKit Go.Pg Go.Pol
set_option linter.unusedSimpArgs false
set_option linter.unusedVariables false
set_option maxRecDepth 20000
attribute [local go_sem] Tryz.underlying3 Tryz.underlying4 Tryz.underlying178 Tryz.underlying9 Tryz.underlying48 Tryz.underlying31 Tryz.underlying43 Tryz.underlying41 Tryz.underlying39 Tryz.underlying50 Tryz.underlying22 Tryz.underlying25 Tryz.underlying56 Tryz.underlying28 Tryz.underlying72 Tryz.underlying27 Tryz.underlying30 Tryz.underlying105 Tryz.underlying107 Tryz.underlying70 Tryz.underlying63 Tryz.underlying103 Tryz.underlying154 sz3 by3 z3 szB zB szErr zErr szStr byStr zStr szRat zRat szInt zInt szNat zNat szStep byStep zStep szFig zFig szSlI zSlI szSlS zSlS szVar byVar zVar szSlV zSlV szCoord byCoord zCoord szSlC zSlC szFrame zFrame szCBld byCBld zCBld szCVec byCVec zCVec szPoly byPoly zPoly szTerm zTerm szPtrB zPtrB szFnC zFnC Tryz.underlying135 szHVec byHVec zHVec Tryz.underlying78 szSlP zSlP Tryz.underlying124 Tryz.underlying23 szL byL zL szFact byFact zFact szSlF zSlF
attribute [-bool_to_prop] Bool.and_eq_decide Bool.or_eq_decide Bool.decide_beq_decide decide_eq_decide
/-! ### the chapter's example -/
def ssF : List RS := [⟨1, ⟨#[65]⟩, [], ⟨false, [], []⟩⟩, ⟨1, ⟨#[66]⟩, [], ⟨false, [], []⟩⟩, ⟨1, ⟨#[67]⟩, [], ⟨false, [], []⟩⟩, ⟨7, ⟨#[70]⟩, [2, 0, 1], ⟨false, [], []⟩⟩]
theorem figF : figE ssF [] = 0 := by decide +kernel
theorem bigF : (List.range ssF.length).any (bigN ssF) = false := by decide +kernel
theorem csF : (frN ssF ssF.length).cs = [([], []), (varM 0, []), (varM 1, varM 2), (varM 3, varM 4)] := by kernel_rfl
theorem vsF : (frN ssF ssF.length).vs.length ≤ 64 := by decide +kernel
theorem okF : FigOk ssF := by
  obtain ⟨h1, h2⟩ := figE_ok figF
  refine ⟨h1, h2, fun s hs => ?_, by decide +kernel⟩
  have : ∀ s ∈ ssF, s.r.l = [] ∧ s.r.d = [] := by decide
  obtain ⟨e1, e2⟩ := this s hs
  refine ⟨?_, ?_, by rw [e1]; simp, by rw [e2]; simp⟩
  · rw [e1]; exact fun x hx => by cases hx
  · rw [e2]; exact fun x hx => by cases hx
theorem nil_cb : PB [] 8 110 8 := .nil
theorem var_cb (v : Nat) : PB (varM v) 8 110 8 := (var_pb v).mono (by omega) (by omega) (by omega)
theorem sub_nil (p : Po) : subM p [] = p := addP_nil p
theorem crossF : crossM ([], []) (varM 0, []) ([], []) (varM 3, varM 4) = mlM (varM 0) (varM 4) := by
  unfold crossM
  simp only [sub_nil]
  rw [show mlM [] (varM 3) = [] from mulR_nil _, sub_nil]
theorem dotF : dotM ([], []) (varM 0, []) (varM 1, varM 2) (varM 3, varM 4) = subM (mlM (varM 0) (varM 3)) (mlM (varM 0) (varM 1)) := by
  unfold dotM
  simp only [sub_nil]
  rw [show mlM [] (subM (varM 4) (varM 2)) = [] from mulR_nil _, show ∀ p : Po, addM p [] = p from addP_nil, mul_subR (varM_srt 3) (varM_srt 1) (varM_srt 0)]
theorem coF : Pure Tryz.prog 15 [figA ssF []] (.tup [frmA (frN ssF ssF.length).cs (frN ssF ssF.length).vs, iv 0]) := by
  have sm : ∀ s ∈ ssF, s.sm := fun s hs => by
    have h := okF.lm s hs
    have h2 : ∀ s ∈ ssF, s.nm.size ≤ 1 ∧ s.ar.length ≤ 3 := by decide
    obtain ⟨a, b⟩ := h2 s hs
    exact ⟨lm_mono h (by decide), Nat.le_trans a (by decide), Nat.le_trans b (by decide)⟩
  have cr := lwRight ssF [] (by decide) (by decide) sm (fun g hg => by cases hg)
  rw [figF] at cr
  have := coFrame1 ssF [] cr okF
  rwa [if_neg (by rw [bigF]; decide)] at this
theorem awFoot : Pure Tryz.prog 70 [] (figA ssF []) := by
  refine pure_vkR (r := .agg [.sl 6 [.agg [iv 1, strA ⟨#[65]⟩, .v (.slice none 0 0), .v (.bool false), .v (.slice none 0 0), .v (.slice none 0 0)], .agg [iv 1, strA ⟨#[66]⟩, .v (.slice none 0 0), .v (.bool false), .v (.slice none 0 0), .v (.slice none 0 0)], .agg [iv 1, strA ⟨#[67]⟩, .v (.slice none 0 0), .v (.bool false), .v (.slice none 0 0), .v (.slice none 0 0)], .agg [iv 7, strA ⟨#[70]⟩, .sl 1 [iv 2, iv 0, iv 1], .v (.bool false), .v (.slice none 0 0), .v (.slice none 0 0)]], .v (.slice none 0 0)]) ?_ (Vk.aggL (.cons (Vk.slL (by rfl) (by decide) (by decide) ?_) (.cons (.nil 5) .nil)))
  · refine pure_intro (tok := 0) Tryz.func70 rfl Tryz.ntmps70 Tryz.results70 Tryz.call70 (by rfl) (by simp) ?_
    (focus (refine wklp w_t w_t w_t (w_r 0) ?_; (repeat' first | exact w_t | apply w_l); all_goals intros))
  · exact (.cons (.refl _) (.cons (.refl _) (.cons (.nil 1) (.cons (.refl _) (.cons (.nil 1) (.cons (.nil 1) (.cons (.refl _) (.cons (.refl _) (.cons (.nil 1) (.cons (.refl _) (.cons (.nil 1) (.cons (.nil 1) (.cons (.refl _) (.cons (.refl _) (.cons (.nil 1) (.cons (.refl _) (.cons (.nil 1) (.cons (.nil 1) (.cons (.refl _) (.cons (.refl _) (.cons (.refl _) (.cons (.refl _) (.cons (.nil 1) (.cons (.nil 1) .nil))))))))))))))))))))))))
def EF (i : Nat) : List Po := if i = 3 then [mlM (varM 0) (varM 4), subM (mlM (varM 0) (varM 3)) (mlM (varM 0) (varM 1))] else []
set_option maxHeartbeats 4000000 in
theorem ofF : Pure Tryz.prog 38 [figA ssF []] (.tup [.sl 1 [poA (mlM (varM 0) (varM 4)), poA (subM (mlM (varM 0) (varM 3)) (mlM (varM 0) (varM 1)))], iv 0]) := by
  have hc := csF
  have st : ∀ i, i < ssF.length → Pure Tryz.prog 35 [figA ssF [], frmA (frN ssF ssF.length).cs (frN ssF ssF.length).vs, iv i] (.tup [.sl 1 ((EF i).map poA), iv 0]) := fun i hi => by
    have cp := hyParam (frN ssF ssF.length).cs (frN ssF ssF.length).vs i (by have := vsF; omega)
    have har : ∀ k, k < ssF[i].ar.length → 0 ≤ gI ssF[i].ar k ∧ gI ssF[i].ar k < ((frN ssF ssF.length).cs.length : Int) := fun k hk => by
      have := (errS_ok hi (okF.er i hi)).2.2.1 k hk
      rw [frN_len]; omega
    have h4 : ssF[i].ar.length ≤ 4 := by have h1 := (errS_ok hi (okF.er i hi)).2.1; have := arS_le ssF[i].k; omega
    by_cases h3 : i = 3
    · subst h3
      refine hyStepC ssF [] _ _ 3 ssF[3] (varM 3, varM 4) _ (EF 3) hi rfl (frN_len ssF _) (by rw [hc]; rfl) har h4 cp ?_
      have := hyE7 (a := (varM 1, varM 2)) (b := ([], [])) (c := (varM 0, [])) (x := (varM 3, varM 4)) (parM (frN ssF ssF.length).vs 3) ⟨var_cb 1, var_cb 2⟩ ⟨nil_cb, nil_cb⟩ ⟨var_cb 0, nil_cb⟩ ⟨var_cb 3, var_cb 4⟩
      rw [crossF, dotF] at this
      rw [hc]
      exact this
    · have hk : ssF[i].k = 1 := by
        have : ∀ i (h : i < ssF.length), i ≠ 3 → ssF[i].k = 1 := by decide
        exact this i hi h3
      refine hyStepC ssF [] _ _ i ssF[i] _ _ (EF i) hi rfl (frN_len ssF _) rfl har h4 cp ?_
      rw [hk, show EF i = [] from if_neg h3]
      exact hyE0 1 _ _ _ (.inl (by omega))
  have z04 : PB (mlM (varM 0) (varM 4)) 1 3 2 := ((var_pb 0).mul (var_pb 4)).mono (by omega) (by omega) (by omega)
  have z03 : PB (mlM (varM 0) (varM 3)) 1 3 2 := ((var_pb 0).mul (var_pb 3)).mono (by omega) (by omega) (by omega)
  have z01 : PB (mlM (varM 0) (varM 1)) 1 3 2 := ((var_pb 0).mul (var_pb 1)).mono (by omega) (by omega) (by omega)
  have hb : (List.range ssF.length).any (bigE EF) = false := any_no fun j hj => by
    unfold bigE EF
    split
    · have h1 := z04.l
      have h2 := (z03.sub z01).l
      simp; omega
    · rfl
  have := hyOf ssF [] _ _ EF (fun i => by unfold EF; split <;> simp) (by decide) coF st
  rw [if_neg (by rw [hb]; simp)] at this
  exact this
theorem awV (a b : Nat) (ha : a < 64) (hb : b < 64) : Pure Tryz.prog 71 [iv a, iv b] (poA (mlM (varM a) (varM b))) := by
  have c1 := rpVar a (by omega)
  have c2 := rpVar b (by omega)
  have c3 := (hpMul (var_pb a) (var_pb b) (by omega) (by omega) (by omega) (by omega) (by omega) (by omega) (by omega) (by omega) (by omega)).2
  generalize mlM (varM a) (varM b) = r at *
  generalize varM a = p at *
  generalize varM b = q at *
  refine pure_intro (tok := 0) Tryz.func71 rfl Tryz.ntmps71 Tryz.results71 Tryz.call71 (by rfl) (by simp) ?_
  (focus (refine wkax w_t (w_a c3 w_t) w_t w_t (w_a c1 (w_a c2 w_t)) w_t (w_r 0) ?_; (repeat' first | exact w_t | apply w_l); all_goals intros))
  (all_goals (try simp (disch := omega) only [go_sem, decide_eq_true, decide_eq_false, if_pos, if_neg, Int.reduceAdd, Int.reduceSub, Int.reduceToNat, Int.zero_add])); (all_goals first | done | rfl | (congr 2; first | done | omega | (rw [Bool.eq_iff_iff]; simp only [bool_to_prop, Bool.false_eq_true, iff_true, true_iff, iff_false, false_iff]; omega)) | skip)
set_option maxHeartbeats 4000000 in
theorem aw22 : Pure Tryz.prog 28 [] (.v (.bool true)) := by
  have cF := awFoot
  have cO := ofF
  have k1 : Pure Tryz.prog 71 [iv 0, iv 4] (poA (mlM (varM 0) (varM 4))) := awV 0 4 (by omega) (by omega)
  have k2 : Pure Tryz.prog 71 [iv 0, iv 3] (poA (mlM (varM 0) (varM 3))) := awV 0 3 (by omega) (by omega)
  have k3 : Pure Tryz.prog 71 [iv 0, iv 1] (poA (mlM (varM 0) (varM 1))) := awV 0 1 (by omega) (by omega)
  have z04 : PB (mlM (varM 0) (varM 4)) 1 3 2 := ((var_pb 0).mul (var_pb 4)).mono (by omega) (by omega) (by omega)
  have z03 : PB (mlM (varM 0) (varM 3)) 1 3 2 := ((var_pb 0).mul (var_pb 3)).mono (by omega) (by omega) (by omega)
  have z01 : PB (mlM (varM 0) (varM 1)) 1 3 2 := ((var_pb 0).mul (var_pb 1)).mono (by omega) (by omega) (by omega)
  have cs := (hpSub z03 z01 (by omega) (by omega) (by omega) (by omega) (by omega) (by omega)).2
  have eqs : ∀ {p : Po} {n j e : Nat}, PB p n j e → n ≤ 1000 → j ≤ 1000 → e ≤ 100 → Pure Tryz.prog 29 [poA p, poA p] (.v (.bool true)) := fun {p n j e} h hn hj he => by
    have l := h.l
    have := rpEqual p p h.k h.k h.s.dom h.s.dom (by omega) (by omega) (by omega) (by omega) (by omega) (by omega)
    rwa [decide_eq_true rfl] at this
  have sm := lwSame [mlM (varM 0) (varM 4), subM (mlM (varM 0) (varM 3)) (mlM (varM 0) (varM 1))] (by simp) (fun p hp => by
    rcases List.mem_cons.1 hp with rfl | hp
    · exact eqs z04 (by omega) (by omega) (by omega)
    · rw [List.mem_singleton] at hp
      subst hp
      exact eqs (z03.sub z01) (by omega) (by omega) (by omega))
  have sm : Pure Tryz.prog 37 [.sl 1 [poA (mlM (varM 0) (varM 4)), poA (subM (mlM (varM 0) (varM 3)) (mlM (varM 0) (varM 1)))], .sl 1 [poA (mlM (varM 0) (varM 4)), poA (subM (mlM (varM 0) (varM 3)) (mlM (varM 0) (varM 1)))]] (.v (.bool true)) := sm
  have cF : Pure Tryz.prog 70 [] (.agg [.sl 6 (ssF.map RS.av), .sl 5 []]) := cF
  have cO : Pure Tryz.prog 38 [.agg [.sl 6 (ssF.map RS.av), .sl 5 []]] (.tup [.sl 1 [poA (mlM (varM 0) (varM 4)), poA (subM (mlM (varM 0) (varM 3)) (mlM (varM 0) (varM 1)))], iv 0]) := cO
  clear eqs z04 z03 z01
  generalize ssF.map RS.av = M at *
  generalize subM (mlM (varM 0) (varM 3)) (mlM (varM 0) (varM 1)) = q at *
  generalize mlM (varM 0) (varM 4) = p at *
  generalize mlM (varM 0) (varM 3) = u at *
  generalize mlM (varM 0) (varM 1) = w at *
  refine pure_intro (tok := 0) Tryz.func28 rfl Tryz.ntmps28 Tryz.results28 Tryz.call28 (by rfl) (by simp) ?_
  (focus (refine wkax w_t (w_a cF (w_a cO (w_a cs w_t))) w_t (w_a sm w_t) (w_a k1 (w_a k2 (w_a k3 w_t))) w_t (w_r 0) ?_; (repeat' first | exact w_t | apply w_l); all_goals intros))
  (all_goals (try simp (disch := omega) only [go_sem, decide_eq_true, decide_eq_false, if_pos, if_neg, Int.reduceAdd, Int.reduceSub, Int.reduceToNat, Int.zero_add])); (all_goals first | done | rfl | (congr 2; first | done | omega | (rw [Bool.eq_iff_iff]; simp only [bool_to_prop, Bool.false_eq_true, iff_true, true_iff, iff_false, false_iff]; omega)) | skip)
/-! ### the law -/
/-- A coordinate as it comes in. -/
structure RCo where
  x : List RT
  y : List RT
abbrev RCo.av (c : RCo) : AV := .agg [.sl 4 (c.x.map RT.av), .sl 4 (c.y.map RT.av)]
def RCo.lm (c : RCo) (k : Nat) : Prop := (∀ t ∈ c.x, t.r.lm k) ∧ ∀ t ∈ c.y, t.r.lm k
def RCo.ok (c : RCo) : Bool := cooP c.x && cooP c.y
def RCo.pt (c : RCo) : Pt := (c.x.map RT.tm, c.y.map RT.tm)
theorem RCo.in {c : RCo} {k : Nat} (h : c.lm k) (ho : c.ok = true) : c.av = coA c.pt ∧ CB c.pt := by
  unfold RCo.ok at ho
  rw [Bool.and_eq_true] at ho
  obtain ⟨e1, p1⟩ := coo_in h.1 ho.1
  obtain ⟨e2, p2⟩ := coo_in h.2 ho.2
  exact ⟨by show AV.agg [_, _] = AV.agg [_, _]; rw [e1, e2]; rfl, p1, p2⟩
end Go.Proofs.YtbgmnobnaplmlaaGreat
end

section
namespace Go.Proofs.YtbgmnobnaplmlaaGreat
open Go Go.RowKit Go.Pg Go.Pol
set_option linter.unusedSimpArgs false
set_option linter.unusedVariables false
set_option maxRecDepth 20000
attribute [local go_sem] Tryz.underlying3 Tryz.underlying4 Tryz.underlying178 Tryz.underlying9 Tryz.underlying48 Tryz.underlying31 Tryz.underlying43 Tryz.underlying41 Tryz.underlying39 Tryz.underlying50 Tryz.underlying22 Tryz.underlying25 Tryz.underlying56 Tryz.underlying28 Tryz.underlying72 Tryz.underlying27 Tryz.underlying30 Tryz.underlying105 Tryz.underlying107 Tryz.underlying70 Tryz.underlying63 Tryz.underlying103 Tryz.underlying154 sz3 by3 z3 szB zB szErr zErr szStr byStr zStr szRat zRat szInt zInt szNat zNat szStep byStep zStep szFig zFig szSlI zSlI szSlS zSlS szVar byVar zVar szSlV zSlV szCoord byCoord zCoord szSlC zSlC szFrame zFrame szCBld byCBld zCBld szCVec byCVec zCVec szPoly byPoly zPoly szTerm zTerm szPtrB zPtrB szFnC zFnC
attribute [-bool_to_prop] Bool.and_eq_decide Bool.or_eq_decide Bool.decide_beq_decide decide_eq_decide
set_option maxHeartbeats 16000000 in
theorem rcFrame1 (ss : List RS) (gs : List RG) (cR : Pure Tryz.prog 24 [figA ss gs] (iv 0)) (ho : FigOk ss) :
    Pure Tryz.prog 16 [figA ss gs] (if (List.range ss.length).any (bigN ss) = true then .tup [.agg [.v (.slice none 0 0), .v (.slice none 0 0)], iv 4] else .tup [frmA (frN ss ss.length).cs (frN ss ss.length).vs, iv 0]) := by
  have cR : Pure Tryz.prog 24 [.agg [.sl 6 (ss.map RS.av), .sl 5 (gs.map RG.av)]] (iv 0) := cR
  show Pure _ _ [.agg [.sl 6 (ss.map RS.av), .sl 5 (gs.map RG.av)]] _
  have hg : ∀ i (h : i < ss.length), (ss.map RS.av).getD i .u = ss[i].av := fun i h => map_atB RS.av h
  have hls : (ss.map RS.av).length = ss.length := List.length_map ..
  have hlen := ho.len
  have hN : ∀ (i : Nat) (hlt : i < ss.length) (svC svV : Value) (m' : Mem), m' 21 = some (.row svV 56 3 ((frN ss i).vs.map Vt.av) 0) → m' 20 = some (.row svC 72 2 ((frN ss i).cs.map coA) 0) → (frN ss i).vs.length ≤ 64 → StOk (frN ss i).cs ss[i] → (∀ c ∈ (frN ss i).cs, Co c.1 ∧ Co c.2) →
      ACall Tryz.prog 53 [.agg [.own 20 svC, .own 21 svV], .agg [.sl 6 (ss.map RS.av), .sl 5 (gs.map RG.av)], iv i, iv (frN ss i).fr] m' fun r σ' => ∃ sv, r = .tup [.agg [.own 20 svC, .own 21 sv], coA ((frN ss i).nxt i ss[i]).2] ∧ σ' = upd m' 21 (some (.row sv 56 3 (((frN ss i).vs ++ ((frN ss i).nxt i ss[i]).1).map Vt.av) 0)) :=
    fun i hlt svC svV m' hV hC h1 h2 h3 => rcNext m' 20 21 svC svV (frN ss i).cs (frN ss i).vs (frN ss i).fr i ss gs ss[i] hlt rfl hV hC (by omega) h1 (by have := frN_fr ss i; omega) (by omega) h2 h3
  generalize ss.map RS.av = M at *
  generalize gs.map RG.av = N at *
  refine pure_intro (tok := 0) Tryz.func16 rfl Tryz.ntmps16 Tryz.results16 Tryz.call16 (by rfl) (by simp) ?_
  (focus (refine wkap (w_a hls w_t) (w_a cR w_t) (w_r 0) ?_; (repeat' first | exact w_t | apply w_l); all_goals intros))
  rename_i g1 g2 g5
  refine r_frz (Frz.nilBox (k := 5) 0 20 2 72 (by exact gC) rfl (by omega)) ?_
  refine r_frz (Frz.nilBox (k := 5) 1 21 3 56 (by exact gC) rfl (by omega)) ?_
  refine r_loopE (ι := Nat) (fun i e m => i ≤ ss.length ∧ e 1 = .pbox 1 g1 0 ∧ m 1 = some (.box g1 25 [.sl 6 M, .sl 5 N] false) ∧ e 2 = .pbox 2 g2 0 ∧ m 2 = some (.box g2 30 [.v (.slice none 0 0), .v (.slice none 0 0)] false) ∧ e 5 = .pbox 5 g5 0 ∧ e 6 = iv (frN ss i).fr ∧ e 18 = .sl 6 M ∧ e 19 = iv ss.length ∧ e 20 = iv i ∧ (∃ svC svV, m 5 = some (.box g5 30 [.own 20 svC, .own 21 svV] false) ∧ m 20 = some (.row svC 72 2 ((frN ss i).cs.map coA) 0) ∧ m 21 = some (.row svV 56 3 ((frN ss i).vs.map Vt.av) 0)) ∧ ∀ j, j < i → bigN ss j = false) (fun i => ss.length - i) 0 (by rfl) ?_ ?_
  · rintro i e m ⟨hi, e1, m1, e2, m2, e5, e6, e18, e19, e20, ⟨svC, svV, m5, m20, m21⟩, hbig⟩
    by_cases hlt : i < ss.length
    · have hgi := hg i hlt
      obtain ⟨D, hD, hn⟩ := ho.fi hi hbig
      have hco := hD.co hn
      have hst := ho.st hlt
      have hfr := frN_fr ss i
      have hnv := hD.nv
      have hb := bigN_at hlt
      have hsu := frN_succ hlt
      have hn3 := nxt_vars (frN ss i) i ss[i]
      have hcl := frN_len ss i
      have hst2 := fun m' hV hC => hN i hlt svC svV m' hV hC hnv hst hco
      clear hD hco hst hN hg cR
      generalize hs : ss[i] = s at *
      generalize hf : frN ss i = f at *
      generalize hx : f.nxt i s = nx at *
      obtain ⟨nv, c1, c2⟩ := nx
      obtain ⟨k, nm, ar, ⟨rs, rl, rd⟩⟩ := s
      obtain ⟨cs, vs, fr⟩ := f
      simp only at *
      (focus (refine wkap (w_a e1 (w_a m1 (w_a e2 (w_a m2 (w_a e5 (w_a e6 (w_a e18 (w_a e19 (w_a e20 (w_a m5 (w_a m20 (w_a m21 (w_a hgi (w_a hls w_t)))))))))))))) w_t (w_r 0) ?_; (repeat' first | exact w_t | apply w_l); all_goals intros))
      refine o_fresh (hst2 _ (by exact gW m21) (by exact gW m20)) ?_
      intro sv
      have hvl : ((vs ++ nv).map Vt.av).length = (vs ++ nv).length := List.length_map ..
      have hvl2 : (vs ++ nv).length ≤ 67 := by rw [List.length_append]; omega
      have hnx : ∀ j, j < i + 1 → bigN ss i = false → bigN ss j = false := fun j hj h => by
        by_cases e : j = i
        · rw [e]; exact h
        · exact hbig j (by omega)
      have hany : bigN ss i = true → (List.range ss.length).any (bigN ss) = true := fun h => List.any_eq_true.2 ⟨i, List.mem_range.2 hlt, h⟩
      generalize vs ++ nv = vs2 at *
      have hc1 : (c1.map tmA).length = c1.length := List.length_map ..
      have hc2 : (c2.map tmA).length = c2.length := List.length_map ..
      have hcsl : (cs.map coA).length = cs.length := List.length_map ..
      by_cases b1 : 64 < vs2.length
      · rw [if_pos (hany (by rw [hb]; simp [b1]))]
        (focus (refine wklp (w_a e1 (w_a e2 (w_a m2 (w_a e5 (w_a e6 (w_a e18 (w_a e19 (w_a e20 (w_a m5 (w_a m20 (w_a hvl (w_a hls w_t)))))))))))) w_t (w_a e2 w_t) (w_r 0) ?_; (repeat' first | exact w_t | apply w_l); all_goals intros))
      · by_cases b2 : 4000 < c1.length
        · rw [if_pos (hany (by rw [hb]; simp [b2]))]
          (focus (refine wklp (w_a e1 (w_a e2 (w_a m2 (w_a e5 (w_a e6 (w_a e18 (w_a e19 (w_a e20 (w_a m5 (w_a m20 (w_a hvl (w_a hc1 (w_a hls w_t))))))))))))) w_t (w_a e2 w_t) (w_r 0) ?_; (repeat' first | exact w_t | apply w_l); all_goals intros))
        · by_cases b3 : 4000 < c2.length
          · rw [if_pos (hany (by rw [hb]; simp [b3]))]
            (focus (refine wklp (w_a e1 (w_a e2 (w_a m2 (w_a e5 (w_a e6 (w_a e18 (w_a e19 (w_a e20 (w_a m5 (w_a m20 (w_a hvl (w_a hc1 (w_a hc2 (w_a hls w_t)))))))))))))) w_t (w_a e2 w_t) (w_r 0) ?_; (repeat' first | exact w_t | apply w_l); all_goals intros))
          · have hbf : bigN ss i = false := by rw [hb]; simp [b1, b2, b3]
            clear hany
            by_cases k1 : k = 1
            · subst k1
              (focus (refine wkap (w_a e1 (w_a e2 (w_a m2 (w_a e5 (w_a e6 (w_a e18 (w_a e19 (w_a e20 (w_a m5 (w_a m20 (w_a hvl (w_a hc1 (w_a hc2 (w_a hcsl (w_a hls w_t))))))))))))))) w_t (w_r 0) ?_; (repeat' first | exact w_t | apply w_l); all_goals intros))
              rename_i svC2
              refine ⟨i + 1, ⟨by omega, by exact gW e1, by exact gW m1, by exact gW e2, by exact gW m2, by exact gW e5, by (rw [hsu]; exact gS), by exact gW e18, by exact gW e19, by exact gS, ⟨svC2, sv, ?_, ?_, ?_⟩, fun j hj => hnx j hj hbf⟩, by omega⟩
              · (simp (disch := omega) only [go_sem, List.set_cons_zero] <;> repeat' first | rfl | refine ⟨?_, ?_⟩)
              · rw [hsu, List.map_append]; exact gC
              · rw [hsu]; exact gC
            · (focus (refine wkap (w_a e1 (w_a e2 (w_a m2 (w_a e5 (w_a e6 (w_a e18 (w_a e19 (w_a e20 (w_a m5 (w_a m20 (w_a hvl (w_a hc1 (w_a hc2 (w_a hcsl (w_a hls w_t))))))))))))))) w_t (w_r 0) ?_; (repeat' first | exact w_t | apply w_l); all_goals intros))
              rename_i svC2
              refine ⟨i + 1, ⟨by omega, by exact gW e1, by exact gW m1, by exact gW e2, by exact gW m2, by exact gW e5, by (rw [hsu]; simp only [if_neg k1]; exact gW e6), by exact gW e18, by exact gW e19, by exact gS, ⟨svC2, sv, ?_, ?_, ?_⟩, fun j hj => hnx j hj hbf⟩, by omega⟩
              · (simp (disch := omega) only [go_sem, List.set_cons_zero] <;> repeat' first | rfl | refine ⟨?_, ?_⟩)
              · rw [hsu, List.map_append]; exact gC
              · rw [hsu]; exact gC
    · have hin : i = ss.length := by omega
      subst hin
      have hno : ¬ (List.range ss.length).any (bigN ss) = true := by
        rw [List.any_eq_true]
        rintro ⟨j, hj, hb⟩
        rw [hbig j (List.mem_range.1 hj)] at hb
        cases hb
      rw [if_neg hno]
      clear hN hg
      generalize (frN ss ss.length).fr = fr at *
      generalize (frN ss ss.length).cs = cs at *
      generalize (frN ss ss.length).vs = vs at *
      (focus (refine wklp (w_a e1 (w_a e2 (w_a m2 (w_a e5 (w_a e6 (w_a e18 (w_a e19 (w_a e20 (w_a m5 (w_a m20 (w_a m21 (w_a hls w_t)))))))))))) w_t (w_a e2 (w_a m2 (w_a m5 (w_a m20 (w_a m21 w_t))))) (w_r 0) ?_; (repeat' first | exact w_t | apply w_l); all_goals intros))
  · exact ⟨Nat.zero_le _, by exact gC, by exact gC, by exact gC, by exact gC, by exact gC, by (simp (disch := omega) only [go_sem, frN] <;> repeat' first | rfl | refine ⟨?_, ?_⟩), by exact gC, by exact gW hls, by exact gC, ⟨_, _, by (simp (disch := omega) only [go_sem, List.set_cons_zero, List.set_cons_succ, frN] <;> repeat' first | rfl | refine ⟨?_, ?_⟩), by (simp (disch := omega) only [go_sem, frN, List.map_nil] <;> repeat' first | rfl | refine ⟨?_, ?_⟩), by (simp (disch := omega) only [go_sem, frN, List.map_nil] <;> repeat' first | rfl | refine ⟨?_, ?_⟩)⟩, fun j hj => by omega⟩
end Go.Proofs.YtbgmnobnaplmlaaGreat
end

section
namespace Go.Proofs.YtbgmnobnaplmlaaGreat
open Go Go.RowKit Go.Pg Go.Pol
set_option linter.unusedSimpArgs false
set_option linter.unusedVariables false
set_option maxRecDepth 20000
attribute [local go_sem] Tryz.underlying3 Tryz.underlying4 Tryz.underlying178 Tryz.underlying9 Tryz.underlying48 Tryz.underlying31 Tryz.underlying43 Tryz.underlying41 Tryz.underlying39 Tryz.underlying50 Tryz.underlying22 Tryz.underlying25 Tryz.underlying56 Tryz.underlying28 Tryz.underlying72 Tryz.underlying27 Tryz.underlying30 Tryz.underlying105 Tryz.underlying107 Tryz.underlying70 Tryz.underlying63 Tryz.underlying103 Tryz.underlying154 sz3 by3 z3 szB zB szErr zErr szStr byStr zStr szRat zRat szInt zInt szNat zNat szStep byStep zStep szFig zFig szSlI zSlI szSlS zSlS szVar byVar zVar szSlV zSlV szCoord byCoord zCoord szSlC zSlC szFrame zFrame szCBld byCBld zCBld szCVec byCVec zCVec szPoly byPoly zPoly szTerm zTerm szPtrB zPtrB szFnC zFnC
attribute [-bool_to_prop] Bool.and_eq_decide Bool.or_eq_decide Bool.decide_beq_decide decide_eq_decide
end Go.Proofs.YtbgmnobnaplmlaaGreat
end

section
namespace Go.Proofs.YtbgmnobnaplmlaaGreat
open Go Go.RowKit Go.Pg Go.Pol
set_option linter.unusedSimpArgs false
set_option linter.unusedVariables false
set_option maxRecDepth 20000
attribute [local go_sem] Tryz.underlying3 Tryz.underlying4 Tryz.underlying178 Tryz.underlying9 Tryz.underlying48 Tryz.underlying31 Tryz.underlying43 Tryz.underlying41 Tryz.underlying39 Tryz.underlying50 Tryz.underlying22 Tryz.underlying25 Tryz.underlying56 Tryz.underlying28 Tryz.underlying72 Tryz.underlying27 Tryz.underlying30 Tryz.underlying105 Tryz.underlying107 Tryz.underlying70 Tryz.underlying63 Tryz.underlying103 Tryz.underlying154 sz3 by3 z3 szB zB szErr zErr szStr byStr zStr szRat zRat szInt zInt szNat zNat szStep byStep zStep szFig zFig szSlI zSlI szSlS zSlS szVar byVar zVar szSlV zSlV szCoord byCoord zCoord szSlC zSlC szFrame zFrame szCBld byCBld zCBld szCVec byCVec zCVec szPoly byPoly zPoly szTerm zTerm szPtrB zPtrB szFnC zFnC Tryz.underlying135 szHVec byHVec zHVec Tryz.underlying78 szSlP zSlP Tryz.underlying124 Tryz.underlying23 szL byL zL szFact byFact zFact szSlF zSlF
attribute [-bool_to_prop] Bool.and_eq_decide Bool.or_eq_decide Bool.decide_beq_decide decide_eq_decide
/-- The hypotheses are polynomials of a bounded size. -/
theorem eqs_pb {k : Int} {a b c d x : Pt} {t : Po} (ha : CB a) (hb : CB b) (hc : CB c) (hd : CB d) (hx : CB x) (ht : PB t 1 1 1) : ∀ p ∈ eqsM k a b c d x t, PB p 30000 800000 24 := by
  have cr : ∀ {a b c d : Pt}, CB a → CB b → CB c → CB d → PB (crossM a b c d) 30000 800000 24 := fun h1 h2 h3 h4 => (h1.cross h2 h3 h4).mono (by omega) (by omega) (by omega)
  have dt : ∀ {a b c d : Pt}, CB a → CB b → CB c → CB d → PB (dotM a b c d) 30000 800000 24 := fun h1 h2 h3 h4 => (h1.dot h2 h3 h4).mono (by omega) (by omega) (by omega)
  have df : ∀ {a b c d : Pt}, CB a → CB b → CB c → CB d → PB (diffM a b c d) 30000 800000 24 := fun h1 h2 h3 h4 => ((h1.dot h2 h1 h2).sub (h3.dot h4 h3 h4)).mono (by omega) (by omega) (by omega)
  have two : ∀ {p q : Po}, PB p 30000 800000 24 → PB q 30000 800000 24 → ∀ u ∈ [p, q], PB u 30000 800000 24 := fun h1 h2 u hu => by
    rcases List.mem_cons.1 hu with rfl | hu
    · exact h1
    · rw [List.mem_singleton] at hu; subst hu; exact h2
  unfold eqsM
  split
  · unfold circM
    obtain ⟨x1, y1⟩ := hb.df ha
    obtain ⟨x2, y2⟩ := hb.df hx
    have zt : PB (mlM t (subM a.2 b.2)) 16 3600 9 := (ht.mul y1).mono (by omega) (by omega) (by omega)
    have zd : PB (addM (subM a.1 b.1) (mlM t (subM a.2 b.2))) 32 3822 9 := (x1.add zt).mono (by omega) (by omega) (by omega)
    have zs : PB (dblM (addM (subM a.1 b.1) (mlM t (subM a.2 b.2)))) 64 7645 9 := zd.dbl.mono (by omega) (by omega) (by omega)
    have zl : PB (slopeM t) 2 5 2 := (one_pb.add (ht.mul ht)).mono (by omega) (by omega) (by omega)
    exact two (((zl.mul x2).sub zs).mono (by omega) (by omega) (by omega)) (((zl.mul y2).sub (ht.mul zs)).mono (by omega) (by omega) (by omega))
  · split
    · exact two (cr hb hc hb hx) (dt hb hc ha hx)
    · split
      · exact two (dt hb hc ha hx) (((hb.cross hc hb ha).add (hb.cross hc hb hx)).mono (by omega) (by omega) (by omega))
      · split
        · exact two (cr ha hb ha hx) (cr hc hd hc hx)
        · split
          · unfold otherM
            obtain ⟨w1, w2⟩ := ha.df hx
            obtain ⟨u1, u2⟩ := ha.df hb
            have zn := ha.dot hb ha hb
            have zs := (ha.dot hc ha hb).dbl
            exact two (((zn.mul w1).sub (zs.mul u1)).mono (by omega) (by omega) (by omega)) (((zn.mul w2).sub (zs.mul u2)).mono (by omega) (by omega) (by omega))
          · split
            · exact two (df ha hx hb hx) (df ha hx hc hx)
            · split
              · exact two (cr ha hb ha hx) (df hc hx hc hd)
              · split
                · exact two (df ha hx ha hb) (df hc hx hc hd)
                · split
                  · exact two (df ha hx ha hb) (df hb hx ha hb)
                  · exact fun u hu => by cases hu
theorem eqE_len (ss : List RS) (i : Nat) : (eqE ss i).length ≤ 2 := eqs_len ..
/-! ### whatever comes in -/
end Go.Proofs.YtbgmnobnaplmlaaGreat
end

section
namespace Go.Proofs.YtbgmnobnaplmlaaGreat
open Go Go.RowKit Go.Pg Go.Pol
set_option linter.unusedSimpArgs false
set_option linter.unusedVariables false
set_option maxRecDepth 20000
attribute [local go_sem] Tryz.underlying3 Tryz.underlying4 Tryz.underlying178 Tryz.underlying9 Tryz.underlying48 Tryz.underlying31 Tryz.underlying43 Tryz.underlying41 Tryz.underlying39 Tryz.underlying50 Tryz.underlying22 Tryz.underlying25 Tryz.underlying56 Tryz.underlying28 Tryz.underlying72 Tryz.underlying27 Tryz.underlying30 Tryz.underlying105 Tryz.underlying107 Tryz.underlying70 Tryz.underlying63 Tryz.underlying103 Tryz.underlying154 sz3 by3 z3 szB zB szErr zErr szStr byStr zStr szRat zRat szInt zInt szNat zNat szStep byStep zStep szFig zFig szSlI zSlI szSlS zSlS szVar byVar zVar szSlV zSlV szCoord byCoord zCoord szSlC zSlC szFrame zFrame szCBld byCBld zCBld szCVec byCVec zCVec szPoly byPoly zPoly szTerm zTerm szPtrB zPtrB szFnC zFnC Tryz.underlying135 szHVec byHVec zHVec Tryz.underlying78 szSlP zSlP Tryz.underlying124 Tryz.underlying23 szL byL zL szFact byFact zFact szSlF zSlF Tryz.underlying61 sz23
attribute [-bool_to_prop] Bool.and_eq_decide Bool.or_eq_decide Bool.decide_beq_decide decide_eq_decide
theorem dgS_bd {S : Nat → Bool} {m : List Int} {e : Nat} (h : ∀ j, 0 ≤ gI m j ∧ gI m j ≤ (e : Int)) : ∀ n, 0 ≤ dgS S m n ∧ dgS S m n ≤ (e : Int) * n
  | 0 => by simp [dgS]
  | n + 1 => by
    have h1 := dgS_bd (S := S) h n
    have h2 := h n
    have e1 : (e : Int) * ((n + 1 : Nat) : Int) = (e : Int) * n + e := by rw [Int.natCast_succ, Int.mul_add, Int.mul_one]
    show 0 ≤ dgS S m n + (if S n = true then gI m n else 0) ∧ dgS S m n + (if S n = true then gI m n else 0) ≤ _
    split <;> omega
set_option maxHeartbeats 8000000 in
theorem lawDeg1 (ss : List RS) (gs : List RG) (cs : List Pt) (vs : List Vt) (i : Nat) (s : RS) (hi : i < ss.length) (hs : ss[i] = s) (hsl : ss.length ≤ 1000) (L : List Po) (W : Nat)
    (cf : Pure Tryz.prog 34 [figA ss gs] (.v (.bool true)))
    (co : Pure Tryz.prog 16 [figA ss gs] (.tup [frmA cs vs, iv 0]))
    (c1 : Pure Tryz.prog 35 [figA ss gs, frmA cs vs, iv i] (.tup [.sl 1 (L.map poA), iv 0]))
    (hW : W ≤ vs.length) (hv : vs.length ≤ 1000) (hst : ∀ v, v < W → (vs.getD v (0, 0, 0)).2.1 ≤ (i : Int)) (hL : ∀ p ∈ L, DP (depS vs i) W (mostD s.k) p) (hLl : L.length ≤ 10)
    (hP : ∀ p ∈ L, p.length ≤ 1000000 ∧ ∀ t ∈ p, ∀ j, 0 ≤ gI t.2 j ∧ gI t.2 j ≤ 24) : Pure Tryz.prog 10 [figA ss gs, iv i] (.v (.bool true)) := by
  have ca := aw22
  have hgi : (ss.map RS.av).getD i .u = s.av := by rw [← hs]; exact map_atB RS.av hi
  have hls : (ss.map RS.av).length = ss.length := List.length_map ..
  have hlv : (vs.map Vt.av).length = vs.length := List.length_map ..
  have hlL : (L.map poA).length = L.length := List.length_map ..
  have hgv : ∀ j (h : j < vs.length), (vs.map Vt.av).getD j .u = Vt.av (vs.getD j (0, 0, 0)) := fun j h => by rw [map_atB Vt.av h, List.getD_eq_getElem?_getD, List.getElem?_eq_getElem h]; rfl
  have hgL : ∀ j (h : j < L.length), (L.map poA).getD j .u = poA L[j] := fun j h => map_atB poA h
  have cf : Pure Tryz.prog 34 [.agg [.sl 6 (ss.map RS.av), .sl 5 (gs.map RG.av)]] (.v (.bool true)) := cf
  have co : Pure Tryz.prog 16 [.agg [.sl 6 (ss.map RS.av), .sl 5 (gs.map RG.av)]] (.tup [.agg [.sl 2 (cs.map coA), .sl 3 (vs.map Vt.av)], iv 0]) := co
  have c1 : Pure Tryz.prog 35 [.agg [.sl 6 (ss.map RS.av), .sl 5 (gs.map RG.av)], .agg [.sl 2 (cs.map coA), .sl 3 (vs.map Vt.av)], iv i] (.tup [.sl 1 (L.map poA), iv 0]) := c1
  show Pure _ _ [.agg [.sl 6 (ss.map RS.av), .sl 5 (gs.map RG.av)], iv i] _
  generalize ss.map RS.av = M at *
  generalize gs.map RG.av = N at *
  generalize cs.map coA = C at *
  generalize vs.map Vt.av = V at *
  generalize L.map poA = LA at *
  clear hs
  obtain ⟨k0, nm, ar, ⟨rs, rl, rd⟩⟩ := s
  simp only at hL
  obtain ⟨mo, hmo⟩ : ∃ mo, mo = mostD k0 := ⟨_, rfl⟩
  rw [← hmo] at hL
  unfold mostD at hmo
  refine pure_intro (tok := 0) Tryz.func10 rfl Tryz.ntmps10 Tryz.results10 Tryz.call10 (by rfl) (by simp) ?_
  (focus (refine wkap (w_a hgi (w_a hls (w_a hlL w_t))) (w_a cf (w_a co (w_a c1 (w_a ca w_t)))) (w_r 0) ?_; (repeat' first | exact w_t | apply w_l); all_goals intros))
  all_goals
    refine r_loopE (ι := Nat) (fun k e m => k ≤ L.length ∧ e 1 = iv i ∧ (∃ g5, e 5 = .pbox 5 g5 0 ∧ m 5 = some (.box g5 30 [.sl 2 C, .sl 3 V] false)) ∧ e 8 = iv 0 ∧ e 10 = iv mo ∧ e 63 = .sl 1 LA ∧ e 64 = iv L.length ∧ e 65 = iv k) (fun k => L.length - k) 0 (by rfl) ?_ ?_
    · clear hmo
      rintro k e m ⟨hk, e1, ⟨g5, e5, m5⟩, e8, e10, e63, e64, e65⟩
      by_cases hlt : k < L.length
      · have hgk : LA.getD k .u = .sl 4 (L[k].map tmA) := hgL k hlt
        have hLk := hL _ (List.getElem_mem hlt)
        obtain ⟨hpl, hPk⟩ := hP _ (List.getElem_mem hlt)
        generalize L[k] = p at *
        have hlp : (p.map tmA).length = p.length := List.length_map ..
        have hgp : ∀ j (h : j < p.length), (p.map tmA).getD j .u = tmA p[j] := fun j h => map_atB tmA h
        generalize p.map tmA = PA at *
        (focus (refine wkap (w_a e1 (w_a e5 (w_a m5 (w_a e8 (w_a e10 (w_a e63 (w_a e64 (w_a e65 (w_a hlL (w_a hgk (w_a hlp w_t))))))))))) w_t (w_r 0) ?_; (repeat' first | exact w_t | apply w_l); all_goals intros))
        refine r_loopE (ι := Nat) (fun j e m => j ≤ p.length ∧ e 1 = iv i ∧ e 5 = .pbox 5 g5 0 ∧ m 5 = some (.box g5 30 [.sl 2 C, .sl 3 V] false) ∧ e 8 = iv 0 ∧ e 10 = iv mo ∧ e 63 = .sl 1 LA ∧ e 64 = iv L.length ∧ e 65 = iv k ∧ e 69 = .sl 4 PA ∧ e 70 = iv p.length ∧ e 71 = iv j) (fun j => p.length - j) 0 (by rfl) ?_ ?_
        · clear e1 e5 m5 e8 e10 e63 e64 e65
          rintro j e m ⟨hj, e1, e5, m5, e8, e10, e63, e64, e65, e69, e70, e71⟩
          by_cases hjt : j < p.length
          · have hgj := hgp j hjt
            obtain ⟨hml, hmd⟩ := hLk _ (List.getElem_mem hjt)
            have hex := hPk _ (List.getElem_mem hjt)
            generalize p[j] = t at *
            obtain ⟨q, mn⟩ := t
            simp only at hml hmd hex
            have hgj : PA.getD j .u = .agg [.v (.bool (decide (q.num < 0))), lim (toL q.num.natAbs), lim (toL q.den), .sl 1 (mn.map iv)] := hgj
            have hlm : (mn.map iv).length = mn.length := List.length_map ..
            have hgm : ∀ v (h : v < mn.length), (mn.map iv).getD v .u = iv (gI mn v) := fun v h => by rw [map_atB iv h, gI_at h]
            generalize decide (q.num < 0) = q1 at *
            generalize toL q.num.natAbs = q2 at *
            generalize toL q.den = q3 at *
            generalize mn.map iv = MA at *
            have hfin : dgS (depS vs i) mn mn.length ≤ mo := by
              have := dgS_len (depS vs i) mn (W - mn.length)
              rw [show mn.length + (W - mn.length) = W by omega] at this
              omega
            clear hmd
            (focus (refine wkap (w_a e1 (w_a e5 (w_a m5 (w_a e8 (w_a e10 (w_a e63 (w_a e64 (w_a e65 (w_a e69 (w_a e70 (w_a e71 (w_a hgj (w_a hlp w_t))))))))))))) w_t (w_r 0) ?_; (repeat' first | exact w_t | apply w_l); all_goals intros))
            rename_i g14
            refine r_loopE (ι := Nat) (fun v e m => v ≤ mn.length ∧ e 1 = iv i ∧ e 5 = .pbox 5 g5 0 ∧ m 5 = some (.box g5 30 [.sl 2 C, .sl 3 V] false) ∧ e 8 = iv 0 ∧ e 10 = iv mo ∧ e 63 = .sl 1 LA ∧ e 64 = iv L.length ∧ e 65 = iv k ∧ e 69 = .sl 4 PA ∧ e 70 = iv p.length ∧ e 71 = iv j ∧ e 14 = .pbox 14 g14 0 ∧ m 14 = some (.box g14 63 [.v (.bool q1), lim q2, lim q3, .sl 1 MA] false) ∧ e 15 = iv (dgS (depS vs i) mn v) ∧ e 16 = iv v) (fun v => mn.length - v) 0 (by rfl) ?_ ?_
            · clear e1 e5 m5 e8 e10 e63 e64 e65 e69 e70 e71
              rintro v e m ⟨hvl, e1, e5, m5, e8, e10, e63, e64, e65, e69, e70, e71, e14, m14, e15, e16⟩
              by_cases hvt : v < mn.length
              · have hvs := hst v (by omega)
                have hgw := hgv v (by omega)
                have hgx := hgm v hvt
                have hbd := dgS_bd (S := depS vs i) (e := 24) hex v
                have hx := hex v
                have hb2 : 0 ≤ dgS (depS vs i) mn v ∧ dgS (depS vs i) mn v ≤ 24000 := by omega
                have hwr : IntKind.i64.wrap (dgS (depS vs i) mn v + gI mn v) = dgS (depS vs i) mn v + gI mn v := wrap_i64 (by omega) (by omega)
                have hy1 : (vs.getD v (0, 0, 0)).2.1 = (i : Int) → (vs.getD v (0, 0, 0)).1 = 2 → dgS (depS vs i) mn (v + 1) = dgS (depS vs i) mn v + gI mn v := fun h1 h2 => by
                  show dgS (depS vs i) mn v + (if depS vs i v = true then gI mn v else 0) = _
                  rw [if_pos (by unfold depS; rw [decide_eq_true h1, decide_eq_true h2]; rfl)]
                have hy0 : ¬ ((vs.getD v (0, 0, 0)).2.1 = (i : Int) ∧ (vs.getD v (0, 0, 0)).1 = 2) → dgS (depS vs i) mn (v + 1) = dgS (depS vs i) mn v := fun h => by
                  show dgS (depS vs i) mn v + (if depS vs i v = true then gI mn v else 0) = _
                  rw [if_neg (fun hb => h (by unfold depS at hb; rwa [Bool.and_eq_true, decide_eq_true_eq, decide_eq_true_eq] at hb)), Int.add_zero]
                have hvv : v < vs.length := by omega
                clear hgv hgm hgp hgL hst hLk hPk hL hP hex
                generalize dgS (depS vs i) mn v = y at *
                generalize gI mn v = x at *
                generalize vs.getD v (0, 0, 0) = w at *
                obtain ⟨w1, w2, w3⟩ := w
                simp only at hvs hy1 hy0
                (focus (refine wkap (w_a e1 (w_a e5 (w_a m5 (w_a e8 (w_a e10 (w_a e63 (w_a e64 (w_a e65 (w_a e69 (w_a e70 (w_a e71 (w_a e14 (w_a m14 (w_a e15 (w_a e16 (w_a hlm (w_a hlv (w_a hgw (w_a hgx (w_a hwr w_t)))))))))))))))))))) w_t (w_r 0) ?_; (repeat' first | exact w_t | apply w_l); all_goals intros))
                all_goals
                  exact ⟨v + 1, ⟨by omega, by exact gW e1, by exact gW e5, by exact gW m5, by exact gW e8, by exact gW e10, by exact gW e63, by exact gW e64, by exact gW e65, by exact gW e69, by exact gW e70, by exact gW e71, by exact gW e14, by exact gW m14, by (first | rw [hy1 (by omega) (by omega)] | rw [hy0 (by omega)]); exact gW (And.intro e15 hwr), by exact gV e16⟩, by omega⟩
              · obtain rfl : v = mn.length := by omega
                generalize dgS (depS vs i) mn mn.length = y at *
                (focus (refine wkap (w_a e1 (w_a e5 (w_a m5 (w_a e8 (w_a e10 (w_a e63 (w_a e64 (w_a e65 (w_a e69 (w_a e70 (w_a e71 (w_a e14 (w_a m14 (w_a e15 (w_a e16 (w_a hlm w_t)))))))))))))))) w_t (w_r 0) ?_; (repeat' first | exact w_t | apply w_l); all_goals intros))
                exact ⟨j + 1, ⟨by omega, by exact gW e1, by exact gW e5, by exact gW m5, by exact gW e8, by exact gW e10, by exact gW e63, by exact gW e64, by exact gW e65, by exact gW e69, by exact gW e70, by exact gV e71⟩, by omega⟩
            · exact ⟨Nat.zero_le _, by exact gW e1, by exact gW e5, by exact gW m5, by exact gW e8, by exact gW e10, by exact gW e63, by exact gW e64, by exact gW e65, by exact gW e69, by exact gW e70, by exact gW e71, by exact gC, by exact gC, by exact gC, by exact gC⟩
          · (focus (refine wkap (w_a e1 (w_a e5 (w_a m5 (w_a e8 (w_a e10 (w_a e63 (w_a e64 (w_a e65 (w_a e69 (w_a e70 (w_a e71 (w_a hlp w_t)))))))))))) w_t (w_r 0) ?_; (repeat' first | exact w_t | apply w_l); all_goals intros))
            exact ⟨k + 1, ⟨by omega, by exact gW e1, ⟨_, by exact gW e5, by exact gW m5⟩, by exact gW e8, by exact gW e10, by exact gW e63, by exact gW e64, by exact gV e65⟩, by omega⟩
        · exact ⟨Nat.zero_le _, by exact gW e1, by exact gW e5, by exact gW m5, by exact gW e8, by exact gW e10, by exact gW e63, by exact gW e64, by exact gW e65, by exact gC, by exact gW hlp, by exact gC⟩
      · (focus (refine wklp (w_a e1 (w_a e5 (w_a m5 (w_a e8 (w_a e10 (w_a e63 (w_a e64 (w_a e65 (w_a hlL w_t))))))))) (w_a ca w_t) w_t (w_r 0) ?_; (repeat' first | exact w_t | apply w_l); all_goals intros))
    · first | have hm : mo = 2 := hmo.trans (if_pos (by omega)) | have hm : mo = 1 := hmo.trans (if_neg (by omega))
      exact ⟨Nat.zero_le _, by exact gC, ⟨_, by exact gC, by exact gC⟩, by exact gC, by exact gW hm, by exact gC, by (simp (disch := omega) only [go_sem, hlL] <;> repeat' first | rfl | refine ⟨?_, ?_⟩), by exact gC⟩
theorem lawDegN (ss : List RS) (gs : List RG) (i : Int) (b : Bool) (hsl : ss.length ≤ 1000000000) (hi : b = true → i < 0 ∨ (ss.length : Int) ≤ i) (cs : List Pt) (vs : List Vt) (cf : Pure Tryz.prog 34 [figA ss gs] (.v (.bool b)))
    (co : b = true → Pure Tryz.prog 16 [figA ss gs] (.tup [frmA cs vs, iv 0])) : Pure Tryz.prog 10 [figA ss gs, iv i] (.v (.bool true)) := by
  have ca := aw22
  have hls : (ss.map RS.av).length = ss.length := List.length_map ..
  have cf : Pure Tryz.prog 34 [.agg [.sl 6 (ss.map RS.av), .sl 5 (gs.map RG.av)]] (.v (.bool b)) := cf
  have co : b = true → Pure Tryz.prog 16 [.agg [.sl 6 (ss.map RS.av), .sl 5 (gs.map RG.av)]] (.tup [.agg [.sl 2 (cs.map coA), .sl 3 (vs.map Vt.av)], iv 0]) := co
  show Pure _ _ [.agg [.sl 6 (ss.map RS.av), .sl 5 (gs.map RG.av)], iv i] _
  generalize ss.map RS.av = M at *
  generalize gs.map RG.av = N at *
  generalize cs.map coA = C at *
  generalize vs.map Vt.av = V at *
  cases b with
  | false =>
    clear co hi
    refine pure_intro (tok := 0) Tryz.func10 rfl Tryz.ntmps10 Tryz.results10 Tryz.call10 (by rfl) (by simp) ?_
    (focus (refine wklp w_t (w_a cf (w_a ca w_t)) w_t (w_r 0) ?_; (repeat' first | exact w_t | apply w_l); all_goals intros))
  | true =>
    have co := co rfl
    have hi := hi rfl
    rcases hi with h | h
    all_goals
      refine pure_intro (tok := 0) Tryz.func10 rfl Tryz.ntmps10 Tryz.results10 Tryz.call10 (by rfl) (by simp) ?_
      (focus (refine wklp (w_a hls (w_a h w_t)) (w_a cf (w_a co (w_a ca w_t))) w_t (w_r 0) ?_; (repeat' first | exact w_t | apply w_l); all_goals intros))
theorem lawDegrees (ss : List RS) (gs : List RG) (i : Int) (h1 : ss.length ≤ 1000000000) (h2 : gs.length ≤ 1000000000) (hs : ∀ s ∈ ss, s.sm) (hg : ∀ g ∈ gs, g.sm) : Pure Tryz.prog 10 [figA ss gs, iv i] (.v (.bool true)) := by
  have cR := rlRight ss gs h1 h2 hs hg
  have cf := rlFew ss gs cR
  cases hf : fewB ss gs with
  | false =>
    rw [hf] at cf
    exact lawDegN ss gs i false h1 (fun h => by cases h) [] [] cf (fun h => by cases h)
  | true =>
    rw [hf] at cf
    obtain ⟨hl, he, ok, ht⟩ := few_in hs hf
    rw [he] at cR
    have ro := rcFrame1 ss gs cR ok
    have hcb := few_cb hl ok ht
    have hb : ¬ (List.range ss.length).any (bigN ss) = true := by
      rw [List.any_eq_true]
      rintro ⟨j, hj, hb⟩
      rw [hcb.1 j (List.mem_range.1 hj)] at hb
      cases hb
    rw [if_neg hb] at ro
    by_cases hi : 0 ≤ i ∧ i < (ss.length : Int)
    · obtain ⟨n, rfl⟩ : ∃ n : Nat, i = n := ⟨i.toNat, by omega⟩
      have hn : n < ss.length := by omega
      obtain ⟨d1, d2, d3⟩ := eqE_dp hl ok ht hn
      have hvl := vs_le ss ss.length
      have hel := eqE_len ss n
      refine lawDeg1 ss gs _ _ n ss[n] hn rfl (by omega) (eqE ss n) _ cf ro (hySt hl ok ht hn) d1 (by omega) d2 d3 (by omega) fun p hp => ?_
      have pb := eqs_pb (hcb.2 _) (hcb.2 _) (hcb.2 _) (hcb.2 _) (hcb.2 _) (parM_pb _ _) p hp
      exact ⟨Nat.le_trans pb.l (by decide), fun t ht j => (pb.k t ht).2.2 j⟩
    · exact lawDegN ss gs i true h1 (fun _ => by omega) _ _ cf (fun _ => ro)
theorem saidDegrees (xs : List AV) (h : ShapeL Tryz.prog 1048576 9 [25, 3] xs) : Pure Tryz.prog 10 xs (.v (.bool true)) := by
  obtain ⟨x, bs, rfl, h1, h⟩ := h.inv
  obtain ⟨y, bs, rfl, h2, h⟩ := h.inv
  obtain rfl := h.inv0
  obtain ⟨ss, gs, e, hl, kl, hq, kq⟩ := shFigure h1
  obtain ⟨k, rfl, _⟩ := shape_int Tryz.underlying3 h2
  rw [e, wrapA_one agInt]
  exact lawDegrees ss gs k (by omega) (by omega) (fun s hs => ⟨lm_mono (hq s hs).1 (by decide), Nat.le_trans (hq s hs).2.1 (by decide), Nat.le_trans (hq s hs).2.2 (by decide)⟩) (fun g hg => ⟨lm_mono (kq g hg).1 (by decide), Nat.le_trans (kq g hg).2 (by decide)⟩)
end Go.Proofs.YtbgmnobnaplmlaaGreat
end
