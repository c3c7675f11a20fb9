/- Contracts of the functions that the law reaches, and the rules by which they are walked. They say what a call hands back for every input within the bounds that each names; no other condition. -/
import Derived.Test.YtbgmnobnaplmlaaGreatBc4
section
namespace Go.Proofs.YtbgmnobnaplmlaaGreat
open Go Go.RowKit Go.Pg
set_option linter.unusedSimpArgs false
set_option linter.unusedVariables false
set_option maxRecDepth 20000
attribute [local go_sem] Tryz.underlying3 Tryz.underlying4 Tryz.underlying5 Tryz.underlying9 Tryz.underlying93 sz3 by3 z3 szStr byStr zStr
attribute [-bool_to_prop] Bool.and_eq_decide Bool.or_eq_decide Bool.decide_beq_decide decide_eq_decide
theorem kwL_len : kwL.length = 29 := rfl
set_option maxHeartbeats 4000000 in
theorem nmName (s : ByteArray) (hs : s.size ≤ 1000000000) : Pure Tryz.prog 175 [strA s] (.v (.bool (namB s))) := by
  have he := str_nil s
  unfold namB
  by_cases h0 : 0 < s.size ∧ s.size ≤ 20
  · rw [decide_eq_true h0, Bool.true_and]
    have h00 : (decide (s.size = 0)) = false := decide_eq_false (by omega)
    rw [h00] at he
    have hk := nmKind (gB s 0) (gB_lt s 0)
    have hg := gB_at s 0
    have kl := kinB_let (gB s 0)
    cases hl : letB (gB s 0) with
    | false =>
      have hx : kinB (gB s 0) ≠ 2 := fun h => by rw [kl.1 h] at hl; cases hl
      clear kl
      rw [Bool.false_and]
      generalize kinB (gB s 0) = x at *
      refine pure_intro (tok := 0) Tryz.func175 rfl Tryz.ntmps175 Tryz.results175 Tryz.call175 (by rfl) (by simp) ?_
      (focus (refine wklp (w_a he (w_a hg w_t)) (w_a hk w_t) w_t (w_r 0) ?_; (repeat' first | exact w_t | apply w_l); all_goals intros))
    | true =>
      have hx : kinB (gB s 0) = 2 := kl.2 hl
      rw [hx] at hk
      rw [Bool.true_and]
      obtain ⟨n, ce, hn, hall⟩ := nmEnd s hs
      cases ha : (List.range s.size).all (fun k => letB (gB s k) || digB (gB s k)) with
      | false =>
        have hlt : n < s.size := by
          rcases Nat.lt_or_ge n s.size with h | h
          · exact h
          · rw [hall.1 (by omega)] at ha; cases ha
        rw [Bool.false_and]
        clear hall ha
        refine pure_intro (tok := 0) Tryz.func175 rfl Tryz.ntmps175 Tryz.results175 Tryz.call175 (by rfl) (by simp) ?_
        (focus (refine wklp (w_a he (w_a hg w_t)) (w_a hk (w_a ce w_t)) w_t (w_r 0) ?_; (repeat' first | exact w_t | apply w_l); all_goals intros))
      | true =>
        have hnn : n = s.size := hall.2 ha
        subst hnn
        rw [Bool.true_and]
        clear hall ha hl hx kl
        have ck := nmKeys
        refine pure_intro (tok := 0) Tryz.func175 rfl Tryz.ntmps175 Tryz.results175 Tryz.call175 (by rfl) (by simp) ?_
        (focus (refine wkap (w_a he (w_a hg (w_a @l_map (w_a @kwL_len w_t)))) (w_a hk (w_a ce (w_a ck w_t))) (w_r 0) ?_; (repeat' first | exact w_t | apply w_l); all_goals intros))
        refine r_loopE (ι := Nat) (fun i e m => i ≤ 29 ∧ e 0 = strA s ∧ e 25 = .sl 1 (kwL.map strA) ∧ e 26 = iv 29 ∧ e 27 = iv i ∧ (kwL.take i).any (fun w => w.toList == s.toList) = false) (fun i => 29 - i) 0 (by rfl) ?_ ?_
        · rintro i e m ⟨hi, e0, e25, e26, e27, hno⟩
          by_cases hlt : i < 29
          · have hlt' : i < kwL.length := by rw [kwL_len]; exact hlt
            have hgk := map_atB strA hlt'
            have hsn : kwL.take (i + 1) = kwL.take i ++ [kwL[i]] := List.take_succ_eq_append_getElem hlt'
            have hmem : kwL[i] ∈ kwL := List.getElem_mem hlt'
            generalize kwL[i] = w at *
            cases hw : (w.toList == s.toList) with
            | true =>
              have : kwL.any (fun w => w.toList == s.toList) = true := List.any_eq_true.2 ⟨w, hmem, hw⟩
              rw [this]
              (focus (refine wklp (w_a e0 (w_a e25 (w_a e26 (w_a e27 (w_a hgk (w_a hw (w_a @l_map (w_a @kwL_len w_t)))))))) w_t (w_a @Bool.not_true w_t) (w_r 0) ?_; (repeat' first | exact w_t | apply w_l); all_goals intros))
            | false =>
              (focus (refine wkap (w_a e0 (w_a e25 (w_a e26 (w_a e27 (w_a hgk (w_a hw (w_a @l_map (w_a @kwL_len w_t)))))))) w_t (w_r 0) ?_; (repeat' first | exact w_t | apply w_l); all_goals intros))
              exact ⟨i + 1, ⟨by omega, by exact gW e0, by exact gW e25, by exact gW e26, by exact gS, by rw [hsn, List.any_append, hno]; simp [hw]⟩, by omega⟩
          · have hi2 : i = 29 := by omega
            subst hi2
            rw [show kwL.take 29 = kwL from by rw [← kwL_len, List.take_length]] at hno
            rw [hno]
            (focus (refine wklp (w_a e0 (w_a e25 (w_a e26 (w_a e27 w_t)))) w_t (w_a @Bool.not_false w_t) (w_r 0) ?_; (repeat' first | exact w_t | apply w_l); all_goals intros))
        · exact ⟨Nat.zero_le _, by exact gC, by exact gC, by (simp (disch := omega) only [go_sem, List.length_map, kwL_len] <;> repeat' first | rfl | refine ⟨?_, ?_⟩), by exact gC, by simp⟩
  · rw [decide_eq_false h0, Bool.false_and]
    by_cases h1 : s.size = 0
    · rw [decide_eq_true h1] at he
      refine pure_intro (tok := 0) Tryz.func175 rfl Tryz.ntmps175 Tryz.results175 Tryz.call175 (by rfl) (by simp) ?_
      (focus (refine wklp (w_a he w_t) w_t w_t (w_r 0) ?_; (repeat' first | exact w_t | apply w_l); all_goals intros))
    · rw [decide_eq_false h1] at he
      refine pure_intro (tok := 0) Tryz.func175 rfl Tryz.ntmps175 Tryz.results175 Tryz.call175 (by rfl) (by simp) ?_
      (focus (refine wklp (w_a he w_t) w_t w_t (w_r 0) ?_; (repeat' first | exact w_t | apply w_l); all_goals intros))
theorem decode_1 (s : ByteArray) (k : Nat) (hk : k < s.size) (h : gB s k < 128) : (Utf8.decode s k).2 = 1 := by
  have e : (s[k]'hk).toNat = gB s k := by
    unfold gB
    rw [List.getD_eq_getElem?_getD, List.getElem?_eq_getElem (by simpa using hk)]
    rfl
  rw [decode_ascii s k hk (by omega)]
theorem ld_ascii {c : Nat} (h : (letB c || digB c) = true) : c < 128 := by
  unfold letB digB at h
  simp only [Bool.or_eq_true, decide_eq_true_eq] at h
  omega
set_option maxHeartbeats 4000000 in
theorem rnName (s : ByteArray) (hs : s.size ≤ 1000000000) : Pure Tryz.prog 137 [strA s] (.v (.bool (namB s))) := by
  have he := str_nil s
  unfold namB
  by_cases h0 : 0 < s.size ∧ s.size ≤ 20
  · rw [decide_eq_true h0, Bool.true_and]
    have h00 : (decide (s.size = 0)) = false := decide_eq_false (by omega)
    rw [h00] at he
    have hk := rnLetter (gB s 0) (gB_lt s 0)
    have hg := gB_at s 0
    cases hl : letB (gB s 0) with
    | false =>
      rw [hl] at hk
      rw [Bool.false_and]
      refine pure_intro (tok := 0) Tryz.func137 rfl Tryz.ntmps137 Tryz.results137 Tryz.call137 (by rfl) (by simp) ?_
      (focus (refine wklp (w_a he (w_a hg w_t)) (w_a hk w_t) w_t (w_r 0) ?_; (repeat' first | exact w_t | apply w_l); all_goals intros))
    | true =>
      rw [hl] at hk
      rw [Bool.true_and]
      obtain ⟨n, h1, h2, h3⟩ := exists_end s s.size (Nat.le_refl _)
      have hall : (List.range s.size).all (fun k => letB (gB s k) || digB (gB s k)) = decide (n = s.size) := by
        rw [Bool.eq_iff_iff, List.all_eq_true, decide_eq_true_eq]
        constructor
        · intro h
          rcases Nat.lt_or_ge n s.size with h4 | h4
          · have := h n (List.mem_range.2 h4)
            rw [h3 h4] at this; cases this
          · omega
        · intro h x hx
          exact h2 x (by rw [h]; exact List.mem_range.1 hx)
      rw [hall]
      have ck := rnKeys
      refine pure_introW (rs := [.tmp 2]) Tryz.func137 rfl Tryz.ntmps137 Tryz.results137 Tryz.call137 (by simp) ?_
      refine awp_seq (aCode_sound (tok := 0) _ _ _ (by rfl) ?_)
      (focus (refine wkap w_t w_t (w_r 0) ?_; (repeat' first | exact w_t | apply w_l); all_goals intros))
      refine awp_seq (aCode_sound (tok := 0) _ _ _ (by rfl) ?_)
      (focus (refine wkap (w_a he (w_a hg w_t)) (w_a hk w_t) (w_r 0) ?_; (repeat' first | exact w_t | apply w_l); all_goals intros))
      refine awp_seq ?_
      clear hk hg he hall
      refine awp_range (s := s) (by exact gC) Tryz.underlying9 (by omega) (by omega) (by omega) (by omega) (by omega) (by omega) (by omega) (by rfl) (fun pos e => pos ≤ n ∧ e 0 = strA s) ?_ ?_ (fun pos _ => decode_pos s pos) ?_
      · intro pv
        exact ⟨Nat.zero_le _, by exact gC⟩
      · rintro pos e pv ⟨hp, e0⟩ epv hlt
        have hkl := rnLetter (gB s pos) (gB_lt s pos)
        have hkd := rnDigit (gB s pos) (gB_lt s pos)
        have hg := gB_at s pos
        by_cases hpn : pos < n
        · have hb := h2 pos hpn
          have hd := decode_1 s pos hlt (ld_ascii hb)
          rw [hd]
          generalize (Utf8.decode s pos).1 = cc
          cases hl2 : letB (gB s pos) with
          | true =>
            rw [hl2] at hkl
            (focus (refine wkap (w_a e0 (w_a hg w_t)) (w_a hkl (w_a hkd w_t)) (w_r 0) ?_; (repeat' first | exact w_t | apply w_l); all_goals intros))
            exact ⟨rfl, ⟨by omega, by exact gW e0⟩, by exact gW epv⟩
          | false =>
            rw [hl2, Bool.false_or] at hb
            rw [hl2] at hkl
            rw [hb] at hkd
            (focus (refine wkap (w_a e0 (w_a hg w_t)) (w_a hkl (w_a hkd w_t)) (w_r 0) ?_; (repeat' first | exact w_t | apply w_l); all_goals intros))
            exact ⟨rfl, ⟨by omega, by exact gW e0⟩, by exact gW epv⟩
        · have hpe : pos = n := by omega
          subst hpe
          have hb := h3 hlt
          rw [Bool.or_eq_false_iff] at hb
          rw [hb.1] at hkl
          rw [hb.2] at hkd
          have hne : decide (pos = s.size) = false := decide_eq_false (by omega)
          rw [hne]
          generalize (Utf8.decode s pos).1 = cc
          generalize (Utf8.decode s pos).2 = cw
          (focus (refine wkap (w_a e0 (w_a hg w_t)) (w_a hkl (w_a hkd w_t)) (w_r 0) ?_; (repeat' first | exact w_t | apply w_l); all_goals intros))
          refine ⟨rfl, ?_⟩
          (focus (refine wklp w_t w_t w_t (w_r 0) ?_; (repeat' first | exact w_t | apply w_l); all_goals intros))
      · rintro pos e pv ⟨hp, e0⟩ epv hlt
        have hpe : n = s.size := by omega
        rw [decide_eq_true hpe, Bool.true_and]
        (focus (refine wkap (w_a e0 w_t) w_t (w_r 0) ?_; (repeat' first | exact w_t | apply w_l); all_goals intros))
        refine ⟨rfl, ?_⟩
        refine t_in_exit (t_then ?_)
        refine aCode_sound (tok := 0) _ _ _ (by rfl) ?_
        (focus (refine wkap (w_a e0 (w_a @l_map (w_a @kwL_len w_t))) (w_a ck w_t) (w_r 0) ?_; (repeat' first | exact w_t | apply w_l); all_goals intros))
        refine r_loopE (ι := Nat) (fun i e m => i ≤ 29 ∧ e 0 = strA s ∧ e 36 = .sl 1 (kwL.map strA) ∧ e 37 = iv 29 ∧ e 38 = iv i ∧ (kwL.take i).any (fun w => w.toList == s.toList) = false) (fun i => 29 - i) 0 (by rfl) ?_ ?_
        · rintro i e m ⟨hi, e0, e25, e26, e27, hno⟩
          by_cases hlt : i < 29
          · have hlt' : i < kwL.length := by rw [kwL_len]; exact hlt
            have hgk := map_atB strA hlt'
            have hsn : kwL.take (i + 1) = kwL.take i ++ [kwL[i]] := List.take_succ_eq_append_getElem hlt'
            have hmem : kwL[i] ∈ kwL := List.getElem_mem hlt'
            generalize kwL[i] = w at *
            have hsy : (s.toList == w.toList) = (w.toList == s.toList) := by rw [Bool.eq_iff_iff, beq_iff_eq, beq_iff_eq]; exact eq_comm
            cases hw : (w.toList == s.toList) with
            | true =>
              have : kwL.any (fun w => w.toList == s.toList) = true := List.any_eq_true.2 ⟨w, hmem, hw⟩
              rw [this]
              rw [hw] at hsy
              (focus (refine wklp (w_a e0 (w_a e25 (w_a e26 (w_a e27 (w_a hgk (w_a hsy (w_a @l_map (w_a @kwL_len w_t)))))))) w_t (w_a @Bool.not_true w_t) (w_r 0) ?_; (repeat' first | exact w_t | apply w_l); all_goals intros))
            | false =>
              rw [hw] at hsy
              (focus (refine wkap (w_a e0 (w_a e25 (w_a e26 (w_a e27 (w_a hgk (w_a hsy (w_a @l_map (w_a @kwL_len w_t)))))))) w_t (w_r 0) ?_; (repeat' first | exact w_t | apply w_l); all_goals intros))
              exact ⟨i + 1, ⟨by omega, by exact gW e0, by exact gW e25, by exact gW e26, by exact gS, by rw [hsn, List.any_append, hno]; simp [hw]⟩, by omega⟩
          · have hi2 : i = 29 := by omega
            subst hi2
            rw [show kwL.take 29 = kwL from by rw [← kwL_len, List.take_length]] at hno
            rw [hno]
            (focus (refine wklp (w_a e0 (w_a e25 (w_a e26 (w_a e27 w_t)))) w_t (w_a @Bool.not_false w_t) (w_r 0) ?_; (repeat' first | exact w_t | apply w_l); all_goals intros))
        · exact ⟨Nat.zero_le _, by exact gW e0, by exact gC, by (simp (disch := omega) only [go_sem, List.length_map, kwL_len] <;> repeat' first | rfl | refine ⟨?_, ?_⟩), by exact gC, by simp⟩
  · rw [decide_eq_false h0, Bool.false_and]
    by_cases h1 : s.size = 0
    · rw [decide_eq_true h1] at he
      refine pure_intro (tok := 0) Tryz.func137 rfl Tryz.ntmps137 Tryz.results137 Tryz.call137 (by rfl) (by simp) ?_
      (focus (refine wklp (w_a he w_t) w_t w_t (w_r 0) ?_; (repeat' first | exact w_t | apply w_l); all_goals intros))
    · rw [decide_eq_false h1] at he
      refine pure_intro (tok := 0) Tryz.func137 rfl Tryz.ntmps137 Tryz.results137 Tryz.call137 (by rfl) (by simp) ?_
      (focus (refine wklp (w_a he w_t) w_t w_t (w_r 0) ?_; (repeat' first | exact w_t | apply w_l); all_goals intros))
end Go.Proofs.YtbgmnobnaplmlaaGreat
end

section
namespace Go.Proofs.YtbgmnobnaplmlaaGreat
open Go Go.RowKit Go.Pg Go.Pol
set_option linter.unusedSimpArgs false
set_option linter.unusedVariables false
set_option maxRecDepth 20000
attribute [local go_sem] Tryz.underlying3 Tryz.underlying4 Tryz.underlying178 Tryz.underlying9 Tryz.underlying48 Tryz.underlying31 Tryz.underlying43 Tryz.underlying41 Tryz.underlying39 Tryz.underlying50 Tryz.underlying22 Tryz.underlying124 Tryz.underlying23 Tryz.underlying25 sz3 by3 z3 szB zB szL byL zL szErr zErr szStr byStr zStr szRat zRat szInt zInt szNat zNat szStep byStep zStep szFact byFact zFact szFig zFig szSlI zSlI szSlS zSlS szSlF zSlF
attribute [-bool_to_prop] Bool.and_eq_decide Bool.or_eq_decide Bool.decide_beq_decide decide_eq_decide
theorem irRaw (s : Bool) (l : List Nat) (hl : Lm l) (hs : l.length ≤ 100000000) : Pure Tryz.prog 201 [.agg [.v (.bool s), lim l]] (.v (.bool (RQ.zok s l))) := by
  unfold RQ.zok valL
  by_cases h : l.length = 0
  · rw [decide_eq_true h, Bool.true_or, Bool.true_and, Bool.and_true]
    cases s
    · refine pure_intro (tok := 0) Tryz.func201 rfl Tryz.ntmps201 Tryz.results201 Tryz.call201 (by rfl) (by simp) ?_
      (focus (refine wklp (w_a @u16s_len w_t) w_t w_t (w_r 0) ?_; (repeat' first | exact w_t | apply w_l); all_goals intros))
    · refine pure_intro (tok := 0) Tryz.func201 rfl Tryz.ntmps201 Tryz.results201 Tryz.call201 (by rfl) (by simp) ?_
      (focus (refine wklp (w_a @u16s_len w_t) w_t w_t (w_r 0) ?_; (repeat' first | exact w_t | apply w_l); all_goals intros))
  · rw [decide_eq_false h, Bool.false_or, Bool.and_false, Bool.not_false, Bool.and_true]
    have ei : (l.length : Int) - 1 = ((l.length - 1 : Nat) : Int) := by omega
    have hlm := gN_lt hl (l.length - 1)
    by_cases hg : gN l (l.length - 1) = 0
    · rw [decide_eq_true hg]
      cases s
      · refine pure_intro (tok := 0) Tryz.func201 rfl Tryz.ntmps201 Tryz.results201 Tryz.call201 (by rfl) (by simp) ?_
        (focus (refine wklp (w_a ei (w_a @u16s_len w_t)) w_t (w_a @Bool.not_true w_t) (w_r 0) ?_; (repeat' first | exact w_t | apply w_l); all_goals intros))
      · refine pure_intro (tok := 0) Tryz.func201 rfl Tryz.ntmps201 Tryz.results201 Tryz.call201 (by rfl) (by simp) ?_
        (focus (refine wklp (w_a ei (w_a @u16s_len w_t)) w_t (w_a @Bool.not_true w_t) (w_r 0) ?_; (repeat' first | exact w_t | apply w_l); all_goals intros))
    · rw [decide_eq_false hg]
      cases s
      · refine pure_intro (tok := 0) Tryz.func201 rfl Tryz.ntmps201 Tryz.results201 Tryz.call201 (by rfl) (by simp) ?_
        (focus (refine wklp (w_a ei (w_a @u16s_len w_t)) w_t (w_a @Bool.not_false w_t) (w_r 0) ?_; (repeat' first | exact w_t | apply w_l); all_goals intros))
      · refine pure_intro (tok := 0) Tryz.func201 rfl Tryz.ntmps201 Tryz.results201 Tryz.call201 (by rfl) (by simp) ?_
        (focus (refine wklp (w_a ei (w_a @u16s_len w_t)) w_t (w_a @Bool.not_false w_t) (w_r 0) ?_; (repeat' first | exact w_t | apply w_l); all_goals intros))
theorem rtRight (r : RQ) (h : r.lm 100000000) : Pure Tryz.prog 143 [r.av] (.v (.bool r.ok)) := by
  obtain ⟨s, l, d⟩ := r
  obtain ⟨h1, h2, h3, h4⟩ := h
  simp only at h1 h2 h3 h4
  have c1 := irRaw s l h1 h3
  unfold RQ.ok
  simp only
  generalize RQ.zok s l = z at *
  by_cases hd : d.length = 0
  · have : decide (0 < d.length) = false := decide_eq_false (by omega)
    rw [this, Bool.and_false]
    cases z
    · refine pure_intro (tok := 0) Tryz.func143 rfl Tryz.ntmps143 Tryz.results143 Tryz.call143 (by rfl) (by simp) ?_
      (focus (refine wklp (w_a @u16s_len w_t) (w_a c1 w_t) w_t (w_r 0) ?_; (repeat' first | exact w_t | apply w_l); all_goals intros))
    · refine pure_intro (tok := 0) Tryz.func143 rfl Tryz.ntmps143 Tryz.results143 Tryz.call143 (by rfl) (by simp) ?_
      (focus (refine wklp (w_a @u16s_len w_t) (w_a c1 w_t) w_t (w_r 0) ?_; (repeat' first | exact w_t | apply w_l); all_goals intros))
  · have : decide (0 < d.length) = true := decide_eq_true (by omega)
    rw [this, Bool.and_true]
    have ei : (d.length : Int) - 1 = ((d.length - 1 : Nat) : Int) := by omega
    have hlm := gN_lt h2 (d.length - 1)
    cases z with
    | false =>
      rw [Bool.false_and, Bool.false_and]
      refine pure_intro (tok := 0) Tryz.func143 rfl Tryz.ntmps143 Tryz.results143 Tryz.call143 (by rfl) (by simp) ?_
      (focus (refine wklp (w_a @u16s_len w_t) (w_a c1 w_t) w_t (w_r 0) ?_; (repeat' first | exact w_t | apply w_l); all_goals intros))
    | true =>
      rw [Bool.true_and]
      by_cases hg : gN d (d.length - 1) = 0
      · have : valL d = false := by unfold valL; rw [decide_eq_false hd, decide_eq_true hg]; rfl
        rw [this, Bool.false_and]
        refine pure_intro (tok := 0) Tryz.func143 rfl Tryz.ntmps143 Tryz.results143 Tryz.call143 (by rfl) (by simp) ?_
        (focus (refine wklp (w_a ei (w_a @u16s_len w_t)) (w_a c1 w_t) w_t (w_r 0) ?_; (repeat' first | exact w_t | apply w_l); all_goals intros))
      · have hv : valL d = true := by unfold valL; rw [decide_eq_false hd, decide_eq_false hg]; rfl
        rw [hv, Bool.true_and]
        have hdt := (valL_iff h2).1 hv
        have l4 : (toL (nv d)).length ≤ 100000000 := by rw [← hdt]; exact h4
        have c2 := ratOne (nv d) l4
        have c3 := natGcd l d (by omega) (by omega) h1 h2
        have n0 : nv d ≠ 0 := by
          intro h0
          rw [h0, toL_zero] at hdt
          rw [hdt] at hd; exact hd rfl
        have gl : (toL (Nat.gcd (nv l) (nv d))).length ≤ 100000000 := Nat.le_trans (lg_mono (Nat.gcd_le_right _ (by omega))) l4
        have c4 := ratOne (Nat.gcd (nv l) (nv d)) gl
        rw [← hdt] at c2
        have hb : (Nat.gcd (nv l) (nv d) == 1) = decide (Nat.gcd (nv l) (nv d) = 1) := by rw [Bool.eq_iff_iff, beq_iff_eq, decide_eq_true_eq]
        rw [hb]
        by_cases h1d : nv d = 1
        · rw [decide_eq_true h1d] at c2
          rw [decide_eq_true (show Nat.gcd (nv l) (nv d) = 1 by rw [h1d, Nat.gcd_one_right])]
          clear c3 c4 hdt
          refine pure_intro (tok := 0) Tryz.func143 rfl Tryz.ntmps143 Tryz.results143 Tryz.call143 (by rfl) (by simp) ?_
          (focus (refine wklp (w_a ei (w_a @u16s_len w_t)) (w_a c1 (w_a c2 w_t)) (w_a @decide_true w_t) (w_r 0) ?_; (repeat' first | exact w_t | apply w_l); all_goals intros))
        · rw [decide_eq_false h1d] at c2
          clear hdt hb gl
          generalize decide (Nat.gcd (nv l) (nv d) = 1) = v at *
          generalize toL (Nat.gcd (nv l) (nv d)) = lg' at *
          refine pure_intro (tok := 0) Tryz.func143 rfl Tryz.ntmps143 Tryz.results143 Tryz.call143 (by rfl) (by simp) ?_
          (focus (refine wklp (w_a ei (w_a @u16s_len w_t)) (w_a c1 (w_a c2 (w_a c3 (w_a c4 w_t)))) w_t (w_r 0) ?_; (repeat' first | exact w_t | apply w_l); all_goals intros))
set_option maxHeartbeats 4000000 in
theorem lwAr (k : Int) : Pure Tryz.prog 171 [iv k] (iv (arS k)) := by
  unfold arS
  refine pure_intro (tok := 0) Tryz.func171 rfl Tryz.ntmps171 Tryz.results171 Tryz.call171 (by rfl) (by simp) ?_
  (focus (refine wklp w_t w_t w_t (w_r 0) ?_; (repeat' first | exact w_t | apply w_l); all_goals intros))
  all_goals (congr 2; repeat' split)
  all_goals (first | rfl | omega)
theorem lwNone (r : RQ) : Pure Tryz.prog 174 [r.av] (.v (.bool r.none)) := by
  obtain ⟨s, l, d⟩ := r
  unfold RQ.none
  simp only
  cases s
  · refine pure_intro (tok := 0) Tryz.func174 rfl Tryz.ntmps174 Tryz.results174 Tryz.call174 (by rfl) (by simp) ?_
    (focus (refine wklp (w_a @u16s_len w_t) w_t w_t (w_r 0) ?_; (repeat' first | exact w_t | apply w_l); all_goals intros))
  · refine pure_intro (tok := 0) Tryz.func174 rfl Tryz.ntmps174 Tryz.results174 Tryz.call174 (by rfl) (by simp) ?_
    (focus (refine wklp (w_a @u16s_len w_t) w_t w_t (w_r 0) ?_; (repeat' first | exact w_t | apply w_l); all_goals intros))
set_option maxHeartbeats 4000000 in
theorem rlAr (k : Int) : Pure Tryz.prog 135 [iv k] (iv (arS k)) := by
  unfold arS
  refine pure_intro (tok := 0) Tryz.func135 rfl Tryz.ntmps135 Tryz.results135 Tryz.call135 (by rfl) (by simp) ?_
  (focus (refine wklp w_t w_t w_t (w_r 0) ?_; (repeat' first | exact w_t | apply w_l); all_goals intros))
  all_goals (congr 2; repeat' split)
  all_goals (first | rfl | omega)
theorem rlNone (r : RQ) : Pure Tryz.prog 136 [r.av] (.v (.bool r.none)) := by
  obtain ⟨s, l, d⟩ := r
  unfold RQ.none
  simp only
  cases s
  · refine pure_intro (tok := 0) Tryz.func136 rfl Tryz.ntmps136 Tryz.results136 Tryz.call136 (by rfl) (by simp) ?_
    (focus (refine wklp (w_a @u16s_len w_t) w_t w_t (w_r 0) ?_; (repeat' first | exact w_t | apply w_l); all_goals intros))
  · refine pure_intro (tok := 0) Tryz.func136 rfl Tryz.ntmps136 Tryz.results136 Tryz.call136 (by rfl) (by simp) ?_
    (focus (refine wklp (w_a @u16s_len w_t) w_t w_t (w_r 0) ?_; (repeat' first | exact w_t | apply w_l); all_goals intros))
set_option maxHeartbeats 4000000 in
theorem prAr (k : Int) : Pure Tryz.prog 178 [iv k] (iv (arG k)) := by
  unfold arG
  refine pure_intro (tok := 0) Tryz.func178 rfl Tryz.ntmps178 Tryz.results178 Tryz.call178 (by rfl) (by simp) ?_
  (focus (refine wklp w_t w_t w_t (w_r 0) ?_; (repeat' first | exact w_t | apply w_l); all_goals intros))
  all_goals (congr 2; repeat' split)
  all_goals (first | rfl | omega)
theorem prNone (r : RQ) : Pure Tryz.prog 179 [r.av] (.v (.bool r.none)) := by
  obtain ⟨s, l, d⟩ := r
  unfold RQ.none
  simp only
  cases s
  · refine pure_intro (tok := 0) Tryz.func179 rfl Tryz.ntmps179 Tryz.results179 Tryz.call179 (by rfl) (by simp) ?_
    (focus (refine wklp (w_a @u16s_len w_t) w_t w_t (w_r 0) ?_; (repeat' first | exact w_t | apply w_l); all_goals intros))
  · refine pure_intro (tok := 0) Tryz.func179 rfl Tryz.ntmps179 Tryz.results179 Tryz.call179 (by rfl) (by simp) ?_
    (focus (refine wklp (w_a @u16s_len w_t) w_t w_t (w_r 0) ?_; (repeat' first | exact w_t | apply w_l); all_goals intros))
set_option maxHeartbeats 4000000 in
theorem rrAr (k : Int) : Pure Tryz.prog 138 [iv k] (iv (arG k)) := by
  unfold arG
  refine pure_intro (tok := 0) Tryz.func138 rfl Tryz.ntmps138 Tryz.results138 Tryz.call138 (by rfl) (by simp) ?_
  (focus (refine wklp w_t w_t w_t (w_r 0) ?_; (repeat' first | exact w_t | apply w_l); all_goals intros))
  all_goals (congr 2; repeat' split)
  all_goals (first | rfl | omega)
theorem rrNone (r : RQ) : Pure Tryz.prog 139 [r.av] (.v (.bool r.none)) := by
  obtain ⟨s, l, d⟩ := r
  unfold RQ.none
  simp only
  cases s
  · refine pure_intro (tok := 0) Tryz.func139 rfl Tryz.ntmps139 Tryz.results139 Tryz.call139 (by rfl) (by simp) ?_
    (focus (refine wklp (w_a @u16s_len w_t) w_t w_t (w_r 0) ?_; (repeat' first | exact w_t | apply w_l); all_goals intros))
  · refine pure_intro (tok := 0) Tryz.func139 rfl Tryz.ntmps139 Tryz.results139 Tryz.call139 (by rfl) (by simp) ?_
    (focus (refine wklp (w_a @u16s_len w_t) w_t w_t (w_r 0) ?_; (repeat' first | exact w_t | apply w_l); all_goals intros))
/-- The first element of a kind. -/
theorem exists_fst {α : Type} (F : α → Bool) (l : List α) : ∃ n, n ≤ l.length ∧ (∀ j (h : j < l.length), j < n → F l[j] = false) ∧ (∀ h : n < l.length, F l[n] = true) ∧ l.any F = decide (n < l.length) := by
  induction l with
  | nil => exact ⟨0, by simp, by simp, by simp, by simp⟩
  | cons a l ih =>
    obtain ⟨n, h1, h2, h3, h4⟩ := ih
    cases ha : F a with
    | true => exact ⟨0, by simp, fun j h h' => by omega, fun _ => ha, by simp [ha]⟩
    | false =>
      refine ⟨n + 1, by simpa using h1, fun j h h' => ?_, fun h => h3 (by simpa using h), by simp [ha, h4]⟩
      cases j with
      | zero => exact ha
      | succ j => exact h2 j (by simpa using h) (by omega)
theorem ck1 (a i : Int) : Pure Tryz.prog 173 [iv a, .pimm [iv i]] (.v (.bool (decide (a < 0) || decide (i ≤ a)))) := by
  refine pure_intro (tok := 0) Tryz.func173 rfl Tryz.ntmps173 Tryz.results173 Tryz.call173 (by rfl) (by simp) ?_
  (focus (refine wklp w_t w_t w_t (w_r 0) ?_; (repeat' first | exact w_t | apply w_l); all_goals intros))
theorem slIdx1 (l : List Int) (i : Int) (hl : l.length ≤ 1000000000) : ∃ z : Int, Pure Tryz.prog 217 [ivs l, .fn 173 [.pimm [iv i]]] (iv z) ∧ decide (0 ≤ z) = outB i l := by
  obtain ⟨n, h1, h2, h3, h4⟩ := exists_fst (fun a => decide (a < 0) || decide (i ≤ a)) l
  refine ⟨if n < l.length then (n : Int) else -1, ?_, ?_⟩
  · refine pure_intro (tok := 0) Tryz.func217 rfl Tryz.ntmps217 Tryz.results217 Tryz.call217 (by rfl) (by simp) ?_
    (focus (refine wkap (w_a @l_map w_t) w_t (w_r 0) ?_; (repeat' first | exact w_t | apply w_l); all_goals intros))
    refine r_loopE (ι := Nat) (fun k e m => k ≤ n ∧ e 0 = ivs l ∧ e 1 = .fn 173 [.pimm [iv i]] ∧ e 7 = iv l.length ∧ e 8 = iv k) (fun k => n - k) 0 (by rfl) ?_ ?_
    · rintro k e m ⟨hk, e0, e1, e7, e8⟩
      by_cases hlt : k < l.length
      · have hg := map_atB iv hlt
        by_cases hkn : k < n
        · have hb := h2 k hlt hkn
          have c := ck1 l[k] i
          rw [hb] at c
          clear hb
          generalize l[k] = a at *
          (focus (refine wkap (w_a e0 (w_a e1 (w_a e7 (w_a e8 (w_a hg (w_a @l_map w_t)))))) (w_a c w_t) (w_r 0) ?_; (repeat' first | exact w_t | apply w_l); all_goals intros))
          exact ⟨k + 1, ⟨by omega, by exact gW e0, by exact gW e1, by exact gW e7, by exact gS⟩, by omega⟩
        · have hkn : k = n := by omega
          subst hkn
          have hb := h3 hlt
          have c := ck1 l[k] i
          rw [hb] at c
          rw [if_pos hlt]
          clear hb
          generalize l[k] = a at *
          (focus (refine wklp (w_a e0 (w_a e1 (w_a e7 (w_a e8 (w_a hg (w_a @l_map w_t)))))) (w_a c w_t) w_t (w_r 0) ?_; (repeat' first | exact w_t | apply w_l); all_goals intros))
      · rw [if_neg (by omega)]
        (focus (refine wklp (w_a e0 (w_a e1 (w_a e7 (w_a e8 (w_a @l_map w_t))))) w_t w_t (w_r 0) ?_; (repeat' first | exact w_t | apply w_l); all_goals intros))
    · exact ⟨Nat.zero_le _, by exact gC, by exact gC, by (simp (disch := omega) only [go_sem, List.length_map] <;> repeat' first | rfl | refine ⟨?_, ?_⟩), by exact gC⟩
  · unfold outB
    rw [h4, Bool.eq_iff_iff, decide_eq_true_eq, decide_eq_true_eq]
    split <;> omega
theorem slCon1 (l : List Int) (i : Int) (hl : l.length ≤ 1000000000) : Pure Tryz.prog 172 [ivs l, .fn 173 [.pimm [iv i]]] (.v (.bool (outB i l))) := by
  obtain ⟨z, c, hz⟩ := slIdx1 l i hl
  rw [← hz]
  refine pure_intro (tok := 0) Tryz.func172 rfl Tryz.ntmps172 Tryz.results172 Tryz.call172 (by rfl) (by simp) ?_
  (focus (refine wklp w_t (w_a c w_t) w_t (w_r 0) ?_; (repeat' first | exact w_t | apply w_l); all_goals intros))
theorem ck2 (t s : RS) : Pure Tryz.prog 177 [t.av, .pimm [iv s.k, strA s.nm, ivs s.ar, .v (.bool s.r.s), lim s.r.l, lim s.r.d]] (.v (.bool (t.nm.toList == s.nm.toList))) := by
  obtain ⟨a, b, c, d⟩ := t
  obtain ⟨a', b', c', d'⟩ := s
  refine pure_intro (tok := 0) Tryz.func177 rfl Tryz.ntmps177 Tryz.results177 Tryz.call177 (by rfl) (by simp) ?_
  (focus (refine wklp w_t w_t w_t (w_r 0) ?_; (repeat' first | exact w_t | apply w_l); all_goals intros))
theorem slIdx2 (l : List RS) (s : RS) (hl : l.length ≤ 1000000000) : ∃ z : Int, Pure Tryz.prog 221 [.sl 6 (l.map RS.av), .fn 177 [.pimm [iv s.k, strA s.nm, ivs s.ar, .v (.bool s.r.s), lim s.r.l, lim s.r.d]]] (iv z) ∧ decide (0 ≤ z) = l.any (fun t => t.nm.toList == s.nm.toList) := by
  obtain ⟨n, h1, h2, h3, h4⟩ := exists_fst (fun t : RS => t.nm.toList == s.nm.toList) l
  refine ⟨if n < l.length then (n : Int) else -1, ?_, ?_⟩
  · refine pure_intro (tok := 0) Tryz.func221 rfl Tryz.ntmps221 Tryz.results221 Tryz.call221 (by rfl) (by simp) ?_
    (focus (refine wkap (w_a @l_map w_t) w_t (w_r 0) ?_; (repeat' first | exact w_t | apply w_l); all_goals intros))
    refine r_loopE (ι := Nat) (fun k e m => k ≤ n ∧ e 0 = .sl 6 (l.map RS.av) ∧ e 1 = .fn 177 [.pimm [iv s.k, strA s.nm, ivs s.ar, .v (.bool s.r.s), lim s.r.l, lim s.r.d]] ∧ e 7 = iv l.length ∧ e 8 = iv k) (fun k => n - k) 0 (by rfl) ?_ ?_
    · rintro k e m ⟨hk, e0, e1, e7, e8⟩
      by_cases hlt : k < l.length
      · have hg := map_atB RS.av hlt
        by_cases hkn : k < n
        · have hb := h2 k hlt hkn
          have c := ck2 l[k] s
          rw [hb] at c
          clear hb
          generalize l[k] = a at *
          obtain ⟨a1, a2, a3, a4⟩ := a
          (focus (refine wkap (w_a e0 (w_a e1 (w_a e7 (w_a e8 (w_a hg (w_a @l_map w_t)))))) (w_a c w_t) (w_r 0) ?_; (repeat' first | exact w_t | apply w_l); all_goals intros))
          exact ⟨k + 1, ⟨by omega, by exact gW e0, by exact gW e1, by exact gW e7, by exact gS⟩, by omega⟩
        · have hkn : k = n := by omega
          subst hkn
          have hb := h3 hlt
          have c := ck2 l[k] s
          rw [hb] at c
          rw [if_pos hlt]
          clear hb
          generalize l[k] = a at *
          obtain ⟨a1, a2, a3, a4⟩ := a
          (focus (refine wklp (w_a e0 (w_a e1 (w_a e7 (w_a e8 (w_a hg (w_a @l_map w_t)))))) (w_a c w_t) w_t (w_r 0) ?_; (repeat' first | exact w_t | apply w_l); all_goals intros))
      · rw [if_neg (by omega)]
        (focus (refine wklp (w_a e0 (w_a e1 (w_a e7 (w_a e8 (w_a @l_map w_t))))) w_t w_t (w_r 0) ?_; (repeat' first | exact w_t | apply w_l); all_goals intros))
    · exact ⟨Nat.zero_le _, by exact gC, by exact gC, by (simp (disch := omega) only [go_sem, List.length_map] <;> repeat' first | rfl | refine ⟨?_, ?_⟩), by exact gC⟩
  · rw [h4, Bool.eq_iff_iff, decide_eq_true_eq, decide_eq_true_eq]
    split <;> omega
theorem slCon2 (l : List RS) (s : RS) (hl : l.length ≤ 1000000000) : Pure Tryz.prog 176 [.sl 6 (l.map RS.av), .fn 177 [.pimm [iv s.k, strA s.nm, ivs s.ar, .v (.bool s.r.s), lim s.r.l, lim s.r.d]]] (.v (.bool (l.any (fun t => t.nm.toList == s.nm.toList)))) := by
  obtain ⟨z, c, hz⟩ := slIdx2 l s hl
  rw [← hz]
  refine pure_intro (tok := 0) Tryz.func176 rfl Tryz.ntmps176 Tryz.results176 Tryz.call176 (by rfl) (by simp) ?_
  (focus (refine wklp w_t (w_a c w_t) w_t (w_r 0) ?_; (repeat' first | exact w_t | apply w_l); all_goals intros))
end Go.Proofs.YtbgmnobnaplmlaaGreat
end

section
namespace Go.Proofs.YtbgmnobnaplmlaaGreat
open Go Go.RowKit Go.Pg Go.Pol
set_option linter.unusedSimpArgs false
set_option linter.unusedVariables false
set_option maxRecDepth 20000
attribute [local go_sem] Tryz.underlying3 Tryz.underlying4 Tryz.underlying178 Tryz.underlying9 Tryz.underlying48 Tryz.underlying31 Tryz.underlying43 Tryz.underlying41 Tryz.underlying39 Tryz.underlying50 Tryz.underlying22 Tryz.underlying124 Tryz.underlying23 Tryz.underlying25 sz3 by3 z3 szB zB szL byL zL szErr zErr szStr byStr zStr szRat zRat szInt zInt szNat zNat szStep byStep zStep szFact byFact zFact szFig zFig szSlI zSlI szSlS zSlS szSlF zSlF
attribute [-bool_to_prop] Bool.and_eq_decide Bool.or_eq_decide Bool.decide_beq_decide decide_eq_decide
/-- Sizes that machines hold. -/
def RS.sm (s : RS) : Prop := s.r.lm 100000000 ∧ s.nm.size ≤ 1000000000 ∧ s.ar.length ≤ 1000000000
def RG.sm (g : RG) : Prop := g.r.lm 100000000 ∧ g.ar.length ≤ 1000000000
set_option maxHeartbeats 8000000 in
theorem lwCheck (ss : List RS) (i : Nat) (hi : i < ss.length) (hl : ss.length ≤ 1000000000) (hs : ∀ s ∈ ss, s.sm) : Pure Tryz.prog 99 [.sl 6 (ss.map RS.av), iv i] (iv (errS ss i)) := by
  have hg := map_atB RS.av hi
  have hsm := hs _ (List.getElem_mem hi)
  have e0 : errS ss i = errS ss i := rfl
  unfold errS at e0 ⊢
  rw [show ss.getD i RS.zero = ss[i] from by rw [List.getD_eq_getElem?_getD, List.getElem?_eq_getElem hi]; rfl]
  clear e0
  have htk : (ss.map RS.av).take i = (ss.take i).map RS.av := (List.map_take ..).symm
  have c2 := slCon2 (ss.take i) ss[i] (by rw [List.length_take]; omega)
  rw [← htk] at c2
  have hlm : (ss.map RS.av).length = ss.length := List.length_map ..
  generalize ss.map RS.av = M at *
  generalize ss[i] = s at *
  clear htk
  clear hs
  obtain ⟨h1, h2, h3⟩ := hsm
  have ca := lwAr s.k
  have cr := rtRight s.r h1
  have cn := lwNone s.r
  have cm := nmName s.nm h2
  have c1 := slCon1 s.ar i h3
  have hst := str_nil s.nm
  have hla : (s.ar.map iv).length = s.ar.length := List.length_map ..
  obtain ⟨k, nm, ar, r, rl, rd⟩ := s
  simp only at *
  generalize (ss.take i).any (fun t => t.nm.toList == nm.toList) = any at *
  generalize arS k = a at *
  generalize outB (i : Int) ar = o at *
  generalize RQ.ok ⟨r, rl, rd⟩ = ok at *
  generalize RQ.none ⟨r, rl, rd⟩ = no at *
  generalize namB nm = nb at *
  by_cases w1 : a < 0
  · rw [if_pos w1]
    refine pure_intro (tok := 0) Tryz.func99 rfl Tryz.ntmps99 Tryz.results99 Tryz.call99 (by rfl) (by simp) ?_
    (focus (refine wklp (w_a hg (w_a hlm (w_a hla w_t))) (w_a ca w_t) w_t (w_r 0) ?_; (repeat' first | exact w_t | apply w_l); all_goals intros))
  · rw [if_neg w1]
    by_cases w2 : (ar.length : Int) ≠ a
    · rw [if_pos w2]
      refine pure_intro (tok := 0) Tryz.func99 rfl Tryz.ntmps99 Tryz.results99 Tryz.call99 (by rfl) (by simp) ?_
      (focus (refine wklp (w_a hg (w_a hlm (w_a hla w_t))) (w_a ca w_t) w_t (w_r 0) ?_; (repeat' first | exact w_t | apply w_l); all_goals intros))
    · rw [if_neg w2]
      cases o with
      | true =>
        rw [if_pos rfl]
        refine pure_intro (tok := 0) Tryz.func99 rfl Tryz.ntmps99 Tryz.results99 Tryz.call99 (by rfl) (by simp) ?_
        (focus (refine wkax (w_a hg (w_a hlm (w_a hla w_t))) (w_a ca w_t) w_t (w_a c1 w_t) w_t w_t (w_r 0) ?_; (repeat' first | exact w_t | apply w_l); all_goals intros))
        (all_goals (try simp (disch := omega) only [go_sem, decide_eq_true, decide_eq_false, if_pos, if_neg, Int.reduceAdd, Int.reduceSub, Int.reduceToNat, Int.zero_add])); (all_goals first | done | rfl | (congr 2; first | done | omega | (rw [Bool.eq_iff_iff]; simp only [bool_to_prop, Bool.false_eq_true, iff_true, true_iff, iff_false, false_iff]; omega)) | skip)
      | false =>
        rw [if_neg (by decide)]
        by_cases w3 : (k = 2 ∧ ok = false) ∨ (k ≠ 2 ∧ no = false)
        · rw [if_pos w3]
          rcases w3 with ⟨hk, rfl⟩ | ⟨hk, rfl⟩
          · subst hk
            refine pure_intro (tok := 0) Tryz.func99 rfl Tryz.ntmps99 Tryz.results99 Tryz.call99 (by rfl) (by simp) ?_
            (focus (refine wkax (w_a hg (w_a hlm (w_a hla w_t))) (w_a ca (w_a cr w_t)) w_t (w_a c1 w_t) w_t w_t (w_r 0) ?_; (repeat' first | exact w_t | apply w_l); all_goals intros))
            (all_goals (try simp (disch := omega) only [go_sem, decide_eq_true, decide_eq_false, if_pos, if_neg, Int.reduceAdd, Int.reduceSub, Int.reduceToNat, Int.zero_add])); (all_goals first | done | rfl | (congr 2; first | done | omega | (rw [Bool.eq_iff_iff]; simp only [bool_to_prop, Bool.false_eq_true, iff_true, true_iff, iff_false, false_iff]; omega)) | skip)
          · refine pure_intro (tok := 0) Tryz.func99 rfl Tryz.ntmps99 Tryz.results99 Tryz.call99 (by rfl) (by simp) ?_
            (focus (refine wkax (w_a hg (w_a hlm (w_a hla w_t))) (w_a ca (w_a cn w_t)) w_t (w_a c1 w_t) w_t w_t (w_r 0) ?_; (repeat' first | exact w_t | apply w_l); all_goals intros))
            (all_goals (try simp (disch := omega) only [go_sem, decide_eq_true, decide_eq_false, if_pos, if_neg, Int.reduceAdd, Int.reduceSub, Int.reduceToNat, Int.zero_add])); (all_goals first | done | rfl | (congr 2; first | done | omega | (rw [Bool.eq_iff_iff]; simp only [bool_to_prop, Bool.false_eq_true, iff_true, true_iff, iff_false, false_iff]; omega)) | skip)
        · rw [if_neg w3]
          have w4 : (k = 2 ∧ ok = true) ∨ (k ≠ 2 ∧ no = true) := by
            by_cases hk : k = 2
            · cases ok
              · exact absurd (.inl ⟨hk, rfl⟩) w3
              · exact .inl ⟨hk, rfl⟩
            · cases no
              · exact absurd (.inr ⟨hk, rfl⟩) w3
              · exact .inr ⟨hk, rfl⟩
          clear w3
          by_cases w5 : nm.size = 0
          · rw [if_pos w5]
            rw [decide_eq_true w5] at hst
            rcases w4 with ⟨hk, rfl⟩ | ⟨hk, rfl⟩
            · subst hk
              refine pure_intro (tok := 0) Tryz.func99 rfl Tryz.ntmps99 Tryz.results99 Tryz.call99 (by rfl) (by simp) ?_
              (focus (refine wkax (w_a hg (w_a hlm (w_a hla (w_a hst w_t)))) (w_a ca (w_a cr w_t)) w_t (w_a c1 w_t) w_t w_t (w_r 0) ?_; (repeat' first | exact w_t | apply w_l); all_goals intros))
              (all_goals (try simp (disch := omega) only [go_sem, decide_eq_true, decide_eq_false, if_pos, if_neg, Int.reduceAdd, Int.reduceSub, Int.reduceToNat, Int.zero_add])); (all_goals first | done | rfl | (congr 2; first | done | omega | (rw [Bool.eq_iff_iff]; simp only [bool_to_prop, Bool.false_eq_true, iff_true, true_iff, iff_false, false_iff]; omega)) | skip)
            · refine pure_intro (tok := 0) Tryz.func99 rfl Tryz.ntmps99 Tryz.results99 Tryz.call99 (by rfl) (by simp) ?_
              (focus (refine wkax (w_a hg (w_a hlm (w_a hla (w_a hst w_t)))) (w_a ca (w_a cn w_t)) w_t (w_a c1 w_t) w_t w_t (w_r 0) ?_; (repeat' first | exact w_t | apply w_l); all_goals intros))
              (all_goals (try simp (disch := omega) only [go_sem, decide_eq_true, decide_eq_false, if_pos, if_neg, Int.reduceAdd, Int.reduceSub, Int.reduceToNat, Int.zero_add])); (all_goals first | done | rfl | (congr 2; first | done | omega | (rw [Bool.eq_iff_iff]; simp only [bool_to_prop, Bool.false_eq_true, iff_true, true_iff, iff_false, false_iff]; omega)) | skip)
          · rw [if_neg w5]
            rw [decide_eq_false w5] at hst
            cases nb with
            | false =>
              rw [if_pos rfl]
              rcases w4 with ⟨hk, rfl⟩ | ⟨hk, rfl⟩
              · subst hk
                refine pure_intro (tok := 0) Tryz.func99 rfl Tryz.ntmps99 Tryz.results99 Tryz.call99 (by rfl) (by simp) ?_
                (focus (refine wkax (w_a hg (w_a hlm (w_a hla (w_a hst w_t)))) (w_a ca (w_a cr (w_a cm w_t))) w_t (w_a c1 w_t) w_t w_t (w_r 0) ?_; (repeat' first | exact w_t | apply w_l); all_goals intros))
                (all_goals (try simp (disch := omega) only [go_sem, decide_eq_true, decide_eq_false, if_pos, if_neg, Int.reduceAdd, Int.reduceSub, Int.reduceToNat, Int.zero_add])); (all_goals first | done | rfl | (congr 2; first | done | omega | (rw [Bool.eq_iff_iff]; simp only [bool_to_prop, Bool.false_eq_true, iff_true, true_iff, iff_false, false_iff]; omega)) | skip)
              · refine pure_intro (tok := 0) Tryz.func99 rfl Tryz.ntmps99 Tryz.results99 Tryz.call99 (by rfl) (by simp) ?_
                (focus (refine wkax (w_a hg (w_a hlm (w_a hla (w_a hst w_t)))) (w_a ca (w_a cn (w_a cm w_t))) w_t (w_a c1 w_t) w_t w_t (w_r 0) ?_; (repeat' first | exact w_t | apply w_l); all_goals intros))
                (all_goals (try simp (disch := omega) only [go_sem, decide_eq_true, decide_eq_false, if_pos, if_neg, Int.reduceAdd, Int.reduceSub, Int.reduceToNat, Int.zero_add])); (all_goals first | done | rfl | (congr 2; first | done | omega | (rw [Bool.eq_iff_iff]; simp only [bool_to_prop, Bool.false_eq_true, iff_true, true_iff, iff_false, false_iff]; omega)) | skip)
            | true =>
              rw [if_neg (by decide)]
              rcases w4 with ⟨hk, rfl⟩ | ⟨hk, rfl⟩
              · subst hk
                cases any
                · refine pure_intro (tok := 0) Tryz.func99 rfl Tryz.ntmps99 Tryz.results99 Tryz.call99 (by rfl) (by simp) ?_
                  (focus (refine wkax (w_a hg (w_a hlm (w_a hla (w_a hst (w_a @l_drop0 w_t))))) (w_a ca (w_a cr (w_a cm w_t))) w_t (w_a c1 (w_a c2 w_t)) w_t w_t (w_r 0) ?_; (repeat' first | exact w_t | apply w_l); all_goals intros))
                  (all_goals (try simp (disch := omega) only [go_sem, decide_eq_true, decide_eq_false, if_pos, if_neg, Int.reduceAdd, Int.reduceSub, Int.reduceToNat, Int.zero_add])); (all_goals first | done | rfl | (congr 2; first | done | omega | (rw [Bool.eq_iff_iff]; simp only [bool_to_prop, Bool.false_eq_true, iff_true, true_iff, iff_false, false_iff]; omega)) | skip)
                · refine pure_intro (tok := 0) Tryz.func99 rfl Tryz.ntmps99 Tryz.results99 Tryz.call99 (by rfl) (by simp) ?_
                  (focus (refine wkax (w_a hg (w_a hlm (w_a hla (w_a hst (w_a @l_drop0 w_t))))) (w_a ca (w_a cr (w_a cm w_t))) w_t (w_a c1 (w_a c2 w_t)) w_t w_t (w_r 0) ?_; (repeat' first | exact w_t | apply w_l); all_goals intros))
                  (all_goals (try simp (disch := omega) only [go_sem, decide_eq_true, decide_eq_false, if_pos, if_neg, Int.reduceAdd, Int.reduceSub, Int.reduceToNat, Int.zero_add])); (all_goals first | done | rfl | (congr 2; first | done | omega | (rw [Bool.eq_iff_iff]; simp only [bool_to_prop, Bool.false_eq_true, iff_true, true_iff, iff_false, false_iff]; omega)) | skip)
              · cases any
                · refine pure_intro (tok := 0) Tryz.func99 rfl Tryz.ntmps99 Tryz.results99 Tryz.call99 (by rfl) (by simp) ?_
                  (focus (refine wkax (w_a hg (w_a hlm (w_a hla (w_a hst (w_a @l_drop0 w_t))))) (w_a ca (w_a cn (w_a cm w_t))) w_t (w_a c1 (w_a c2 w_t)) w_t w_t (w_r 0) ?_; (repeat' first | exact w_t | apply w_l); all_goals intros))
                  (all_goals (try simp (disch := omega) only [go_sem, decide_eq_true, decide_eq_false, if_pos, if_neg, Int.reduceAdd, Int.reduceSub, Int.reduceToNat, Int.zero_add])); (all_goals first | done | rfl | (congr 2; first | done | omega | (rw [Bool.eq_iff_iff]; simp only [bool_to_prop, Bool.false_eq_true, iff_true, true_iff, iff_false, false_iff]; omega)) | skip)
                · refine pure_intro (tok := 0) Tryz.func99 rfl Tryz.ntmps99 Tryz.results99 Tryz.call99 (by rfl) (by simp) ?_
                  (focus (refine wkax (w_a hg (w_a hlm (w_a hla (w_a hst (w_a @l_drop0 w_t))))) (w_a ca (w_a cn (w_a cm w_t))) w_t (w_a c1 (w_a c2 w_t)) w_t w_t (w_r 0) ?_; (repeat' first | exact w_t | apply w_l); all_goals intros))
                  (all_goals (try simp (disch := omega) only [go_sem, decide_eq_true, decide_eq_false, if_pos, if_neg, Int.reduceAdd, Int.reduceSub, Int.reduceToNat, Int.zero_add])); (all_goals first | done | rfl | (congr 2; first | done | omega | (rw [Bool.eq_iff_iff]; simp only [bool_to_prop, Bool.false_eq_true, iff_true, true_iff, iff_false, false_iff]; omega)) | skip)
theorem outB_take {n : Int} {l : List Int} {k : Nat} (hk : k < l.length) : outB n (l.take (k + 1)) = (outB n (l.take k) || (decide (l[k] < 0) || decide (n ≤ l[k]))) := by
  unfold outB
  rw [List.take_succ_eq_append_getElem hk, List.any_append, List.any_cons, List.any_nil, Bool.or_false]
theorem outB_at {n : Int} {l : List Int} {k : Nat} (hk : k < l.length) (h : (decide (l[k] < 0) || decide (n ≤ l[k])) = true) : outB n l = true := List.any_eq_true.2 ⟨l[k], List.getElem_mem hk, h⟩
set_option maxHeartbeats 8000000 in
theorem prRight (g : RG) (n : Nat) (hn : n ≤ 1000000000) (hs : g.sm) : Pure Tryz.prog 100 [g.av, iv n] (iv (errG g n)) := by
  obtain ⟨h1, h3⟩ := hs
  unfold errG
  have ca := prAr g.k
  have cr : Pure Tryz.prog 143 [g.r.av] (.v (.bool g.r.ok)) := rtRight g.r h1
  have cn := prNone g.r
  have hla : (g.ar.map iv).length = g.ar.length := List.length_map ..
  obtain ⟨k, ar, r, rl, rd⟩ := g
  simp only at *
  generalize arG k = a at *
  generalize RQ.ok ⟨r, rl, rd⟩ = ok at *
  generalize RQ.none ⟨r, rl, rd⟩ = no at *
  by_cases w1 : a = 0
  · rw [if_pos w1]
    subst w1
    refine pure_intro (tok := 0) Tryz.func100 rfl Tryz.ntmps100 Tryz.results100 Tryz.call100 (by rfl) (by simp) ?_
    (focus (refine wklp (w_a hla w_t) (w_a ca w_t) w_t (w_r 0) ?_; (repeat' first | exact w_t | apply w_l); all_goals intros))
  · rw [if_neg w1]
    by_cases w2 : (ar.length : Int) ≠ a
    · rw [if_pos w2]
      refine pure_intro (tok := 0) Tryz.func100 rfl Tryz.ntmps100 Tryz.results100 Tryz.call100 (by rfl) (by simp) ?_
      (focus (refine wklp (w_a hla w_t) (w_a ca w_t) w_t (w_r 0) ?_; (repeat' first | exact w_t | apply w_l); all_goals intros))
    · rw [if_neg w2]
      refine pure_intro (tok := 0) Tryz.func100 rfl Tryz.ntmps100 Tryz.results100 Tryz.call100 (by rfl) (by simp) ?_
      (focus (refine wkap (w_a hla w_t) (w_a ca w_t) (w_r 0) ?_; (repeat' first | exact w_t | apply w_l); all_goals intros))
      rename_i g2
      refine r_loopE (ι := Nat) (fun i e m => i ≤ ar.length ∧ e 1 = iv n ∧ e 2 = .pbox 2 g2 0 ∧ m 2 = some (.box g2 124 [iv k, ivs ar, .v (.bool r), lim rl, lim rd] false) ∧ e 19 = ivs ar ∧ e 20 = iv ar.length ∧ e 21 = iv i ∧ outB n (ar.take i) = false) (fun i => ar.length - i) 0 (by rfl) ?_ ?_
      · rintro i e m ⟨hi, e1, e2, m2, ea, en, ei, hno⟩
        by_cases hlt : i < ar.length
        · have hg := map_atB iv hlt
          have hst := outB_take (n := n) hlt
          have hat := outB_at (n := n) hlt
          rw [hno, Bool.false_or] at hst
          generalize ar[i] = x at *
          by_cases hx : x < 0 ∨ (n : Int) ≤ x
          · have hb : (decide (x < 0) || decide ((n : Int) ≤ x)) = true := by simpa using hx
            rw [if_pos (hat hb)]
            clear hat hst hb
            rcases hx with hx | hx
            · (focus (refine wklp (w_a e1 (w_a e2 (w_a m2 (w_a ea (w_a en (w_a ei (w_a hg (w_a hla w_t)))))))) w_t w_t (w_r 0) ?_; (repeat' first | exact w_t | apply w_l); all_goals intros))
            · (focus (refine wklp (w_a e1 (w_a e2 (w_a m2 (w_a ea (w_a en (w_a ei (w_a hg (w_a hla w_t)))))))) w_t w_t (w_r 0) ?_; (repeat' first | exact w_t | apply w_l); all_goals intros))
          · have hb : (decide (x < 0) || decide ((n : Int) ≤ x)) = false := by simpa using hx
            rw [hb] at hst
            clear hat hb
            (focus (refine wkap (w_a e1 (w_a e2 (w_a m2 (w_a ea (w_a en (w_a ei (w_a hg (w_a hla w_t)))))))) w_t (w_r 0) ?_; (repeat' first | exact w_t | apply w_l); all_goals intros))
            exact ⟨i + 1, ⟨by omega, by exact gW e1, by exact gW e2, by exact gW m2, by exact gW ea, by exact gW en, by exact gS, hst⟩, by omega⟩
        · have hi2 : i = ar.length := by omega
          subst hi2
          rw [List.take_length] at hno
          rw [hno, if_neg (by decide)]
          by_cases hk : k = 9
          · subst hk
            cases ok
            · rw [if_pos (by simp)]
              (focus (refine wklp (w_a e1 (w_a e2 (w_a m2 (w_a ea (w_a en (w_a ei (w_a hla w_t))))))) (w_a cr (w_a cn w_t)) w_t (w_r 0) ?_; (repeat' first | exact w_t | apply w_l); all_goals intros))
            · rw [if_neg (by simp)]
              (focus (refine wklp (w_a e1 (w_a e2 (w_a m2 (w_a ea (w_a en (w_a ei (w_a hla w_t))))))) (w_a cr (w_a cn w_t)) w_t (w_r 0) ?_; (repeat' first | exact w_t | apply w_l); all_goals intros))
          · cases no
            · rw [if_pos (by simp [hk])]
              (focus (refine wklp (w_a e1 (w_a e2 (w_a m2 (w_a ea (w_a en (w_a ei (w_a hla w_t))))))) (w_a cr (w_a cn w_t)) w_t (w_r 0) ?_; (repeat' first | exact w_t | apply w_l); all_goals intros))
            · rw [if_neg (by simp [hk])]
              (focus (refine wklp (w_a e1 (w_a e2 (w_a m2 (w_a ea (w_a en (w_a ei (w_a hla w_t))))))) (w_a cr (w_a cn w_t)) w_t (w_r 0) ?_; (repeat' first | exact w_t | apply w_l); all_goals intros))
      · exact ⟨Nat.zero_le _, by exact gC, by exact gC, by exact gC, by exact gC, by exact gW hla, by exact gC, by simp [outB]⟩
set_option maxHeartbeats 8000000 in
theorem rrRight (g : RG) (n : Nat) (hn : n ≤ 1000000000) (hs : g.sm) : Pure Tryz.prog 64 [g.av, iv n] (iv (errG g n)) := by
  obtain ⟨h1, h3⟩ := hs
  unfold errG
  have ca := rrAr g.k
  have cr : Pure Tryz.prog 86 [g.r.av] (.v (.bool g.r.ok)) := qRight g.r.s g.r.l g.r.d h1.1 h1.2.1 h1.2.2.1 h1.2.2.2
  have cn := rrNone g.r
  have hla : (g.ar.map iv).length = g.ar.length := List.length_map ..
  obtain ⟨k, ar, r, rl, rd⟩ := g
  simp only at *
  generalize arG k = a at *
  generalize RQ.ok ⟨r, rl, rd⟩ = ok at *
  generalize RQ.none ⟨r, rl, rd⟩ = no at *
  by_cases w1 : a = 0
  · rw [if_pos w1]
    subst w1
    refine pure_intro (tok := 0) Tryz.func64 rfl Tryz.ntmps64 Tryz.results64 Tryz.call64 (by rfl) (by simp) ?_
    (focus (refine wkld (w_a hla w_t) (w_a ca w_t) w_t w_t ?_; (repeat' first | exact w_t | apply w_l); all_goals intros))
  · rw [if_neg w1]
    by_cases w2 : (ar.length : Int) ≠ a
    · rw [if_pos w2]
      refine pure_intro (tok := 0) Tryz.func64 rfl Tryz.ntmps64 Tryz.results64 Tryz.call64 (by rfl) (by simp) ?_
      (focus (refine wkld (w_a hla w_t) (w_a ca w_t) w_t (w_a (w_d 3 [(5, iv a)] [] []) w_t) ?_; (repeat' first | exact w_t | apply w_l); all_goals intros))
    · rw [if_neg w2]
      refine pure_intro (tok := 0) Tryz.func64 rfl Tryz.ntmps64 Tryz.results64 Tryz.call64 (by rfl) (by simp) ?_
      (focus (refine wkad (w_a hla w_t) (w_a ca w_t) (w_a (w_d 3 [(5, iv a)] [] []) w_t) ?_; (repeat' first | exact w_t | apply w_l); all_goals intros))
      rename_i g2
      refine r_loopE (ι := Nat) (fun i e m => i ≤ ar.length ∧ e 1 = iv n ∧ e 2 = .pbox 2 g2 0 ∧ m 2 = some (.box g2 124 [iv k, ivs ar, .v (.bool r), lim rl, lim rd] false) ∧ e 19 = ivs ar ∧ e 20 = iv ar.length ∧ e 21 = iv i ∧ outB n (ar.take i) = false) (fun i => ar.length - i) 0 (by rfl) ?_ ?_
      · rintro i e m ⟨hi, e1, e2, m2, ea, en, ei, hno⟩
        by_cases hlt : i < ar.length
        · have hg := map_atB iv hlt
          have hst := outB_take (n := n) hlt
          have hat := outB_at (n := n) hlt
          rw [hno, Bool.false_or] at hst
          generalize ar[i] = x at *
          by_cases hx : x < 0 ∨ (n : Int) ≤ x
          · have hb : (decide (x < 0) || decide ((n : Int) ≤ x)) = true := by simpa using hx
            rw [if_pos (hat hb)]
            clear hat hst hb
            rcases hx with hx | hx
            · (focus (refine wkld (w_a e1 (w_a e2 (w_a m2 (w_a ea (w_a en (w_a ei (w_a hg (w_a hla w_t)))))))) w_t w_t w_t ?_; (repeat' first | exact w_t | apply w_l); all_goals intros))
            · (focus (refine wkld (w_a e1 (w_a e2 (w_a m2 (w_a ea (w_a en (w_a ei (w_a hg (w_a hla w_t)))))))) w_t w_t w_t ?_; (repeat' first | exact w_t | apply w_l); all_goals intros))
          · have hb : (decide (x < 0) || decide ((n : Int) ≤ x)) = false := by simpa using hx
            rw [hb] at hst
            clear hat hb
            (focus (refine wkad (w_a e1 (w_a e2 (w_a m2 (w_a ea (w_a en (w_a ei (w_a hg (w_a hla w_t)))))))) w_t w_t ?_; (repeat' first | exact w_t | apply w_l); all_goals intros))
            exact ⟨i + 1, ⟨by omega, by exact gW e1, by exact gW e2, by exact gW m2, by exact gW ea, by exact gW en, by exact gS, hst⟩, by omega⟩
        · have hi2 : i = ar.length := by omega
          subst hi2
          rw [List.take_length] at hno
          rw [hno, if_neg (by decide)]
          by_cases hk : k = 9
          · subst hk
            cases ok
            · rw [if_pos (by simp)]
              (focus (refine wkld (w_a e1 (w_a e2 (w_a m2 (w_a ea (w_a en (w_a ei (w_a hla w_t))))))) (w_a cr (w_a cn w_t)) w_t w_t ?_; (repeat' first | exact w_t | apply w_l); all_goals intros))
            · rw [if_neg (by simp)]
              (focus (refine wkld (w_a e1 (w_a e2 (w_a m2 (w_a ea (w_a en (w_a ei (w_a hla w_t))))))) (w_a cr (w_a cn w_t)) w_t w_t ?_; (repeat' first | exact w_t | apply w_l); all_goals intros))
          · cases no
            · rw [if_pos (by simp [hk])]
              (focus (refine wkld (w_a e1 (w_a e2 (w_a m2 (w_a ea (w_a en (w_a ei (w_a hla w_t))))))) (w_a cr (w_a cn w_t)) w_t w_t ?_; (repeat' first | exact w_t | apply w_l); all_goals intros))
            · rw [if_neg (by simp [hk])]
              (focus (refine wkld (w_a e1 (w_a e2 (w_a m2 (w_a ea (w_a en (w_a ei (w_a hla w_t))))))) (w_a cr (w_a cn w_t)) w_t w_t ?_; (repeat' first | exact w_t | apply w_l); all_goals intros))
      · exact ⟨Nat.zero_le _, by exact gC, by exact gC, by exact gC, by exact gC, by exact gW hla, by exact gC, by simp [outB]⟩
set_option maxHeartbeats 8000000 in
theorem lwRight (ss : List RS) (gs : List RG) (h1 : ss.length ≤ 1000000000) (h2 : gs.length ≤ 1000000000) (hs : ∀ s ∈ ss, s.sm) (hg : ∀ g ∈ gs, g.sm) : Pure Tryz.prog 51 [figA ss gs] (iv (figE ss gs)) := by
  have hls : (ss.map RS.av).length = ss.length := List.length_map ..
  have hlg : (gs.map RG.av).length = gs.length := List.length_map ..
  have eg : ∀ i (h : i < gs.length), (gs.map RG.av).getD i .u = gs[i].av := fun i h => map_atB RG.av h
  have eg2 : ∀ i (h : i < gs.length), gs.getD i ⟨0, [], ⟨false, [], []⟩⟩ = gs[i] := fun i h => by rw [List.getD_eq_getElem?_getD, List.getElem?_eq_getElem h]; rfl
  have cc : ∀ i, i < ss.length → Pure Tryz.prog 99 [.sl 6 (ss.map RS.av), iv i] (iv (errS ss i)) := fun i hi => lwCheck ss i hi h1 hs
  have cg : ∀ i (h : i < gs.length), Pure Tryz.prog 100 [gs[i].av, iv ss.length] (iv (errG gs[i] ss.length)) := fun i h => prRight gs[i] ss.length h1 (hg _ (List.getElem_mem h))
  unfold figE
  show Pure _ _ [.agg [.sl 6 (ss.map RS.av), .sl 5 (gs.map RG.av)]] _
  generalize ss.map RS.av = M at *
  generalize gs.map RG.av = N at *
  by_cases hb : 40 < ss.length ∨ 8 < gs.length
  · rw [if_pos hb]
    refine pure_intro (tok := 0) Tryz.func51 rfl Tryz.ntmps51 Tryz.results51 Tryz.call51 (by rfl) (by simp) ?_
    (focus (refine wklp (w_a hls (w_a hlg w_t)) w_t w_t (w_r 0) ?_; (repeat' first | exact w_t | apply w_l); all_goals intros))
  · rw [if_neg hb]
    refine pure_intro (tok := 0) Tryz.func51 rfl Tryz.ntmps51 Tryz.results51 Tryz.call51 (by rfl) (by simp) ?_
    (focus (refine wkap (w_a hls (w_a hlg w_t)) w_t (w_r 0) ?_; (repeat' first | exact w_t | apply w_l); all_goals intros))
    rename_i g1
    refine r_loopE (ι := Nat) (fun i e m => i ≤ ss.length ∧ e 1 = .pbox 1 g1 0 ∧ m 1 = some (.box g1 25 [.sl 6 M, .sl 5 N] false) ∧ e 20 = iv ss.length ∧ e 21 = iv i ∧ ∀ j, j < i → errS ss j = 0) (fun i => ss.length - i) 0 (by rfl) ?_ ?_
    · rintro i e m ⟨hi, e1, m1, e20, e21, hz⟩
      by_cases hlt : i < ss.length
      · have c := cc i hlt
        by_cases he : errS ss i = 0
        · rw [he] at c
          (focus (refine wkap (w_a e1 (w_a m1 (w_a e20 (w_a e21 (w_a hls (w_a hlg w_t)))))) (w_a c w_t) (w_r 0) ?_; (repeat' first | exact w_t | apply w_l); all_goals intros))
          exact ⟨i + 1, ⟨by omega, by exact gW e1, by exact gW m1, by exact gW e20, by exact gS, fun j hj => by by_cases e : j = i; rw [e]; exact he; exact hz j (by omega)⟩, by omega⟩
        · rw [fstE_at hz he hlt, if_pos he]
          generalize errS ss i = z at *
          (focus (refine wklp (w_a e1 (w_a m1 (w_a e20 (w_a e21 (w_a hls (w_a hlg w_t)))))) (w_a c w_t) w_t (w_r 0) ?_; (repeat' first | exact w_t | apply w_l); all_goals intros))
      · have hi2 : i = ss.length := by omega
        subst hi2
        rw [fstE_zero hz, if_neg (by simp)]
        (focus (refine wkap (w_a e1 (w_a m1 (w_a e20 (w_a e21 (w_a hls (w_a hlg w_t)))))) w_t (w_r 0) ?_; (repeat' first | exact w_t | apply w_l); all_goals intros))
        refine r_loopE (ι := Nat) (fun i e m => i ≤ gs.length ∧ e 1 = .pbox 1 g1 0 ∧ m 1 = some (.box g1 25 [.sl 6 M, .sl 5 N] false) ∧ e 33 = .sl 5 N ∧ e 34 = iv gs.length ∧ e 35 = iv i ∧ ∀ j, j < i → errG (gs.getD j ⟨0, [], ⟨false, [], []⟩⟩) ss.length = 0) (fun i => gs.length - i) 0 (by rfl) ?_ ?_
        · rintro i e m ⟨hi, e1, m1, e33, e34, e35, hz⟩
          by_cases hlt : i < gs.length
          · have c := cg i hlt
            have hgi := eg i hlt
            have hgj := eg2 i hlt
            have hfa := @fstE_at (fun i => errG (gs.getD i ⟨0, [], ⟨false, [], []⟩⟩) ss.length) i hz
            simp only [hgj] at hfa
            generalize gs[i] = G at *
            by_cases he : errG G ss.length = 0
            · rw [he] at c
              clear hfa
              obtain ⟨k, ar, r, rl, rd⟩ := G
              (focus (refine wkap (w_a e1 (w_a m1 (w_a e33 (w_a e34 (w_a e35 (w_a hls (w_a hlg (w_a hgi w_t)))))))) (w_a c w_t) (w_r 0) ?_; (repeat' first | exact w_t | apply w_l); all_goals intros))
              exact ⟨i + 1, ⟨by omega, by exact gW e1, by exact gW m1, by exact gW e33, by exact gW e34, by exact gS, fun j hj => by by_cases e : j = i; rw [e, hgj]; exact he; exact hz j (by omega)⟩, by omega⟩
            · rw [hfa he hlt]
              clear hfa
              generalize errG G ss.length = z at *
              obtain ⟨k, ar, r, rl, rd⟩ := G
              (focus (refine wklp (w_a e1 (w_a m1 (w_a e33 (w_a e34 (w_a e35 (w_a hls (w_a hlg (w_a hgi w_t)))))))) (w_a c w_t) w_t (w_r 0) ?_; (repeat' first | exact w_t | apply w_l); all_goals intros))
          · have hi2 : i = gs.length := by omega
            subst hi2
            rw [fstE_zero hz]
            (focus (refine wklp (w_a e1 (w_a m1 (w_a e33 (w_a e34 (w_a e35 (w_a hls (w_a hlg w_t))))))) w_t w_t (w_r 0) ?_; (repeat' first | exact w_t | apply w_l); all_goals intros))
        · exact ⟨Nat.zero_le _, by exact gW e1, by exact gW m1, by exact gC, by exact gW hlg, by exact gC, fun j hj => by omega⟩
    · exact ⟨Nat.zero_le _, by exact gC, by exact gC, by exact gW hls, by exact gC, fun j hj => by omega⟩
set_option maxHeartbeats 8000000 in
theorem rlCheck (ss : List RS) (i : Nat) (hi : i < ss.length) (hl : ss.length ≤ 1000000000) (hs : ∀ s ∈ ss, s.sm) : Pure Tryz.prog 63 [.sl 6 (ss.map RS.av), iv i] (iv (errS ss i)) := by
  have hg := map_atB RS.av hi
  have hsm := hs _ (List.getElem_mem hi)
  unfold errS
  rw [show ss.getD i RS.zero = ss[i] from by rw [List.getD_eq_getElem?_getD, List.getElem?_eq_getElem hi]; rfl]
  have hgt : ∀ k, k < i → ∃ t : RS, ((ss.map RS.av).take i).getD k .u = t.av ∧ (ss.take i)[k]? = some t := fun k hk => by
    refine ⟨ss[k], ?_, ?_⟩
    · rw [List.getD_eq_getElem?_getD, List.getElem?_take, if_pos hk, List.getElem?_map, List.getElem?_eq_getElem (by omega)]; rfl
    · rw [List.getElem?_take, if_pos hk, List.getElem?_eq_getElem (by omega)]
  have hlm : (ss.map RS.av).length = ss.length := List.length_map ..
  have hlt : (ss.take i).length = i := by rw [List.length_take]; omega
  generalize ss.map RS.av = M at *
  generalize ss[i] = s at *
  generalize ss.take i = T at *
  clear hs
  obtain ⟨h1, h2, h3⟩ := hsm
  have ca := rlAr s.k
  have cr : Pure Tryz.prog 86 [s.r.av] (.v (.bool s.r.ok)) := qRight s.r.s s.r.l s.r.d h1.1 h1.2.1 h1.2.2.1 h1.2.2.2
  have cn := rlNone s.r
  have cm := rnName s.nm h2
  have hst := str_nil s.nm
  have hla : (s.ar.map iv).length = s.ar.length := List.length_map ..
  obtain ⟨k, nm, ar, r, rl, rd⟩ := s
  simp only at *
  generalize arS k = a at *
  generalize RQ.ok ⟨r, rl, rd⟩ = ok at *
  generalize RQ.none ⟨r, rl, rd⟩ = no at *
  generalize namB nm = nb at *
  by_cases w1 : a < 0
  · rw [if_pos w1]
    refine pure_intro (tok := 0) Tryz.func63 rfl Tryz.ntmps63 Tryz.results63 Tryz.call63 (by rfl) (by simp) ?_
    (focus (refine wkld (w_a hg (w_a hlm (w_a hla w_t))) (w_a ca w_t) w_t w_t ?_; (repeat' first | exact w_t | apply w_l); all_goals intros))
  · rw [if_neg w1]
    by_cases w2 : (ar.length : Int) ≠ a
    · rw [if_pos w2]
      refine pure_intro (tok := 0) Tryz.func63 rfl Tryz.ntmps63 Tryz.results63 Tryz.call63 (by rfl) (by simp) ?_
      (focus (refine wkld (w_a hg (w_a hlm (w_a hla w_t))) (w_a ca w_t) w_t (w_a (w_d 4 [(5, iv a)] [] []) w_t) ?_; (repeat' first | exact w_t | apply w_l); all_goals intros))
    · rw [if_neg w2]
      refine pure_intro (tok := 0) Tryz.func63 rfl Tryz.ntmps63 Tryz.results63 Tryz.call63 (by rfl) (by simp) ?_
      (focus (refine wkad (w_a hg (w_a hlm (w_a hla w_t))) (w_a ca w_t) (w_a (w_d 4 [(5, iv a)] [] []) w_t) ?_; (repeat' first | exact w_t | apply w_l); all_goals intros))
      rename_i g5
      refine r_loopE (ι := Nat) (fun x e m => x ≤ ar.length ∧ e 0 = .sl 6 M ∧ e 1 = iv i ∧ e 5 = .pbox 5 g5 0 ∧ m 5 = some (.box g5 50 [iv k, strA nm, ivs ar, .v (.bool r), lim rl, lim rd] false) ∧ e 26 = ivs ar ∧ e 27 = iv ar.length ∧ e 28 = iv x ∧ outB i (ar.take x) = false) (fun x => ar.length - x) 0 (by rfl) ?_ ?_
      · rintro x e m ⟨hx, e0, e1, e5, m5, e26, e27, e28, hno⟩
        by_cases hlt2 : x < ar.length
        · have hga := map_atB iv hlt2
          have hso := outB_take (n := (i : Int)) hlt2
          have hat := outB_at (n := (i : Int)) hlt2
          rw [hno, Bool.false_or] at hso
          generalize ar[x] = y at *
          by_cases hy : y < 0 ∨ (i : Int) ≤ y
          · have hb : (decide (y < 0) || decide ((i : Int) ≤ y)) = true := by simpa using hy
            rw [if_pos (hat hb)]
            clear hat hso hb
            rcases hy with hy | hy
            · (focus (refine wkld (w_a e0 (w_a e1 (w_a e5 (w_a m5 (w_a e26 (w_a e27 (w_a e28 (w_a hga (w_a hla w_t))))))))) w_t w_t w_t ?_; (repeat' first | exact w_t | apply w_l); all_goals intros))
            · (focus (refine wkld (w_a e0 (w_a e1 (w_a e5 (w_a m5 (w_a e26 (w_a e27 (w_a e28 (w_a hga (w_a hla w_t))))))))) w_t w_t w_t ?_; (repeat' first | exact w_t | apply w_l); all_goals intros))
          · have hb : (decide (y < 0) || decide ((i : Int) ≤ y)) = false := by simpa using hy
            rw [hb] at hso
            clear hat hb
            (focus (refine wkad (w_a e0 (w_a e1 (w_a e5 (w_a m5 (w_a e26 (w_a e27 (w_a e28 (w_a hga (w_a hla w_t))))))))) w_t w_t ?_; (repeat' first | exact w_t | apply w_l); all_goals intros))
            exact ⟨x + 1, ⟨by omega, by exact gW e0, by exact gW e1, by exact gW e5, by exact gW m5, by exact gW e26, by exact gW e27, by exact gS, hso⟩, by omega⟩
        · have hi2 : x = ar.length := by omega
          subst hi2
          rw [List.take_length] at hno
          rw [hno, if_neg (by decide)]
          by_cases w3 : (k = 2 ∧ ok = false) ∨ (k ≠ 2 ∧ no = false)
          · rw [if_pos w3]
            rcases w3 with ⟨hk, rfl⟩ | ⟨hk, rfl⟩
            · subst hk
              (focus (refine wkld (w_a e0 (w_a e1 (w_a e5 (w_a m5 (w_a e26 (w_a e27 (w_a e28 (w_a hla w_t)))))))) (w_a cr w_t) w_t w_t ?_; (repeat' first | exact w_t | apply w_l); all_goals intros))
            · (focus (refine wkld (w_a e0 (w_a e1 (w_a e5 (w_a m5 (w_a e26 (w_a e27 (w_a e28 (w_a hla w_t)))))))) (w_a cn w_t) w_t w_t ?_; (repeat' first | exact w_t | apply w_l); all_goals intros))
          · rw [if_neg w3]
            have w4 : (k = 2 ∧ ok = true) ∨ (k ≠ 2 ∧ no = true) := by
              by_cases hk : k = 2
              · cases ok
                · exact absurd (.inl ⟨hk, rfl⟩) w3
                · exact .inl ⟨hk, rfl⟩
              · cases no
                · exact absurd (.inr ⟨hk, rfl⟩) w3
                · exact .inr ⟨hk, rfl⟩
            clear w3
            have rest : ∀ (e : Nat → AV) (m : Mem), e 0 = .sl 6 M → e 1 = iv i → e 5 = .pbox 5 g5 0 → m 5 = some (.box g5 50 [iv k, strA nm, ivs ar, .v (.bool r), lim rl, lim rd] false) → True := fun _ _ _ _ _ _ => trivial
            clear rest
            by_cases w5 : nm.size = 0
            · rw [if_pos w5]
              rw [decide_eq_true w5] at hst
              rcases w4 with ⟨hk, rfl⟩ | ⟨hk, rfl⟩
              · subst hk
                (focus (refine wkld (w_a e0 (w_a e1 (w_a e5 (w_a m5 (w_a e26 (w_a e27 (w_a e28 (w_a hla (w_a hst w_t))))))))) (w_a cr w_t) w_t w_t ?_; (repeat' first | exact w_t | apply w_l); all_goals intros))
              · (focus (refine wkld (w_a e0 (w_a e1 (w_a e5 (w_a m5 (w_a e26 (w_a e27 (w_a e28 (w_a hla (w_a hst w_t))))))))) (w_a cn w_t) w_t w_t ?_; (repeat' first | exact w_t | apply w_l); all_goals intros))
            · rw [if_neg w5]
              rw [decide_eq_false w5] at hst
              cases nb with
              | false =>
                rw [if_pos rfl]
                rcases w4 with ⟨hk, rfl⟩ | ⟨hk, rfl⟩
                · subst hk
                  (focus (refine wkld (w_a e0 (w_a e1 (w_a e5 (w_a m5 (w_a e26 (w_a e27 (w_a e28 (w_a hla (w_a hst w_t))))))))) (w_a cr (w_a cm w_t)) w_t w_t ?_; (repeat' first | exact w_t | apply w_l); all_goals intros))
                · (focus (refine wkld (w_a e0 (w_a e1 (w_a e5 (w_a m5 (w_a e26 (w_a e27 (w_a e28 (w_a hla (w_a hst w_t))))))))) (w_a cn (w_a cm w_t)) w_t w_t ?_; (repeat' first | exact w_t | apply w_l); all_goals intros))
              | true =>
                rw [if_neg (by decide)]
                rcases w4 with ⟨hk, rfl⟩ | ⟨hk, rfl⟩
                all_goals first | (subst hk; (focus (refine wkad (w_a e0 (w_a e1 (w_a e5 (w_a m5 (w_a e26 (w_a e27 (w_a e28 (w_a hla (w_a hlm (w_a hst (w_a @l_drop0 (w_a @l_take w_t)))))))))))) (w_a cr (w_a cm w_t)) w_t ?_; (repeat' first | exact w_t | apply w_l); all_goals intros))) | (focus (refine wkad (w_a e0 (w_a e1 (w_a e5 (w_a m5 (w_a e26 (w_a e27 (w_a e28 (w_a hla (w_a hlm (w_a hst (w_a @l_drop0 (w_a @l_take w_t)))))))))))) (w_a cn (w_a cm w_t)) w_t ?_; (repeat' first | exact w_t | apply w_l); all_goals intros))
                all_goals
                  refine r_loopE (ι := Nat) (fun x e m => x ≤ i ∧ e 5 = .pbox 5 g5 0 ∧ (∃ k, m 5 = some (.box g5 50 [iv k, strA nm, ivs ar, .v (.bool r), lim rl, lim rd] false)) ∧ e 69 = .sl 6 (M.take i) ∧ e 70 = iv i ∧ e 71 = iv x ∧ (T.take x).any (fun t => t.nm.toList == nm.toList) = false) (fun x => i - x) 0 (by rfl) ?_ ?_
                  · rintro x e m ⟨hx, e5, ⟨k, m5⟩, e69, e70, e71, hnq⟩
                    by_cases hlt2 : x < i
                    · obtain ⟨t, ht, ht2⟩ := hgt x hlt2
                      have htl : x < T.length := by omega
                      have htx : T[x] = t := by rw [List.getElem?_eq_getElem htl] at ht2; cases ht2; rfl
                      have hsn : T.take (x + 1) = T.take x ++ [t] := by rw [List.take_succ_eq_append_getElem htl, htx]
                      have hmem : t ∈ T := by rw [← htx]; exact List.getElem_mem htl
                      obtain ⟨tk, tn, ta, tr, tl, td⟩ := t
                      have hll : (M.take i).length = i := by rw [List.length_take]; omega
                      cases hw : (tn.toList == nm.toList) with
                      | true =>
                        have hany : T.any (fun t => t.nm.toList == nm.toList) = true := List.any_eq_true.2 ⟨_, hmem, hw⟩
                        rw [if_pos hany]
                        (focus (refine wkld (w_a e5 (w_a m5 (w_a e69 (w_a e70 (w_a e71 (w_a ht (w_a hw (w_a hll w_t)))))))) w_t w_t w_t ?_; (repeat' first | exact w_t | apply w_l); all_goals intros))
                      | false =>
                        (focus (refine wkad (w_a e5 (w_a m5 (w_a e69 (w_a e70 (w_a e71 (w_a ht (w_a hw (w_a hll w_t)))))))) w_t w_t ?_; (repeat' first | exact w_t | apply w_l); all_goals intros))
                        exact ⟨x + 1, ⟨by omega, by exact gW e5, ⟨k, by exact gW m5⟩, by exact gW e69, by exact gW e70, by exact gS, by rw [hsn, List.any_append, hnq]; simp [hw]⟩, by omega⟩
                    · have hxi : x = i := by omega
                      subst hxi
                      rw [show T.take x = T from by rw [← hlt, List.take_length]] at hnq
                      rw [hnq, if_neg (by decide)]
                      (focus (refine wkld (w_a e5 (w_a m5 (w_a e69 (w_a e70 (w_a e71 w_t))))) w_t w_t w_t ?_; (repeat' first | exact w_t | apply w_l); all_goals intros))
                  · exact ⟨Nat.zero_le _, by exact gW e5, ⟨_, by exact gW m5⟩, by exact gC, by (simp (disch := omega) only [go_sem, List.length_take, hlm, Nat.min_eq_left] <;> repeat' first | rfl | refine ⟨?_, ?_⟩), by exact gC, by simp⟩
      · exact ⟨Nat.zero_le _, by exact gC, by exact gC, by exact gC, by exact gC, by exact gC, by exact gW hla, by exact gC, by simp [outB]⟩
set_option maxHeartbeats 8000000 in
theorem rlRight (ss : List RS) (gs : List RG) (h1 : ss.length ≤ 1000000000) (h2 : gs.length ≤ 1000000000) (hs : ∀ s ∈ ss, s.sm) (hg : ∀ g ∈ gs, g.sm) : Pure Tryz.prog 24 [figA ss gs] (iv (figE ss gs)) := by
  have hls : (ss.map RS.av).length = ss.length := List.length_map ..
  have hlg : (gs.map RG.av).length = gs.length := List.length_map ..
  have eg : ∀ i (h : i < gs.length), (gs.map RG.av).getD i .u = gs[i].av := fun i h => map_atB RG.av h
  have eg2 : ∀ i (h : i < gs.length), gs.getD i ⟨0, [], ⟨false, [], []⟩⟩ = gs[i] := fun i h => by rw [List.getD_eq_getElem?_getD, List.getElem?_eq_getElem h]; rfl
  have cc : ∀ i, i < ss.length → Pure Tryz.prog 63 [.sl 6 (ss.map RS.av), iv i] (iv (errS ss i)) := fun i hi => rlCheck ss i hi h1 hs
  have cg : ∀ i (h : i < gs.length), Pure Tryz.prog 64 [gs[i].av, iv ss.length] (iv (errG gs[i] ss.length)) := fun i h => rrRight gs[i] ss.length h1 (hg _ (List.getElem_mem h))
  unfold figE
  show Pure _ _ [.agg [.sl 6 (ss.map RS.av), .sl 5 (gs.map RG.av)]] _
  generalize ss.map RS.av = M at *
  generalize gs.map RG.av = N at *
  by_cases hb : 40 < ss.length ∨ 8 < gs.length
  · rw [if_pos hb]
    refine pure_intro (tok := 0) Tryz.func24 rfl Tryz.ntmps24 Tryz.results24 Tryz.call24 (by rfl) (by simp) ?_
    (focus (refine wklp (w_a hls (w_a hlg w_t)) w_t w_t (w_r 0) ?_; (repeat' first | exact w_t | apply w_l); all_goals intros))
  · rw [if_neg hb]
    refine pure_intro (tok := 0) Tryz.func24 rfl Tryz.ntmps24 Tryz.results24 Tryz.call24 (by rfl) (by simp) ?_
    (focus (refine wkap (w_a hls (w_a hlg w_t)) w_t (w_r 0) ?_; (repeat' first | exact w_t | apply w_l); all_goals intros))
    rename_i g1
    refine r_loopE (ι := Nat) (fun i e m => i ≤ ss.length ∧ e 1 = .pbox 1 g1 0 ∧ m 1 = some (.box g1 25 [.sl 6 M, .sl 5 N] false) ∧ e 20 = iv ss.length ∧ e 21 = iv i ∧ ∀ j, j < i → errS ss j = 0) (fun i => ss.length - i) 0 (by rfl) ?_ ?_
    · rintro i e m ⟨hi, e1, m1, e20, e21, hz⟩
      by_cases hlt : i < ss.length
      · have c := cc i hlt
        by_cases he : errS ss i = 0
        · rw [he] at c
          (focus (refine wkap (w_a e1 (w_a m1 (w_a e20 (w_a e21 (w_a hls (w_a hlg w_t)))))) (w_a c w_t) (w_r 0) ?_; (repeat' first | exact w_t | apply w_l); all_goals intros))
          exact ⟨i + 1, ⟨by omega, by exact gW e1, by exact gW m1, by exact gW e20, by exact gS, fun j hj => by by_cases e : j = i; rw [e]; exact he; exact hz j (by omega)⟩, by omega⟩
        · rw [fstE_at hz he hlt, if_pos he]
          generalize errS ss i = z at *
          (focus (refine wklp (w_a e1 (w_a m1 (w_a e20 (w_a e21 (w_a hls (w_a hlg w_t)))))) (w_a c w_t) w_t (w_r 0) ?_; (repeat' first | exact w_t | apply w_l); all_goals intros))
      · have hi2 : i = ss.length := by omega
        subst hi2
        rw [fstE_zero hz, if_neg (by simp)]
        (focus (refine wkap (w_a e1 (w_a m1 (w_a e20 (w_a e21 (w_a hls (w_a hlg w_t)))))) w_t (w_r 0) ?_; (repeat' first | exact w_t | apply w_l); all_goals intros))
        refine r_loopE (ι := Nat) (fun i e m => i ≤ gs.length ∧ e 1 = .pbox 1 g1 0 ∧ m 1 = some (.box g1 25 [.sl 6 M, .sl 5 N] false) ∧ e 33 = .sl 5 N ∧ e 34 = iv gs.length ∧ e 35 = iv i ∧ ∀ j, j < i → errG (gs.getD j ⟨0, [], ⟨false, [], []⟩⟩) ss.length = 0) (fun i => gs.length - i) 0 (by rfl) ?_ ?_
        · rintro i e m ⟨hi, e1, m1, e33, e34, e35, hz⟩
          by_cases hlt : i < gs.length
          · have c := cg i hlt
            have hgi := eg i hlt
            have hgj := eg2 i hlt
            have hfa := @fstE_at (fun i => errG (gs.getD i ⟨0, [], ⟨false, [], []⟩⟩) ss.length) i hz
            simp only [hgj] at hfa
            generalize gs[i] = G at *
            by_cases he : errG G ss.length = 0
            · rw [he] at c
              clear hfa
              obtain ⟨k, ar, r, rl, rd⟩ := G
              (focus (refine wkap (w_a e1 (w_a m1 (w_a e33 (w_a e34 (w_a e35 (w_a hls (w_a hlg (w_a hgi w_t)))))))) (w_a c w_t) (w_r 0) ?_; (repeat' first | exact w_t | apply w_l); all_goals intros))
              exact ⟨i + 1, ⟨by omega, by exact gW e1, by exact gW m1, by exact gW e33, by exact gW e34, by exact gS, fun j hj => by by_cases e : j = i; rw [e, hgj]; exact he; exact hz j (by omega)⟩, by omega⟩
            · rw [hfa he hlt]
              clear hfa
              generalize errG G ss.length = z at *
              obtain ⟨k, ar, r, rl, rd⟩ := G
              (focus (refine wklp (w_a e1 (w_a m1 (w_a e33 (w_a e34 (w_a e35 (w_a hls (w_a hlg (w_a hgi w_t)))))))) (w_a c w_t) w_t (w_r 0) ?_; (repeat' first | exact w_t | apply w_l); all_goals intros))
          · have hi2 : i = gs.length := by omega
            subst hi2
            rw [fstE_zero hz]
            (focus (refine wklp (w_a e1 (w_a m1 (w_a e33 (w_a e34 (w_a e35 (w_a hls (w_a hlg w_t))))))) w_t w_t (w_r 0) ?_; (repeat' first | exact w_t | apply w_l); all_goals intros))
        · exact ⟨Nat.zero_le _, by exact gW e1, by exact gW m1, by exact gC, by exact gW hlg, by exact gC, fun j hj => by omega⟩
    · exact ⟨Nat.zero_le _, by exact gC, by exact gC, by exact gW hls, by exact gC, fun j hj => by omega⟩
end Go.Proofs.YtbgmnobnaplmlaaGreat
end

section
namespace Go.Proofs.YtbgmnobnaplmlaaGreat
open Go Go.RowKit Go.Pg Go.Pol
set_option linter.unusedSimpArgs false
set_option linter.unusedVariables false
set_option maxRecDepth 20000
attribute [local go_sem] Tryz.underlying3 Tryz.underlying4 Tryz.underlying43 Tryz.underlying41 Tryz.underlying39 Tryz.underlying63 Tryz.underlying69 Tryz.underlying61 Tryz.underlying70 Tryz.underlying78 sz3 by3 z3 szRat zRat szInt zInt szNat zNat szTerm byTerm zTerm szMono byMono zMono szPoly byPoly zPoly
attribute [-bool_to_prop] Bool.and_eq_decide Bool.or_eq_decide Bool.decide_beq_decide decide_eq_decide
theorem sgn_ne {q : Rat} : (q.num.sign = 0) = (q = 0) := by rw [Int.sign_eq_zero_iff_zero, Rat.num_eq_zero]
theorem poLex (s t : Tm) (hs : Sm s.2) (ht : Sm t.2) : Pure Tryz.prog 181 [tmA s, tmA t] (iv (lexC s.2 t.2 (max s.2.length t.2.length))) := by
  have c : Pure Tryz.prog 222 [ivs s.2, ivs t.2, iv 0] (iv (cmpI s.2 t.2 0)) := monCmp s.2 t.2 0 hs ht
  have e : cmpI s.2 t.2 0 = lexC s.2 t.2 (max s.2.length t.2.length) := by unfold cmpI; rw [if_neg (by omega)]
  rw [e] at c
  obtain ⟨q, a⟩ := s
  obtain ⟨r, b⟩ := t
  simp only at *
  generalize lexC a b (max a.length b.length) = x at *
  refine pure_intro (tok := 0) Tryz.func181 rfl Tryz.ntmps181 Tryz.results181 Tryz.call181 (by rfl) (by simp) ?_
  (focus (refine wklp w_t (w_a c w_t) w_t (w_r 0) ?_; (repeat' first | exact w_t | apply w_l); all_goals intros))
set_option maxHeartbeats 1000000 in
theorem poAdded (s t : Tm) {j k : Nat} (hs : Sz s.1 j) (ht : Sz t.1 k) (hj : j ≤ 1000000) (hk : k ≤ 1000000) : Pure Tryz.prog 182 [tmA s, tmA t] (.tup [tmA (s.1 + t.1, s.2), .v (.bool (!decide ((s.1 + t.1).num.sign = 0)))]) := by
  have c := ratAdd s.1 t.1 hs ht (by omega) (by omega)
  have cs := ratSign (s.1 + t.1) (hs.add ht) (by omega)
  obtain ⟨q, a⟩ := s
  obtain ⟨r, b⟩ := t
  simp only at *
  generalize q + r = x at *
  refine pure_intro (tok := 0) Tryz.func182 rfl Tryz.ntmps182 Tryz.results182 Tryz.call182 (by rfl) (by simp) ?_
  (repeat' (first | (with_reducible first | refine stp ?_ | apply gx1 | apply gx2 | apply gx3 | apply gx4 | apply gx5 | apply gx6 | apply gx7 | apply gy8 | apply gz2 | apply gz3 | refine gw0 (c) ?_ ?_ | refine gw3 (c) ?_ ?_ ?_ | refine gw0 (cs) ?_ ?_ | refine gw3 (cs) ?_ ?_ ?_) | (with_reducible refine all_v ?_; intro _) | ((with_reducible refine gE ?_); (try simp (disch := omega) only [go_sem]) <;> first | rfl | omega) | with_reducible refine t_in_other (by decide) ?_ | ((with_reducible apply gy1); iterate 3 focus rfl) | ((with_reducible apply gy2); iterate 3 focus rfl) | ((with_reducible apply gy3); iterate 2 focus rfl) | ((with_reducible apply gy4); iterate 1 focus rfl) | ((with_reducible apply gy5); iterate 4 focus rfl) | ((with_reducible apply gy6); iterate 4 focus rfl) | ((with_reducible apply d_bar); iterate 3 focus rfl) | ((with_reducible apply q_pub); iterate 1 focus rfl) | ((with_reducible apply gy7); iterate 1 focus rfl) | ((with_reducible apply gy9); (focus ((with_reducible refine gE ?_); (try simp (disch := omega) only [go_sem]) <;> rfl))) | ((with_reducible apply gz1); (focus first | rfl | (simp (disch := omega) only [go_sem]; done))) | ((with_reducible apply r_drawD (pickR [(5, .v (.int .i64 x.num.sign))]) [] [4]); (focus kernel_rfl); (focus rfl); (focus kernel_rfl); (focus (simp only [List.length_cons, List.length_nil, Nat.reduceAdd]; rfl)))))
  (all_goals (try simp (disch := omega) only [go_sem, decide_eq_true, decide_eq_false, if_pos, if_neg, Int.reduceAdd, Int.reduceSub, Int.reduceToNat, Int.zero_add])); (all_goals first | done | rfl | (congr 2; first | done | omega | (rw [Bool.eq_iff_iff]; simp only [bool_to_prop, Bool.false_eq_true, iff_true, true_iff, iff_false, false_iff]; omega)) | skip)
theorem addM_step {p q : Po} {i k : Nat} (hi : i < p.length) (hk : k < q.length) : addM (p.drop i) (q.drop k) =
    if ltM q[k].2 p[i].2 then p[i] :: addM (p.drop (i + 1)) (q.drop k) else if ltM p[i].2 q[k].2 then q[k] :: addM (p.drop i) (q.drop (k + 1))
    else if p[i].1 + q[k].1 = 0 then addM (p.drop (i + 1)) (q.drop (k + 1)) else (p[i].1 + q[k].1, p[i].2) :: addM (p.drop (i + 1)) (q.drop (k + 1)) := by
  rw [List.drop_eq_getElem_cons hi, List.drop_eq_getElem_cons hk]
  rw [show addM (p[i] :: p.drop (i + 1)) (q[k] :: q.drop (k + 1)) = _ from by unfold addM; rw [addP]]
theorem addM_end {p q : Po} {i k : Nat} (h : p.length ≤ i ∨ q.length ≤ k) : addM (p.drop i) (q.drop k) = p.drop i ++ q.drop k := by
  rcases h with h | h
  · rw [List.drop_eq_nil_of_le h]; simp [addM, addP]
  · rw [List.drop_eq_nil_of_le h, List.append_nil]; exact addP_nil _
set_option maxHeartbeats 4000000 in
theorem poMerge (p q : Po) {j k e : Nat} (hp : PK p j e) (hq : PK q k e) (sp : SrtM p) (sq : SrtM q) (lp : p.length ≤ 1000000) (lq : q.length ≤ 1000000) (hj : j ≤ 1000000) (hk : k ≤ 1000000) (he : e ≤ 16777216) :
    Pure Tryz.prog 180 [poA p, poA q, .fn 181 [], .fn 182 []] (poA (addM p q)) := by
  refine pure_intro (tok := 0) Tryz.func180 rfl Tryz.ntmps180 Tryz.results180 Tryz.call180 (by rfl) (by simp) ?_
  (focus (refine wkad (w_a @l_map w_t) w_t w_t ?_; (repeat' first | exact w_t | apply w_l); all_goals intros))
  rename_i sv0
  refine r_loopE (ι := Nat × Nat) (fun x e m => x.1 ≤ p.length ∧ x.2 ≤ q.length ∧ e 0 = poA p ∧ e 1 = poA q ∧ e 2 = .fn 181 [] ∧ e 3 = .fn 182 [] ∧ e 10 = iv x.1 ∧ e 11 = iv x.2 ∧ ∃ sv out, e 9 = .own 20 sv ∧ m 20 = some (.row sv 63 4 (out.map tmA) 0) ∧ out.length ≤ x.1 + x.2 ∧ addM p q = out ++ addM (p.drop x.1) (q.drop x.2)) (fun x => p.length + q.length - (x.1 + x.2)) (0, 0) (by rfl) ?_ ?_
  · rintro ⟨i, l⟩ e m ⟨hi, hl, e0, e1, e2, e3, e10, e11, sv, out, e9, em, ho, hs⟩
    simp only at hi hl e10 e11 ho hs
    by_cases hil : i < p.length ∧ l < q.length
    · obtain ⟨hi2, hl2⟩ := hil
      have hg := map_atB tmA hi2
      have hh := map_atB tmA hl2
      have st := addM_step hi2 hl2
      have ms := hp _ (List.getElem_mem hi2)
      have mt := hq _ (List.getElem_mem hl2)
      have m1 := hp.sm he (List.getElem_mem hi2)
      have m2 := hq.sm he (List.getElem_mem hl2)
      have d1 := sp.dom _ (List.getElem_mem hi2)
      have d2 := sq.dom _ (List.getElem_mem hl2)
      generalize p[i] = s at *
      generalize q[l] = t at *
      have cl := poLex s t m1 m2
      have ca := poAdded s t ms.1 mt.1 hj hk
      have hlen : (out.map tmA).length = out.length := List.length_map ..
      rw [st] at hs
      rcases lexM_cases d1 d2 with ⟨h1, h2⟩ | ⟨h1, h1', h2, h3⟩ | ⟨h1, h1', h2⟩
      · have h3 : ¬ ltM t.2 s.2 := fun h => ordM.irr _ (ordM.tr _ _ _ h h1)
        rw [if_neg h3, if_pos h1] at hs
        rw [h2] at cl
        clear st ms mt m1 m2 d1 d2 ca
        (focus (refine wkad (w_a e0 (w_a e1 (w_a e2 (w_a e3 (w_a e9 (w_a e10 (w_a e11 (w_a em (w_a hg (w_a hh (w_a @l_map w_t))))))))))) (w_a cl w_t) (w_a (w_d 4 [(9, iv (-1))] [] []) w_t) ?_; (repeat' first | exact w_t | apply w_l); all_goals intros))
        refine ⟨(i, l + 1), ⟨by simp only; omega, by simp only; omega, by exact gW e0, by exact gW e1, by exact gW e2, by exact gW e3, by exact gW e10, by exact gS, _, out ++ [t], by exact gC, by (simp (disch := omega) only [go_sem, List.map_append] <;> repeat' first | rfl | refine ⟨?_, ?_⟩), by simp only [List.length_append, List.length_cons, List.length_nil]; omega, by rw [hs, List.append_assoc]; rfl⟩, by simp only; omega⟩
      · rw [if_neg h1', if_neg h1] at hs
        rw [h3] at cl
        by_cases hz : s.1 + t.1 = 0
        · rw [if_pos hz] at hs
          rw [decide_eq_true (show (s.1 + t.1).num.sign = 0 by rw [sgn_ne]; exact hz)] at ca
          clear st ms mt m1 m2 d1 d2
          generalize (s.1 + t.1) = z at *
          (focus (refine wkad (w_a e0 (w_a e1 (w_a e2 (w_a e3 (w_a e9 (w_a e10 (w_a e11 (w_a em (w_a hg (w_a hh (w_a @l_map (w_a @Bool.not_true w_t)))))))))))) (w_a cl (w_a ca w_t)) (w_a (w_d 4 [(9, iv 0)] [] []) (w_a (w_d 5 [(9, .tup [tmA (z, s.2), .v (.bool false)])] [] [13]) w_t)) ?_; (repeat' first | exact w_t | apply w_l); all_goals intros))
          refine ⟨(i + 1, l + 1), ⟨by simp only; omega, by simp only; omega, by exact gW e0, by exact gW e1, by exact gW e2, by exact gW e3, by exact gS, by exact gS, _, out, by exact gW e9, by exact gW em, by simp only; omega, hs⟩, by simp only; omega⟩
        · rw [if_neg hz] at hs
          rw [decide_eq_false (show ¬ (s.1 + t.1).num.sign = 0 by rw [sgn_ne]; exact hz)] at ca
          clear st ms mt m1 m2 d1 d2
          generalize (s.1 + t.1) = z at *
          (focus (refine wkad (w_a e0 (w_a e1 (w_a e2 (w_a e3 (w_a e9 (w_a e10 (w_a e11 (w_a em (w_a hg (w_a hh (w_a @l_map (w_a @Bool.not_false w_t)))))))))))) (w_a cl (w_a ca w_t)) (w_a (w_d 4 [(9, iv 0)] [] []) (w_a (w_d 5 [(9, .tup [tmA (z, s.2), .v (.bool true)])] [] [13]) w_t)) ?_; (repeat' first | exact w_t | apply w_l); all_goals intros))
          refine ⟨(i + 1, l + 1), ⟨by simp only; omega, by simp only; omega, by exact gW e0, by exact gW e1, by exact gW e2, by exact gW e3, by exact gS, by exact gS, _, out ++ [(z, s.2)], by exact gC, by (simp (disch := omega) only [go_sem, List.map_append] <;> repeat' first | rfl | refine ⟨?_, ?_⟩), by simp only [List.length_append, List.length_cons, List.length_nil]; omega, by rw [hs, List.append_assoc]; rfl⟩, by simp only; omega⟩
      · rw [if_pos h1] at hs
        rw [h2] at cl
        clear st ms mt m1 m2 d1 d2 ca
        (focus (refine wkad (w_a e0 (w_a e1 (w_a e2 (w_a e3 (w_a e9 (w_a e10 (w_a e11 (w_a em (w_a hg (w_a hh (w_a @l_map w_t))))))))))) (w_a cl w_t) (w_a (w_d 4 [(9, iv 1)] [] []) w_t) ?_; (repeat' first | exact w_t | apply w_l); all_goals intros))
        refine ⟨(i + 1, l), ⟨by simp only; omega, by simp only; omega, by exact gW e0, by exact gW e1, by exact gW e2, by exact gW e3, by exact gS, by exact gW e11, _, out ++ [s], by exact gC, by (simp (disch := omega) only [go_sem, List.map_append] <;> repeat' first | rfl | refine ⟨?_, ?_⟩), by simp only [List.length_append, List.length_cons, List.length_nil]; omega, by rw [hs, List.append_assoc]; rfl⟩, by simp only; omega⟩
    · rw [addM_end (by omega)] at hs
      rw [hs]
      clear hs
      have tp : (p.map tmA).take p.length = p.map tmA := by rw [← List.length_map (f := tmA), List.take_length]
      have tq : (q.map tmA).take q.length = q.map tmA := by rw [← List.length_map (f := tmA), List.take_length]
      by_cases hi2 : i < p.length
      · have hl2 : l = q.length := by omega
        subst hl2
        (focus (refine wkad (w_a e0 (w_a e1 (w_a e2 (w_a e3 (w_a e9 (w_a e10 (w_a e11 (w_a em (w_a @l_map (w_a @l_drop (w_a @l_app (w_a @l_take (w_a @Nat.min_self (w_a tp (w_a tq w_t))))))))))))))) w_t w_t ?_; (repeat' first | exact w_t | apply w_l); all_goals intros))
        (all_goals (try simp (disch := omega) only [go_sem, List.append_assoc, tp, tq, decide_eq_true, decide_eq_false, if_pos, if_neg, Int.reduceAdd, Int.reduceSub, Int.reduceToNat, Int.zero_add])); (all_goals first | done | rfl | (congr 2; first | done | omega | (rw [Bool.eq_iff_iff]; simp only [bool_to_prop, Bool.false_eq_true, iff_true, true_iff, iff_false, false_iff]; omega)) | skip)
        all_goals exact congrArg (AV.sl 4) (by simp only [List.map_append, List.map_drop])
      · (focus (refine wkad (w_a e0 (w_a e1 (w_a e2 (w_a e3 (w_a e9 (w_a e10 (w_a e11 (w_a em (w_a @l_map (w_a @l_drop (w_a @l_app (w_a @l_take (w_a @Nat.min_self (w_a tp (w_a tq w_t))))))))))))))) w_t w_t ?_; (repeat' first | exact w_t | apply w_l); all_goals intros))
        (all_goals (try simp (disch := omega) only [go_sem, List.append_assoc, tp, tq, decide_eq_true, decide_eq_false, if_pos, if_neg, Int.reduceAdd, Int.reduceSub, Int.reduceToNat, Int.zero_add])); (all_goals first | done | rfl | (congr 2; first | done | omega | (rw [Bool.eq_iff_iff]; simp only [bool_to_prop, Bool.false_eq_true, iff_true, true_iff, iff_false, false_iff]; omega)) | skip)
        all_goals exact congrArg (AV.sl 4) (by simp only [List.map_append, List.map_drop])
  · exact ⟨Nat.zero_le _, Nat.zero_le _, by exact gC, by exact gC, by exact gC, by exact gC, by exact gC, by exact gC, _, [], by exact gC, by (simp (disch := omega) only [go_sem, List.map_nil, List.replicate_zero] <;> repeat' first | rfl | refine ⟨?_, ?_⟩), by simp, by simp⟩
end Go.Proofs.YtbgmnobnaplmlaaGreat
end

section
namespace Go.Proofs.YtbgmnobnaplmlaaGreat
open Go Go.RowKit Go.Pg Go.Pol
set_option linter.unusedSimpArgs false
set_option linter.unusedVariables false
set_option maxRecDepth 20000
attribute [local go_sem] Tryz.underlying3 Tryz.underlying4 Tryz.underlying43 Tryz.underlying41 Tryz.underlying39 Tryz.underlying63 Tryz.underlying69 Tryz.underlying61 Tryz.underlying70 Tryz.underlying78 sz3 by3 z3 szRat zRat szInt zInt szNat zNat szTerm byTerm zTerm szMono byMono zMono szPoly byPoly zPoly
attribute [-bool_to_prop] Bool.and_eq_decide Bool.or_eq_decide Bool.decide_beq_decide decide_eq_decide
theorem poAdd (p q : Po) {j k e : Nat} (hp : PK p j e) (hq : PK q k e) (sp : SrtM p) (sq : SrtM q) (lp : p.length ≤ 1000000) (lq : q.length ≤ 1000000) (hj : j ≤ 1000000) (hk : k ≤ 1000000) (he : e ≤ 16777216) :
    Pure Tryz.prog 106 [poA p, poA q] (poA (addM p q)) := by
  have c := poMerge p q hp hq sp sq lp lq hj hk he
  generalize addM p q = r at *
  refine pure_intro (tok := 0) Tryz.func106 rfl Tryz.ntmps106 Tryz.results106 Tryz.call106 (by rfl) (by simp) ?_
  (focus (refine wklp w_t (w_a c w_t) w_t (w_r 0) ?_; (repeat' first | exact w_t | apply w_l); all_goals intros))
theorem poTimes1 {p : Po} {t : Tm} {i : Nat} (hi : i < p.length) : timesP mulM (p.take (i + 1)) t = timesP mulM (p.take i) t ++ [(p[i].1 * t.1, mulM p[i].2 t.2)] := by
  unfold timesP
  rw [List.take_succ_eq_append_getElem hi, List.map_append]; rfl
theorem timesP_len (p : Po) (t : Tm) : (timesP mulM p t).length = p.length := by unfold timesP; simp
set_option maxHeartbeats 4000000 in
theorem poTimes (p : Po) (t : Tm) {j k e f : Nat} (hp : PK p j e) (ht : PK [t] k f) (sp : SrtM p) (h0 : t.1 ≠ 0) (hd : Can t.2) (lp : p.length ≤ 1000000) (hj : j ≤ 1000000) (hk : k ≤ 1000000) (he : e ≤ 16777216) (hf : f ≤ 16777216) :
    Pure Tryz.prog 149 [poA p, .agg [.v (.bool (decide (t.1.num < 0))), lim (toL t.1.num.natAbs), lim (toL t.1.den), ivs t.2]] (poA (timesP mulM p t)) := by
  refine pure_intro (tok := 0) Tryz.func149 rfl Tryz.ntmps149 Tryz.results149 Tryz.call149 (by rfl) (by simp) ?_
  (focus (refine wkad (w_a @l_map w_t) w_t w_t ?_; (repeat' first | exact w_t | apply w_l); all_goals intros))
  rename_i g3 sv0
  refine r_loopE (ι := Nat) (fun i e m => i ≤ p.length ∧ e 3 = .pbox 3 g3 0 ∧ m 3 = some (.box g3 63 [.v (.bool (decide (t.1.num < 0))), lim (toL t.1.num.natAbs), lim (toL t.1.den), ivs t.2] false) ∧ e 12 = poA p ∧ e 13 = iv p.length ∧ e 14 = iv i ∧ ∃ sv, e 5 = .own 11 sv ∧ m 11 = some (.row sv 63 4 ((timesP mulM (p.take i) t).map tmA) 0)) (fun i => p.length - i) 0 (by rfl) ?_ ?_
  · rintro i e m ⟨hi, e3, m3, e12, e13, e14, sv, e5, m11⟩
    by_cases hlt : i < p.length
    · have hg := map_atB tmA hlt
      have hs := poTimes1 (t := t) hlt
      have ms := hp _ (List.getElem_mem hlt)
      have m1 := hp.sm he (List.getElem_mem hlt)
      have m2 := ht.sm hf (.head _)
      have d1 := sp.dom _ (List.getElem_mem hlt)
      have n1 := (sp.1 _ (List.getElem_mem hlt)).1
      have mt := (ht t (.head _)).1
      have hl : (timesP mulM (p.take i) t).length ≤ 1000000 := by rw [timesP_len, List.length_take]; omega
      generalize p[i] = s at *
      have c1 := ratMul s.1 t.1 ms.1 mt (by omega) (by omega)
      have c2 := ratSign (s.1 * t.1) (ms.1.mul mt) (by omega)
      have c3 : Pure Tryz.prog 208 [ivs s.2, ivs t.2] (ivs (trimI (mulM s.2 t.2))) := monMul s.2 t.2 m1.wd m2.wd
      rw [trim_can (mulK.dom _ _ d1 hd)] at c3
      have nz : ¬ (s.1 * t.1).num.sign = 0 := by
        rw [sgn_ne]; intro h
        rcases Rat.mul_eq_zero.1 h with h | h
        · exact n1 h
        · exact h0 h
      have nz2 : (!decide ((s.1 * t.1).num.sign = 0)) = true := by rw [decide_eq_false nz]; rfl
      obtain ⟨s1, s2⟩ := s
      simp only at *
      clear ms m1 m2 d1 n1 mt
      generalize s1 * t.1 = z at *
      generalize mulM s2 t.2 = w at *
      generalize timesP mulM (p.take i) t = out at *
      (focus (refine wkad (w_a e3 (w_a m3 (w_a e12 (w_a e13 (w_a e14 (w_a e5 (w_a m11 (w_a hg (w_a @l_map (w_a nz2 w_t)))))))))) (w_a c1 (w_a c2 (w_a c3 w_t))) (w_a (w_d 7 [(6, ivs w)] [9, 1009] [11, 34]) w_t) ?_; (repeat' first | exact w_t | apply w_l); all_goals intros))
      exact ⟨i + 1, ⟨by omega, by exact gW e3, by exact gW m3, by exact gW e12, by exact gW e13, by exact gS, _, by exact gC, by rw [hs, List.map_append]; exact gC⟩, by omega⟩
    · have hi2 : i = p.length := by omega
      subst hi2
      rw [List.take_length] at m11
      (focus (refine wkld (w_a e3 (w_a m3 (w_a e12 (w_a e13 (w_a e14 (w_a e5 (w_a m11 (w_a @l_map w_t)))))))) w_t (w_a m11 w_t) w_t ?_; (repeat' first | exact w_t | apply w_l); all_goals intros))
  · exact ⟨Nat.zero_le _, by exact gC, by exact gC, by exact gC, by (simp (disch := omega) only [go_sem, List.length_map] <;> repeat' first | rfl | refine ⟨?_, ?_⟩), by exact gC, _, by exact gC, by (simp (disch := omega) only [go_sem, List.take_zero, timesP, List.map_nil, List.replicate_zero] <;> repeat' first | rfl | refine ⟨?_, ?_⟩)⟩
set_option maxHeartbeats 4000000 in
theorem poTimesN (p : Po) (t : Tm) (hn : t.2 = []) {j k e f : Nat} (hp : PK p j e) (ht : PK [t] k f) (sp : SrtM p) (h0 : t.1 ≠ 0) (hd : Can t.2) (lp : p.length ≤ 1000000) (hj : j ≤ 1000000) (hk : k ≤ 1000000) (he : e ≤ 16777216) (hf : f ≤ 16777216) :
    Pure Tryz.prog 149 [poA p, .agg [.v (.bool (decide (t.1.num < 0))), lim (toL t.1.num.natAbs), lim (toL t.1.den), .v (.slice none 0 0)]] (poA (timesP mulM p t)) := by
  refine pure_intro (tok := 0) Tryz.func149 rfl Tryz.ntmps149 Tryz.results149 Tryz.call149 (by rfl) (by simp) ?_
  (focus (refine wkad (w_a @l_map w_t) w_t w_t ?_; (repeat' first | exact w_t | apply w_l); all_goals intros))
  rename_i g3 sv0
  refine r_loopE (ι := Nat) (fun i e m => i ≤ p.length ∧ e 3 = .pbox 3 g3 0 ∧ m 3 = some (.box g3 63 [.v (.bool (decide (t.1.num < 0))), lim (toL t.1.num.natAbs), lim (toL t.1.den), .v (.slice none 0 0)] false) ∧ e 12 = poA p ∧ e 13 = iv p.length ∧ e 14 = iv i ∧ ∃ sv, e 5 = .own 11 sv ∧ m 11 = some (.row sv 63 4 ((timesP mulM (p.take i) t).map tmA) 0)) (fun i => p.length - i) 0 (by rfl) ?_ ?_
  · rintro i e m ⟨hi, e3, m3, e12, e13, e14, sv, e5, m11⟩
    by_cases hlt : i < p.length
    · have hg := map_atB tmA hlt
      have hs := poTimes1 (t := t) hlt
      have ms := hp _ (List.getElem_mem hlt)
      have m1 := hp.sm he (List.getElem_mem hlt)
      have m2 := ht.sm hf (.head _)
      have d1 := sp.dom _ (List.getElem_mem hlt)
      have n1 := (sp.1 _ (List.getElem_mem hlt)).1
      have mt := (ht t (.head _)).1
      have hl : (timesP mulM (p.take i) t).length ≤ 1000000 := by rw [timesP_len, List.length_take]; omega
      generalize p[i] = s at *
      have c1 := ratMul s.1 t.1 ms.1 mt (by omega) (by omega)
      have c2 := ratSign (s.1 * t.1) (ms.1.mul mt) (by omega)
      have c3 : Pure Tryz.prog 208 [ivs s.2, ivs t.2] (ivs (trimI (mulM s.2 t.2))) := monMul s.2 t.2 m1.wd m2.wd
      rw [trim_can (mulK.dom _ _ d1 hd)] at c3
      have nz : ¬ (s.1 * t.1).num.sign = 0 := by
        rw [sgn_ne]; intro h
        rcases Rat.mul_eq_zero.1 h with h | h
        · exact n1 h
        · exact h0 h
      have nz2 : (!decide ((s.1 * t.1).num.sign = 0)) = true := by rw [decide_eq_false nz]; rfl
      have c3 : Pure Tryz.prog 208 [ivs s.2, .v (.slice none 0 0)] (ivs (mulM s.2 t.2)) := by
        rw [hn] at c3 ⊢
        exact pure_vkA c3 (.cons (.refl _) (.cons (.nil 1) .nil))
      obtain ⟨s1, s2⟩ := s
      simp only at *
      clear ms m1 m2 d1 n1 mt
      generalize s1 * t.1 = z at *
      generalize mulM s2 t.2 = w at *
      generalize timesP mulM (p.take i) t = out at *
      (focus (refine wkad (w_a e3 (w_a m3 (w_a e12 (w_a e13 (w_a e14 (w_a e5 (w_a m11 (w_a hg (w_a @l_map (w_a nz2 w_t)))))))))) (w_a c1 (w_a c2 (w_a c3 w_t))) (w_a (w_d 7 [(6, ivs w)] [9, 1009] [11, 34]) w_t) ?_; (repeat' first | exact w_t | apply w_l); all_goals intros))
      exact ⟨i + 1, ⟨by omega, by exact gW e3, by exact gW m3, by exact gW e12, by exact gW e13, by exact gS, _, by exact gC, by rw [hs, List.map_append]; exact gC⟩, by omega⟩
    · have hi2 : i = p.length := by omega
      subst hi2
      rw [List.take_length] at m11
      (focus (refine wkld (w_a e3 (w_a m3 (w_a e12 (w_a e13 (w_a e14 (w_a e5 (w_a m11 (w_a @l_map w_t)))))))) w_t (w_a m11 w_t) w_t ?_; (repeat' first | exact w_t | apply w_l); all_goals intros))
  · exact ⟨Nat.zero_le _, by exact gC, by exact gC, by exact gC, by (simp (disch := omega) only [go_sem, List.length_map] <;> repeat' first | rfl | refine ⟨?_, ?_⟩), by exact gC, _, by exact gC, by (simp (disch := omega) only [go_sem, List.take_zero, timesP, List.map_nil, List.replicate_zero] <;> repeat' first | rfl | refine ⟨?_, ?_⟩)⟩
end Go.Proofs.YtbgmnobnaplmlaaGreat
end

section
namespace Go.Proofs.YtbgmnobnaplmlaaGreat
open Go Go.RowKit Go.Pg
set_option linter.unusedSimpArgs false
set_option linter.unusedVariables false
set_option maxRecDepth 20000
attribute [local go_sem] Tryz.underlying3 Tryz.underlying2 Tryz.underlying115 Tryz.underlying178 Tryz.underlying4 Tryz.underlying43 Tryz.underlying39 Tryz.underlying41 sz3 by3 z3 szL byL zL szRat zRat szNat zNat szInt zInt
attribute [-bool_to_prop] Bool.and_eq_decide Bool.or_eq_decide Bool.decide_beq_decide decide_eq_decide
theorem intOfM : Pure Tryz.prog 224 [iv (-1)] (intZ (-1)) := by
  have hm := intMade true 1 (by rw [lg_one]; omega)
  have hn := natOf 1 (by omega)
  rw [show zI true 1 = -1 from rfl] at hm
  rw [show intZ (-1) = .agg [.v (.bool true), lim (toL 1)] from rfl] at hm ⊢
  generalize toL 1 = l at *
  refine pure_intro (tok := 0) Tryz.func224 rfl Tryz.ntmps224 Tryz.results224 Tryz.call224 (by rfl) (by simp) ?_
  (focus (refine wklp w_t (w_a hn (w_a hm w_t)) w_t (w_r 0) ?_; (repeat' first | exact w_t | apply w_l); all_goals intros))
theorem ratOfM : Pure Tryz.prog 183 [iv (-1)] (ratQ (-1)) := by
  have c := intOfM
  rw [show intZ (-1) = .agg [.v (.bool true), lim (toL 1)] from rfl] at c
  rw [show ratQ (-1) = .agg [.v (.bool true), lim (toL 1), lim (toL 1)] from rfl]
  have u := ratUnit
  generalize toL 1 = l at *
  refine pure_intro (tok := 0) Tryz.func183 rfl Tryz.ntmps183 Tryz.results183 Tryz.call183 (by rfl) (by simp) ?_
  (focus (refine wklp w_t (w_a c (w_a u w_t)) w_t (w_r 0) ?_; (repeat' first | exact w_t | apply w_l); all_goals intros))
theorem zOfM : Pure Tryz.prog 56 [iv (-1)] (intZ (-1)) := by
  have hm := zOf' true 1 (by rw [lg_one]; omega)
  have h0 := refOf 0 (by omega)
  have h1 := refOf 1 (by omega)
  have ha := rAdd 0 1 (by rw [toL_zero]; simp) (by rw [lg_one]; omega)
  rw [show zI true 1 = -1 from rfl] at hm
  rw [show 0 + 1 = 1 from rfl] at ha
  rw [show intZ (-1) = .agg [.v (.bool true), lim (toL 1)] from rfl] at hm ⊢
  generalize toL 1 = l at *
  generalize toL 0 = k at *
  refine pure_intro (tok := 0) Tryz.func56 rfl Tryz.ntmps56 Tryz.results56 Tryz.call56 (by rfl) (by simp) ?_
  (focus (refine wklp w_t (w_a h0 (w_a h1 (w_a ha (w_a hm w_t)))) w_t (w_r 0) ?_; (repeat' first | exact w_t | apply w_l); all_goals intros))
theorem qOfM : Pure Tryz.prog 18 [iv (-1)] (ratQ (-1)) := by
  have c := zOfM
  have h1 := refOf 1 (by omega)
  have co : Pure Tryz.prog 55 [.agg [.v (.bool true), lim (toL 1)], lim (toL 1)] (ratQ (mkRat (zI true 1) 1)) := qOver true 1 1 (by rw [lg_one]; omega) (by rw [lg_one]; omega) (by omega)
  rw [show mkRat (zI true 1) 1 = (-1 : Rat) from rfl] at co
  rw [show intZ (-1) = .agg [.v (.bool true), lim (toL 1)] from rfl] at c
  rw [show ratQ (-1) = .agg [.v (.bool true), lim (toL 1), lim (toL 1)] from rfl] at *
  generalize toL 1 = l at *
  refine pure_intro (tok := 0) Tryz.func18 rfl Tryz.ntmps18 Tryz.results18 Tryz.call18 (by rfl) (by simp) ?_
  (focus (refine wklp w_t (w_a c (w_a h1 (w_a co w_t))) w_t (w_r 0) ?_; (repeat' first | exact w_t | apply w_l); all_goals intros))
end Go.Proofs.YtbgmnobnaplmlaaGreat
end

section
namespace Go.Proofs.YtbgmnobnaplmlaaGreat
open Go Go.RowKit Go.Pg Go.Pol
set_option linter.unusedSimpArgs false
set_option linter.unusedVariables false
set_option maxRecDepth 20000
attribute [local go_sem] Tryz.underlying3 Tryz.underlying4 Tryz.underlying43 Tryz.underlying41 Tryz.underlying39 Tryz.underlying63 Tryz.underlying69 Tryz.underlying61 Tryz.underlying70 Tryz.underlying78 sz3 by3 z3 szRat zRat szInt zInt szNat zNat szTerm byTerm zTerm szMono byMono zMono szPoly byPoly zPoly
attribute [-bool_to_prop] Bool.and_eq_decide Bool.or_eq_decide Bool.decide_beq_decide decide_eq_decide
/-- All sums of neighbours are of a moderate size. -/
def SumOk (l : List Po) (K e : Nat) : Prop := ∀ a b, PK (sumH ltM ((l.drop a).take b)) K e ∧ (sumH ltM ((l.drop a).take b)).length ≤ 1000000
theorem SumOk.take {l : List Po} {K e : Nat} (h : SumOk l K e) (k : Nat) : SumOk (l.take k) K e := fun a b => by
  rw [List.drop_take, List.take_take]; exact h a _
theorem SumOk.drop {l : List Po} {K e : Nat} (h : SumOk l K e) (k : Nat) : SumOk (l.drop k) K e := fun a b => by
  rw [List.drop_drop]; exact h _ b
theorem SumOk.all {l : List Po} {K e : Nat} (h : SumOk l K e) : PK (sumH ltM l) K e ∧ (sumH ltM l).length ≤ 1000000 := by
  have := h 0 l.length
  rwa [List.drop_zero, List.take_length] at this
set_option maxHeartbeats 4000000 in
theorem poSumN : ∀ (n : Nat) (l : List Po) {K e : Nat}, l.length = n → (∀ p ∈ l, SrtM p) → SumOk l K e → l.length ≤ 1000000 → K ≤ 1000000 → e ≤ 16777216 → Pure Tryz.prog 150 [.sl 1 (l.map poA)] (poA (sumH ltM l)) := by
  intro n
  induction n using Nat.strongRecOn with
  | _ n ih =>
    intro l K e hn hs ho hl hK he
    match l, hn, hs, ho, hl with
    | [], hn, hs, ho, hl =>
      rw [show sumH ltM [] = [] from by simp [sumH]]
      refine pure_vkR (r := .v (.slice none 0 0)) ?_ (.nil 4)
      refine pure_intro (tok := 0) Tryz.func150 rfl Tryz.ntmps150 Tryz.results150 Tryz.call150 (by rfl) (by simp) ?_
      (focus (refine wkld w_t w_t w_t w_t ?_; (repeat' first | exact w_t | apply w_l); all_goals intros))
    | [p], hn, hs, ho, hl =>
      rw [show sumH ltM [p] = p from by simp [sumH]]
      refine pure_intro (tok := 0) Tryz.func150 rfl Tryz.ntmps150 Tryz.results150 Tryz.call150 (by rfl) (by simp) ?_
      (focus (refine wkld w_t w_t w_t w_t ?_; (repeat' first | exact w_t | apply w_l); all_goals intros))
    | p :: q :: r, hn, hs, ho, hl =>
      obtain ⟨L, hL⟩ : ∃ L, L = p :: q :: r := ⟨_, rfl⟩
      have h2 : 2 ≤ L.length := by rw [hL]; simp
      have e1 : sumH ltM (p :: q :: r) = addM (sumH ltM (L.take (L.length / 2))) (sumH ltM (L.drop (L.length / 2))) := by rw [sumH, ← hL]
      rw [e1]
      rw [← hL] at hn hs ho hl ⊢
      clear e1 hL
      have s1 : ∀ u ∈ L.take (L.length / 2), SrtM u := fun u hu => hs u (List.mem_of_mem_take hu)
      have s2 : ∀ u ∈ L.drop (L.length / 2), SrtM u := fun u hu => hs u (List.mem_of_mem_drop hu)
      have o1 := (ho.take (L.length / 2)).all
      have o2 := (ho.drop (L.length / 2)).all
      have c1 := ih (L.take (L.length / 2)).length (by rw [List.length_take]; omega) (L.take (L.length / 2)) rfl s1 (ho.take _) (by rw [List.length_take]; omega) hK he
      have c2 := ih (L.drop (L.length / 2)).length (by rw [List.length_drop]; omega) (L.drop (L.length / 2)) rfl s2 (ho.drop _) (by rw [List.length_drop]; omega) hK he
      have c3 := poAdd (sumH ltM (L.take (L.length / 2))) (sumH ltM (L.drop (L.length / 2))) o1.1 o2.1 (sumH_srt ordM _ s1) (sumH_srt ordM _ s2) o1.2 o2.2 hK hK he
      clear ih s1 s2 o1 o2 ho hs
      have hd : (L.length : Int).tdiv 2 = ((L.length / 2 : Nat) : Int) := quo_nat _ 2
      have hh : L.length / 2 ≤ L.length := by omega
      rw [List.map_take] at c1
      rw [List.map_drop] at c2
      have hlm : (L.map poA).length = L.length := List.length_map ..
      have htk : (L.map poA).take L.length = L.map poA := by rw [← hlm, List.take_length]
      generalize sumH ltM (L.take (L.length / 2)) = x at *
      generalize sumH ltM (L.drop (L.length / 2)) = y at *
      generalize addM x y = z at *
      generalize L.length / 2 = h at *
      generalize L.map poA = M at *
      generalize L.length = len at *
      refine pure_intro (tok := 0) Tryz.func150 rfl Tryz.ntmps150 Tryz.results150 Tryz.call150 (by rfl) (by simp) ?_
      (focus (refine wkld (w_a hlm (w_a hd (w_a htk (w_a @l_drop0 w_t)))) (w_a c1 (w_a c2 (w_a c3 w_t))) w_t (w_a (w_d 7 [(3, poA x), (7, poA y), (8, poA z)] [] []) w_t) ?_; (repeat' first | exact w_t | apply w_l); all_goals intros))
theorem poSum (l : List Po) {K e : Nat} (hs : ∀ p ∈ l, SrtM p) (ho : SumOk l K e) (hl : l.length ≤ 1000000) (hK : K ≤ 1000000) (he : e ≤ 16777216) : Pure Tryz.prog 150 [.sl 1 (l.map poA)] (poA (sumH ltM l)) := poSumN _ l rfl hs ho hl hK he
set_option maxHeartbeats 4000000 in
theorem poMul0 (p q : Po) (a b : Po) (hab : (q.length < p.length ∧ a = q ∧ b = p) ∨ (¬ q.length < p.length ∧ a = p ∧ b = q)) {j k e f K E : Nat} (hp : PK a j e) (hq : PK b k f) (sp : SrtM a) (sq : SrtM b) (lp : a.length ≤ 1000000) (lq : b.length ≤ 1000000) (hj : j ≤ 1000000) (hk : k ≤ 1000000) (he : e ≤ 16777216) (hf : f ≤ 16777216)
    (ho : SumOk (a.map fun t => timesP mulM b t) K E) (hK : K ≤ 1000000) (hE : E ≤ 16777216) :
    Pure Tryz.prog 78 [poA p, poA q] (poA (mlM b a)) := by
  have hs : ∀ u ∈ a.map (fun t => timesP mulM b t), SrtM u := fun u hu => by
    obtain ⟨t, ht, rfl⟩ := List.mem_map.1 hu
    exact times_srt mulK sq (sp.1 t ht).1 (sp.1 t ht).2
  have cs := poSum _ hs ho (by rw [List.length_map]; exact lp) hK hE
  rw [show sumH ltM (a.map fun t => timesP mulM b t) = mlM b a from mulH_eq ordM mulK sp sq] at cs
  clear ho hs
  have loop : ∀ (e1 : Nat → AV) (m1 : Mem) (Q : AE → St → Prop), True → True := fun _ _ _ _ => trivial
  rcases hab with ⟨hlt, rfl, rfl⟩ | ⟨hlt, rfl, rfl⟩
  all_goals
    refine pure_intro (tok := 0) Tryz.func78 rfl Tryz.ntmps78 Tryz.results78 Tryz.call78 (by rfl) (by simp) ?_
    (focus (refine wkap (w_a @l_map w_t) w_t (w_r 0) ?_; (repeat' first | exact w_t | apply w_l); all_goals intros))
    rename_i sv0
    refine r_loopE (ι := Nat) (fun i e' m => i ≤ a.length ∧ e' 1 = poA b ∧ e' 18 = poA a ∧ e' 19 = iv a.length ∧ e' 20 = iv i ∧ ∃ sv, e' 5 = .own 17 sv ∧ m 17 = some (.row sv 70 1 (((a.take i).map fun t => timesP mulM b t).map poA) 0)) (fun i => a.length - i) 0 (by rfl) ?_ ?_
    · rintro i e' m ⟨hi, e1, e18, e19, e20, sv, e5, m17⟩
      by_cases hlt : i < a.length
      · have hg := map_atB tmA hlt
        have ht : PK [a[i]] j e := fun u hu => by rw [List.mem_singleton] at hu; subst hu; exact hp _ (List.getElem_mem hlt)
        have c1 := poTimes b a[i] hq ht sq (sp.1 _ (List.getElem_mem hlt)).1 (sp.1 _ (List.getElem_mem hlt)).2 lq hk hj hf he
        have hsn : ((a.take (i + 1)).map fun t => timesP mulM b t).map poA = ((a.take i).map fun t => timesP mulM b t).map poA ++ [poA (timesP mulM b a[i])] := by
          rw [List.take_succ_eq_append_getElem hlt, List.map_append, List.map_append]; rfl
        have hl : (((a.take i).map fun t => timesP mulM b t).map poA).length = i := by rw [List.length_map, List.length_map, List.length_take]; omega
        generalize a[i] = t at *
        generalize ((a.take i).map fun t => timesP mulM b t).map poA = out at *
        generalize timesP mulM b t = tm at *
        (focus (refine wkap (w_a e1 (w_a e18 (w_a e19 (w_a e20 (w_a e5 (w_a m17 (w_a hg (w_a hl (w_a @l_map w_t))))))))) (w_a c1 w_t) (w_r 0) ?_; (repeat' first | exact w_t | apply w_l); all_goals intros))
        exact ⟨i + 1, ⟨by omega, by exact gW e1, by exact gW e18, by exact gW e19, by exact gS, _, by exact gC, by rw [hsn]; exact gC⟩, by omega⟩
      · have hi2 : i = a.length := by omega
        subst hi2
        rw [List.take_length] at m17
        generalize (a.map fun t => timesP mulM b t).map poA = out at *
        (focus (refine wkax (w_a e1 (w_a e18 (w_a e19 (w_a e20 (w_a e5 (w_a m17 (w_a @l_map w_t))))))) w_t w_t (w_a cs w_t) w_t w_t (w_r 0) ?_; (repeat' first | exact w_t | apply w_l); all_goals intros))
        (all_goals (try simp (disch := omega) only [go_sem, decide_eq_true, decide_eq_false, if_pos, if_neg, Int.reduceAdd, Int.reduceSub, Int.reduceToNat, Int.zero_add])); (all_goals first | done | rfl | (congr 2; first | done | omega | (rw [Bool.eq_iff_iff]; simp only [bool_to_prop, Bool.false_eq_true, iff_true, true_iff, iff_false, false_iff]; omega)) | skip)
    · exact ⟨Nat.zero_le _, by exact gC, by exact gC, by (simp (disch := omega) only [go_sem, List.length_map] <;> repeat' first | rfl | refine ⟨?_, ?_⟩), by exact gC, _, by exact gC, by (simp (disch := omega) only [go_sem, List.take_zero, List.map_nil, List.replicate_zero] <;> repeat' first | rfl | refine ⟨?_, ?_⟩)⟩
/-- The product's parts, as the program lays them. -/
def partsM (p q : Po) : List Po := if q.length < p.length then q.map fun t => timesP mulM p t else p.map fun t => timesP mulM q t
theorem poMul (p q : Po) {j k e f K E : Nat} (hp : PK p j e) (hq : PK q k f) (sp : SrtM p) (sq : SrtM q) (lp : p.length ≤ 1000000) (lq : q.length ≤ 1000000) (hj : j ≤ 1000000) (hk : k ≤ 1000000) (he : e ≤ 16777216) (hf : f ≤ 16777216)
    (ho : SumOk (partsM p q) K E) (hK : K ≤ 1000000) (hE : E ≤ 16777216) :
    Pure Tryz.prog 78 [poA p, poA q] (poA (mlM p q)) := by
  unfold partsM at ho
  by_cases h : q.length < p.length
  · rw [if_pos h] at ho
    exact poMul0 p q q p (.inl ⟨h, rfl, rfl⟩) hq hp sq sp lq lp hk hj hf he ho hK hE
  · rw [if_neg h] at ho
    have := poMul0 p q p q (.inr ⟨h, rfl, rfl⟩) hp hq sp sq lp lq hj hk he hf ho hK hE
    rwa [show mlM q p = mlM p q from mulR_comm ordM mulK sq sp] at this
/-- A list of at most one has no sums but itself. -/
theorem SumOk.one {l : List Po} {K e : Nat} (hl : l.length ≤ 1) (h : ∀ p ∈ l, PK p K e ∧ p.length ≤ 1000000) : SumOk l K e := fun a b => by
  have h0 : PK (sumH ltM []) K e ∧ (sumH ltM []).length ≤ 1000000 := by rw [show sumH ltM [] = [] from by simp [sumH]]; exact ⟨.nil, by simp⟩
  match l, hl, h with
  | [], _, _ => simpa using h0
  | [p], _, h =>
    match a, b with
    | 0, 0 => simpa using h0
    | 0, b + 1 => simp only [List.drop_zero, List.take_succ_cons, List.take_nil]; rw [show sumH ltM [p] = p from by simp [sumH]]; exact h p (.head _)
    | a + 1, b => simpa using h0
theorem poMulVar (p : Po) (v : Nat) {j e : Nat} (hp : PK p j e) (sp : SrtM p) (lp : p.length ≤ 1000000) (hj : j ≤ 999999) (he : e ≤ 16777215) : Pure Tryz.prog 78 [poA p, poA (varM v)] (poA (mlM p (varM v))) := by
  have hv : (varM v).length ≤ 1 := by unfold varM; split <;> simp
  refine poMul p (varM v) hp (varM_pk v) sp (varM_srt v) lp (by omega) (by omega) (by omega) (by omega) (by omega) (K := j + 1) (E := e + 1) ?_ (by omega) (by omega)
  unfold partsM
  split
  · refine SumOk.one (by rw [List.length_map]; exact hv) fun u hu => ?_
    obtain ⟨t, ht, rfl⟩ := List.mem_map.1 hu
    exact ⟨hp.times (fun w hw => by rw [List.mem_singleton] at hw; subst hw; exact varM_pk v _ ht), by rw [timesP_len]; exact lp⟩
  · rename_i h
    refine SumOk.one (by rw [List.length_map]; omega) fun u hu => ?_
    obtain ⟨t, ht, rfl⟩ := List.mem_map.1 hu
    refine ⟨((varM_pk v).times (fun w hw => by rw [List.mem_singleton] at hw; subst hw; exact hp _ ht)).mono (by omega) (by omega), by rw [timesP_len]; omega⟩
theorem poScale (p : Po) (a : Rat) {j k e : Nat} (hp : PK p j e) (ha : Sz a k) (sp : SrtM p) (lp : p.length ≤ 1000000) (hj : j ≤ 1000000) (hk : k ≤ 1000000) (he : e ≤ 16777216) : Pure Tryz.prog 109 [poA p, ratQ a] (poA (sclM a p)) := by
  have cs := ratSign a ha (by omega)
  unfold sclM
  by_cases h : a = 0
  · rw [if_pos h]
    have hz : a.num.sign = 0 := by rw [sgn_ne]; exact h
    refine pure_vkR (r := .v (.slice none 0 0)) ?_ (.nil 4)
    refine pure_intro (tok := 0) Tryz.func109 rfl Tryz.ntmps109 Tryz.results109 Tryz.call109 (by rfl) (by simp) ?_
    (focus (refine wklp (w_a hz w_t) (w_a cs w_t) w_t (w_r 0) ?_; (repeat' first | exact w_t | apply w_l); all_goals intros))
  · rw [if_neg h]
    have hz : ¬ a.num.sign = 0 := by rw [sgn_ne]; exact h
    have ct := poTimesN p (a, []) rfl (j := j) (k := k) (e := e) (f := 0) hp (fun u hu => by rw [List.mem_singleton] at hu; subst hu; exact ⟨ha, by simp, fun i => by show 0 ≤ gI [] i ∧ gI [] i ≤ _; rw [gI_out (Nat.zero_le _)]; omega⟩) sp h can_nil lp hj hk he (by omega)
    rw [times_unit] at ct
    simp only at ct
    generalize scaleP a p = r at *
    generalize a.num.sign = z at *
    refine pure_intro (tok := 0) Tryz.func109 rfl Tryz.ntmps109 Tryz.results109 Tryz.call109 (by rfl) (by simp) ?_
    (focus (refine wklp w_t (w_a cs (w_a ct w_t)) w_t (w_r 0) ?_; (repeat' first | exact w_t | apply w_l); all_goals intros))
theorem poNeg (p : Po) {j e : Nat} (hp : PK p j e) (sp : SrtM p) (lp : p.length ≤ 1000000) (hj : j ≤ 1000000) (he : e ≤ 16777216) : Pure Tryz.prog 110 [poA p] (poA (scaleP (-1) p)) := by
  have c := poScale p (-1) hp ((nat_sz1 1 (by omega)).neg) sp lp hj (by omega) he
  have co := ratOfM
  rw [show sclM (-1) p = scaleP (-1) p from if_neg neg1] at c
  generalize scaleP (-1) p = r at *
  generalize (-1 : Rat) = q at *
  refine pure_intro (tok := 0) Tryz.func110 rfl Tryz.ntmps110 Tryz.results110 Tryz.call110 (by rfl) (by simp) ?_
  (focus (refine wklp w_t (w_a co (w_a c w_t)) w_t (w_r 0) ?_; (repeat' first | exact w_t | apply w_l); all_goals intros))
theorem PK.neg {q : Po} {k e : Nat} (hq : PK q k e) : PK (scaleP (-1) q) k e := fun t ht => by
  obtain ⟨s, hs, rfl⟩ := List.mem_map.1 ht
  refine ⟨?_, (hq s hs).2⟩
  show Sz (s.1 * -1) k
  rw [show s.1 * -1 = -s.1 by grind]
  exact (hq s hs).1.neg
theorem scale_len (a : Rat) (p : Po) : (scaleP a p).length = p.length := by unfold scaleP; simp
theorem poSub (p q : Po) {j k e : Nat} (hp : PK p j e) (hq : PK q k e) (sp : SrtM p) (sq : SrtM q) (lp : p.length ≤ 1000000) (lq : q.length ≤ 1000000) (hj : j ≤ 1000000) (hk : k ≤ 1000000) (he : e ≤ 16777216) :
    Pure Tryz.prog 77 [poA p, poA q] (poA (subM p q)) := by
  have c1 := poNeg q hq sq lq hk he
  have c2 := poAdd p (scaleP (-1) q) hp hq.neg sp (scale_srt sq neg1) lp (by rw [scale_len]; exact lq) hj hk he
  show Pure _ _ _ (poA (addM p (scaleP (-1) q)))
  generalize scaleP (-1) q = n at *
  generalize addM p n = r at *
  refine pure_intro (tok := 0) Tryz.func77 rfl Tryz.ntmps77 Tryz.results77 Tryz.call77 (by rfl) (by simp) ?_
  (focus (refine wklp w_t (w_a c1 (w_a c2 w_t)) w_t (w_r 0) ?_; (repeat' first | exact w_t | apply w_l); all_goals intros))
theorem unit_set (v : Nat) : ((List.replicate (v + 1) (iv 0)).set v (iv 1)) = (unitM v).map iv := by
  unfold unitM
  rw [List.map_append, List.map_replicate, List.replicate_succ', List.set_append_right _ _ (by simp)]
  simp
theorem poSingle (c : Rat) (m : List Int) (h : c ≠ 0) {k : Nat} (hc : Sz c k) (hk : k ≤ 1000000) : Pure Tryz.prog 210 [ratQ c, ivs m] (poA [(c, m)]) := by
  have cs := ratSign c hc (by omega)
  have hz : ¬ c.num.sign = 0 := by rw [sgn_ne]; exact h
  generalize c.num.sign = z at *
  refine pure_intro (tok := 0) Tryz.func210 rfl Tryz.ntmps210 Tryz.results210 Tryz.call210 (by rfl) (by simp) ?_
  (focus (refine wklp w_t (w_a cs w_t) w_t (w_r 0) ?_; (repeat' first | exact w_t | apply w_l); all_goals intros))
theorem poVar (v : Nat) (hv : v < 1000) : Pure Tryz.prog 157 [iv v] (poA (varM v)) := by
  unfold varM
  by_cases h : v < 64
  · rw [if_pos h]
    have c1 := ratOf 1 (by omega)
    rw [show ((1 : Nat) : Rat) = 1 from rfl] at c1
    have c2 := poSingle 1 (unitM v) (by decide) (nat_sz1 1 (by omega)) (by omega)
    have hu : (iv 0 :: List.replicate v (iv 0)).set v (iv 1) = (unitM v).map iv := by rw [← List.replicate_succ]; exact unit_set v
    generalize (1 : Rat) = q at *
    have hl : (List.replicate (v + 1) (iv 0)).length = v + 1 := by simp
    refine pure_intro (tok := 0) Tryz.func157 rfl Tryz.ntmps157 Tryz.results157 Tryz.call157 (by rfl) (by simp) ?_
    (focus (refine wkax (w_a hl (w_a hu w_t)) (w_a c1 w_t) w_t (w_a c2 w_t) w_t w_t (w_r 0) ?_; (repeat' first | exact w_t | apply w_l); all_goals intros))
    (all_goals (try simp (disch := omega) only [go_sem, decide_eq_true, decide_eq_false, if_pos, if_neg, Int.reduceAdd, Int.reduceSub, Int.reduceToNat, Int.zero_add])); (all_goals first | done | rfl | (congr 2; first | done | omega | (rw [Bool.eq_iff_iff]; simp only [bool_to_prop, Bool.false_eq_true, iff_true, true_iff, iff_false, false_iff]; omega)) | skip)
  · rw [if_neg h]
    refine pure_vkR (r := .v (.slice none 0 0)) ?_ (.nil 4)
    refine pure_intro (tok := 0) Tryz.func157 rfl Tryz.ntmps157 Tryz.results157 Tryz.call157 (by rfl) (by simp) ?_
    (focus (refine wklp w_t w_t w_t (w_r 0) ?_; (repeat' first | exact w_t | apply w_l); all_goals intros))
end Go.Proofs.YtbgmnobnaplmlaaGreat
end

section
namespace Go.Proofs.YtbgmnobnaplmlaaGreat
open Go Go.RowKit Go.Pg Go.Pol
set_option linter.unusedSimpArgs false
set_option linter.unusedVariables false
set_option maxRecDepth 20000
attribute [local go_sem] Tryz.underlying3 Tryz.underlying4 Tryz.underlying43 Tryz.underlying41 Tryz.underlying39 Tryz.underlying63 Tryz.underlying69 Tryz.underlying61 Tryz.underlying70 Tryz.underlying78 sz3 by3 z3 szRat zRat szInt zInt szNat zNat szTerm byTerm zTerm szMono byMono zMono szPoly byPoly zPoly
attribute [-bool_to_prop] Bool.and_eq_decide Bool.or_eq_decide Bool.decide_beq_decide decide_eq_decide
theorem rpLex (a b : List Int) (hs : Sm a) (ht : Sm b) : Pure Tryz.prog 122 [ivs a, ivs b, iv 0] (iv (lexC a b (max a.length b.length))) := by
  have c : Pure Tryz.prog 122 [ivs a, ivs b, iv 0] (iv (cmpI a b 0)) := mrCmp a b 0 hs ht
  have e : cmpI a b 0 = lexC a b (max a.length b.length) := by unfold cmpI; rw [if_neg (by omega)]
  rwa [e] at c
theorem qSign (q : Rat) {k : Nat} (h : Sz q k) (hk : k ≤ 10000000) : Pure Tryz.prog 120 [ratQ q] (.v (.int .i64 q.num.sign)) := by
  have c := zSign q.num (by have := h.1; omega)
  have cn := qNorm q h hk
  generalize q.num.sign = z at *
  refine pure_intro (tok := 0) Tryz.func120 rfl Tryz.ntmps120 Tryz.results120 Tryz.call120 (by rfl) (by simp) ?_
  (focus (refine wklp w_t (w_a cn (w_a c w_t)) w_t (w_r 0) ?_; (repeat' first | exact w_t | apply w_l); all_goals intros))
set_option maxHeartbeats 4000000 in
theorem rpAdd (p q : Po) {j k e : Nat} (hp : PK p j e) (hq : PK q k e) (sp : SrtM p) (sq : SrtM q) (lp : p.length ≤ 1000000) (lq : q.length ≤ 1000000) (hj : j ≤ 1000000) (hk : k ≤ 1000000) (he : e ≤ 16777216) :
    Pure Tryz.prog 80 [poA p, poA q] (poA (addM p q)) := by
  refine pure_intro (tok := 0) Tryz.func80 rfl Tryz.ntmps80 Tryz.results80 Tryz.call80 (by rfl) (by simp) ?_
  (focus (refine wkad (w_a @l_map w_t) w_t w_t ?_; (repeat' first | exact w_t | apply w_l); all_goals intros))
  refine r_frz (Frz.nilOwn (d := 5) 100 4 63 (by exact gC)) ?_
  refine r_loopE (ι := Nat × Nat) (fun x e m => x.1 ≤ p.length ∧ x.2 ≤ q.length ∧ e 0 = poA p ∧ e 1 = poA q ∧ e 6 = iv x.1 ∧ e 7 = iv x.2 ∧ ∃ sv out, e 5 = .own 100 sv ∧ m 100 = some (.row sv 63 4 (out.map tmA) 0) ∧ out.length ≤ x.1 + x.2 ∧ addM p q = out ++ addM (p.drop x.1) (q.drop x.2)) (fun x => p.length + q.length - (x.1 + x.2)) (0, 0) (by rfl) ?_ ?_
  · rintro ⟨i, l⟩ e m ⟨hi, hl, e0, e1, e6, e7, sv, out, e5, em, ho, hs⟩
    simp only at hi hl e6 e7 ho hs
    by_cases hil : i < p.length ∧ l < q.length
    · obtain ⟨hi2, hl2⟩ := hil
      have hg := map_atB tmA hi2
      have hh := map_atB tmA hl2
      have st := addM_step hi2 hl2
      have ms := hp _ (List.getElem_mem hi2)
      have mt := hq _ (List.getElem_mem hl2)
      have m1 := hp.sm he (List.getElem_mem hi2)
      have m2 := hq.sm he (List.getElem_mem hl2)
      have d1 := sp.dom _ (List.getElem_mem hi2)
      have d2 := sq.dom _ (List.getElem_mem hl2)
      generalize p[i] = s at *
      generalize q[l] = t at *
      have cl := rpLex s.2 t.2 m1 m2
      have ca := qAdd s.1 t.1 ms.1 mt.1 (by omega) (by omega)
      have cz := qSign (s.1 + t.1) (ms.1.add mt.1) (by omega)
      have hlen : (out.map tmA).length = out.length := List.length_map ..
      rw [st] at hs
      obtain ⟨s1, s2⟩ := s
      obtain ⟨t1, t2⟩ := t
      simp only at *
      rcases lexM_cases d1 d2 with ⟨h1, h2⟩ | ⟨h1, h1', h2, h3⟩ | ⟨h1, h1', h2⟩
      · have h3 : ¬ ltM t2 s2 := fun h => ordM.irr _ (ordM.tr _ _ _ h h1)
        rw [if_neg h3, if_pos h1] at hs
        rw [h2] at cl
        clear st ms mt m1 m2 d1 d2 ca cz
        (focus (refine wkad (w_a e0 (w_a e1 (w_a e6 (w_a e7 (w_a e5 (w_a em (w_a hg (w_a hh (w_a @l_map w_t))))))))) (w_a cl w_t) (w_a (w_d 8 [(10, iv (-1))] [] []) w_t) ?_; (repeat' first | exact w_t | apply w_l); all_goals intros))
        refine ⟨(i, l + 1), ⟨by simp only; omega, by simp only; omega, by exact gW e0, by exact gW e1, by exact gW e6, by exact gS, _, out ++ [(t1, t2)], by exact gC, by (simp (disch := omega) only [go_sem, List.map_append] <;> repeat' first | rfl | refine ⟨?_, ?_⟩), by simp only [List.length_append, List.length_cons, List.length_nil]; omega, by rw [hs, List.append_assoc]; rfl⟩, by simp only; omega⟩
      · rw [if_neg h1', if_neg h1] at hs
        rw [h3] at cl
        by_cases hz : s1 + t1 = 0
        · rw [if_pos hz] at hs
          have hz2 : (s1 + t1).num.sign = 0 := by rw [sgn_ne]; exact hz
          clear st ms mt m1 m2 d1 d2
          generalize (s1 + t1) = z at *
          (focus (refine wkad (w_a e0 (w_a e1 (w_a e6 (w_a e7 (w_a e5 (w_a em (w_a hg (w_a hh (w_a @l_map (w_a hz2 w_t)))))))))) (w_a cl (w_a ca (w_a cz w_t))) (w_a (w_d 8 [(10, iv 0)] [] []) (w_a (w_d 9 [(10, ratQ z)] [] [9]) w_t)) ?_; (repeat' first | exact w_t | apply w_l); all_goals intros))
          refine ⟨(i + 1, l + 1), ⟨by simp only; omega, by simp only; omega, by exact gW e0, by exact gW e1, by exact gS, by exact gS, _, out, by exact gW e5, by exact gW em, by simp only; omega, hs⟩, by simp only; omega⟩
        · rw [if_neg hz] at hs
          have hz2 : ¬ (s1 + t1).num.sign = 0 := by rw [sgn_ne]; exact hz
          clear st ms mt m1 m2 d1 d2
          generalize (s1 + t1) = z at *
          (focus (refine wkax (w_a e0 (w_a e1 (w_a e6 (w_a e7 (w_a e5 (w_a em (w_a hg (w_a hh (w_a @l_map w_t))))))))) (w_a cl (w_a ca (w_a cz w_t))) (w_a (w_d 8 [(10, iv 0)] [] []) (w_a (w_d 9 [(10, ratQ z)] [] [9]) (w_a (w_d 11 [] [9, 1009] [100, 61]) w_t))) w_t w_t w_t (w_r 0) ?_; (repeat' first | exact w_t | apply w_l); all_goals intros))
          refine ⟨(i + 1, l + 1), ⟨by simp only; omega, by simp only; omega, by exact gW e0, by exact gW e1, by exact gS, by exact gS, _, out ++ [(z, s2)], by exact gC, by (simp (disch := omega) only [go_sem, List.map_append] <;> repeat' first | rfl | refine ⟨?_, ?_⟩), by simp only [List.length_append, List.length_cons, List.length_nil]; omega, by rw [hs, List.append_assoc]; rfl⟩, by simp only; omega⟩
      · rw [if_pos h1] at hs
        rw [h2] at cl
        clear st ms mt m1 m2 d1 d2 ca cz
        (focus (refine wkad (w_a e0 (w_a e1 (w_a e6 (w_a e7 (w_a e5 (w_a em (w_a hg (w_a hh (w_a @l_map w_t))))))))) (w_a cl w_t) (w_a (w_d 8 [(10, iv 1)] [] []) w_t) ?_; (repeat' first | exact w_t | apply w_l); all_goals intros))
        refine ⟨(i + 1, l), ⟨by simp only; omega, by simp only; omega, by exact gW e0, by exact gW e1, by exact gS, by exact gW e7, _, out ++ [(s1, s2)], by exact gC, by (simp (disch := omega) only [go_sem, List.map_append] <;> repeat' first | rfl | refine ⟨?_, ?_⟩), by simp only [List.length_append, List.length_cons, List.length_nil]; omega, by rw [hs, List.append_assoc]; rfl⟩, by simp only; omega⟩
    · rw [addM_end (by omega)] at hs
      by_cases hi2 : i < p.length
      · have hl2 : l = q.length := by omega
        subst hl2
        have hg := map_atB tmA hi2
        have hd : p.drop i = p[i] :: p.drop (i + 1) := List.drop_eq_getElem_cons hi2
        rw [hd] at hs
        have hs : addM p q = (out ++ [p[i]]) ++ addM (p.drop (i + 1)) (q.drop q.length) := by
          rw [addM_end (.inr (Nat.le_refl _)), hs]; simp
        clear hd
        generalize p[i] = s at *
        obtain ⟨s1, s2⟩ := s
        (focus (refine wkad (w_a e0 (w_a e1 (w_a e6 (w_a e7 (w_a e5 (w_a em (w_a hg (w_a @l_map w_t)))))))) w_t w_t ?_; (repeat' first | exact w_t | apply w_l); all_goals intros))
        refine ⟨(i + 1, q.length), ⟨by simp only; omega, by simp only; omega, by exact gW e0, by exact gW e1, by exact gS, by exact gW e7, _, out ++ [(s1, s2)], by exact gC, by (simp (disch := omega) only [go_sem, List.map_append] <;> repeat' first | rfl | refine ⟨?_, ?_⟩), by simp only [List.length_append, List.length_cons, List.length_nil]; omega, hs⟩, by simp only; omega⟩
      · have hi3 : i = p.length := by omega
        subst hi3
        by_cases hl2 : l < q.length
        · have hg := map_atB tmA hl2
          have hd : q.drop l = q[l] :: q.drop (l + 1) := List.drop_eq_getElem_cons hl2
          rw [hd] at hs
          have hs : addM p q = (out ++ [q[l]]) ++ addM (p.drop p.length) (q.drop (l + 1)) := by
            rw [addM_end (.inl (Nat.le_refl _)), hs]; simp
          clear hd
          generalize q[l] = s at *
          obtain ⟨s1, s2⟩ := s
          (focus (refine wkad (w_a e0 (w_a e1 (w_a e6 (w_a e7 (w_a e5 (w_a em (w_a hg (w_a @l_map w_t)))))))) w_t w_t ?_; (repeat' first | exact w_t | apply w_l); all_goals intros))
          refine ⟨(p.length, l + 1), ⟨by simp only; omega, by simp only; omega, by exact gW e0, by exact gW e1, by exact gW e6, by exact gS, _, out ++ [(s1, s2)], by exact gC, by (simp (disch := omega) only [go_sem, List.map_append] <;> repeat' first | rfl | refine ⟨?_, ?_⟩), by simp only [List.length_append, List.length_cons, List.length_nil]; omega, hs⟩, by simp only; omega⟩
        · have hl3 : l = q.length := by omega
          subst hl3
          rw [List.drop_length, List.drop_length, List.append_nil, List.append_nil] at hs
          rw [hs]
          (focus (refine wkld (w_a e0 (w_a e1 (w_a e6 (w_a e7 (w_a e5 (w_a em (w_a @l_map w_t))))))) w_t (w_a em w_t) w_t ?_; (repeat' first | exact w_t | apply w_l); all_goals intros))
  · exact ⟨Nat.zero_le _, Nat.zero_le _, by exact gC, by exact gC, by exact gC, by exact gC, _, [], by exact gC, by (simp (disch := omega) only [go_sem, List.map_nil] <;> repeat' first | rfl | refine ⟨?_, ?_⟩), by simp, by simp⟩
set_option maxHeartbeats 4000000 in
theorem rpTimes (p : Po) (t : Tm) {j k e f : Nat} (hp : PK p j e) (ht : PK [t] k f) (lp : p.length ≤ 1000000) (hj : j ≤ 1000000) (hk : k ≤ 1000000) (he : e ≤ 16777216) (hf : f ≤ 16777216) :
    Pure Tryz.prog 146 [poA p, tmA t] (poA (timesP mulM p t)) := by
  obtain ⟨t1, t2⟩ := t
  refine pure_intro (tok := 0) Tryz.func146 rfl Tryz.ntmps146 Tryz.results146 Tryz.call146 (by rfl) (by simp) ?_
  (focus (refine wkad (w_a @l_map w_t) w_t w_t ?_; (repeat' first | exact w_t | apply w_l); all_goals intros))
  rename_i g3
  refine r_frz (Frz.nilOwn (d := 5) 100 4 63 (by exact gC)) ?_
  refine r_loopE (ι := Nat) (fun i e m => i ≤ p.length ∧ e 3 = .pbox 3 g3 0 ∧ m 3 = some (.box g3 63 [.v (.bool (decide (t1.num < 0))), lim (toL t1.num.natAbs), lim (toL t1.den), ivs t2] false) ∧ e 0 = poA p ∧ e 6 = iv i ∧ ∃ sv, e 5 = .own 100 sv ∧ m 100 = some (.row sv 63 4 ((timesP mulM (p.take i) (t1, t2)).map tmA) 0)) (fun i => p.length - i) 0 (by rfl) ?_ ?_
  · rintro i e m ⟨hi, e3, m3, e0, e6, sv, e5, m11⟩
    by_cases hlt : i < p.length
    · have hg := map_atB tmA hlt
      have hs := poTimes1 (t := (t1, t2)) hlt
      have ms := hp _ (List.getElem_mem hlt)
      have m1 := hp.sm he (List.getElem_mem hlt)
      have m2 := ht.sm hf (.head _)
      have mt := (ht _ (.head _)).1
      have hl : (timesP mulM (p.take i) (t1, t2)).length ≤ 1000000 := by rw [timesP_len, List.length_take]; omega
      generalize p[i] = s at *
      have c1 := qMul s.1 t1 ms.1 mt (by omega) (by omega)
      have c3 : Pure Tryz.prog 205 [ivs s.2, ivs t2] (ivs (mulM s.2 t2)) := mrMul s.2 t2 m1.wd m2.wd
      obtain ⟨s1, s2⟩ := s
      simp only at *
      clear ms m1 m2 mt
      generalize s1 * t1 = z at *
      generalize mulM s2 t2 = w at *
      generalize timesP mulM (p.take i) (t1, t2) = out at *
      (focus (refine wkad (w_a e3 (w_a m3 (w_a e0 (w_a e6 (w_a e5 (w_a m11 (w_a hg (w_a @l_map w_t)))))))) (w_a c1 (w_a c3 w_t)) (w_a (w_d 5 [(8, ratQ z), (16, ivs w)] [19, 1019] [100, 31]) w_t) ?_; (repeat' first | exact w_t | apply w_l); all_goals intros))
      exact ⟨i + 1, ⟨by omega, by exact gW e3, by exact gW m3, by exact gW e0, by exact gS, _, by exact gC, by rw [hs, List.map_append]; exact gC⟩, by omega⟩
    · have hi2 : i = p.length := by omega
      subst hi2
      rw [List.take_length] at m11
      (focus (refine wkld (w_a e3 (w_a m3 (w_a e0 (w_a e6 (w_a e5 (w_a m11 (w_a @l_map w_t))))))) w_t (w_a m11 w_t) w_t ?_; (repeat' first | exact w_t | apply w_l); all_goals intros))
  · exact ⟨Nat.zero_le _, by exact gC, by exact gC, by exact gC, by exact gC, _, by exact gC, by (simp (disch := omega) only [go_sem, List.take_zero, timesP, List.map_nil] <;> repeat' first | rfl | refine ⟨?_, ?_⟩)⟩
theorem scale_take {p : Po} {a : Rat} {i : Nat} (hi : i < p.length) : scaleP a (p.take (i + 1)) = scaleP a (p.take i) ++ [(p[i].1 * a, p[i].2)] := by
  unfold scaleP
  rw [List.take_succ_eq_append_getElem hi, List.map_append]; rfl
set_option maxHeartbeats 4000000 in
theorem rpScale0 (p : Po) (a : Rat) {j k e : Nat} (hp : PK p j e) (ha : Sz a k) (lp : p.length ≤ 1000000) (hj : j ≤ 1000000) (hk : k ≤ 1000000) (h : a ≠ 0) :
    Pure Tryz.prog 206 [poA p, ratQ a] (poA (scaleP a p)) := by
  have cs := qSign a ha (by omega)
  have hz : ¬ a.num.sign = 0 := by rw [sgn_ne]; exact h
  generalize a.num.sign = sg at *
  refine pure_intro (tok := 0) Tryz.func206 rfl Tryz.ntmps206 Tryz.results206 Tryz.call206 (by rfl) (by simp) ?_
  (focus (refine wkad (w_a @l_map w_t) w_t w_t ?_; (repeat' first | exact w_t | apply w_l); all_goals intros))
  rename_i g3
  refine r_frz (Frz.nilOwn (d := 5) 100 4 63 (by exact gC)) ?_
  refine r_loopE (ι := Nat) (fun i e m => i ≤ p.length ∧ e 3 = .pbox 3 g3 0 ∧ m 3 = some (.box g3 43 [.v (.bool (decide (a.num < 0))), lim (toL a.num.natAbs), lim (toL a.den)] false) ∧ e 0 = poA p ∧ e 6 = iv i ∧ ∃ sv, e 5 = .own 100 sv ∧ m 100 = some (.row sv 63 4 ((scaleP a (p.take i)).map tmA) 0)) (fun i => p.length - i) 0 (by rfl) ?_ ?_
  · rintro i e m ⟨hi, e3, m3, e0, e6, sv, e5, m11⟩
    by_cases hlt : i < p.length
    · have hg := map_atB tmA hlt
      have hs := scale_take (a := a) hlt
      have ms := (hp _ (List.getElem_mem hlt)).1
      have hl : (scaleP a (p.take i)).length ≤ 1000000 := by rw [scale_len, List.length_take]; omega
      generalize p[i] = s at *
      have c1 := qMul s.1 a ms ha (by omega) (by omega)
      obtain ⟨s1, s2⟩ := s
      simp only at *
      clear ms
      generalize s1 * a = z at *
      generalize scaleP a (p.take i) = out at *
      (focus (refine wkad (w_a e3 (w_a m3 (w_a e0 (w_a e6 (w_a e5 (w_a m11 (w_a hg (w_a @l_map w_t)))))))) (w_a c1 (w_a cs w_t)) (w_a (w_d 5 [(7, ratQ z)] [15, 1015] [100, 32]) w_t) ?_; (repeat' first | exact w_t | apply w_l); all_goals intros))
      exact ⟨i + 1, ⟨by omega, by exact gW e3, by exact gW m3, by exact gW e0, by exact gS, _, by exact gC, by rw [hs, List.map_append]; exact gC⟩, by omega⟩
    · have hi2 : i = p.length := by omega
      subst hi2
      rw [List.take_length] at m11
      (focus (refine wkld (w_a e3 (w_a m3 (w_a e0 (w_a e6 (w_a e5 (w_a m11 (w_a @l_map w_t))))))) w_t (w_a m11 w_t) w_t ?_; (repeat' first | exact w_t | apply w_l); all_goals intros))
  · exact ⟨Nat.zero_le _, by exact gC, by exact gC, by exact gC, by exact gC, _, by exact gC, by (simp (disch := omega) only [go_sem, List.take_zero, scaleP, List.map_nil] <;> repeat' first | rfl | refine ⟨?_, ?_⟩)⟩
theorem rpNeg (p : Po) {j e : Nat} (hp : PK p j e) (lp : p.length ≤ 1000000) (hj : j ≤ 1000000) : Pure Tryz.prog 148 [poA p] (poA (scaleP (-1) p)) := by
  have c := rpScale0 p (-1) hp ((nat_sz1 1 (by omega)).neg) lp hj (by omega) neg1
  have co := qOfM
  generalize scaleP (-1) p = r at *
  generalize (-1 : Rat) = q at *
  refine pure_intro (tok := 0) Tryz.func148 rfl Tryz.ntmps148 Tryz.results148 Tryz.call148 (by rfl) (by simp) ?_
  (focus (refine wklp w_t (w_a co (w_a c w_t)) w_t (w_r 0) ?_; (repeat' first | exact w_t | apply w_l); all_goals intros))
theorem rpSub (p q : Po) {j k e : Nat} (hp : PK p j e) (hq : PK q k e) (sp : SrtM p) (sq : SrtM q) (lp : p.length ≤ 1000000) (lq : q.length ≤ 1000000) (hj : j ≤ 1000000) (hk : k ≤ 1000000) (he : e ≤ 16777216) :
    Pure Tryz.prog 74 [poA p, poA q] (poA (subM p q)) := by
  have c1 := rpNeg q hq lq hk
  have c2 := rpAdd p (scaleP (-1) q) hp hq.neg sp (scale_srt sq neg1) lp (by rw [scale_len]; exact lq) hj hk he
  show Pure _ _ _ (poA (addM p (scaleP (-1) q)))
  generalize scaleP (-1) q = n at *
  generalize addM p n = r at *
  refine pure_intro (tok := 0) Tryz.func74 rfl Tryz.ntmps74 Tryz.results74 Tryz.call74 (by rfl) (by simp) ?_
  (focus (refine wklp w_t (w_a c1 (w_a c2 w_t)) w_t (w_r 0) ?_; (repeat' first | exact w_t | apply w_l); all_goals intros))
theorem mulR_take {p q : Po} {i : Nat} (hi : i < q.length) : mlM p (q.take (i + 1)) = addM (mlM p (q.take i)) (timesP mulM p q[i]) := by
  unfold mlM mulR
  rw [List.take_succ_eq_append_getElem hi, List.foldl_append]; rfl
theorem srt_take {q : Po} (h : SrtM q) (i : Nat) : SrtM (q.take i) := ⟨fun t ht => h.1 t (List.mem_of_mem_take ht), List.Pairwise.sublist (List.take_sublist i q) h.2⟩
set_option maxHeartbeats 4000000 in
theorem rpMul (p q : Po) {j k e f K E : Nat} (hp : PK p j e) (hq : PK q k f) (sp : SrtM p) (sq : SrtM q) (lp : p.length ≤ 1000000) (lq : q.length ≤ 1000000) (hj : j ≤ 500000) (hk : k ≤ 500000) (he : e ≤ 8000000) (hf : f ≤ 8000000)
    (ho : ∀ i, PK (mlM p (q.take i)) K E ∧ (mlM p (q.take i)).length ≤ 1000000) (hK : K ≤ 1000000) (hE : E ≤ 16777216) :
    Pure Tryz.prog 72 [poA p, poA q] (poA (mlM p q)) := by
  refine pure_intro (tok := 0) Tryz.func72 rfl Tryz.ntmps72 Tryz.results72 Tryz.call72 (by rfl) (by simp) ?_
  (focus (refine wkap (w_a @l_map w_t) w_t (w_r 0) ?_; (repeat' first | exact w_t | apply w_l); all_goals intros))
  refine r_frz (Frz.nil (d := 5) 4 (by exact gC)) ?_
  refine r_loopE (ι := Nat) (fun i e' m => i ≤ q.length ∧ e' 0 = poA p ∧ e' 1 = poA q ∧ e' 6 = iv i ∧ e' 5 = poA (mlM p (q.take i))) (fun i => q.length - i) 0 (by rfl) ?_ ?_
  · rintro i e' m ⟨hi, e0, e1, e6, e5⟩
    by_cases hlt : i < q.length
    · have hg := map_atB tmA hlt
      have ht : PK [q[i]] k f := fun u hu => by rw [List.mem_singleton] at hu; subst hu; exact hq _ (List.getElem_mem hlt)
      have c1 := rpTimes p q[i] hp ht lp (by omega) (by omega) (by omega) (by omega)
      have c2 := rpAdd (mlM p (q.take i)) (timesP mulM p q[i]) (k := j + k) (e := max E (e + f)) ((ho i).1.mono (Nat.le_refl _) (by omega)) ((hp.times ht).mono (Nat.le_refl _) (by omega)) (mulR_srt ordM mulK sp (srt_take sq i)) (times_srt mulK sp (sq.1 _ (List.getElem_mem hlt)).1 (sq.1 _ (List.getElem_mem hlt)).2) (ho i).2 (by rw [timesP_len]; exact lp) hK (by omega) (by omega)
      rw [← mulR_take hlt] at c2
      generalize q[i] = t at *
      obtain ⟨t1, t2⟩ := t
      generalize timesP mulM p (t1, t2) = w at *
      generalize mlM p (q.take i) = out at *
      generalize hout : mlM p (q.take (i + 1)) = out' at *
      (focus (refine wkap (w_a e0 (w_a e1 (w_a e6 (w_a e5 (w_a hg (w_a @l_map w_t)))))) (w_a c1 (w_a c2 w_t)) (w_r 0) ?_; (repeat' first | exact w_t | apply w_l); all_goals intros))
      exact ⟨i + 1, ⟨by omega, by exact gW e0, by exact gW e1, by exact gS, by rw [hout]; exact gC⟩, by omega⟩
    · have hi2 : i = q.length := by omega
      subst hi2
      rw [List.take_length] at e5
      (focus (refine wklp (w_a e0 (w_a e1 (w_a e6 (w_a e5 (w_a @l_map w_t))))) w_t w_t (w_r 0) ?_; (repeat' first | exact w_t | apply w_l); all_goals intros))
  · exact ⟨Nat.zero_le _, by exact gC, by exact gC, by exact gC, by (simp (disch := omega) only [go_sem, List.take_zero, mlM, mulR, List.foldl_nil, List.map_nil] <;> repeat' first | rfl | refine ⟨?_, ?_⟩)⟩
theorem rpAddNil (c : Rat) (m : List Int) {k : Nat} (hc : Sz c k) (hk : k ≤ 1000000) : Pure Tryz.prog 147 [.v (.slice none 0 0), ratQ c, ivs m] (poA (if c = 0 then [] else [(c, m)])) := by
  have cs := qSign c hc (by omega)
  have cn := qNorm c hc (by omega)
  by_cases h : c = 0
  · rw [if_pos h]
    have hz : c.num.sign = 0 := by rw [sgn_ne]; exact h
    refine pure_intro (tok := 0) Tryz.func147 rfl Tryz.ntmps147 Tryz.results147 Tryz.call147 (by rfl) (by simp) ?_
    (focus (refine wkax (w_a hz w_t) (w_a cs w_t) w_t w_t w_t w_t (w_r 2) ?_; (repeat' first | exact w_t | apply w_l); all_goals intros))
    (all_goals (try simp (disch := omega) only [go_sem, decide_eq_true, decide_eq_false, if_pos, if_neg, Int.reduceAdd, Int.reduceSub, Int.reduceToNat, Int.zero_add])); (all_goals first | done | rfl | (congr 2; first | done | omega | (rw [Bool.eq_iff_iff]; simp only [bool_to_prop, Bool.false_eq_true, iff_true, true_iff, iff_false, false_iff]; omega)) | skip)
  · rw [if_neg h]
    have hz : ¬ c.num.sign = 0 := by rw [sgn_ne]; exact h
    generalize c.num.sign = z at *
    refine pure_intro (tok := 0) Tryz.func147 rfl Tryz.ntmps147 Tryz.results147 Tryz.call147 (by rfl) (by simp) ?_
    (focus (refine wkax w_t (w_a cs (w_a cn w_t)) w_t w_t w_t w_t (w_r 2) ?_; (repeat' first | exact w_t | apply w_l); all_goals intros))
    (all_goals (try simp (disch := omega) only [go_sem, decide_eq_true, decide_eq_false, if_pos, if_neg, Int.reduceAdd, Int.reduceSub, Int.reduceToNat, Int.zero_add])); (all_goals first | done | rfl | (congr 2; first | done | omega | (rw [Bool.eq_iff_iff]; simp only [bool_to_prop, Bool.false_eq_true, iff_true, true_iff, iff_false, false_iff]; omega)) | skip)
theorem rpVar (v : Nat) (hv : v < 1000) : Pure Tryz.prog 73 [iv v] (poA (varM v)) := by
  unfold varM
  by_cases h : v < 64
  · rw [if_pos h]
    have c1 := qOf 1 (by omega)
    rw [show ((1 : Nat) : Rat) = 1 from rfl] at c1
    have c2 := rpAddNil 1 (unitM v) (nat_sz1 1 (by omega)) (by omega)
    rw [if_neg (show (1 : Rat) ≠ 0 by decide)] at c2
    have hu : (iv 0 :: List.replicate v (iv 0)).set v (iv 1) = (unitM v).map iv := by rw [← List.replicate_succ]; exact unit_set v
    generalize (1 : Rat) = q at *
    have hl : (List.replicate (v + 1) (iv 0)).length = v + 1 := by simp
    refine pure_intro (tok := 0) Tryz.func73 rfl Tryz.ntmps73 Tryz.results73 Tryz.call73 (by rfl) (by simp) ?_
    (focus (refine wkax (w_a hl (w_a hu w_t)) (w_a c1 w_t) w_t (w_a c2 w_t) w_t w_t (w_r 0) ?_; (repeat' first | exact w_t | apply w_l); all_goals intros))
    (all_goals (try simp (disch := omega) only [go_sem, decide_eq_true, decide_eq_false, if_pos, if_neg, Int.reduceAdd, Int.reduceSub, Int.reduceToNat, Int.zero_add])); (all_goals first | done | rfl | (congr 2; first | done | omega | (rw [Bool.eq_iff_iff]; simp only [bool_to_prop, Bool.false_eq_true, iff_true, true_iff, iff_false, false_iff]; omega)) | skip)
  · rw [if_neg h]
    refine pure_vkR (r := .v (.slice none 0 0)) ?_ (.nil 4)
    refine pure_intro (tok := 0) Tryz.func73 rfl Tryz.ntmps73 Tryz.results73 Tryz.call73 (by rfl) (by simp) ?_
    (focus (refine wklp w_t w_t w_t (w_r 0) ?_; (repeat' first | exact w_t | apply w_l); all_goals intros))
theorem rpConst (c : Rat) {k : Nat} (hc : Sz c k) (hk : k ≤ 1000000) : Pure Tryz.prog 116 [ratQ c] (poA (if c = 0 then [] else [(c, [])])) := by
  have c2 := rpAddNil c [] hc hk
  have c2 := pure_vkA c2 (.cons (.refl _) (.cons (.refl _) (.cons (.nil 1) .nil)))
  generalize (if c = 0 then [] else [(c, [])]) = r at *
  refine pure_intro (tok := 0) Tryz.func116 rfl Tryz.ntmps116 Tryz.results116 Tryz.call116 (by rfl) (by simp) ?_
  (focus (refine wklp w_t (w_a c2 w_t) w_t (w_r 0) ?_; (repeat' first | exact w_t | apply w_l); all_goals intros))
def cmpT (s t : Tm) : Int := if lexC s.2 t.2 (max s.2.length t.2.length) ≠ 0 then lexC s.2 t.2 (max s.2.length t.2.length) else cmpQ s.1 t.1
def cmpPo : Po → Po → Int
  | [], [] => 0
  | [], _ :: _ => -1
  | _ :: _, [] => 1
  | s :: p, t :: q => if cmpT s t ≠ 0 then cmpT s t else cmpPo p q
end Go.Proofs.YtbgmnobnaplmlaaGreat
end

section
namespace Go.Proofs.YtbgmnobnaplmlaaGreat
open Go Go.RowKit Go.Pg
set_option linter.unusedSimpArgs false
set_option linter.unusedVariables false
set_option maxRecDepth 20000
attribute [-bool_to_prop] Bool.and_eq_decide Bool.or_eq_decide Bool.decide_beq_decide decide_eq_decide
theorem szPtrB : szOf Tryz.prog 103 = some 1 := by kernel_rfl
theorem zPtrB : zeroOf Tryz.prog 103 = some (.pointer none) := by kernel_rfl
theorem szFnC : szOf Tryz.prog 154 = some 1 := by kernel_rfl
theorem zFnC : zeroOf Tryz.prog 154 = some (.nilFunc) := by kernel_rfl
end Go.Proofs.YtbgmnobnaplmlaaGreat
end

section
namespace Go.Proofs.YtbgmnobnaplmlaaGreat
open Go Go.RowKit Go.Pg Go.Pol
set_option linter.unusedSimpArgs false
set_option linter.unusedVariables false
set_option maxRecDepth 20000
attribute [local go_sem] Tryz.underlying3 Tryz.underlying4 Tryz.underlying178 Tryz.underlying9 Tryz.underlying48 Tryz.underlying31 Tryz.underlying43 Tryz.underlying41 Tryz.underlying39 Tryz.underlying50 Tryz.underlying22 Tryz.underlying25 Tryz.underlying56 Tryz.underlying28 Tryz.underlying72 Tryz.underlying27 Tryz.underlying30 Tryz.underlying105 Tryz.underlying107 Tryz.underlying70 Tryz.underlying63 Tryz.underlying103 Tryz.underlying154 sz3 by3 z3 szB zB szErr zErr szStr byStr zStr szRat zRat szInt zInt szNat zNat szStep byStep zStep szFig zFig szSlI zSlI szSlS zSlS szVar byVar zVar szSlV zSlV szCoord byCoord zCoord szSlC zSlC szFrame zFrame szCBld byCBld zCBld szCVec byCVec zCVec szPoly byPoly zPoly szTerm zTerm szPtrB zPtrB szFnC zFnC
attribute [-bool_to_prop] Bool.and_eq_decide Bool.or_eq_decide Bool.decide_beq_decide decide_eq_decide
theorem Sub.nil (m : Nat) : Sub (.v (.slice none 0 0)) (.sl m []) := fun w imm x h => by
  rw [h.v_inv]
  exact .pure ((Wk.nil m).rd (.v _))
set_option maxHeartbeats 2000000 in
theorem cbVariable (σ : Mem) (KB KC KV g : Nat) (svC svV : Value) (vs : List Vt) (fr : Nat) (kind step number : Int) (hB : σ KB = some (.box g 105 [.own KC svC, .own KV svV, iv fr] false)) (hV : σ KV = some (.row svV 56 3 (vs.map Vt.av) 0)) (hl : vs.length ≤ 200) (hBV : KB ≠ KV) :
    ACall Tryz.prog 111 [.pbox KB g 0, iv kind, iv step, iv number] σ fun r σ' => ∃ sv, r = poA (varM vs.length) ∧ σ' = upd (upd σ KV (some (.row sv 56 3 ((vs ++ [(kind, step, number)]).map Vt.av) 0))) KB (some (.box g 105 [.own KC svC, .own KV sv, iv fr] false)) := by
  have mB := lents_at hB
  have mV := lents_at hV
  have cv := poVar vs.length (by omega)
  have hln : (vs.map Vt.av).length = vs.length := List.length_map ..
  have hm1 : ((vs.length + 1 : Nat) : Int) - 1 = (vs.length : Int) := by omega
  simp only [Ent.sh, AV.shL, AV.sh] at mB mV
  simp only [List.map_append, List.map_cons, List.map_nil]
  refine acall_lents Tryz.func111 rfl Tryz.ntmps111 Tryz.results111 Tryz.call111 (by rfl) (by simp) ?_
  (focus (refine wkap (w_a mB (w_a mV (w_a hln (w_a hm1 (w_a @l_app w_t))))) (w_a cv w_t) (w_r 0) ?_; (repeat' first | exact w_t | apply w_l); all_goals intros))
  simp (disch := omega) only [go_sem]
  rename_i sv0 sv1
  refine backS (Sub.refl _) ⟨sv1, rfl, rfl⟩ ?_
  (repeat' (first | exact Agr.start _ | (refine Agr.own ?_ (by omega)) | (refine Agr.put ?_ rfl rfl) | (refine Agr.mark ?_ (by omega)) | (rw [List.map_append]; rfl)))
theorem Sub.agg2 {a b a' b' : AV} (h : Sub a a') (k : Sub b b') : Sub (.agg [a, b]) (.agg [a', b']) := Sub.agg _ _ rfl fun j x y h1 h2 => by
  match j with
  | 0 => simp at h1 h2; subst h1; subst h2; exact h
  | 1 => simp at h1 h2; subst h1; subst h2; exact k
  | j + 2 => simp at h1
theorem upd_same' {σ : Mem} {k : Nat} {e : Ent} (h : σ k = some e) : upd σ k (some e) = σ := by
  funext j; rw [upd_at]; split
  · subst_vars; exact h.symm
  · rfl
set_option maxHeartbeats 4000000 in
theorem cbPoint (σ : Mem) (KB KC KV g : Nat) (svC svV : Value) (vs : List Vt) (fr : Nat) (i : Nat) (hB : σ KB = some (.box g 105 [.own KC svC, .own KV svV, iv fr] false)) (hV : σ KV = some (.row svV 56 3 (vs.map Vt.av) 0)) (hl : vs.length ≤ 100) (hBV : KB ≠ KV) (hf : fr ≤ 1000) :
    ACall Tryz.prog 107 [.pbox KB g 0, iv i] σ fun r σ' => ∃ sv, r = coA (if fr = 0 then ([], []) else if fr = 1 then (varM vs.length, []) else (varM vs.length, varM (vs.length + 1))) ∧
      σ' = upd (upd σ KV (some (.row sv 56 3 ((vs ++ (if fr = 0 then [] else if fr = 1 then [(1, (i : Int), 0)] else [(1, (i : Int), 0), (1, (i : Int), 1)])).map Vt.av) 0))) KB (some (.box g 105 [.own KC svC, .own KV sv, iv (fr + 1 : Nat)] false)) := by
  have mB := lents_at hB
  have mV := lents_at hV
  simp only [Ent.sh, AV.shL, AV.sh] at mB mV
  by_cases h0 : fr = 0
  · subst h0
    simp only [if_true, List.append_nil]
    refine acall_lents Tryz.func107 rfl Tryz.ntmps107 Tryz.results107 Tryz.call107 (by rfl) (by simp) ?_
    (focus (refine wkap (w_a mB (w_a mV w_t)) w_t (w_r 0) ?_; (repeat' first | exact w_t | apply w_l); all_goals intros))
    simp (disch := omega) only [go_sem]
    refine backS (Sub.agg2 (Sub.nil 4) (Sub.nil 4)) ⟨svV, rfl, rfl⟩ ?_
    rw [upd_same' hV]
    (repeat' (first | exact Agr.start _ | (refine Agr.own ?_ (by omega)) | (refine Agr.put ?_ rfl rfl) | (refine Agr.mark ?_ (by omega)) | (rw [List.map_append]; rfl)))
  · by_cases h1 : fr = 1
    · subst h1
      simp only [if_neg h0, if_true]
      refine acall_lents Tryz.func107 rfl Tryz.ntmps107 Tryz.results107 Tryz.call107 (by rfl) (by simp) ?_
      (focus (refine wkap (w_a mB (w_a mV w_t)) w_t (w_r 0) ?_; (repeat' first | exact w_t | apply w_l); all_goals intros))
      refine o_fresh (cbVariable _ (KB + 1000) (KC + 1000) (KV + 1000) g svC svV vs 2 1 (i : Int) 0 (by (simp (disch := omega) only [go_sem, mB, mV, if_neg, if_pos] <;> repeat' first | rfl | refine ⟨?_, ?_⟩)) (by (simp (disch := omega) only [go_sem, mB, mV, if_neg, if_pos, List.map_append, List.map_cons, List.map_nil] <;> repeat' first | rfl | refine ⟨?_, ?_⟩)) (by first | omega | (simp; omega)) (by omega)) ?_
      intro sv1
      (focus (refine wkap (w_a mB (w_a mV w_t)) w_t (w_r 0) ?_; (repeat' first | exact w_t | apply w_l); all_goals intros))
      simp (disch := omega) only [go_sem]
      refine backS (Sub.agg2 (Sub.refl _) (Sub.nil 4)) ⟨sv1, rfl, rfl⟩ ?_
      simp only [List.map_append, List.map_cons, List.map_nil]
      intro k
      by_cases hk1 : k = KB
      · rw [hk1]
        simp (disch := omega) only [upd_at, if_pos, if_neg, Option.map_some, Ent.sh, AV.shL, AV.sh]
        try rfl
      · by_cases hk2 : k = KV
        · rw [hk2]
          simp (disch := omega) only [upd_at, if_pos, if_neg, Option.map_some, Ent.sh, AV.shL, AV.sh]
          try rfl
        · simp (disch := omega) only [upd_at, if_neg]
          exact Agr.start σ k
    · simp only [if_neg h0, if_neg h1]
      have hl1 : (vs ++ [((1 : Int), (i : Int), (0 : Int))]).length = vs.length + 1 := by simp
      refine acall_lents Tryz.func107 rfl Tryz.ntmps107 Tryz.results107 Tryz.call107 (by rfl) (by simp) ?_
      (focus (refine wkap (w_a mB (w_a mV (w_a @cast_succ w_t))) w_t (w_r 0) ?_; (repeat' first | exact w_t | apply w_l); all_goals intros))
      refine o_fresh (cbVariable _ (KB + 1000) (KC + 1000) (KV + 1000) g svC svV vs (fr + 1) 1 (i : Int) 0 (by (simp (disch := omega) only [go_sem, mB, mV, if_neg, if_pos] <;> repeat' first | rfl | refine ⟨?_, ?_⟩)) (by (simp (disch := omega) only [go_sem, mB, mV, if_neg, if_pos, List.map_append, List.map_cons, List.map_nil] <;> repeat' first | rfl | refine ⟨?_, ?_⟩)) (by first | omega | (simp; omega)) (by omega)) ?_
      intro sv1
      (focus (refine wkap (w_a mB (w_a mV (w_a @cast_succ w_t))) w_t (w_r 0) ?_; (repeat' first | exact w_t | apply w_l); all_goals intros))
      refine o_fresh (cbVariable _ (KB + 1000) (KC + 1000) (KV + 1000) g svC sv1 (vs ++ [(1, (i : Int), 0)]) (fr + 1) 1 (i : Int) 1 (by (simp (disch := omega) only [go_sem, mB, mV, if_neg, if_pos] <;> repeat' first | rfl | refine ⟨?_, ?_⟩)) (by (simp (disch := omega) only [go_sem, mB, mV, if_neg, if_pos, List.map_append, List.map_cons, List.map_nil] <;> repeat' first | rfl | refine ⟨?_, ?_⟩)) (by first | omega | (simp; omega)) (by omega)) ?_
      intro sv2
      (focus (refine wkap (w_a mB (w_a mV (w_a hl1 w_t))) w_t (w_r 0) ?_; (repeat' first | exact w_t | apply w_l); all_goals intros))
      simp (disch := omega) only [go_sem, hl1]
      refine backS (Sub.refl _) ⟨sv2, rfl, rfl⟩ ?_
      simp only [List.append_assoc, List.cons_append, List.nil_append]
      intro k
      by_cases hk1 : k = KB
      · rw [hk1]
        simp (disch := omega) only [upd_at, if_pos, if_neg, Option.map_some, Ent.sh, AV.shL, AV.sh]
        try rfl
      · by_cases hk2 : k = KV
        · rw [hk2]
          simp (disch := omega) only [upd_at, if_pos, if_neg, Option.map_some, Ent.sh, AV.shL, AV.sh]
          try rfl
        · simp (disch := omega) only [upd_at, if_neg]
          exact Agr.start σ k
set_option maxHeartbeats 4000000 in
theorem cbDep (σ : Mem) (KB KC KV g : Nat) (svC svV : Value) (vs : List Vt) (fr : Nat) (i : Nat) (num : Int) (hB : σ KB = some (.box g 105 [.own KC svC, .own KV svV, iv fr] false)) (hV : σ KV = some (.row svV 56 3 (vs.map Vt.av) 0)) (hl : vs.length ≤ 100) (hBV : KB ≠ KV) (hn : 0 ≤ num ∧ num ≤ 10) :
    ACall Tryz.prog 113 [.pbox KB g 0, iv i, iv num] σ fun r σ' => ∃ sv, r = coA (varM vs.length, varM (vs.length + 1)) ∧
      σ' = upd (upd σ KV (some (.row sv 56 3 ((vs ++ [(2, (i : Int), num), (2, (i : Int), num + 1)]).map Vt.av) 0))) KB (some (.box g 105 [.own KC svC, .own KV sv, iv fr] false)) := by
  have mB := lents_at hB
  have mV := lents_at hV
  simp only [Ent.sh, AV.shL, AV.sh] at mB mV
  have hl1 : (vs ++ [((2 : Int), (i : Int), num)]).length = vs.length + 1 := by simp
  refine acall_lents Tryz.func113 rfl Tryz.ntmps113 Tryz.results113 Tryz.call113 (by rfl) (by simp) ?_
  (focus (refine wkap (w_a mB (w_a mV w_t)) w_t (w_r 0) ?_; (repeat' first | exact w_t | apply w_l); all_goals intros))
  refine o_fresh (cbVariable _ (KB + 1000) (KC + 1000) (KV + 1000) g svC svV vs fr 2 (i : Int) num (by (simp (disch := omega) only [go_sem, mB, mV, if_neg, if_pos] <;> repeat' first | rfl | refine ⟨?_, ?_⟩)) (by (simp (disch := omega) only [go_sem, mB, mV, if_neg, if_pos, List.map_append, List.map_cons, List.map_nil] <;> repeat' first | rfl | refine ⟨?_, ?_⟩)) (by first | omega | (simp; omega)) (by omega)) ?_
  intro sv1
  (focus (refine wkap (w_a mB (w_a mV w_t)) w_t (w_r 0) ?_; (repeat' first | exact w_t | apply w_l); all_goals intros))
  refine o_fresh (cbVariable _ (KB + 1000) (KC + 1000) (KV + 1000) g svC sv1 (vs ++ [(2, (i : Int), num)]) fr 2 (i : Int) (num + 1) (by (simp (disch := omega) only [go_sem, mB, mV, if_neg, if_pos] <;> repeat' first | rfl | refine ⟨?_, ?_⟩)) (by (simp (disch := omega) only [go_sem, mB, mV, if_neg, if_pos, List.map_append, List.map_cons, List.map_nil] <;> repeat' first | rfl | refine ⟨?_, ?_⟩)) (by first | omega | (simp; omega)) (by omega)) ?_
  intro sv2
  (focus (refine wkap (w_a mB (w_a mV (w_a hl1 w_t))) w_t (w_r 0) ?_; (repeat' first | exact w_t | apply w_l); all_goals intros))
  simp (disch := omega) only [go_sem, hl1]
  refine backS (Sub.refl _) ⟨sv2, rfl, rfl⟩ ?_
  simp only [List.append_assoc, List.cons_append, List.nil_append]
  intro k
  by_cases hk1 : k = KB
  · rw [hk1]
    simp (disch := omega) only [upd_at, if_pos, if_neg, Option.map_some, Ent.sh, AV.shL, AV.sh]
    try rfl
  · by_cases hk2 : k = KV
    · rw [hk2]
      simp (disch := omega) only [upd_at, if_pos, if_neg, Option.map_some, Ent.sh, AV.shL, AV.sh]
      try rfl
    · simp (disch := omega) only [upd_at, if_neg]
      exact Agr.start σ k
end Go.Proofs.YtbgmnobnaplmlaaGreat
end

section
namespace Go.Proofs.YtbgmnobnaplmlaaGreat
open Go Go.RowKit Go.Pg Go.Pol
set_option linter.unusedSimpArgs false
set_option linter.unusedVariables false
set_option maxRecDepth 20000
attribute [local go_sem] Tryz.underlying3 Tryz.underlying4 Tryz.underlying178 Tryz.underlying9 Tryz.underlying48 Tryz.underlying31 Tryz.underlying43 Tryz.underlying41 Tryz.underlying39 Tryz.underlying50 Tryz.underlying22 Tryz.underlying25 Tryz.underlying56 Tryz.underlying28 Tryz.underlying72 Tryz.underlying27 Tryz.underlying30 Tryz.underlying105 Tryz.underlying107 Tryz.underlying70 Tryz.underlying63 Tryz.underlying103 Tryz.underlying154 sz3 by3 z3 szB zB szErr zErr szStr byStr zStr szRat zRat szInt zInt szNat zNat szStep byStep zStep szFig zFig szSlI zSlI szSlS zSlS szVar byVar zVar szSlV zSlV szCoord byCoord zCoord szSlC zSlC szFrame zFrame szCBld byCBld zCBld szCVec byCVec zCVec szPoly byPoly zPoly szTerm zTerm szPtrB zPtrB szFnC zFnC
attribute [-bool_to_prop] Bool.and_eq_decide Bool.or_eq_decide Bool.decide_beq_decide decide_eq_decide
theorem lents_beq {K c : Nat} (h : c < 1000) : (K + 1000 == c) = false := by rw [beq_eq_false_iff_ne]; omega
theorem u16s_inj {a b : List Nat} (h : u16s a = u16s b) : a = b := by
  induction a generalizing b with
  | nil => cases b with
    | nil => rfl
    | cons y b => simp [u16s] at h
  | cons x a ih => cases b with
    | nil => simp [u16s] at h
    | cons y b =>
      rw [u16s_c, u16s_c] at h
      simp only [List.cons.injEq, AV.v.injEq, Value.int.injEq, true_and] at h
      rw [ih h.2, show x = y by omega]
theorem RQ.ok_eq {r : RQ} {k : Nat} (hl : r.lm k) (h : r.ok = true) : r = ⟨decide (r.q.num < 0), toL r.q.num.natAbs, toL r.q.den⟩ := by
  have h1 := (RQ.ok_av hl h).1
  simp only [RQ.av, ratQ, AV.agg.injEq, List.cons.injEq, AV.v.injEq, Value.bool.injEq, lim, AV.sl.injEq, true_and, and_true] at h1
  obtain ⟨s, l, d⟩ := r
  simp only at h1
  rw [RQ.mk.injEq]
  exact ⟨h1.1, u16s_inj h1.2.1, u16s_inj h1.2.2⟩
theorem coOf (c : Po × Po) : Pure Tryz.prog 105 [coA c] (coA c) := by
  obtain ⟨p, q⟩ := c
  refine pure_intro (tok := 0) Tryz.func105 rfl Tryz.ntmps105 Tryz.results105 Tryz.call105 (by rfl) (by simp) ?_
  (focus (refine wklp w_t w_t w_t (w_r 0) ?_; (repeat' first | exact w_t | apply w_l); all_goals intros))
theorem coCombine (f : Nat) (a b r : Po × Po) (c1 : Pure Tryz.prog f [poA a.1, poA b.1] (poA r.1)) (c2 : Pure Tryz.prog f [poA a.2, poA b.2] (poA r.2)) : Pure Tryz.prog 104 [coA a, coA b, .fn f []] (coA r) := by
  obtain ⟨a1, a2⟩ := a
  obtain ⟨b1, b2⟩ := b
  obtain ⟨r1, r2⟩ := r
  simp only at c1 c2
  refine pure_intro (tok := 0) Tryz.func104 rfl Tryz.ntmps104 Tryz.results104 Tryz.call104 (by rfl) (by simp) ?_
  (focus (refine wkld w_t (w_a c1 (w_a c2 w_t)) w_t (w_a (w_d 1 [(5, poA r1), (11, poA r2)] [] [6]) w_t) ?_; (repeat' first | exact w_t | apply w_l); all_goals intros))
theorem coBetween (a b : Po × Po) (h1 : Pure Tryz.prog 77 [poA b.1, poA a.1] (poA (subM b.1 a.1))) (h2 : Pure Tryz.prog 77 [poA b.2, poA a.2] (poA (subM b.2 a.2))) : Pure Tryz.prog 103 [coA a, coA b] (coA (subM b.1 a.1, subM b.2 a.2)) := by
  have c := coCombine 77 b a (subM b.1 a.1, subM b.2 a.2) h1 h2
  have oa := coOf a
  have ob := coOf b
  obtain ⟨a1, a2⟩ := a
  obtain ⟨b1, b2⟩ := b
  simp only at *
  generalize subM b1 a1 = x at *
  generalize subM b2 a2 = y at *
  refine pure_intro (tok := 0) Tryz.func103 rfl Tryz.ntmps103 Tryz.results103 Tryz.call103 (by rfl) (by simp) ?_
  (focus (refine wkld w_t (w_a oa (w_a ob (w_a c w_t))) w_t (w_a (w_d 1 [(1, coA (b1, b2)), (3, coA (a1, a2)), (4, coA (x, y))] [] [4]) w_t) ?_; (repeat' first | exact w_t | apply w_l); all_goals intros))
theorem cbScale (K4 g4 : Nat) (k : Int) (nm : ByteArray) (ar : List Int) (q : Rat) (p r : Po) (c : Pure Tryz.prog 109 [poA p, ratQ q] (poA r)) :
    RdC Tryz.prog [(K4, .box g4 50 [iv k, strA nm, ivs ar, .v (.bool (decide (q.num < 0))), lim (toL q.num.natAbs), lim (toL q.den)] false)] 108 [poA p, .pbox K4 g4 0] (poA r) := by
  intro σ hL
  have m4 := lents_at hL.1
  simp only [Ent.sh, AV.shL, AV.sh] at m4
  refine acall_lents Tryz.func108 rfl Tryz.ntmps108 Tryz.results108 Tryz.call108 (by rfl) (by simp) ?_
  (focus (refine wkap (w_a m4 w_t) (w_a c w_t) (w_r 0) ?_; (repeat' first | exact w_t | apply w_l); all_goals intros))
  simp (disch := omega) only [go_sem]
  exact backS (Sub.refl _) ⟨rfl, rfl⟩ (Agr.start σ)
theorem cbMulV (K g : Nat) (t p r : Po) (c : Pure Tryz.prog 78 [poA p, poA t] (poA r)) :
    RdC Tryz.prog [(K, .box g 70 [poA t] false)] 112 [poA p, .pbox K g 0] (poA r) := by
  intro σ hL
  have m4 := lents_at hL.1
  simp only [Ent.sh, AV.shL, AV.sh] at m4
  refine acall_lents Tryz.func112 rfl Tryz.ntmps112 Tryz.results112 Tryz.call112 (by rfl) (by simp) ?_
  (focus (refine wkap (w_a m4 w_t) (w_a c w_t) (w_r 0) ?_; (repeat' first | exact w_t | apply w_l); all_goals intros))
  simp (disch := omega) only [go_sem]
  exact backS (Sub.refl _) ⟨rfl, rfl⟩ (Agr.start σ)
/-- What a step's closures read: the builder's pointer, the step, the builder, its points. -/
def atL (K3 K4 KB KC KV g3 g4 gB : Nat) (svC svV : Value) (z : AV) (sc : List AV) (cs : List (Po × Po)) : List (Nat × Ent) :=
  [(K3, .box g3 103 [.pbox KB gB 0] false), (K4, .box g4 50 sc false), (KB, .box gB 105 [.own KC svC, .own KV svV, z] false), (KC, .row svC 72 2 (cs.map coA) 0)]
theorem atL_def (K3 K4 KB KC KV g3 g4 gB : Nat) (svC svV : Value) (z : AV) (sc : List AV) (cs : List (Po × Po)) : atL K3 K4 KB KC KV g3 g4 gB svC svV z sc cs =
  [(K3, .box g3 103 [.pbox KB gB 0] false), (K4, .box g4 50 sc false), (KB, .box gB 105 [.own KC svC, .own KV svV, z] false), (KC, .row svC 72 2 (cs.map coA) 0)] := rfl
set_option maxHeartbeats 4000000 in
theorem cbAt (K3 K4 KB KC KV g3 g4 gB : Nat) (svC svV : Value) (fr : Nat) (k0 : Int) (nm : ByteArray) (ar : List Int) (x y w : AV) (cs : List (Po × Po)) (k : Nat) (hx : x.sh = x ∧ y.sh = y ∧ w.sh = w) (hk : k < ar.length) (h0 : 0 ≤ gI ar k ∧ gI ar k < (cs.length : Int)) :
    RdC Tryz.prog (atL K3 K4 KB KC KV g3 g4 gB svC svV (iv fr) [iv k0, strA nm, ivs ar, x, y, w] cs) 101 [iv k, .pbox K3 g3 0, .pbox K4 g4 0] (coA (cs.getD (gI ar k).toNat ([], []))) := by
  intro σ hL
  simp only [atL, hasAll_cons, hasAll_nil] at hL
  obtain ⟨h3, h4, hB, hC, -⟩ := hL
  have m3 := lents_at h3
  have m4 := lents_at h4
  have mB := lents_at hB
  have mC := lents_at hC
  simp only [Ent.sh, AV.shL, AV.sh, hx.1, hx.2.1, hx.2.2] at m3 m4 mB mC
  have hga : (ar.map iv).getD k .u = iv (gI ar k) := by rw [map_atB iv hk, gI_at hk]
  have hgc : (cs.map coA).getD (gI ar k).toNat .u = coA (cs.getD (gI ar k).toNat ([], [])) := getD_mapA (by omega)
  have hll : (ar.map iv).length = ar.length := List.length_map ..
  have hcl : (cs.map coA).length = cs.length := List.length_map ..
  generalize cs.getD (gI ar k).toNat ([], []) = c at *
  generalize gI ar k = a at *
  obtain ⟨c1, c2⟩ := c
  refine acall_lents Tryz.func101 rfl Tryz.ntmps101 Tryz.results101 Tryz.call101 (by rfl) (by simp) ?_
  (focus (refine wkad (w_a m3 (w_a m4 (w_a mB (w_a mC (w_a hga (w_a hgc (w_a hll (w_a hcl (w_a @lents_lt (w_a @lents_beq w_t)))))))))) w_t (w_a (w_d 1 [] [] [4]) w_t) ?_; (repeat' first | exact w_t | apply w_l); all_goals intros))
  simp (disch := omega) only [go_sem]
  refine backS (Sub.refl _) ⟨rfl, rfl⟩ ?_
  exact ((Agr.start σ).own (by omega)).own (by omega)
end Go.Proofs.YtbgmnobnaplmlaaGreat
end

section
namespace Go.Proofs.YtbgmnobnaplmlaaGreat
open Go Go.RowKit Go.Pg Go.Pol
set_option linter.unusedSimpArgs false
set_option linter.unusedVariables false
set_option maxRecDepth 20000
attribute [local go_sem] Tryz.underlying3 Tryz.underlying4 Tryz.underlying178 Tryz.underlying9 Tryz.underlying48 Tryz.underlying31 Tryz.underlying43 Tryz.underlying41 Tryz.underlying39 Tryz.underlying50 Tryz.underlying22 Tryz.underlying25 Tryz.underlying56 Tryz.underlying28 Tryz.underlying72 Tryz.underlying27 Tryz.underlying30 Tryz.underlying105 Tryz.underlying107 Tryz.underlying70 Tryz.underlying63 Tryz.underlying103 Tryz.underlying154 sz3 by3 z3 szB zB szErr zErr szStr byStr zStr szRat zRat szInt zInt szNat zNat szStep byStep zStep szFig zFig szSlI zSlI szSlS zSlS szVar byVar zVar szSlV zSlV szCoord byCoord zCoord szSlC zSlC szFrame zFrame szCBld byCBld zCBld szCVec byCVec zCVec szPoly byPoly zPoly szTerm zTerm szPtrB zPtrB szFnC zFnC
attribute [-bool_to_prop] Bool.and_eq_decide Bool.or_eq_decide Bool.decide_beq_decide decide_eq_decide
set_option maxHeartbeats 8000000 in
theorem cbAlongS (K3 K4 K7 KB KC KV g3 g4 g7 gB : Nat) (svC svV : Value) (fr : Nat) (k0 : Int) (nm : ByteArray) (ar : List Int) (q : Rat) (cs : List (Po × Po)) (a b x r : Po × Po) (hk : 2 ≤ ar.length) (h0 : 0 ≤ gI ar 0 ∧ gI ar 0 < (cs.length : Int)) (h1 : 0 ≤ gI ar 1 ∧ gI ar 1 < (cs.length : Int)) (ha : cs.getD (gI ar 0).toNat ([], []) = a) (hb : cs.getD (gI ar 1).toNat ([], []) = b)
    (s1 : Pure Tryz.prog 77 [poA b.1, poA a.1] (poA (subM b.1 a.1))) (s2 : Pure Tryz.prog 77 [poA b.2, poA a.2] (poA (subM b.2 a.2)))
    (c1 : Pure Tryz.prog 109 [poA (subM b.1 a.1), ratQ q] (poA x.1)) (c2 : Pure Tryz.prog 109 [poA (subM b.2 a.2), ratQ q] (poA x.2))
    (a1 : Pure Tryz.prog 106 [poA a.1, poA x.1] (poA r.1)) (a2 : Pure Tryz.prog 106 [poA a.2, poA x.2] (poA r.2)) :
    RdC Tryz.prog ((K7, .box g7 154 [.fn 101 [.pbox K3 g3 0, .pbox K4 g4 0]] false) :: atL K3 K4 KB KC KV g3 g4 gB svC svV (iv fr) [iv k0, strA nm, ivs ar, .v (.bool (decide (q.num < 0))), lim (toL q.num.natAbs), lim (toL q.den)] cs) 102 [.fn 108 [.pbox K4 g4 0], .pbox K7 g7 0] (coA r) := by
  intro σ hL
  have t0 := cbAt (K3 + 1000) (K4 + 1000) (KB + 1000) (KC + 1000) (KV + 1000) g3 g4 gB svC svV fr k0 nm ar (.v (.bool (decide (q.num < 0)))) (lim (toL q.num.natAbs)) (lim (toL q.den)) cs 0 ⟨rfl, rfl, rfl⟩ (by omega) h0
  have t1 := cbAt (K3 + 1000) (K4 + 1000) (KB + 1000) (KC + 1000) (KV + 1000) g3 g4 gB svC svV fr k0 nm ar (.v (.bool (decide (q.num < 0)))) (lim (toL q.num.natAbs)) (lim (toL q.den)) cs 1 ⟨rfl, rfl, rfl⟩ (by omega) h1
  rw [ha] at t0
  rw [hb] at t1
  have cB := coBetween a b s1 s2
  have oa := coOf a
  have cC := coCombine 106 a x r a1 a2
  have p1 := cbScale (K4 + 1000) g4 k0 nm ar q (subM b.1 a.1) x.1 c1
  have p2 := cbScale (K4 + 1000) g4 k0 nm ar q (subM b.2 a.2) x.2 c2
  simp only [atL, hasAll_cons, hasAll_nil] at hL
  obtain ⟨h7, h3, h4, hB, hC, -⟩ := hL
  have m3 := lents_at h3
  have m4 := lents_at h4
  have m7 := lents_at h7
  have mB := lents_at hB
  have mC := lents_at hC
  skip
  simp only [Ent.sh, AV.shL, AV.sh] at m3 m4 m7 mB mC
  clear a1 a2 s1 s2 ha hb h0 h1
  obtain ⟨aa, ab⟩ := a
  obtain ⟨ba, bb⟩ := b
  obtain ⟨xa, xb⟩ := x
  obtain ⟨ra, rb⟩ := r
  simp only at *
  generalize subM ba aa = da at *
  generalize subM bb ab = db at *
  refine acall_lents Tryz.func102 rfl Tryz.ntmps102 Tryz.results102 Tryz.call102 (by rfl) (by simp) ?_
  (focus (refine wkax (w_a m3 (w_a m4 (w_a m7 (w_a mB (w_a mC (w_a @lents_lt (w_a @lents_beq (w_a @atL_def w_t)))))))) (w_a cB (w_a oa (w_a cC w_t))) (w_a (w_d 1 [(1, coA (aa, ab)), (3, coA (ba, bb)), (4, coA (da, db))] [] []) (w_a (w_d 2 [(1, coA (aa, ab)), (2, coA (aa, ab)), (6, poA xa), (10, poA xb), (12, coA (ra, rb))] [] [3]) w_t)) w_t w_t (w_a t0 (w_a t1 (w_a p1 (w_a p2 w_t)))) (w_r 0) ?_; (repeat' first | exact w_t | apply w_l); all_goals intros))
  simp (disch := omega) only [go_sem]
  refine backS (Sub.refl _) ⟨rfl, rfl⟩ ?_
  (repeat' (first | exact Agr.start _ | (refine Agr.own ?_ (by omega))))
set_option maxHeartbeats 8000000 in
theorem cbAlongM (K3 K4 K7 KB KC KV g3 g4 g7 gB : Nat) (svC svV : Value) (fr : Nat) (k0 : Int) (nm : ByteArray) (ar : List Int) (rs : Bool) (rl rd : List Nat) (K10 g10 : Nat) (t : Po) (cs : List (Po × Po)) (a b x r : Po × Po) (hk : 2 ≤ ar.length) (h0 : 0 ≤ gI ar 0 ∧ gI ar 0 < (cs.length : Int)) (h1 : 0 ≤ gI ar 1 ∧ gI ar 1 < (cs.length : Int)) (ha : cs.getD (gI ar 0).toNat ([], []) = a) (hb : cs.getD (gI ar 1).toNat ([], []) = b)
    (s1 : Pure Tryz.prog 77 [poA b.1, poA a.1] (poA (subM b.1 a.1))) (s2 : Pure Tryz.prog 77 [poA b.2, poA a.2] (poA (subM b.2 a.2)))
    (c1 : Pure Tryz.prog 78 [poA (subM b.1 a.1), poA t] (poA x.1)) (c2 : Pure Tryz.prog 78 [poA (subM b.2 a.2), poA t] (poA x.2))
    (a1 : Pure Tryz.prog 106 [poA a.1, poA x.1] (poA r.1)) (a2 : Pure Tryz.prog 106 [poA a.2, poA x.2] (poA r.2)) :
    RdC Tryz.prog ((K10, .box g10 70 [poA t] false) :: (K7, .box g7 154 [.fn 101 [.pbox K3 g3 0, .pbox K4 g4 0]] false) :: atL K3 K4 KB KC KV g3 g4 gB svC svV (iv fr) [iv k0, strA nm, ivs ar, .v (.bool rs), lim rl, lim rd] cs) 102 [.fn 112 [.pbox K10 g10 0], .pbox K7 g7 0] (coA r) := by
  intro σ hL
  have t0 := cbAt (K3 + 1000) (K4 + 1000) (KB + 1000) (KC + 1000) (KV + 1000) g3 g4 gB svC svV fr k0 nm ar (.v (.bool rs)) (lim rl) (lim rd) cs 0 ⟨rfl, rfl, rfl⟩ (by omega) h0
  have t1 := cbAt (K3 + 1000) (K4 + 1000) (KB + 1000) (KC + 1000) (KV + 1000) g3 g4 gB svC svV fr k0 nm ar (.v (.bool rs)) (lim rl) (lim rd) cs 1 ⟨rfl, rfl, rfl⟩ (by omega) h1
  rw [ha] at t0
  rw [hb] at t1
  have cB := coBetween a b s1 s2
  have oa := coOf a
  have cC := coCombine 106 a x r a1 a2
  have p1 := cbMulV (K10 + 1000) g10 t (subM b.1 a.1) x.1 c1
  have p2 := cbMulV (K10 + 1000) g10 t (subM b.2 a.2) x.2 c2
  simp only [atL, hasAll_cons, hasAll_nil] at hL
  obtain ⟨h10, h7, h3, h4, hB, hC, -⟩ := hL
  have m3 := lents_at h3
  have m4 := lents_at h4
  have m7 := lents_at h7
  have mB := lents_at hB
  have mC := lents_at hC
  have m10 := lents_at h10
  simp only [Ent.sh, AV.shL, AV.sh] at m3 m4 m7 mB mC m10
  clear a1 a2 s1 s2 ha hb h0 h1
  obtain ⟨aa, ab⟩ := a
  obtain ⟨ba, bb⟩ := b
  obtain ⟨xa, xb⟩ := x
  obtain ⟨ra, rb⟩ := r
  simp only at *
  generalize subM ba aa = da at *
  generalize subM bb ab = db at *
  refine acall_lents Tryz.func102 rfl Tryz.ntmps102 Tryz.results102 Tryz.call102 (by rfl) (by simp) ?_
  (focus (refine wkax (w_a m3 (w_a m4 (w_a m7 (w_a mB (w_a mC (w_a m10 (w_a @lents_lt (w_a @lents_beq (w_a @atL_def w_t))))))))) (w_a cB (w_a oa (w_a cC w_t))) (w_a (w_d 1 [(1, coA (aa, ab)), (3, coA (ba, bb)), (4, coA (da, db))] [] []) (w_a (w_d 2 [(1, coA (aa, ab)), (2, coA (aa, ab)), (6, poA xa), (10, poA xb), (12, coA (ra, rb))] [] [3]) w_t)) w_t w_t (w_a t0 (w_a t1 (w_a p1 (w_a p2 w_t)))) (w_r 0) ?_; (repeat' first | exact w_t | apply w_l); all_goals intros))
  simp (disch := omega) only [go_sem]
  refine backS (Sub.refl _) ⟨rfl, rfl⟩ ?_
  (repeat' (first | exact Agr.start _ | (refine Agr.own ?_ (by omega))))
end Go.Proofs.YtbgmnobnaplmlaaGreat
end

section
namespace Go.Proofs.YtbgmnobnaplmlaaGreat
open Go Go.RowKit Go.Pg Go.Pol
set_option linter.unusedSimpArgs false
set_option linter.unusedVariables false
set_option maxRecDepth 20000
attribute [local go_sem] Tryz.underlying3 Tryz.underlying4 Tryz.underlying178 Tryz.underlying9 Tryz.underlying48 Tryz.underlying31 Tryz.underlying43 Tryz.underlying41 Tryz.underlying39 Tryz.underlying50 Tryz.underlying22 Tryz.underlying25 Tryz.underlying56 Tryz.underlying28 Tryz.underlying72 Tryz.underlying27 Tryz.underlying30 Tryz.underlying105 Tryz.underlying107 Tryz.underlying70 Tryz.underlying63 Tryz.underlying103 Tryz.underlying154 sz3 by3 z3 szB zB szErr zErr szStr byStr zStr szRat zRat szInt zInt szNat zNat szStep byStep zStep szFig zFig szSlI zSlI szSlS zSlS szVar byVar zVar szSlV zSlV szCoord byCoord zCoord szSlC zSlC szFrame zFrame szCBld byCBld zCBld szCVec byCVec zCVec szPoly byPoly zPoly szTerm zTerm szPtrB zPtrB szFnC zFnC
attribute [-bool_to_prop] Bool.and_eq_decide Bool.or_eq_decide Bool.decide_beq_decide decide_eq_decide
/-! ### sizes of what a step computes -/
theorem PK.sub {p q : Po} {j k e : Nat} (hp : PK p j e) (hq : PK q k e) : PK (subM p q) (j + k + 1) e := hp.add hq.neg
theorem PK.scl {p : Po} {j k e : Nat} {a : Rat} (hp : PK p j e) (ha : Sz a k) : PK (sclM a p) (j + k) e := by
  unfold sclM; split
  · exact .nil
  · exact hp.scale ha
theorem PK.mulV {p : Po} {j e v : Nat} (hp : PK p j e) : PK (mlM p (varM v)) (j + 1) (e + 1) := by
  rw [mul_var]; split
  · refine hp.times (t := (1, unitM v)) fun u hu => ?_
    rw [List.mem_singleton] at hu
    subst hu
    have h := varM_pk v (1, unitM v) (by unfold varM; rw [if_pos (by assumption)]; exact .head _)
    exact h
  · exact .nil
theorem scl_srt {a : Rat} {p : Po} (h : SrtM p) : SrtM (sclM a p) := by
  unfold sclM; split
  · exact .nil
  · exact scale_srt h ‹_›
theorem scl_len (a : Rat) (p : Po) : (sclM a p).length ≤ p.length := by
  unfold sclM; split
  · simp
  · rw [scale_len]; exact Nat.le_refl _
theorem mulV_len (p : Po) (v : Nat) : (mlM p (varM v)).length ≤ p.length := by
  rw [mul_var]; split
  · rw [timesP_len]; exact Nat.le_refl _
  · simp
theorem sub_len (p q : Po) : (subM p q).length ≤ p.length + q.length := by
  have := addP_len (lt := ltM) p (scaleP (-1) q)
  rw [scale_len] at this; exact this
/-- A coordinate of a frame in order. -/
structure Co (p : Po) : Prop where
  pk : PK p 110 1
  st : SrtM p
  ln : p.length ≤ 4000
/-- A step in order. -/
structure StOk (cs : List (Po × Po)) (s : RS) : Prop where
  k0 : 0 ≤ arS s.k
  al : (s.ar.length : Int) = arS s.k
  ai : ∀ k, k < s.ar.length → 0 ≤ gI s.ar k ∧ gI s.ar k < (cs.length : Int)
  r2 : s.k = 2 → s.r.ok = true
  rl : s.r.lm 2
set_option maxHeartbeats 8000000 in
theorem cbStep1 (σ : Mem) (KB KC KV g : Nat) (svC svV : Value) (cs : List (Po × Po)) (vs : List Vt) (fr : Nat) (i : Nat) (s : RS) (hB : σ KB = some (.box g 105 [.own KC svC, .own KV svV, iv fr] false)) (hV : σ KV = some (.row svV 56 3 (vs.map Vt.av) 0)) (hC : σ KC = some (.row svC 72 2 (cs.map coA) 0)) (hBV : KB ≠ KV) (hBC : KB ≠ KC) (hVC : KV ≠ KC) (hl : vs.length ≤ 64) (hf : fr ≤ 100) (hk : s.k = 1) : ACall Tryz.prog 52 [.pbox KB g 0, s.av, iv i] σ fun r σ' => ∃ sv, r = coA (FS.nxt ⟨cs, vs, fr⟩ i s).2 ∧
      σ' = upd (upd σ KV (some (.row sv 56 3 ((vs ++ (FS.nxt ⟨cs, vs, fr⟩ i s).1).map Vt.av) 0))) KB (some (.box g 105 [.own KC svC, .own KV sv, iv (if s.k = 1 then fr + 1 else fr : Nat)] false)) := by
  have mB := lents_at hB
  have mV := lents_at hV
  have mC := lents_at hC
  simp only [Ent.sh, AV.shL, AV.sh] at mB mV mC
  have en : FS.nxt ⟨cs, vs, fr⟩ i s = ((if fr = 0 then [] else if fr = 1 then [(1, (i : Int), 0)] else [(1, (i : Int), 0), (1, (i : Int), 1)]), (if fr = 0 then ([], []) else if fr = 1 then (varM vs.length, []) else (varM vs.length, varM (vs.length + 1)))) := by
    unfold FS.nxt; simp only; rw [if_pos hk]; split
    · rfl
    · split <;> rfl
  rw [en]
  simp only [if_pos hk]
  generalize hnv : (if fr = 0 then [] else if fr = 1 then [((1 : Int), (i : Int), (0 : Int))] else [(1, (i : Int), 0), (1, (i : Int), 1)]) = nv at *
  generalize hnc : (if fr = 0 then (([] : Po), ([] : Po)) else if fr = 1 then (varM vs.length, []) else (varM vs.length, varM (vs.length + 1))) = nc at *
  obtain ⟨k, nm, ar, r, rl, rd⟩ := s
  simp only at hk
  subst hk
  refine acall_lents Tryz.func52 rfl Tryz.ntmps52 Tryz.results52 Tryz.call52 (by rfl) (by simp) ?_
  (focus (refine wkad (w_a mB (w_a mV (w_a mC (w_a @lents_lt w_t)))) w_t w_t ?_; (repeat' first | exact w_t | apply w_l); all_goals intros))
  refine o_fresh ((cbPoint _ (KB + 1000) (KC + 1000) (KV + 1000) g svC svV vs fr i (by (simp (disch := omega) only [go_sem, mB, mV, if_neg, if_pos] <;> repeat' first | rfl | refine ⟨?_, ?_⟩)) (by (simp (disch := omega) only [go_sem, mB, mV, if_neg, if_pos] <;> repeat' first | rfl | refine ⟨?_, ?_⟩)) (by omega) (by omega) (by omega))) ?_
  rw [hnv, hnc]
  intro sv1
  obtain ⟨n1, n2⟩ := nc
  (focus (refine wkad (w_a mB (w_a mV (w_a mC (w_a @lents_lt w_t)))) w_t w_t ?_; (repeat' first | exact w_t | apply w_l); all_goals intros))
  simp (disch := omega) only [go_sem]
  refine backS (Sub.refl _) ⟨sv1, rfl, rfl⟩ ?_
  intro k
  by_cases hk1 : k = KB
  · rw [hk1]
    simp (disch := omega) only [upd_at, if_pos, if_neg, Option.map_some, Ent.sh, AV.shL, AV.sh]
    try rfl
  · by_cases hk2 : k = KV
    · rw [hk2]
      simp (disch := omega) only [upd_at, if_pos, if_neg, Option.map_some, Ent.sh, AV.shL, AV.sh]
      try rfl
    · simp (disch := omega) only [upd_at, if_neg]
      exact Agr.start σ k

set_option maxHeartbeats 8000000 in
theorem cbStep6 (σ : Mem) (KB KC KV g : Nat) (svC svV : Value) (cs : List (Po × Po)) (vs : List Vt) (fr : Nat) (i : Nat) (s : RS) (hB : σ KB = some (.box g 105 [.own KC svC, .own KV svV, iv fr] false)) (hV : σ KV = some (.row svV 56 3 (vs.map Vt.av) 0)) (hC : σ KC = some (.row svC 72 2 (cs.map coA) 0)) (hBV : KB ≠ KV) (hBC : KB ≠ KC) (hVC : KV ≠ KC) (hl : vs.length ≤ 64) (hf : fr ≤ 100) (hk : s.k = 6) : ACall Tryz.prog 52 [.pbox KB g 0, s.av, iv i] σ fun r σ' => ∃ sv, r = coA (FS.nxt ⟨cs, vs, fr⟩ i s).2 ∧
      σ' = upd (upd σ KV (some (.row sv 56 3 ((vs ++ (FS.nxt ⟨cs, vs, fr⟩ i s).1).map Vt.av) 0))) KB (some (.box g 105 [.own KC svC, .own KV sv, iv (if s.k = 1 then fr + 1 else fr : Nat)] false)) := by
  have mB := lents_at hB
  have mV := lents_at hV
  have mC := lents_at hC
  simp only [Ent.sh, AV.shL, AV.sh] at mB mV mC
  have en : FS.nxt ⟨cs, vs, fr⟩ i s = ([(1, (i : Int), 0), (2, (i : Int), 1), (2, (i : Int), 2)], (varM (vs.length + 1), varM (vs.length + 2))) := by
    unfold FS.nxt; simp only [hk]; rfl
  rw [en]
  simp only [if_neg (show ¬ s.k = 1 by omega)]
  have hl1 : (vs ++ [((1 : Int), (i : Int), (0 : Int))]).length = vs.length + 1 := by simp
  obtain ⟨k, nm, ar, r, rl, rd⟩ := s
  simp only at hk
  subst hk
  refine acall_lents Tryz.func52 rfl Tryz.ntmps52 Tryz.results52 Tryz.call52 (by rfl) (by simp) ?_
  (focus (refine wkad (w_a mB (w_a mV (w_a mC (w_a @lents_lt w_t)))) w_t w_t ?_; (repeat' first | exact w_t | apply w_l); all_goals intros))
  refine o_fresh ((cbVariable _ (KB + 1000) (KC + 1000) (KV + 1000) g svC svV vs fr 1 (i : Int) 0 (by (simp (disch := omega) only [go_sem, mB, mV, if_neg, if_pos] <;> repeat' first | rfl | refine ⟨?_, ?_⟩)) (by (simp (disch := omega) only [go_sem, mB, mV, if_neg, if_pos] <;> repeat' first | rfl | refine ⟨?_, ?_⟩)) (by omega) (by omega))) ?_
  intro sv1
  (focus (refine wkad (w_a mB (w_a mV (w_a mC (w_a @lents_lt w_t)))) w_t w_t ?_; (repeat' first | exact w_t | apply w_l); all_goals intros))
  refine o_fresh ((cbDep _ (KB + 1000) (KC + 1000) (KV + 1000) g svC sv1 (vs ++ [(1, (i : Int), 0)]) fr i 1 (by (simp (disch := omega) only [go_sem, mB, mV, if_neg, if_pos] <;> repeat' first | rfl | refine ⟨?_, ?_⟩)) (by (simp (disch := omega) only [go_sem, mB, mV, if_neg, if_pos, List.map_append, List.map_cons, List.map_nil] <;> repeat' first | rfl | refine ⟨?_, ?_⟩)) (by rw [hl1]; omega) (by omega) (by omega))) ?_
  intro sv2
  rw [hl1]
  (focus (refine wkad (w_a mB (w_a mV (w_a mC (w_a @lents_lt w_t)))) w_t w_t ?_; (repeat' first | exact w_t | apply w_l); all_goals intros))
  simp (disch := omega) only [go_sem]
  refine backS (Sub.refl _) ⟨sv2, rfl, rfl⟩ ?_
  simp only [List.append_assoc, List.cons_append, List.nil_append]
  intro k
  by_cases hk1 : k = KB
  · rw [hk1]
    simp (disch := omega) only [upd_at, if_pos, if_neg, Option.map_some, Ent.sh, AV.shL, AV.sh]
    try rfl
  · by_cases hk2 : k = KV
    · rw [hk2]
      simp (disch := omega) only [upd_at, if_pos, if_neg, Option.map_some, Ent.sh, AV.shL, AV.sh]
      try rfl
    · simp (disch := omega) only [upd_at, if_neg]
      exact Agr.start σ k

set_option maxHeartbeats 8000000 in
theorem cbStep7 (σ : Mem) (KB KC KV g : Nat) (svC svV : Value) (cs : List (Po × Po)) (vs : List Vt) (fr : Nat) (i : Nat) (s : RS) (hB : σ KB = some (.box g 105 [.own KC svC, .own KV svV, iv fr] false)) (hV : σ KV = some (.row svV 56 3 (vs.map Vt.av) 0)) (hC : σ KC = some (.row svC 72 2 (cs.map coA) 0)) (hBV : KB ≠ KV) (hBC : KB ≠ KC) (hVC : KV ≠ KC) (hl : vs.length ≤ 64) (hf : fr ≤ 100) (hk : s.k ≠ 1 ∧ s.k ≠ 2 ∧ s.k ≠ 3 ∧ s.k ≠ 4 ∧ s.k ≠ 5 ∧ s.k ≠ 6) : ACall Tryz.prog 52 [.pbox KB g 0, s.av, iv i] σ fun r σ' => ∃ sv, r = coA (FS.nxt ⟨cs, vs, fr⟩ i s).2 ∧
      σ' = upd (upd σ KV (some (.row sv 56 3 ((vs ++ (FS.nxt ⟨cs, vs, fr⟩ i s).1).map Vt.av) 0))) KB (some (.box g 105 [.own KC svC, .own KV sv, iv (if s.k = 1 then fr + 1 else fr : Nat)] false)) := by
  have mB := lents_at hB
  have mV := lents_at hV
  have mC := lents_at hC
  simp only [Ent.sh, AV.shL, AV.sh] at mB mV mC
  have en : FS.nxt ⟨cs, vs, fr⟩ i s = ([(2, (i : Int), 0), (2, (i : Int), 1)], (varM vs.length, varM (vs.length + 1))) := by
    unfold FS.nxt; simp only; rw [if_neg hk.1, if_neg hk.2.1, if_neg hk.2.2.1, if_neg hk.2.2.2.1, if_neg hk.2.2.2.2.1, if_neg hk.2.2.2.2.2]
  rw [en]
  simp only [if_neg hk.1]
  obtain ⟨k, nm, ar, r, rl, rd⟩ := s
  simp only at hk
  obtain ⟨k1, k2, k3, k4, k5, k6⟩ := hk
  refine acall_lents Tryz.func52 rfl Tryz.ntmps52 Tryz.results52 Tryz.call52 (by rfl) (by simp) ?_
  (focus (refine wkad (w_a mB (w_a mV (w_a mC (w_a @lents_lt w_t)))) w_t w_t ?_; (repeat' first | exact w_t | apply w_l); all_goals intros))
  refine o_fresh ((cbDep _ (KB + 1000) (KC + 1000) (KV + 1000) g svC svV vs fr i 0 (by (simp (disch := omega) only [go_sem, mB, mV, if_neg, if_pos] <;> repeat' first | rfl | refine ⟨?_, ?_⟩)) (by (simp (disch := omega) only [go_sem, mB, mV, if_neg, if_pos] <;> repeat' first | rfl | refine ⟨?_, ?_⟩)) (by omega) (by omega) (by omega))) ?_
  intro sv2
  (focus (refine wkad (w_a mB (w_a mV (w_a mC (w_a @lents_lt w_t)))) w_t w_t ?_; (repeat' first | exact w_t | apply w_l); all_goals intros))
  simp (disch := omega) only [go_sem]
  refine backS (Sub.refl _) ⟨sv2, rfl, rfl⟩ ?_
  simp only [Int.zero_add]
  intro k
  by_cases hk1 : k = KB
  · rw [hk1]
    simp (disch := omega) only [upd_at, if_pos, if_neg, Option.map_some, Ent.sh, AV.shL, AV.sh]
    try rfl
  · by_cases hk2 : k = KV
    · rw [hk2]
      simp (disch := omega) only [upd_at, if_pos, if_neg, Option.map_some, Ent.sh, AV.shL, AV.sh]
      try rfl
    · simp (disch := omega) only [upd_at, if_neg]
      exact Agr.start σ k

end Go.Proofs.YtbgmnobnaplmlaaGreat
end

section
namespace Go.Proofs.YtbgmnobnaplmlaaGreat
open Go Go.RowKit Go.Pg Go.Pol
set_option linter.unusedSimpArgs false
set_option linter.unusedVariables false
set_option maxRecDepth 20000
attribute [local go_sem] Tryz.underlying3 Tryz.underlying4 Tryz.underlying178 Tryz.underlying9 Tryz.underlying48 Tryz.underlying31 Tryz.underlying43 Tryz.underlying41 Tryz.underlying39 Tryz.underlying50 Tryz.underlying22 Tryz.underlying25 Tryz.underlying56 Tryz.underlying28 Tryz.underlying72 Tryz.underlying27 Tryz.underlying30 Tryz.underlying105 Tryz.underlying107 Tryz.underlying70 Tryz.underlying63 Tryz.underlying103 Tryz.underlying154 sz3 by3 z3 szB zB szErr zErr szStr byStr zStr szRat zRat szInt zInt szNat zNat szStep byStep zStep szFig zFig szSlI zSlI szSlS zSlS szVar byVar zVar szSlV zSlV szCoord byCoord zCoord szSlC zSlC szFrame zFrame szCBld byCBld zCBld szCVec byCVec zCVec szPoly byPoly zPoly szTerm zTerm szPtrB zPtrB szFnC zFnC
attribute [-bool_to_prop] Bool.and_eq_decide Bool.or_eq_decide Bool.decide_beq_decide decide_eq_decide
set_option maxHeartbeats 8000000 in
theorem cbStep2 (σ : Mem) (KB KC KV g : Nat) (svC svV : Value) (cs : List (Po × Po)) (vs : List Vt) (fr : Nat) (i : Nat) (s : RS) (hB : σ KB = some (.box g 105 [.own KC svC, .own KV svV, iv fr] false)) (hV : σ KV = some (.row svV 56 3 (vs.map Vt.av) 0)) (hC : σ KC = some (.row svC 72 2 (cs.map coA) 0)) (hBV : KB ≠ KV) (hBC : KB ≠ KC) (hVC : KV ≠ KC) (hl : vs.length ≤ 64) (hf : fr ≤ 100) (hok : StOk cs s) (hco : ∀ c ∈ cs, Co c.1 ∧ Co c.2) (hk : s.k = 2) : ACall Tryz.prog 52 [.pbox KB g 0, s.av, iv i] σ fun r σ' => ∃ sv, r = coA (FS.nxt ⟨cs, vs, fr⟩ i s).2 ∧
      σ' = upd (upd σ KV (some (.row sv 56 3 ((vs ++ (FS.nxt ⟨cs, vs, fr⟩ i s).1).map Vt.av) 0))) KB (some (.box g 105 [.own KC svC, .own KV sv, iv (if s.k = 1 then fr + 1 else fr : Nat)] false)) := by
  have mB := lents_at hB
  have mV := lents_at hV
  have mC := lents_at hC
  simp only [Ent.sh, AV.shL, AV.sh] at mB mV mC
  have har : arS s.k = 2 := by rw [hk]; rfl
  have hal := hok.al
  have h0 := hok.ai 0 (by omega)
  obtain ⟨a1, a2⟩ : Co (cs.getD (gI s.ar 0).toNat ([], [])).1 ∧ Co (cs.getD (gI s.ar 0).toNat ([], [])).2 := hco _ (getD_mem (by omega))
  have h1 := hok.ai 1 (by omega)
  obtain ⟨b1, b2⟩ : Co (cs.getD (gI s.ar 1).toNat ([], [])).1 ∧ Co (cs.getD (gI s.ar 1).toNat ([], [])).2 := hco _ (getD_mem (by omega))
  have en : FS.nxt ⟨cs, vs, fr⟩ i s = ([], (addM (cs.getD (gI s.ar 0).toNat ([], [])).1 (sclM s.r.q (subM (cs.getD (gI s.ar 1).toNat ([], [])).1 (cs.getD (gI s.ar 0).toNat ([], [])).1)), addM (cs.getD (gI s.ar 0).toNat ([], [])).2 (sclM s.r.q (subM (cs.getD (gI s.ar 1).toNat ([], [])).2 (cs.getD (gI s.ar 0).toNat ([], [])).2)))) := by
    unfold FS.nxt; simp only [hk]; rfl
  rw [en]
  simp only [if_neg (show ¬ s.k = 1 by omega)]
  clear en
  generalize ha : cs.getD (gI s.ar 0).toNat ([], []) = a at *
  generalize hb : cs.getD (gI s.ar 1).toNat ([], []) = b at *
  have ro := hok.r2 hk
  have zr := (RQ.ok_av hok.rl ro).2
  have s1 := poSub b.1 a.1 b1.pk a1.pk b1.st a1.st (by have := b1.ln; omega) (by have := a1.ln; omega) (by omega) (by omega) (by omega)
  have s2 := poSub b.2 a.2 b2.pk a2.pk b2.st a2.st (by have := b2.ln; omega) (by have := a2.ln; omega) (by omega) (by omega) (by omega)
  have d1 := b1.pk.sub a1.pk
  have d2 := b2.pk.sub a2.pk
  have t1 := sub_srt ordM b1.st a1.st
  have t2 := sub_srt ordM b2.st a2.st
  have l1 := sub_len b.1 a.1
  have l2 := sub_len b.2 a.2
  have n1 := a1.ln
  have n2 := a2.ln
  have n3 := b1.ln
  have n4 := b2.ln
  have c1 := poScale (subM b.1 a.1) s.r.q d1 zr t1 (by omega) (by omega) (by omega) (by omega)
  have c2 := poScale (subM b.2 a.2) s.r.q d2 zr t2 (by omega) (by omega) (by omega) (by omega)
  have e1 := poAdd a.1 (sclM s.r.q (subM b.1 a.1)) a1.pk (d1.scl zr) a1.st (scl_srt t1) (by omega) (by have := scl_len s.r.q (subM b.1 a.1); omega) (by omega) (by omega) (by omega)
  have e2 := poAdd a.2 (sclM s.r.q (subM b.2 a.2)) a2.pk (d2.scl zr) a2.st (scl_srt t2) (by omega) (by have := scl_len s.r.q (subM b.2 a.2); omega) (by omega) (by omega) (by omega)
  have re := RQ.ok_eq hok.rl ro
  obtain ⟨k, nm, ar, r⟩ := s
  simp only at *
  subst hk
  generalize hq : r.q = q at *
  rw [re]
  have al := fun g3 g4 g7 => cbAlongS 3 4 7 (KB + 1000) (KC + 1000) (KV + 1000) g3 g4 g7 g svC svV fr 2 nm ar q cs a b (sclM q (subM b.1 a.1), sclM q (subM b.2 a.2)) (addM a.1 (sclM q (subM b.1 a.1)), addM a.2 (sclM q (subM b.2 a.2))) (by omega) h0 h1 ha hb s1 s2 c1 c2 e1 e2
  clear s1 s2 c1 c2 e1 e2 d1 d2 t1 t2 l1 l2 a1 a2 b1 b2 hco hok re ro zr hq n1 n2 n3 n4
  generalize addM a.1 (sclM q (subM b.1 a.1)) = x1 at *
  generalize addM a.2 (sclM q (subM b.2 a.2)) = x2 at *
  refine acall_lents Tryz.func52 rfl Tryz.ntmps52 Tryz.results52 Tryz.call52 (by rfl) (by simp) ?_
  (focus (refine wkad (w_a mB (w_a mV (w_a mC (w_a @lents_lt w_t)))) w_t w_t ?_; (repeat' first | exact w_t | apply w_l); all_goals intros))
  rename_i g3 g4 g6 g7
  have al := al g3 g4 g7
  (focus (refine wkax (w_a mB (w_a mV (w_a mC (w_a @lents_lt (w_a @atL_def w_t))))) w_t w_t w_t w_t (w_a al w_t) (w_r 0) ?_; (repeat' first | exact w_t | apply w_l); all_goals intros))
  simp (disch := omega) only [go_sem]
  refine backS (Sub.refl _) ⟨svV, rfl, rfl⟩ ?_
  rw [upd_same' hV, upd_same' hB]
  (repeat' (first | exact Agr.start _ | (refine Agr.own ?_ (by omega))))
set_option maxHeartbeats 8000000 in
theorem cbStep3 (σ : Mem) (KB KC KV g : Nat) (svC svV : Value) (cs : List (Po × Po)) (vs : List Vt) (fr : Nat) (i : Nat) (s : RS) (hB : σ KB = some (.box g 105 [.own KC svC, .own KV svV, iv fr] false)) (hV : σ KV = some (.row svV 56 3 (vs.map Vt.av) 0)) (hC : σ KC = some (.row svC 72 2 (cs.map coA) 0)) (hBV : KB ≠ KV) (hBC : KB ≠ KC) (hVC : KV ≠ KC) (hl : vs.length ≤ 64) (hf : fr ≤ 100) (hok : StOk cs s) (hco : ∀ c ∈ cs, Co c.1 ∧ Co c.2) (hk : s.k = 3) : ACall Tryz.prog 52 [.pbox KB g 0, s.av, iv i] σ fun r σ' => ∃ sv, r = coA (FS.nxt ⟨cs, vs, fr⟩ i s).2 ∧
      σ' = upd (upd σ KV (some (.row sv 56 3 ((vs ++ (FS.nxt ⟨cs, vs, fr⟩ i s).1).map Vt.av) 0))) KB (some (.box g 105 [.own KC svC, .own KV sv, iv (if s.k = 1 then fr + 1 else fr : Nat)] false)) := by
  have mB := lents_at hB
  have mV := lents_at hV
  have mC := lents_at hC
  simp only [Ent.sh, AV.shL, AV.sh] at mB mV mC
  have har : arS s.k = 3 := by rw [hk]; rfl
  have hal := hok.al
  have h0 := hok.ai 0 (by omega)
  obtain ⟨a1, a2⟩ : Co (cs.getD (gI s.ar 0).toNat ([], [])).1 ∧ Co (cs.getD (gI s.ar 0).toNat ([], [])).2 := hco _ (getD_mem (by omega))
  have h1 := hok.ai 1 (by omega)
  obtain ⟨b1, b2⟩ : Co (cs.getD (gI s.ar 1).toNat ([], [])).1 ∧ Co (cs.getD (gI s.ar 1).toNat ([], [])).2 := hco _ (getD_mem (by omega))
  have h2 := hok.ai 2 (by omega)
  obtain ⟨c1, c2⟩ : Co (cs.getD (gI s.ar 2).toNat ([], [])).1 ∧ Co (cs.getD (gI s.ar 2).toNat ([], [])).2 := hco _ (getD_mem (by omega))
  have en : FS.nxt ⟨cs, vs, fr⟩ i s = ([], (addM (cs.getD (gI s.ar 0).toNat ([], [])).1 (subM (cs.getD (gI s.ar 2).toNat ([], [])).1 (cs.getD (gI s.ar 1).toNat ([], [])).1), addM (cs.getD (gI s.ar 0).toNat ([], [])).2 (subM (cs.getD (gI s.ar 2).toNat ([], [])).2 (cs.getD (gI s.ar 1).toNat ([], [])).2))) := by
    unfold FS.nxt; simp only [hk]; rfl
  rw [en]
  simp only [if_neg (show ¬ s.k = 1 by omega)]
  clear en
  generalize ha : cs.getD (gI s.ar 0).toNat ([], []) = a at *
  generalize hb : cs.getD (gI s.ar 1).toNat ([], []) = b at *
  generalize hc : cs.getD (gI s.ar 2).toNat ([], []) = c at *
  have n1 := a1.ln
  have n2 := a2.ln
  have n3 := b1.ln
  have n4 := b2.ln
  have n5 := c1.ln
  have n6 := c2.ln
  have s1 := poSub c.1 b.1 c1.pk b1.pk c1.st b1.st (by omega) (by omega) (by omega) (by omega) (by omega)
  have s2 := poSub c.2 b.2 c2.pk b2.pk c2.st b2.st (by omega) (by omega) (by omega) (by omega) (by omega)
  have l1 := sub_len c.1 b.1
  have l2 := sub_len c.2 b.2
  have e1 := poAdd a.1 (subM c.1 b.1) a1.pk (c1.pk.sub b1.pk) a1.st (sub_srt ordM c1.st b1.st) (by omega) (by omega) (by omega) (by omega) (by omega)
  have e2 := poAdd a.2 (subM c.2 b.2) a2.pk (c2.pk.sub b2.pk) a2.st (sub_srt ordM c2.st b2.st) (by omega) (by omega) (by omega) (by omega) (by omega)
  have cB := coBetween b c s1 s2
  have oa := coOf a
  have cC := coCombine 106 a (subM c.1 b.1, subM c.2 b.2) (addM a.1 (subM c.1 b.1), addM a.2 (subM c.2 b.2)) e1 e2
  obtain ⟨k, nm, ar, ⟨rs, rl, rd⟩⟩ := s
  simp only at *
  subst hk
  have t0 := fun g3 g4 => cbAt 3 4 (KB + 1000) (KC + 1000) (KV + 1000) g3 g4 g svC svV fr 3 nm ar (.v (.bool rs)) (lim rl) (lim rd) cs 0 ⟨rfl, rfl, rfl⟩ (by omega) h0
  have t1 := fun g3 g4 => cbAt 3 4 (KB + 1000) (KC + 1000) (KV + 1000) g3 g4 g svC svV fr 3 nm ar (.v (.bool rs)) (lim rl) (lim rd) cs 1 ⟨rfl, rfl, rfl⟩ (by omega) h1
  have t2 := fun g3 g4 => cbAt 3 4 (KB + 1000) (KC + 1000) (KV + 1000) g3 g4 g svC svV fr 3 nm ar (.v (.bool rs)) (lim rl) (lim rd) cs 2 ⟨rfl, rfl, rfl⟩ (by omega) h2
  rw [ha] at t0
  rw [hb] at t1
  rw [hc] at t2
  clear s1 s2 e1 e2 l1 l2 a1 a2 b1 b2 c1 c2 hco hok n1 n2 n3 n4 n5 n6 ha hb hc
  generalize addM a.1 (subM c.1 b.1) = x1 at *
  generalize addM a.2 (subM c.2 b.2) = x2 at *
  generalize subM c.1 b.1 = y1 at *
  generalize subM c.2 b.2 = y2 at *
  obtain ⟨aa, ab⟩ := a
  obtain ⟨ba, bb⟩ := b
  obtain ⟨ca, cb⟩ := c
  refine acall_lents Tryz.func52 rfl Tryz.ntmps52 Tryz.results52 Tryz.call52 (by rfl) (by simp) ?_
  (repeat' (first | (with_reducible first | refine stp ?_ | apply gx1 | apply gx2 | apply gx3 | apply gx4 | apply gx5 | apply gx6 | apply gx7 | apply gy8 | apply gz2 | apply gz3 | refine gwr (t0 _ _) ?_ ?_ | refine gwr (t1 _ _) ?_ ?_ | refine gwr (t2 _ _) ?_ ?_ | refine gw0 (oa) ?_ ?_ | refine gw3 (oa) ?_ ?_ ?_ | refine gw0 (cB) ?_ ?_ | refine gw3 (cB) ?_ ?_ ?_ | refine gw0 (cC) ?_ ?_ | refine gw3 (cC) ?_ ?_ ?_) | ((with_reducible apply gyr (t2 _ _)); (focus rfl); (focus rfl); iterate 3 focus ((with_reducible refine gE ?_); (try simp (disch := omega) only [go_sem, mB, mV, mC, lents_lt, lents_beq, atL_def, decide_eq_true, decide_eq_false, if_pos, if_neg, Int.reduceAdd, Int.reduceSub, Int.reduceToNat, Int.zero_add]) <;> first | rfl | done)) | ((with_reducible apply gyr (t1 _ _)); (focus rfl); (focus rfl); iterate 3 focus ((with_reducible refine gE ?_); (try simp (disch := omega) only [go_sem, mB, mV, mC, lents_lt, lents_beq, atL_def, decide_eq_true, decide_eq_false, if_pos, if_neg, Int.reduceAdd, Int.reduceSub, Int.reduceToNat, Int.zero_add]) <;> first | rfl | done)) | ((with_reducible apply gyr (t0 _ _)); (focus rfl); (focus rfl); iterate 3 focus ((with_reducible refine gE ?_); (try simp (disch := omega) only [go_sem, mB, mV, mC, lents_lt, lents_beq, atL_def, decide_eq_true, decide_eq_false, if_pos, if_neg, Int.reduceAdd, Int.reduceSub, Int.reduceToNat, Int.zero_add]) <;> first | rfl | done)) | (with_reducible refine all_v ?_; intro _) | ((with_reducible refine gE ?_); (try simp (disch := omega) only [go_sem, mB, mV, mC, lents_lt, lents_beq, atL_def, decide_eq_true, decide_eq_false, if_pos, if_neg, Int.reduceAdd, Int.reduceSub, Int.reduceToNat, Int.zero_add]) <;> first | rfl | omega) | with_reducible refine t_in_other (by decide) ?_ | ((with_reducible apply gy1); iterate 3 focus rfl) | ((with_reducible apply gy2); iterate 3 focus rfl) | ((with_reducible apply gy3); iterate 2 focus rfl) | ((with_reducible apply gy4); iterate 1 focus rfl) | ((with_reducible apply gy5); iterate 4 focus rfl) | ((with_reducible apply gy6); iterate 4 focus rfl) | ((with_reducible apply d_bar); iterate 3 focus rfl) | ((with_reducible apply q_pub); iterate 1 focus rfl) | ((with_reducible apply gy7); iterate 1 focus rfl) | ((with_reducible apply gy9); (focus ((with_reducible refine gE ?_); (try simp (disch := omega) only [go_sem, mB, mV, mC, lents_lt, lents_beq, atL_def, decide_eq_true, decide_eq_false, if_pos, if_neg, Int.reduceAdd, Int.reduceSub, Int.reduceToNat, Int.zero_add]) <;> rfl))) | ((with_reducible apply gz1); (focus first | rfl | (simp (disch := omega) only [go_sem, mB, mV, mC, lents_lt, lents_beq, atL_def, decide_eq_true, decide_eq_false, if_pos, if_neg, Int.reduceAdd, Int.reduceSub, Int.reduceToNat, Int.zero_add]; done))) | ((with_reducible apply r_drawD (id := 9) (pickR [(1, coA (aa, ab)), (2, coA (aa, ab)), (4, coA (ba, bb)), (6, coA (ca, cb)), (7, coA (y1, y2)), (8, coA (x1, x2))]) [] [6]); (focus kernel_rfl); (focus rfl); (focus kernel_rfl); (focus (simp only [List.length_cons, List.length_nil, Nat.reduceAdd]; rfl))) | ((with_reducible first | apply og_split | apply dg_split | apply cg_split); all_goals (intro hc; (try simp only [bool_to_prop] at hc); try (exfalso; omega)))))
  simp (disch := omega) only [go_sem]
  refine backS (Sub.refl _) ⟨svV, rfl, rfl⟩ ?_
  rw [upd_same' hV, upd_same' hB]
  (repeat' (first | exact Agr.start _ | (refine Agr.own ?_ (by omega))))
set_option maxHeartbeats 8000000 in
theorem cbStep4 (σ : Mem) (KB KC KV g : Nat) (svC svV : Value) (cs : List (Po × Po)) (vs : List Vt) (fr : Nat) (i : Nat) (s : RS) (hB : σ KB = some (.box g 105 [.own KC svC, .own KV svV, iv fr] false)) (hV : σ KV = some (.row svV 56 3 (vs.map Vt.av) 0)) (hC : σ KC = some (.row svC 72 2 (cs.map coA) 0)) (hBV : KB ≠ KV) (hBC : KB ≠ KC) (hVC : KV ≠ KC) (hl : vs.length ≤ 64) (hf : fr ≤ 100) (hok : StOk cs s) (hco : ∀ c ∈ cs, Co c.1 ∧ Co c.2) (hk : s.k = 4) : ACall Tryz.prog 52 [.pbox KB g 0, s.av, iv i] σ fun r σ' => ∃ sv, r = coA (FS.nxt ⟨cs, vs, fr⟩ i s).2 ∧
      σ' = upd (upd σ KV (some (.row sv 56 3 ((vs ++ (FS.nxt ⟨cs, vs, fr⟩ i s).1).map Vt.av) 0))) KB (some (.box g 105 [.own KC svC, .own KV sv, iv (if s.k = 1 then fr + 1 else fr : Nat)] false)) := by
  have mB := lents_at hB
  have mV := lents_at hV
  have mC := lents_at hC
  simp only [Ent.sh, AV.shL, AV.sh] at mB mV mC
  have har : arS s.k = 3 := by rw [hk]; rfl
  have hal := hok.al
  have h0 := hok.ai 0 (by omega)
  obtain ⟨a1, a2⟩ : Co (cs.getD (gI s.ar 0).toNat ([], [])).1 ∧ Co (cs.getD (gI s.ar 0).toNat ([], [])).2 := hco _ (getD_mem (by omega))
  have h1 := hok.ai 1 (by omega)
  obtain ⟨b1, b2⟩ : Co (cs.getD (gI s.ar 1).toNat ([], [])).1 ∧ Co (cs.getD (gI s.ar 1).toNat ([], [])).2 := hco _ (getD_mem (by omega))
  have h2 := hok.ai 2 (by omega)
  obtain ⟨c1, c2⟩ : Co (cs.getD (gI s.ar 2).toNat ([], [])).1 ∧ Co (cs.getD (gI s.ar 2).toNat ([], [])).2 := hco _ (getD_mem (by omega))
  have en : FS.nxt ⟨cs, vs, fr⟩ i s = ([], (addM (cs.getD (gI s.ar 0).toNat ([], [])).1 (subM (cs.getD (gI s.ar 1).toNat ([], [])).2 (cs.getD (gI s.ar 2).toNat ([], [])).2), addM (cs.getD (gI s.ar 0).toNat ([], [])).2 (subM (cs.getD (gI s.ar 2).toNat ([], [])).1 (cs.getD (gI s.ar 1).toNat ([], [])).1))) := by
    unfold FS.nxt; simp only [hk]; rfl
  rw [en]
  simp only [if_neg (show ¬ s.k = 1 by omega)]
  clear en
  generalize ha : cs.getD (gI s.ar 0).toNat ([], []) = a at *
  generalize hb : cs.getD (gI s.ar 1).toNat ([], []) = b at *
  generalize hc : cs.getD (gI s.ar 2).toNat ([], []) = c at *
  have n1 := a1.ln
  have n2 := a2.ln
  have n3 := b1.ln
  have n4 := b2.ln
  have n5 := c1.ln
  have n6 := c2.ln
  have s1 := poSub c.1 b.1 c1.pk b1.pk c1.st b1.st (by omega) (by omega) (by omega) (by omega) (by omega)
  have s2 := poSub c.2 b.2 c2.pk b2.pk c2.st b2.st (by omega) (by omega) (by omega) (by omega) (by omega)
  have l1 := sub_len c.1 b.1
  have l2 := sub_len c.2 b.2
  have l3 := sub_len b.2 c.2
  have hn := poNeg (subM c.2 b.2) (c2.pk.sub b2.pk) (sub_srt ordM c2.st b2.st) (by omega) (by omega) (by omega)
  rw [show scaleP (-1) (subM c.2 b.2) = subM b.2 c.2 from neg_sub ordM c2.st b2.st] at hn
  have e1 := poAdd a.1 (subM b.2 c.2) a1.pk (b2.pk.sub c2.pk) a1.st (sub_srt ordM b2.st c2.st) (by omega) (by omega) (by omega) (by omega) (by omega)
  have e2 := poAdd a.2 (subM c.1 b.1) a2.pk (c1.pk.sub b1.pk) a2.st (sub_srt ordM c1.st b1.st) (by omega) (by omega) (by omega) (by omega) (by omega)
  have cB := coBetween b c s1 s2
  have oa := coOf a
  have cC := coCombine 106 a (subM b.2 c.2, subM c.1 b.1) (addM a.1 (subM b.2 c.2), addM a.2 (subM c.1 b.1)) e1 e2
  obtain ⟨k, nm, ar, ⟨rs, rl, rd⟩⟩ := s
  simp only at *
  subst hk
  have t0 := fun g3 g4 => cbAt 3 4 (KB + 1000) (KC + 1000) (KV + 1000) g3 g4 g svC svV fr 4 nm ar (.v (.bool rs)) (lim rl) (lim rd) cs 0 ⟨rfl, rfl, rfl⟩ (by omega) h0
  have t1 := fun g3 g4 => cbAt 3 4 (KB + 1000) (KC + 1000) (KV + 1000) g3 g4 g svC svV fr 4 nm ar (.v (.bool rs)) (lim rl) (lim rd) cs 1 ⟨rfl, rfl, rfl⟩ (by omega) h1
  have t2 := fun g3 g4 => cbAt 3 4 (KB + 1000) (KC + 1000) (KV + 1000) g3 g4 g svC svV fr 4 nm ar (.v (.bool rs)) (lim rl) (lim rd) cs 2 ⟨rfl, rfl, rfl⟩ (by omega) h2
  rw [ha] at t0
  rw [hb] at t1
  rw [hc] at t2
  clear s1 s2 e1 e2 l1 l2 l3 a1 a2 b1 b2 c1 c2 hco hok n1 n2 n3 n4 n5 n6 ha hb hc
  generalize addM a.1 (subM b.2 c.2) = x1 at *
  generalize addM a.2 (subM c.1 b.1) = x2 at *
  generalize subM c.1 b.1 = y1 at *
  generalize subM c.2 b.2 = y2 at *
  generalize subM b.2 c.2 = y3 at *
  obtain ⟨aa, ab⟩ := a
  obtain ⟨ba, bb⟩ := b
  obtain ⟨ca, cb⟩ := c
  refine acall_lents Tryz.func52 rfl Tryz.ntmps52 Tryz.results52 Tryz.call52 (by rfl) (by simp) ?_
  (repeat' (first | (with_reducible first | refine stp ?_ | apply gx1 | apply gx2 | apply gx3 | apply gx4 | apply gx5 | apply gx6 | apply gx7 | apply gy8 | apply gz2 | apply gz3 | refine gwr (t0 _ _) ?_ ?_ | refine gwr (t1 _ _) ?_ ?_ | refine gwr (t2 _ _) ?_ ?_ | refine gw0 (oa) ?_ ?_ | refine gw3 (oa) ?_ ?_ ?_ | refine gw0 (cB) ?_ ?_ | refine gw3 (cB) ?_ ?_ ?_ | refine gw0 (cC) ?_ ?_ | refine gw3 (cC) ?_ ?_ ?_ | refine gw0 (hn) ?_ ?_ | refine gw3 (hn) ?_ ?_ ?_) | ((with_reducible apply gyr (t2 _ _)); (focus rfl); (focus rfl); iterate 3 focus ((with_reducible refine gE ?_); (try simp (disch := omega) only [go_sem, mB, mV, mC, lents_lt, lents_beq, atL_def, decide_eq_true, decide_eq_false, if_pos, if_neg, Int.reduceAdd, Int.reduceSub, Int.reduceToNat, Int.zero_add]) <;> first | rfl | done)) | ((with_reducible apply gyr (t1 _ _)); (focus rfl); (focus rfl); iterate 3 focus ((with_reducible refine gE ?_); (try simp (disch := omega) only [go_sem, mB, mV, mC, lents_lt, lents_beq, atL_def, decide_eq_true, decide_eq_false, if_pos, if_neg, Int.reduceAdd, Int.reduceSub, Int.reduceToNat, Int.zero_add]) <;> first | rfl | done)) | ((with_reducible apply gyr (t0 _ _)); (focus rfl); (focus rfl); iterate 3 focus ((with_reducible refine gE ?_); (try simp (disch := omega) only [go_sem, mB, mV, mC, lents_lt, lents_beq, atL_def, decide_eq_true, decide_eq_false, if_pos, if_neg, Int.reduceAdd, Int.reduceSub, Int.reduceToNat, Int.zero_add]) <;> first | rfl | done)) | (with_reducible refine all_v ?_; intro _) | ((with_reducible refine gE ?_); (try simp (disch := omega) only [go_sem, mB, mV, mC, lents_lt, lents_beq, atL_def, decide_eq_true, decide_eq_false, if_pos, if_neg, Int.reduceAdd, Int.reduceSub, Int.reduceToNat, Int.zero_add]) <;> first | rfl | omega) | with_reducible refine t_in_other (by decide) ?_ | ((with_reducible apply gy1); iterate 3 focus rfl) | ((with_reducible apply gy2); iterate 3 focus rfl) | ((with_reducible apply gy3); iterate 2 focus rfl) | ((with_reducible apply gy4); iterate 1 focus rfl) | ((with_reducible apply gy5); iterate 4 focus rfl) | ((with_reducible apply gy6); iterate 4 focus rfl) | ((with_reducible apply d_bar); iterate 3 focus rfl) | ((with_reducible apply q_pub); iterate 1 focus rfl) | ((with_reducible apply gy7); iterate 1 focus rfl) | ((with_reducible apply gy9); (focus ((with_reducible refine gE ?_); (try simp (disch := omega) only [go_sem, mB, mV, mC, lents_lt, lents_beq, atL_def, decide_eq_true, decide_eq_false, if_pos, if_neg, Int.reduceAdd, Int.reduceSub, Int.reduceToNat, Int.zero_add]) <;> rfl))) | ((with_reducible apply gz1); (focus first | rfl | (simp (disch := omega) only [go_sem, mB, mV, mC, lents_lt, lents_beq, atL_def, decide_eq_true, decide_eq_false, if_pos, if_neg, Int.reduceAdd, Int.reduceSub, Int.reduceToNat, Int.zero_add]; done))) | ((with_reducible apply r_drawD (id := 11) (pickR [(1, coA (ba, bb)), (3, coA (ca, cb)), (4, coA (y1, y2))]) [] []); (focus kernel_rfl); (focus rfl); (focus kernel_rfl); (focus (simp only [List.length_cons, List.length_nil, Nat.reduceAdd]; rfl))) | ((with_reducible apply r_drawD (id := 12) (pickR [(1, coA (aa, ab)), (2, coA (aa, ab)), (5, poA y3), (9, coA (x1, x2))]) [] [6]); (focus kernel_rfl); (focus rfl); (focus kernel_rfl); (focus (simp only [List.length_cons, List.length_nil, Nat.reduceAdd]; rfl))) | ((with_reducible first | apply og_split | apply dg_split | apply cg_split); all_goals (intro hc; (try simp only [bool_to_prop] at hc); try (exfalso; omega)))))
  simp (disch := omega) only [go_sem]
  refine backS (Sub.refl _) ⟨svV, rfl, rfl⟩ ?_
  rw [upd_same' hV, upd_same' hB]
  (repeat' (first | exact Agr.start _ | (refine Agr.own ?_ (by omega))))
set_option maxHeartbeats 8000000 in
theorem cbStep5 (σ : Mem) (KB KC KV g : Nat) (svC svV : Value) (cs : List (Po × Po)) (vs : List Vt) (fr : Nat) (i : Nat) (s : RS) (hB : σ KB = some (.box g 105 [.own KC svC, .own KV svV, iv fr] false)) (hV : σ KV = some (.row svV 56 3 (vs.map Vt.av) 0)) (hC : σ KC = some (.row svC 72 2 (cs.map coA) 0)) (hBV : KB ≠ KV) (hBC : KB ≠ KC) (hVC : KV ≠ KC) (hl : vs.length ≤ 64) (hf : fr ≤ 100) (hok : StOk cs s) (hco : ∀ c ∈ cs, Co c.1 ∧ Co c.2) (hk : s.k = 5) : ACall Tryz.prog 52 [.pbox KB g 0, s.av, iv i] σ fun r σ' => ∃ sv, r = coA (FS.nxt ⟨cs, vs, fr⟩ i s).2 ∧
      σ' = upd (upd σ KV (some (.row sv 56 3 ((vs ++ (FS.nxt ⟨cs, vs, fr⟩ i s).1).map Vt.av) 0))) KB (some (.box g 105 [.own KC svC, .own KV sv, iv (if s.k = 1 then fr + 1 else fr : Nat)] false)) := by
  have mB := lents_at hB
  have mV := lents_at hV
  have mC := lents_at hC
  simp only [Ent.sh, AV.shL, AV.sh] at mB mV mC
  have har : arS s.k = 2 := by rw [hk]; rfl
  have hal := hok.al
  have h0 := hok.ai 0 (by omega)
  obtain ⟨a1, a2⟩ : Co (cs.getD (gI s.ar 0).toNat ([], [])).1 ∧ Co (cs.getD (gI s.ar 0).toNat ([], [])).2 := hco _ (getD_mem (by omega))
  have h1 := hok.ai 1 (by omega)
  obtain ⟨b1, b2⟩ : Co (cs.getD (gI s.ar 1).toNat ([], [])).1 ∧ Co (cs.getD (gI s.ar 1).toNat ([], [])).2 := hco _ (getD_mem (by omega))
  have en : FS.nxt ⟨cs, vs, fr⟩ i s = ([(1, (i : Int), 0)], (addM (cs.getD (gI s.ar 0).toNat ([], [])).1 (mlM (subM (cs.getD (gI s.ar 1).toNat ([], [])).1 (cs.getD (gI s.ar 0).toNat ([], [])).1) (varM vs.length)), addM (cs.getD (gI s.ar 0).toNat ([], [])).2 (mlM (subM (cs.getD (gI s.ar 1).toNat ([], [])).2 (cs.getD (gI s.ar 0).toNat ([], [])).2) (varM vs.length)))) := by
    unfold FS.nxt; simp only [hk]; rfl
  rw [en]
  simp only [if_neg (show ¬ s.k = 1 by omega)]
  clear en
  generalize ha : cs.getD (gI s.ar 0).toNat ([], []) = a at *
  generalize hb : cs.getD (gI s.ar 1).toNat ([], []) = b at *
  have s1 := poSub b.1 a.1 b1.pk a1.pk b1.st a1.st (by have := b1.ln; omega) (by have := a1.ln; omega) (by omega) (by omega) (by omega)
  have s2 := poSub b.2 a.2 b2.pk a2.pk b2.st a2.st (by have := b2.ln; omega) (by have := a2.ln; omega) (by omega) (by omega) (by omega)
  have d1 := b1.pk.sub a1.pk
  have d2 := b2.pk.sub a2.pk
  have t1 := sub_srt ordM b1.st a1.st
  have t2 := sub_srt ordM b2.st a2.st
  have l1 := sub_len b.1 a.1
  have l2 := sub_len b.2 a.2
  have n1 := a1.ln
  have n2 := a2.ln
  have n3 := b1.ln
  have n4 := b2.ln
  have c1 := poMulVar (subM b.1 a.1) vs.length d1 t1 (by omega) (by omega) (by omega)
  have c2 := poMulVar (subM b.2 a.2) vs.length d2 t2 (by omega) (by omega) (by omega)
  have e1 := poAdd a.1 (mlM (subM b.1 a.1) (varM vs.length)) (a1.pk.mono (Nat.le_refl _) (show 1 ≤ 2 by omega)) d1.mulV a1.st (mulR_srt ordM mulK t1 (varM_srt _)) (by omega) (by have := mulV_len (subM b.1 a.1) vs.length; omega) (by omega) (by omega) (by omega)
  have e2 := poAdd a.2 (mlM (subM b.2 a.2) (varM vs.length)) (a2.pk.mono (Nat.le_refl _) (show 1 ≤ 2 by omega)) d2.mulV a2.st (mulR_srt ordM mulK t2 (varM_srt _)) (by omega) (by have := mulV_len (subM b.2 a.2) vs.length; omega) (by omega) (by omega) (by omega)
  obtain ⟨k, nm, ar, ⟨rs, rl, rd⟩⟩ := s
  simp only at *
  subst hk
  have al := fun sv1 g3 g4 g7 g10 => cbAlongM 3 4 7 (KB + 1000) (KC + 1000) (KV + 1000) g3 g4 g7 g svC sv1 fr 5 nm ar rs rl rd 10 g10 (varM vs.length) cs a b (mlM (subM b.1 a.1) (varM vs.length), mlM (subM b.2 a.2) (varM vs.length)) (addM a.1 (mlM (subM b.1 a.1) (varM vs.length)), addM a.2 (mlM (subM b.2 a.2) (varM vs.length))) (by omega) h0 h1 ha hb s1 s2 c1 c2 e1 e2
  clear s1 s2 c1 c2 e1 e2 d1 d2 t1 t2 l1 l2 a1 a2 b1 b2 hco hok n1 n2 n3 n4
  generalize addM a.1 (mlM (subM b.1 a.1) (varM vs.length)) = x1 at *
  generalize addM a.2 (mlM (subM b.2 a.2) (varM vs.length)) = x2 at *
  refine acall_lents Tryz.func52 rfl Tryz.ntmps52 Tryz.results52 Tryz.call52 (by rfl) (by simp) ?_
  (focus (refine wkad (w_a mB (w_a mV (w_a mC (w_a @lents_lt w_t)))) w_t w_t ?_; (repeat' first | exact w_t | apply w_l); all_goals intros))
  refine o_fresh ((cbVariable _ (KB + 1000) (KC + 1000) (KV + 1000) g svC svV vs fr 1 (i : Int) 0 (by (simp (disch := omega) only [go_sem, mB, mV, if_neg, if_pos] <;> repeat' first | rfl | refine ⟨?_, ?_⟩)) (by (simp (disch := omega) only [go_sem, mB, mV, if_neg, if_pos] <;> repeat' first | rfl | refine ⟨?_, ?_⟩)) (by omega) (by omega))) ?_
  intro sv1
  generalize varM vs.length = t at *
  (focus (refine wkad (w_a mB (w_a mV (w_a mC (w_a @lents_lt w_t)))) w_t w_t ?_; (repeat' first | exact w_t | apply w_l); all_goals intros))
  rename_i g3 g4 g6 g7 g10
  have al := al sv1 g3 g4 g7 g10
  (focus (refine wkax (w_a mB (w_a mV (w_a mC (w_a @lents_lt (w_a @atL_def w_t))))) w_t w_t w_t w_t (w_a al w_t) (w_r 0) ?_; (repeat' first | exact w_t | apply w_l); all_goals intros))
  simp (disch := omega) only [go_sem]
  refine backS (Sub.refl _) ⟨sv1, rfl, rfl⟩ ?_
  intro k
  by_cases hk1 : k = KB
  · rw [hk1]
    simp (disch := omega) only [upd_at, if_pos, if_neg, Option.map_some, Ent.sh, AV.shL, AV.sh]
    try rfl
  · by_cases hk2 : k = KV
    · rw [hk2]
      simp (disch := omega) only [upd_at, if_pos, if_neg, Option.map_some, Ent.sh, AV.shL, AV.sh]
      try rfl
    · simp (disch := omega) only [upd_at, if_neg]
      exact Agr.start σ k

theorem cbStep (σ : Mem) (KB KC KV g : Nat) (svC svV : Value) (cs : List (Po × Po)) (vs : List Vt) (fr : Nat) (i : Nat) (s : RS) (hB : σ KB = some (.box g 105 [.own KC svC, .own KV svV, iv fr] false)) (hV : σ KV = some (.row svV 56 3 (vs.map Vt.av) 0)) (hC : σ KC = some (.row svC 72 2 (cs.map coA) 0)) (hBV : KB ≠ KV) (hBC : KB ≠ KC) (hVC : KV ≠ KC) (hl : vs.length ≤ 64) (hf : fr ≤ 100) (hok : StOk cs s) (hco : ∀ c ∈ cs, Co c.1 ∧ Co c.2) : ACall Tryz.prog 52 [.pbox KB g 0, s.av, iv i] σ fun r σ' => ∃ sv, r = coA (FS.nxt ⟨cs, vs, fr⟩ i s).2 ∧
      σ' = upd (upd σ KV (some (.row sv 56 3 ((vs ++ (FS.nxt ⟨cs, vs, fr⟩ i s).1).map Vt.av) 0))) KB (some (.box g 105 [.own KC svC, .own KV sv, iv (if s.k = 1 then fr + 1 else fr : Nat)] false)) := by
  by_cases k1 : s.k = 1
  · exact cbStep1 σ KB KC KV g svC svV cs vs fr i s hB hV hC hBV hBC hVC hl hf k1
  · by_cases k2 : s.k = 2
    · exact cbStep2 σ KB KC KV g svC svV cs vs fr i s hB hV hC hBV hBC hVC hl hf hok hco k2
    · by_cases k3 : s.k = 3
      · exact cbStep3 σ KB KC KV g svC svV cs vs fr i s hB hV hC hBV hBC hVC hl hf hok hco k3
      · by_cases k4 : s.k = 4
        · exact cbStep4 σ KB KC KV g svC svV cs vs fr i s hB hV hC hBV hBC hVC hl hf hok hco k4
        · by_cases k5 : s.k = 5
          · exact cbStep5 σ KB KC KV g svC svV cs vs fr i s hB hV hC hBV hBC hVC hl hf hok hco k5
          · by_cases k6 : s.k = 6
            · exact cbStep6 σ KB KC KV g svC svV cs vs fr i s hB hV hC hBV hBC hVC hl hf k6
            · exact cbStep7 σ KB KC KV g svC svV cs vs fr i s hB hV hC hBV hBC hVC hl hf ⟨k1, k2, k3, k4, k5, k6⟩
end Go.Proofs.YtbgmnobnaplmlaaGreat
end

section
namespace Go.Pg
open Go Go.RowKit
set_option linter.unusedSimpArgs false
set_option linter.unusedVariables false
section
variable {P : Program} {all rest : List Oper} {K : St → Prop} {e : Nat → AV} {m : Mem} {dst : Option Nat} {d t j : Nat} {op : Op} {ty : TypeId} {pos : String} {af : Array Edge} {r : Res} {rs : Nat → AV} {bar : List Nat} {fu k : Nat} {σs : Mem}
/-- An append that steps that look at no memory may pass. -/
theorem gy5d (hb : bar.contains k = true) (hs : bar.contains (k + 1000) = false) (h2 : bar.contains (k + 2000) = true) (ho : all[k]? = some ⟨some d, op, ty, pos, af, none⟩) (h : Ev (opRes P ⟨e, m⟩ op = r)) (hkp : Ev (resKeep noMem r)) (hk : aRes P d (some d) r (dList P 0 all rs bar noMem fu (k + 1) K) ⟨e, m⟩) : dList P 0 all rs bar σs (fu + 1) k K ⟨e, m⟩ := by
  rw [dList_succ]
  unfold xStep
  rw [ho]
  simp only [nextS, hb, hs, h2, if_true, Bool.false_eq_true, if_false]
  have h : opRes P ⟨e, m⟩ op = r := h
  refine ⟨?_, fun _ => ⟨rfl, by rw [h]; exact hkp⟩⟩
  unfold fStep
  rw [aList_none, h, Option.getD_some, Nat.zero_add]
  exact hk
end
end Go.Pg
end

section
namespace Go.Proofs.YtbgmnobnaplmlaaGreat
open Go Go.RowKit Go.Pg Go.Pol
set_option linter.unusedSimpArgs false
set_option linter.unusedVariables false
set_option maxRecDepth 20000
attribute [local go_sem] Tryz.underlying3 Tryz.underlying4 Tryz.underlying178 Tryz.underlying9 Tryz.underlying48 Tryz.underlying31 Tryz.underlying43 Tryz.underlying41 Tryz.underlying39 Tryz.underlying50 Tryz.underlying22 Tryz.underlying25 Tryz.underlying56 Tryz.underlying28 Tryz.underlying72 Tryz.underlying27 Tryz.underlying30 Tryz.underlying105 Tryz.underlying107 Tryz.underlying70 Tryz.underlying63 Tryz.underlying103 Tryz.underlying154 sz3 by3 z3 szErr zErr szStr byStr zStr szStep byStep zStep szFig zFig szSlI zSlI szSlS zSlS szVar byVar zVar szSlV zSlV szCoord byCoord zCoord szSlC zSlC szFrame zFrame szCBld byCBld zCBld szCVec byCVec zCVec szPoly byPoly zPoly szTerm zTerm
attribute [-bool_to_prop] Bool.and_eq_decide Bool.or_eq_decide Bool.decide_beq_decide decide_eq_decide
/-! ### the parameters of a frame -/
abbrev frmA (cs : List (Po × Po)) (vs : List Vt) : AV := .agg [.sl 2 (cs.map coA), .sl 3 (vs.map Vt.av)]
def parsN (l : List Vt) (i : Nat) : List Int := ((List.range i).filter fun j => decide ((l.getD j (0, 0, 0)).1 = 1)).map fun n : Nat => (n : Int)
/-! ### how many there are -/
def cnt1 (l : List Vt) : Nat := (l.filter fun v => decide (v.1 = 1)).length
def cF (ss : List RS) : Nat → Nat
  | 0 => 0
  | i + 1 => cF ss i + if (ss.getD i RS.zero).k = 1 then 1 else 0
def cP (ss : List RS) : Nat → Nat
  | 0 => 0
  | i + 1 => cP ss i + if (ss.getD i RS.zero).k = 5 ∨ (ss.getD i RS.zero).k = 6 then 1 else 0
def cD (ss : List RS) : Nat → Nat
  | 0 => 0
  | i + 1 => cD ss i + if (ss.getD i RS.zero).k = 1 ∨ (ss.getD i RS.zero).k = 2 ∨ (ss.getD i RS.zero).k = 3 ∨ (ss.getD i RS.zero).k = 4 ∨ (ss.getD i RS.zero).k = 5 then 0 else 2
end Go.Proofs.YtbgmnobnaplmlaaGreat
end

section
namespace Go.Proofs.YtbgmnobnaplmlaaGreat
open Go Go.RowKit Go.Pg Go.Pol
set_option linter.unusedSimpArgs false
set_option linter.unusedVariables false
set_option maxRecDepth 20000
attribute [local go_sem] Tryz.underlying3 Tryz.underlying4 Tryz.underlying178 Tryz.underlying9 Tryz.underlying48 Tryz.underlying31 Tryz.underlying43 Tryz.underlying41 Tryz.underlying39 Tryz.underlying50 Tryz.underlying22 Tryz.underlying25 Tryz.underlying56 Tryz.underlying28 Tryz.underlying72 Tryz.underlying27 Tryz.underlying30 Tryz.underlying105 Tryz.underlying107 Tryz.underlying70 Tryz.underlying63 Tryz.underlying103 Tryz.underlying154 sz3 by3 z3 szB zB szErr zErr szStr byStr zStr szRat zRat szInt zInt szNat zNat szStep byStep zStep szFig zFig szSlI zSlI szSlS zSlS szVar byVar zVar szSlV zSlV szCoord byCoord zCoord szSlC zSlC szFrame zFrame szCBld byCBld zCBld szCVec byCVec zCVec szPoly byPoly zPoly szTerm zTerm szPtrB zPtrB szFnC zFnC
attribute [-bool_to_prop] Bool.and_eq_decide Bool.or_eq_decide Bool.decide_beq_decide decide_eq_decide
theorem frN_fr (ss : List RS) : ∀ i, (frN ss i).fr ≤ i
  | 0 => Nat.le_refl _
  | i + 1 => by
    have := frN_fr ss i
    unfold frN
    simp only [FS.push]
    split <;> omega
theorem nfN_mono (ss : List RS) : ∀ i k, nfN ss i ≤ nfN ss (i + k)
  | i, 0 => Nat.le_refl _
  | i, k + 1 => Nat.le_trans (nfN_mono ss i k) (by show _ ≤ nfN ss (i + k) + _; omega)
/-- What is known of a figure in order. -/
structure FigOk (ss : List RS) : Prop where
  len : ss.length ≤ 40
  er : ∀ i, i < ss.length → errS ss i = 0
  lm : ∀ s ∈ ss, s.r.lm 2
  nf : nfN ss ss.length ≤ 20
theorem FigOk.fi {ss : List RS} (h : FigOk ss) {i : Nat} (hi : i ≤ ss.length) (hj : ∀ j, j < i → bigN ss j = false) : ∃ D, FI (frN ss i) (nfN ss i) D ∧ nfN ss i ≤ 20 := by
  have hr : ∀ s ∈ ss, s.k = 2 → s.r.ok = true := fun s hs => by
    obtain ⟨j, hj, rfl⟩ := List.mem_iff_getElem.1 hs
    exact (errS_ok hj (h.er j hj)).2.2.2
  obtain ⟨D, hD⟩ := frN_ok ss hr (fun s hs => lm_bd (h.lm s hs)) i hi hj
  refine ⟨D, hD, Nat.le_trans ?_ h.nf⟩
  have := nfN_mono ss i (ss.length - i)
  rwa [show i + (ss.length - i) = ss.length by omega] at this
theorem FI.co {f : FS} {n D : Nat} (h : FI f n D) (hn : n ≤ 20) : ∀ c ∈ f.cs, Co c.1 ∧ Co c.2 := fun c hc => by
  obtain ⟨h1, h2⟩ := h.cs c hc
  obtain ⟨l1, l2⟩ := h.ln c hc
  have hv := h.nv
  exact ⟨⟨h1.pk (by omega) h.D0 h.Dl hn, h1.1, l1⟩, ⟨h2.pk (by omega) h.D0 h.Dl hn, h2.1, l2⟩⟩
theorem FigOk.st {ss : List RS} (h : FigOk ss) {i : Nat} (hi : i < ss.length) : StOk (frN ss i).cs ss[i] := by
  obtain ⟨h1, h2, h3, h4⟩ := errS_ok hi (h.er i hi)
  exact ⟨h1, h2, fun k hk => by rw [frN_len]; exact h3 k hk, h4, h.lm _ (List.getElem_mem hi)⟩
/-- What the next frame is. -/
theorem frN_succ {ss : List RS} {i : Nat} (hi : i < ss.length) : frN ss (i + 1) = ⟨(frN ss i).cs ++ [((frN ss i).nxt i ss[i]).2], (frN ss i).vs ++ ((frN ss i).nxt i ss[i]).1, if ss[i].k = 1 then (frN ss i).fr + 1 else (frN ss i).fr⟩ := by
  show (frN ss i).push i (ss.getD i RS.zero) = _
  rw [show ss.getD i RS.zero = ss[i] from by rw [List.getD_eq_getElem?_getD, List.getElem?_eq_getElem hi]; rfl]; rfl
theorem bigN_at {ss : List RS} {i : Nat} (hi : i < ss.length) : bigN ss i = (decide (64 < ((frN ss i).vs ++ ((frN ss i).nxt i ss[i]).1).length) || decide (4000 < ((frN ss i).nxt i ss[i]).2.1.length) || decide (4000 < ((frN ss i).nxt i ss[i]).2.2.length)) := by
  unfold bigN
  rw [frN_succ hi, show ss.getD i ⟨0, .empty, [], ⟨false, [], []⟩⟩ = ss[i] from by rw [List.getD_eq_getElem?_getD, List.getElem?_eq_getElem hi]; rfl]
theorem nxt_vars (f : FS) (i : Nat) (s : RS) : (f.nxt i s).1.length ≤ 3 := by
  unfold FS.nxt; simp only
  repeat' split
  all_goals simp
set_option maxHeartbeats 8000000 in
theorem coFrame1 (ss : List RS) (gs : List RG) (cR : Pure Tryz.prog 51 [figA ss gs] (iv 0)) (ho : FigOk ss) :
    Pure Tryz.prog 15 [figA ss gs] (if (List.range ss.length).any (bigN ss) = true then .tup [.agg [.v (.slice none 0 0), .v (.slice none 0 0)], iv 4] else .tup [frmA (frN ss ss.length).cs (frN ss ss.length).vs, iv 0]) := by
  have cR : Pure Tryz.prog 51 [.agg [.sl 6 (ss.map RS.av), .sl 5 (gs.map RG.av)]] (iv 0) := cR
  show Pure _ _ [.agg [.sl 6 (ss.map RS.av), .sl 5 (gs.map RG.av)]] _
  have hg : ∀ i (h : i < ss.length), (ss.map RS.av).getD i .u = ss[i].av := fun i h => map_atB RS.av h
  have hls : (ss.map RS.av).length = ss.length := List.length_map ..
  have hlen := ho.len
  generalize ss.map RS.av = M at *
  generalize gs.map RG.av = N at *
  refine pure_intro (tok := 0) Tryz.func15 rfl Tryz.ntmps15 Tryz.results15 Tryz.call15 (by rfl) (by simp) ?_
  (focus (refine wkad (w_a hls w_t) (w_a cR w_t) w_t ?_; (repeat' first | exact w_t | apply w_l); all_goals intros))
  rename_i g1 g2 gb
  refine r_frz (Frz.nilBox (k := 16) 0 20 2 72 (by exact gC) rfl (by omega)) ?_
  refine r_frz (Frz.nilBox (k := 16) 1 21 3 56 (by exact gC) rfl (by omega)) ?_
  refine r_loopE (ι := Nat) (fun i e m => i ≤ ss.length ∧ e 2 = .pbox 2 g2 0 ∧ m 2 = some (.box g2 30 [.v (.slice none 0 0), .v (.slice none 0 0)] false) ∧ e 5 = .pbox 16 gb 0 ∧ e 18 = .sl 6 M ∧ e 19 = iv ss.length ∧ e 20 = iv i ∧ (∃ svC svV, m 16 = some (.box gb 105 [.own 20 svC, .own 21 svV, iv (frN ss i).fr] false) ∧ m 20 = some (.row svC 72 2 ((frN ss i).cs.map coA) 0) ∧ m 21 = some (.row svV 56 3 ((frN ss i).vs.map Vt.av) 0)) ∧ ∀ j, j < i → bigN ss j = false) (fun i => ss.length - i) 0 (by rfl) ?_ ?_
  · rintro i e m ⟨hi, e2, m2, e5, e18, e19, e20, ⟨svC, svV, m16, m20, m21⟩, hbig⟩
    by_cases hlt : i < ss.length
    · have hgi := hg i hlt
      obtain ⟨D, hD, hn⟩ := ho.fi hi hbig
      have hco := hD.co hn
      have hst := ho.st hlt
      have hfr := frN_fr ss i
      have hnv := hD.nv
      have hb := bigN_at hlt
      have hsu := frN_succ hlt
      have hn3 := nxt_vars (frN ss i) i ss[i]
      have hcl := frN_len ss i
      have hst2 := fun m' hB hV hC => cbStep m' 16 20 21 gb svC svV (frN ss i).cs (frN ss i).vs (frN ss i).fr i ss[i] hB hV hC (by omega) (by omega) (by omega) hnv (by omega) hst hco
      rw [show (FS.mk (frN ss i).cs (frN ss i).vs (frN ss i).fr) = frN ss i from rfl] at hst2
      clear hD hco hst
      generalize hs : ss[i] = s at *
      generalize hf : frN ss i = f at *
      generalize hx : f.nxt i s = nx at *
      obtain ⟨nv, c1, c2⟩ := nx
      obtain ⟨k, nm, ar, ⟨rs, rl, rd⟩⟩ := s
      obtain ⟨cs, vs, fr⟩ := f
      simp only at *
      (focus (refine wkad (w_a e2 (w_a m2 (w_a e5 (w_a e18 (w_a e19 (w_a e20 (w_a m16 (w_a m20 (w_a m21 (w_a hgi (w_a hls w_t))))))))))) w_t w_t ?_; (repeat' first | exact w_t | apply w_l); all_goals intros))
      refine o_fresh (hst2 _ (by exact gW m16) (by exact gW m21) (by exact gW m20)) ?_
      intro sv
      generalize hfr2 : (if k = 1 then fr + 1 else fr) = fr2 at *
      have hvl : ((vs ++ nv).map Vt.av).length = (vs ++ nv).length := List.length_map ..
      have hvl2 : (vs ++ nv).length ≤ 67 := by rw [List.length_append]; omega
      have hnx : ∀ j, j < i + 1 → bigN ss i = false → bigN ss j = false := fun j hj h => by
        by_cases e : j = i
        · rw [e]; exact h
        · exact hbig j (by omega)
      have hany : bigN ss i = true → (List.range ss.length).any (bigN ss) = true := fun h => List.any_eq_true.2 ⟨i, List.mem_range.2 hlt, h⟩
      generalize vs ++ nv = vs2 at *
      have hc1 : (c1.map tmA).length = c1.length := List.length_map ..
      have hc2 : (c2.map tmA).length = c2.length := List.length_map ..
      have hcsl : (cs.map coA).length = cs.length := List.length_map ..
      by_cases b1 : 64 < vs2.length
      · rw [if_pos (hany (by rw [hb]; simp [b1]))]
        (focus (refine wkld (w_a e2 (w_a m2 (w_a e5 (w_a e18 (w_a e19 (w_a e20 (w_a hvl (w_a hls w_t)))))))) w_t (w_a e2 w_t) w_t ?_; (repeat' first | exact w_t | apply w_l); all_goals intros))
      · by_cases b2 : 4000 < c1.length
        · rw [if_pos (hany (by rw [hb]; simp [b2]))]
          (focus (refine wkld (w_a e2 (w_a m2 (w_a e5 (w_a e18 (w_a e19 (w_a e20 (w_a hvl (w_a hc1 (w_a hls w_t))))))))) w_t (w_a e2 w_t) w_t ?_; (repeat' first | exact w_t | apply w_l); all_goals intros))
        · by_cases b3 : 4000 < c2.length
          · rw [if_pos (hany (by rw [hb]; simp [b3]))]
            (focus (refine wkld (w_a e2 (w_a m2 (w_a e5 (w_a e18 (w_a e19 (w_a e20 (w_a hvl (w_a hc1 (w_a hc2 (w_a hls w_t)))))))))) w_t (w_a e2 w_t) w_t ?_; (repeat' first | exact w_t | apply w_l); all_goals intros))
          · have hbf : bigN ss i = false := by rw [hb]; simp [b1, b2, b3]
            clear hany
            (repeat' (first | ((with_reducible apply gy5d); iterate 4 focus rfl) | (with_reducible first | refine stp ?_ | apply gx1 | apply gx2 | apply gx3 | apply gx4 | apply gx5 | apply gx6 | apply gx7 | apply gy8 | apply gz2 | apply gz3) | (with_reducible refine all_v ?_; intro _) | ((with_reducible refine gE ?_); (try simp (disch := omega) only [go_sem, e2, m2, e5, e18, e19, e20, m20, hvl, hc1, hc2, hcsl, hls, decide_eq_true, decide_eq_false, if_pos, if_neg, Int.reduceAdd, Int.reduceSub, Int.reduceToNat, Int.zero_add]) <;> first | rfl | omega) | with_reducible refine t_in_other (by decide) ?_ | ((with_reducible apply gy1); iterate 3 focus rfl) | ((with_reducible apply gy2); iterate 3 focus rfl) | ((with_reducible apply gy3); iterate 2 focus rfl) | ((with_reducible apply gy4); iterate 1 focus rfl) | ((with_reducible apply gy5); iterate 4 focus rfl) | ((with_reducible apply gy6); iterate 4 focus rfl) | ((with_reducible apply d_bar); iterate 3 focus rfl) | ((with_reducible apply q_pub); iterate 1 focus rfl) | ((with_reducible apply gy7); iterate 1 focus rfl) | ((with_reducible apply gy9); (focus ((with_reducible refine gE ?_); (try simp (disch := omega) only [go_sem, e2, m2, e5, e18, e19, e20, m20, hvl, hc1, hc2, hcsl, hls, decide_eq_true, decide_eq_false, if_pos, if_neg, Int.reduceAdd, Int.reduceSub, Int.reduceToNat, Int.zero_add]) <;> rfl))) | ((with_reducible apply gz1); (focus first | rfl | (simp (disch := omega) only [go_sem, e2, m2, e5, e18, e19, e20, m20, hvl, hc1, hc2, hcsl, hls, decide_eq_true, decide_eq_false, if_pos, if_neg, Int.reduceAdd, Int.reduceSub, Int.reduceToNat, Int.zero_add]; done))) | ((with_reducible apply r_drawD (id := 11) (pickR []) [12, 2012, 16] [20, 60]); (focus kernel_rfl); (focus rfl); (focus kernel_rfl); (focus (simp only [List.length_cons, List.length_nil, Nat.reduceAdd]; rfl))) | ((with_reducible first | apply og_split | apply dg_split | apply cg_split); all_goals (intro hc; (try simp only [bool_to_prop] at hc); try (exfalso; omega)))))
            rename_i svC2
            refine ⟨i + 1, ⟨by omega, by exact gW e2, by exact gW m2, by exact gW e5, by exact gW e18, by exact gW e19, by exact gS, ⟨svC2, sv, ?_, ?_, ?_⟩, fun j hj => hnx j hj hbf⟩, by omega⟩
            · rw [hsu]; exact gW hfr2
            · rw [hsu, List.map_append]; exact gC
            · rw [hsu]; exact gC
    · have hin : i = ss.length := by omega
      subst hin
      have hno : ¬ (List.range ss.length).any (bigN ss) = true := by
        rw [List.any_eq_true]
        rintro ⟨j, hj, hb⟩
        rw [hbig j (List.mem_range.1 hj)] at hb
        cases hb
      rw [if_neg hno]
      generalize (frN ss ss.length).fr = fr at *
      generalize (frN ss ss.length).cs = cs at *
      generalize (frN ss ss.length).vs = vs at *
      (focus (refine wkld (w_a e2 (w_a m2 (w_a e5 (w_a e18 (w_a e19 (w_a e20 (w_a m16 (w_a m20 (w_a m21 (w_a hls w_t)))))))))) w_t (w_a e2 (w_a m2 (w_a m16 (w_a m20 (w_a m21 w_t))))) w_t ?_; (repeat' first | exact w_t | apply w_l); all_goals intros))
  · exact ⟨Nat.zero_le _, by exact gC, by exact gC, by exact gC, by exact gC, by exact gW hls, by exact gC, ⟨_, _, by (simp (disch := omega) only [go_sem, List.set_cons_zero, List.set_cons_succ, frN] <;> repeat' first | rfl | refine ⟨?_, ?_⟩), by (simp (disch := omega) only [go_sem, frN, List.map_nil] <;> repeat' first | rfl | refine ⟨?_, ?_⟩), by (simp (disch := omega) only [go_sem, frN, List.map_nil] <;> repeat' first | rfl | refine ⟨?_, ?_⟩)⟩, fun j hj => by omega⟩
end Go.Proofs.YtbgmnobnaplmlaaGreat
end

section
namespace Go.Proofs.YtbgmnobnaplmlaaGreat
open Go Go.RowKit Go.Pg
set_option linter.unusedSimpArgs false
set_option linter.unusedVariables false
set_option maxRecDepth 20000
attribute [local go_sem] Tryz.underlying3 Tryz.underlying4 Tryz.underlying178 Tryz.underlying9 Tryz.underlying48 Tryz.underlying31 Tryz.underlying43 Tryz.underlying41 Tryz.underlying39 Tryz.underlying50 Tryz.underlying22 Tryz.underlying25 Tryz.underlying124 Tryz.underlying23 Tryz.underlying30 Tryz.underlying27 Tryz.underlying28 Tryz.underlying85 Tryz.underlying97 sz3 by3 z3 szB zB szErr zErr szStr byStr zStr szL byL zL szRat zRat szInt zInt szNat zNat szStep byStep zStep szFig zFig szSlI zSlI szSlS zSlS szFact byFact zFact szSlF zSlF szFrame zFrame szSlC zSlC szSlV zSlV szCond byCond zCond szSlCd zSlCd
attribute [-bool_to_prop] Bool.and_eq_decide Bool.or_eq_decide Bool.decide_beq_decide decide_eq_decide
/-! ### the conditions of a figure -/
def cndN (ss : List RS) : Nat → List RC
  | 0 => []
  | i + 1 => cndN ss i ++ if cHas (ss.getD i RS.zero).k = true then [cOf (ss.getD i RS.zero) i] else []
theorem cndN_y {ss : List RS} {i : Nat} (hi : i < ss.length) (h : cHas ss[i].k = true) : (cndN ss (i + 1)).map RC.av = (cndN ss i).map RC.av ++ [(cOf ss[i] i).av] := by
  show (cndN ss i ++ _).map RC.av = _
  rw [show ss.getD i RS.zero = ss[i] from by rw [List.getD_eq_getElem?_getD, List.getElem?_eq_getElem hi]; rfl, if_pos h, List.map_append]; rfl
theorem cndN_n {ss : List RS} {i : Nat} (hi : i < ss.length) (h : cHas ss[i].k = false) : (cndN ss (i + 1)).map RC.av = (cndN ss i).map RC.av := by
  show (cndN ss i ++ _).map RC.av = _
  rw [show ss.getD i RS.zero = ss[i] from by rw [List.getD_eq_getElem?_getD, List.getElem?_eq_getElem hi]; rfl, if_neg (by rw [h]; simp), List.append_nil]
theorem cndN_len (ss : List RS) : ∀ i, (cndN ss i).length ≤ i
  | 0 => by simp [cndN]
  | i + 1 => by
    show (cndN ss i ++ _).length ≤ _
    have := cndN_len ss i
    rw [List.length_append]
    split <;> simp <;> omega
/-- Where a condition comes from. -/
theorem cndN_mem {ss : List RS} : ∀ {i : Nat} {c : RC}, c ∈ cndN ss i → ∃ j, j < i ∧ cHas (ss.getD j RS.zero).k = true ∧ c = cOf (ss.getD j RS.zero) j
  | 0, c, h => by simp [cndN] at h
  | i + 1, c, h => by
    rcases List.mem_append.1 (show c ∈ cndN ss i ++ _ from h) with h1 | h1
    · obtain ⟨j, h2, h3⟩ := cndN_mem h1
      exact ⟨j, by omega, h3⟩
    · split at h1
      · rename_i h2
        rw [List.mem_singleton] at h1
        exact ⟨i, by omega, h2, h1⟩
      · cases h1
theorem cOf_st {s : RS} {i : Nat} (h : cHas s.k = true) : (cOf s i).st = i := by
  unfold cHas at h
  rw [decide_eq_true_eq] at h
  unfold cOf
  repeat' split
  all_goals (first | rfl | omega)
set_option maxHeartbeats 8000000 in
theorem cnOf (ss : List RS) (gs : List RG) (cs : List (Po × Po)) (vs : List Vt) (z : Int) (co : Pure Tryz.prog 15 [figA ss gs] (.tup [frmA cs vs, iv z])) (hl : ss.length ≤ 1000) (hk : z = 0 → ∀ i (h : i < ss.length), (ss[i].ar.length : Int) = arS ss[i].k) :
    Pure Tryz.prog 46 [figA ss gs] (.tup [.sl 3 (if z = 0 then (cndN ss ss.length).map RC.av else []), iv z]) := by
  have hg : ∀ i (h : i < ss.length), (ss.map RS.av).getD i .u = ss[i].av := fun i h => map_atB RS.av h
  have hls : (ss.map RS.av).length = ss.length := List.length_map ..
  by_cases hz : z = 0
  · subst hz
    rw [if_pos rfl]
    have hy := fun i (h : i < ss.length) => cndN_y (ss := ss) h
    have hn := fun i (h : i < ss.length) => cndN_n (ss := ss) h
    have hcl := cndN_len ss
    have hst : ∀ i (h : i < ss.length), Pure Tryz.prog 96 [ss[i].av, iv i] (.tup [(cOf ss[i] i).av, .v (.bool (cHas ss[i].k))]) := fun i h => cnStep ss[i] i (hk rfl i h)
    show Pure _ _ [.agg [.sl 6 (ss.map RS.av), .sl 5 (gs.map RG.av)]] _
    have co : Pure Tryz.prog 15 [.agg [.sl 6 (ss.map RS.av), .sl 5 (gs.map RG.av)]] (.tup [.agg [.sl 2 (cs.map coA), .sl 3 (vs.map Vt.av)], iv 0]) := co
    clear hk
    generalize ss.map RS.av = M at *
    generalize gs.map RG.av = N at *
    generalize cs.map coA = C at *
    generalize vs.map Vt.av = V at *
    refine pure_intro (tok := 0) Tryz.func46 rfl Tryz.ntmps46 Tryz.results46 Tryz.call46 (by rfl) (by simp) ?_
    (focus (refine wkap (w_a hls w_t) (w_a co w_t) (w_r 0) ?_; (repeat' first | exact w_t | apply w_l); all_goals intros))
    rename_i g1 g4
    refine r_frz (Frz.nilOwn (d := 6) 37 3 85 (by exact gC)) ?_
    refine r_loopE (ι := Nat) (fun i e m => i ≤ ss.length ∧ e 1 = .pbox 1 g1 0 ∧ m 1 = some (.box g1 25 [.sl 6 M, .sl 5 N] false) ∧ e 20 = .sl 6 M ∧ e 21 = iv ss.length ∧ e 22 = iv i ∧ ∃ sv, e 6 = .own 37 sv ∧ m 37 = some (.row sv 85 3 ((cndN ss i).map RC.av) 0)) (fun i => ss.length - i) 0 (by rfl) ?_ ?_
    · rintro i e m ⟨hi, e1, m1, e20, e21, e22, sv, e6, m6⟩
      by_cases hlt : i < ss.length
      · have hgi := hg i hlt
        have cst := hst i hlt
        have hy := hy i hlt
        have hn := hn i hlt
        have hll : ((cndN ss i).map RC.av).length ≤ 1000 := by rw [List.length_map]; have := hcl i; omega
        clear hst hg hcl
        generalize (cndN ss i).map RC.av = L at *
        generalize cOf ss[i] i = c at *
        obtain ⟨ck, ca, ci⟩ := c
        generalize ss[i] = s at *
        obtain ⟨k, nm, ar, ⟨rs, rl, rd⟩⟩ := s
        simp only at *
        generalize cHas k = b at *
        cases b with
        | true =>
          have hy := hy rfl
          (focus (refine wkap (w_a e1 (w_a m1 (w_a e20 (w_a e21 (w_a e22 (w_a e6 (w_a m6 (w_a hls (w_a hgi w_t))))))))) (w_a cst w_t) (w_r 0) ?_; (repeat' first | exact w_t | apply w_l); all_goals intros))
          exact ⟨i + 1, ⟨by omega, by exact gW e1, by exact gW m1, by exact gW e20, by exact gW e21, by exact gS, _, by exact gC, by rw [hy]; exact gC⟩, by omega⟩
        | false =>
          have hn := hn rfl
          (focus (refine wkap (w_a e1 (w_a m1 (w_a e20 (w_a e21 (w_a e22 (w_a e6 (w_a m6 (w_a hls (w_a hgi w_t))))))))) (w_a cst w_t) (w_r 0) ?_; (repeat' first | exact w_t | apply w_l); all_goals intros))
          exact ⟨i + 1, ⟨by omega, by exact gW e1, by exact gW m1, by exact gW e20, by exact gW e21, by exact gS, sv, by exact gW e6, by rw [hn]; exact gW m6⟩, by omega⟩
      · have hin : i = ss.length := by omega
        subst hin
        clear hst hg hcl hy hn
        generalize (cndN ss ss.length).map RC.av = L at *
        (focus (refine wklp (w_a e1 (w_a m1 (w_a e20 (w_a e21 (w_a e22 (w_a e6 (w_a m6 (w_a hls w_t)))))))) w_t (w_a m6 w_t) (w_r 0) ?_; (repeat' first | exact w_t | apply w_l); all_goals intros))
    · exact ⟨Nat.zero_le _, by exact gC, by exact gC, by exact gC, by exact gW hls, by exact gC, _, by exact gC, by (simp (disch := omega) only [go_sem, cndN, List.map_nil] <;> repeat' first | rfl | refine ⟨?_, ?_⟩)⟩
  · rw [if_neg hz]
    refine pure_vkR (r := .tup [.v (.slice none 0 0), iv z]) ?_ (Vk.tupL (.cons (.nil 3) (.cons (.refl _) .nil)))
    show Pure _ _ [.agg [.sl 6 (ss.map RS.av), .sl 5 (gs.map RG.av)]] _
    have co : Pure Tryz.prog 15 [.agg [.sl 6 (ss.map RS.av), .sl 5 (gs.map RG.av)]] (.tup [.agg [.sl 2 (cs.map coA), .sl 3 (vs.map Vt.av)], iv z]) := co
    clear hk hg
    generalize ss.map RS.av = M at *
    generalize gs.map RG.av = N at *
    generalize cs.map coA = C at *
    generalize vs.map Vt.av = V at *
    refine pure_intro (tok := 0) Tryz.func46 rfl Tryz.ntmps46 Tryz.results46 Tryz.call46 (by rfl) (by simp) ?_
    (focus (refine wklp (w_a hls (w_a hz w_t)) (w_a co w_t) w_t (w_r 0) ?_; (repeat' first | exact w_t | apply w_l); all_goals intros))
set_option maxHeartbeats 8000000 in
theorem rkOf (ss : List RS) (gs : List RG) (cs : List (Po × Po)) (vs : List Vt) (z : Int) (co : Pure Tryz.prog 16 [figA ss gs] (.tup [frmA cs vs, iv z])) (hl : ss.length ≤ 1000) (hk : z = 0 → ∀ i (h : i < ss.length), (ss[i].ar.length : Int) = arS ss[i].k) :
    Pure Tryz.prog 47 [figA ss gs] (.tup [.sl 3 (if z = 0 then (cndN ss ss.length).map RC.av else []), iv z]) := by
  have hg : ∀ i (h : i < ss.length), (ss.map RS.av).getD i .u = ss[i].av := fun i h => map_atB RS.av h
  have hls : (ss.map RS.av).length = ss.length := List.length_map ..
  by_cases hz : z = 0
  · subst hz
    rw [if_pos rfl]
    have hy := fun i (h : i < ss.length) => cndN_y (ss := ss) h
    have hn := fun i (h : i < ss.length) => cndN_n (ss := ss) h
    have hcl := cndN_len ss
    have hst : ∀ i (h : i < ss.length), Pure Tryz.prog 97 [.agg [.sl 6 (ss.map RS.av), .sl 5 (gs.map RG.av)], iv i] (.tup [(cOf ss[i] i).av, .v (.bool (cHas ss[i].k))]) := fun i h => rkStep ss gs i ss[i] h rfl (hk rfl i h)
    show Pure _ _ [.agg [.sl 6 (ss.map RS.av), .sl 5 (gs.map RG.av)]] _
    have co : Pure Tryz.prog 16 [.agg [.sl 6 (ss.map RS.av), .sl 5 (gs.map RG.av)]] (.tup [.agg [.sl 2 (cs.map coA), .sl 3 (vs.map Vt.av)], iv 0]) := co
    clear hk
    generalize ss.map RS.av = M at *
    generalize gs.map RG.av = N at *
    generalize cs.map coA = C at *
    generalize vs.map Vt.av = V at *
    refine pure_intro (tok := 0) Tryz.func47 rfl Tryz.ntmps47 Tryz.results47 Tryz.call47 (by rfl) (by simp) ?_
    (focus (refine wkap (w_a hls w_t) (w_a co w_t) (w_r 0) ?_; (repeat' first | exact w_t | apply w_l); all_goals intros))
    rename_i g1 g4
    refine r_frz (Frz.nilOwn (d := 6) 35 3 85 (by exact gC)) ?_
    refine r_loopE (ι := Nat) (fun i e m => i ≤ ss.length ∧ e 1 = .pbox 1 g1 0 ∧ m 1 = some (.box g1 25 [.sl 6 M, .sl 5 N] false) ∧ e 7 = iv i ∧ ∃ sv, e 6 = .own 35 sv ∧ m 35 = some (.row sv 85 3 ((cndN ss i).map RC.av) 0)) (fun i => ss.length - i) 0 (by rfl) ?_ ?_
    · rintro i e m ⟨hi, e1, m1, e7, sv, e6, m6⟩
      by_cases hlt : i < ss.length
      · have hgi := hg i hlt
        have cst := hst i hlt
        have hy := hy i hlt
        have hn := hn i hlt
        have hll : ((cndN ss i).map RC.av).length ≤ 1000 := by rw [List.length_map]; have := hcl i; omega
        clear hst hg hcl
        generalize (cndN ss i).map RC.av = L at *
        generalize cOf ss[i] i = c at *
        obtain ⟨ck, ca, ci⟩ := c
        generalize ss[i] = s at *
        obtain ⟨k, nm, ar, ⟨rs, rl, rd⟩⟩ := s
        simp only at *
        generalize cHas k = b at *
        cases b with
        | true =>
          have hy := hy rfl
          (focus (refine wkap (w_a e1 (w_a m1 (w_a e7 (w_a e6 (w_a m6 (w_a hls (w_a hgi w_t))))))) (w_a cst w_t) (w_r 0) ?_; (repeat' first | exact w_t | apply w_l); all_goals intros))
          exact ⟨i + 1, ⟨by omega, by exact gW e1, by exact gW m1, by exact gS, _, by exact gC, by rw [hy]; exact gC⟩, by omega⟩
        | false =>
          have hn := hn rfl
          (focus (refine wkap (w_a e1 (w_a m1 (w_a e7 (w_a e6 (w_a m6 (w_a hls (w_a hgi w_t))))))) (w_a cst w_t) (w_r 0) ?_; (repeat' first | exact w_t | apply w_l); all_goals intros))
          exact ⟨i + 1, ⟨by omega, by exact gW e1, by exact gW m1, by exact gS, sv, by exact gW e6, by rw [hn]; exact gW m6⟩, by omega⟩
      · have hin : i = ss.length := by omega
        subst hin
        clear hst hg hcl hy hn
        generalize (cndN ss ss.length).map RC.av = L at *
        (focus (refine wklp (w_a e1 (w_a m1 (w_a e7 (w_a e6 (w_a m6 (w_a hls w_t)))))) w_t (w_a m6 w_t) (w_r 0) ?_; (repeat' first | exact w_t | apply w_l); all_goals intros))
    · exact ⟨Nat.zero_le _, by exact gC, by exact gC, by exact gC, _, by exact gC, by (simp (disch := omega) only [go_sem, cndN, List.map_nil] <;> repeat' first | rfl | refine ⟨?_, ?_⟩)⟩
  · rw [if_neg hz]
    refine pure_vkR (r := .tup [.v (.slice none 0 0), iv z]) ?_ (Vk.tupL (.cons (.nil 3) (.cons (.refl _) .nil)))
    show Pure _ _ [.agg [.sl 6 (ss.map RS.av), .sl 5 (gs.map RG.av)]] _
    have co : Pure Tryz.prog 16 [.agg [.sl 6 (ss.map RS.av), .sl 5 (gs.map RG.av)]] (.tup [.agg [.sl 2 (cs.map coA), .sl 3 (vs.map Vt.av)], iv z]) := co
    clear hk hg
    generalize ss.map RS.av = M at *
    generalize gs.map RG.av = N at *
    generalize cs.map coA = C at *
    generalize vs.map Vt.av = V at *
    refine pure_intro (tok := 0) Tryz.func47 rfl Tryz.ntmps47 Tryz.results47 Tryz.call47 (by rfl) (by simp) ?_
    (focus (refine wklp (w_a hls (w_a hz w_t)) (w_a co w_t) w_t (w_r 0) ?_; (repeat' first | exact w_t | apply w_l); all_goals intros))
def cndOk (c : RC) (ss : List RS) : Bool := decide (0 ≤ c.st ∧ c.st < (ss.length : Int)) && (cHas (ss.getD c.st.toNat RS.zero).k && sameC c (cOf (ss.getD c.st.toNat RS.zero) c.st.toNat))
theorem cndOk_mem {ss : List RS} {c : RC} (h : c ∈ cndN ss ss.length) : cndOk c ss = true := by
  obtain ⟨j, h1, h2, rfl⟩ := cndN_mem h
  unfold cndOk
  rw [cOf_st h2, Int.toNat_natCast, h2, sameC_refl]
  simp; omega
theorem cOf_len {s : RS} {i : Nat} (h : s.ar.length ≤ 1000) : (cOf s i).ar.length ≤ 1000 := by
  unfold cOf
  repeat' split
  all_goals first | exact h | simp
theorem arS_le' (k : Int) : arS k ≤ 4 := by
  unfold arS
  repeat' split
  all_goals omega
set_option maxHeartbeats 8000000 in
theorem cnRight (c : RC) (ss : List RS) (gs : List RG) (cr : Pure Tryz.prog 51 [figA ss gs] (iv 0)) (hc : c.ar.length ≤ 1000) (hl : ss.length ≤ 1000) (hk : ∀ i (h : i < ss.length), (ss[i].ar.length : Int) = arS ss[i].k) : Pure Tryz.prog 49 [c.av, figA ss gs] (.v (.bool (cndOk c ss))) := by
  have cr : Pure Tryz.prog 51 [.agg [.sl 6 (ss.map RS.av), .sl 5 (gs.map RG.av)]] (iv 0) := cr
  show Pure _ _ [c.av, .agg [.sl 6 (ss.map RS.av), .sl 5 (gs.map RG.av)]] _
  have hls : (ss.map RS.av).length = ss.length := List.length_map ..
  obtain ⟨k, ar, st⟩ := c
  unfold cndOk
  simp only at *
  by_cases hs : 0 ≤ st ∧ st < (ss.length : Int)
  · rw [decide_eq_true hs, Bool.true_and]
    obtain ⟨s, rfl⟩ : ∃ s : Nat, st = s := ⟨st.toNat, by omega⟩
    rw [Int.toNat_natCast]
    have hlt : s < ss.length := by omega
    have hgi : (ss.map RS.av).getD s .u = ss[s].av := map_atB RS.av hlt
    rw [show ss.getD s RS.zero = ss[s] from by rw [List.getD_eq_getElem?_getD, List.getElem?_eq_getElem hlt]; rfl]
    have cst := cnStep ss[s] s (hk s hlt)
    have cm := cnSame ⟨k, ar, s⟩ (cOf ss[s] s) (by show ar.length ≤ _; omega) (by have := cOf_len (s := ss[s]) (i := s) (by have := hk s hlt; have := arS_le' ss[s].k; omega); omega)
    clear hk
    generalize sameC ⟨k, ar, s⟩ (cOf ss[s] s) = v at *
    generalize cOf ss[s] s = c at *
    obtain ⟨ck, ca, ci⟩ := c
    generalize ss.map RS.av = M at *
    generalize gs.map RG.av = N at *
    generalize ss[s] = t at *
    obtain ⟨k', nm, ar', ⟨rs, rl, rd⟩⟩ := t
    simp only at *
    generalize cHas k' = b at *
    cases b
    · refine pure_intro (tok := 0) Tryz.func49 rfl Tryz.ntmps49 Tryz.results49 Tryz.call49 (by rfl) (by simp) ?_
      (focus (refine wkld (w_a hls (w_a hgi w_t)) (w_a cr (w_a cst (w_a cm w_t))) w_t (w_a (w_d 3 [(8, .tup [.agg [iv ck, ivs ca, iv ci], .v (.bool false)])] [] [5]) w_t) ?_; (repeat' first | exact w_t | apply w_l); all_goals intros))
    · refine pure_intro (tok := 0) Tryz.func49 rfl Tryz.ntmps49 Tryz.results49 Tryz.call49 (by rfl) (by simp) ?_
      (focus (refine wkld (w_a hls (w_a hgi w_t)) (w_a cr (w_a cst (w_a cm w_t))) w_t (w_a (w_d 3 [(8, .tup [.agg [iv ck, ivs ca, iv ci], .v (.bool true)])] [] [5]) w_t) ?_; (repeat' first | exact w_t | apply w_l); all_goals intros))
  · rw [decide_eq_false hs, Bool.false_and]
    clear hk
    generalize ss.map RS.av = M at *
    generalize gs.map RG.av = N at *
    by_cases h0 : st < 0
    · refine pure_intro (tok := 0) Tryz.func49 rfl Tryz.ntmps49 Tryz.results49 Tryz.call49 (by rfl) (by simp) ?_
      (focus (refine wkld (w_a hls w_t) (w_a cr w_t) w_t w_t ?_; (repeat' first | exact w_t | apply w_l); all_goals intros))
    · have h1 : (ss.length : Int) ≤ st := by omega
      refine pure_intro (tok := 0) Tryz.func49 rfl Tryz.ntmps49 Tryz.results49 Tryz.call49 (by rfl) (by simp) ?_
      (focus (refine wkld (w_a hls w_t) (w_a cr w_t) w_t w_t ?_; (repeat' first | exact w_t | apply w_l); all_goals intros))
set_option maxHeartbeats 8000000 in
theorem rkRight (c : RC) (ss : List RS) (gs : List RG) (hc : c.ar.length ≤ 1000) (hl : ss.length ≤ 1000) (hk : ∀ i (h : i < ss.length), (ss[i].ar.length : Int) = arS ss[i].k) : Pure Tryz.prog 50 [c.av, figA ss gs] (.v (.bool (cndOk c ss))) := by
  show Pure _ _ [c.av, .agg [.sl 6 (ss.map RS.av), .sl 5 (gs.map RG.av)]] _
  have hls : (ss.map RS.av).length = ss.length := List.length_map ..
  obtain ⟨k, ar, st⟩ := c
  unfold cndOk
  simp only at *
  by_cases hs : 0 ≤ st ∧ st < (ss.length : Int)
  · rw [decide_eq_true hs, Bool.true_and]
    obtain ⟨s, rfl⟩ : ∃ s : Nat, st = s := ⟨st.toNat, by omega⟩
    rw [Int.toNat_natCast]
    have hlt : s < ss.length := by omega
    have hgi : (ss.map RS.av).getD s .u = ss[s].av := map_atB RS.av hlt
    rw [show ss.getD s RS.zero = ss[s] from by rw [List.getD_eq_getElem?_getD, List.getElem?_eq_getElem hlt]; rfl]
    have cst : Pure Tryz.prog 97 [.agg [.sl 6 (ss.map RS.av), .sl 5 (gs.map RG.av)], iv s] (.tup [(cOf ss[s] s).av, .v (.bool (cHas ss[s].k))]) := rkStep ss gs s ss[s] hlt rfl (hk s hlt)
    have cm := rkSame ⟨k, ar, s⟩ (cOf ss[s] s) (by show ar.length ≤ _; omega) (by have := cOf_len (s := ss[s]) (i := s) (by have := hk s hlt; have := arS_le' ss[s].k; omega); omega)
    clear hk
    generalize sameC ⟨k, ar, s⟩ (cOf ss[s] s) = v at *
    generalize cOf ss[s] s = c at *
    obtain ⟨ck, ca, ci⟩ := c
    generalize ss.map RS.av = M at *
    generalize gs.map RG.av = N at *
    generalize ss[s] = t at *
    obtain ⟨k', nm, ar', ⟨rs, rl, rd⟩⟩ := t
    simp only at *
    generalize cHas k' = b at *
    cases b
    · refine pure_intro (tok := 0) Tryz.func50 rfl Tryz.ntmps50 Tryz.results50 Tryz.call50 (by rfl) (by simp) ?_
      (focus (refine wklp (w_a hls (w_a hgi w_t)) (w_a cst (w_a cm w_t)) w_t (w_r 0) ?_; (repeat' first | exact w_t | apply w_l); all_goals intros))
    · refine pure_intro (tok := 0) Tryz.func50 rfl Tryz.ntmps50 Tryz.results50 Tryz.call50 (by rfl) (by simp) ?_
      (focus (refine wklp (w_a hls (w_a hgi w_t)) (w_a cst (w_a cm w_t)) w_t (w_r 0) ?_; (repeat' first | exact w_t | apply w_l); all_goals intros))
  · rw [decide_eq_false hs, Bool.false_and]
    clear hk
    generalize ss.map RS.av = M at *
    generalize gs.map RG.av = N at *
    by_cases h0 : st < 0
    · refine pure_intro (tok := 0) Tryz.func50 rfl Tryz.ntmps50 Tryz.results50 Tryz.call50 (by rfl) (by simp) ?_
      (focus (refine wklp (w_a hls w_t) w_t w_t (w_r 0) ?_; (repeat' first | exact w_t | apply w_l); all_goals intros))
    · have h1 : (ss.length : Int) ≤ st := by omega
      refine pure_intro (tok := 0) Tryz.func50 rfl Tryz.ntmps50 Tryz.results50 Tryz.call50 (by rfl) (by simp) ?_
      (focus (refine wklp (w_a hls w_t) w_t w_t (w_r 0) ?_; (repeat' first | exact w_t | apply w_l); all_goals intros))
end Go.Proofs.YtbgmnobnaplmlaaGreat
end

section
namespace Go.Proofs.YtbgmnobnaplmlaaGreat
open Go Go.RowKit Go.Pg
set_option linter.unusedSimpArgs false
set_option linter.unusedVariables false
set_option maxRecDepth 20000
attribute [local go_sem] Tryz.underlying3 Tryz.underlying4 Tryz.underlying31 Tryz.underlying43 Tryz.underlying39 Tryz.underlying41 Tryz.underlying52 Tryz.underlying205 sz3 by3 z3 szErr zErr szRat zRat szNat zNat szInt zInt szB zB szPt byPt zPt szVec zVec
attribute [-bool_to_prop] Bool.and_eq_decide Bool.or_eq_decide Bool.decide_beq_decide decide_eq_decide
/-- A point. -/
abbrev ptQ (x y : Rat) : AV := .agg [.v (.bool (decide (x.num < 0))), lim (toL x.num.natAbs), lim (toL x.den), .v (.bool (decide (y.num < 0))), lim (toL y.num.natAbs), lim (toL y.den)]
theorem plFrom (a b c d : Rat) {j : Nat} (ha : Sz a j) (hb : Sz b j) (hc : Sz c j) (hd : Sz d j) (hj : j ≤ 100000) : Pure Tryz.prog 167 [ptQ a b, ptQ c d] (ptQ (c - a) (d - b)) := by
  have c1 := ratSub c a hc ha (by omega) (by omega)
  have c2 := ratSub d b hd hb (by omega) (by omega)
  generalize c - a = u at *
  generalize d - b = v at *
  refine pure_intro (tok := 0) Tryz.func167 rfl Tryz.ntmps167 Tryz.results167 Tryz.call167 (by rfl) (by simp) ?_
  (repeat' (first | (with_reducible first | refine stp ?_ | apply gx1 | apply gx2 | apply gx3 | apply gx4 | apply gx5 | apply gx6 | apply gx7 | apply gy8 | apply gz2 | apply gz3 | refine gw0 (c1) ?_ ?_ | refine gw3 (c1) ?_ ?_ ?_ | refine gw0 (c2) ?_ ?_ | refine gw3 (c2) ?_ ?_ ?_) | (with_reducible refine all_v ?_; intro _) | ((with_reducible refine gE ?_); (try simp (disch := omega) only [go_sem]) <;> first | rfl | omega) | with_reducible refine t_in_other (by decide) ?_ | ((with_reducible apply gy1); iterate 3 focus rfl) | ((with_reducible apply gy2); iterate 3 focus rfl) | ((with_reducible apply gy3); iterate 2 focus rfl) | ((with_reducible apply gy4); iterate 1 focus rfl) | ((with_reducible apply gy5); iterate 4 focus rfl) | ((with_reducible apply gy6); iterate 4 focus rfl) | ((with_reducible apply d_bar); iterate 3 focus rfl) | ((with_reducible apply q_pub); iterate 1 focus rfl) | ((with_reducible apply gy7); iterate 1 focus rfl) | ((with_reducible apply gy9); (focus ((with_reducible refine gE ?_); (try simp (disch := omega) only [go_sem]) <;> rfl))) | ((with_reducible apply gz1); (focus first | rfl | (simp (disch := omega) only [go_sem]; done))) | ((with_reducible apply r_drawD (pickR [(4, ratQ u), (9, ratQ v)]) [] [4]); (focus kernel_rfl); (focus rfl); (focus kernel_rfl); (focus (simp only [List.length_cons, List.length_nil, Nat.reduceAdd]; rfl)))))
  simp (disch := omega) only [go_sem]
theorem plCross (a b c d : Rat) {j : Nat} (ha : Sz a j) (hb : Sz b j) (hc : Sz c j) (hd : Sz d j) (hj : j ≤ 100000) : Pure Tryz.prog 168 [ptQ a b, ptQ c d] (ratQ (a * d - b * c)) := by
  have c1 := ratMul a d ha hd (by omega) (by omega)
  have c2 := ratMul b c hb hc (by omega) (by omega)
  have c3 := ratSub (a * d) (b * c) (ha.mul hd) (hb.mul hc) (by omega) (by omega)
  generalize a * d - b * c = x at *
  generalize a * d = u at *
  generalize b * c = v at *
  refine pure_intro (tok := 0) Tryz.func168 rfl Tryz.ntmps168 Tryz.results168 Tryz.call168 (by rfl) (by simp) ?_
  (repeat' (first | (with_reducible first | refine stp ?_ | apply gx1 | apply gx2 | apply gx3 | apply gx4 | apply gx5 | apply gx6 | apply gx7 | apply gy8 | apply gz2 | apply gz3 | refine gw0 (c1) ?_ ?_ | refine gw3 (c1) ?_ ?_ ?_ | refine gw0 (c2) ?_ ?_ | refine gw3 (c2) ?_ ?_ ?_ | refine gw0 (c3) ?_ ?_ | refine gw3 (c3) ?_ ?_ ?_) | (with_reducible refine all_v ?_; intro _) | ((with_reducible refine gE ?_); (try simp (disch := omega) only [go_sem]) <;> first | rfl | omega) | with_reducible refine t_in_other (by decide) ?_ | ((with_reducible apply gy1); iterate 3 focus rfl) | ((with_reducible apply gy2); iterate 3 focus rfl) | ((with_reducible apply gy3); iterate 2 focus rfl) | ((with_reducible apply gy4); iterate 1 focus rfl) | ((with_reducible apply gy5); iterate 4 focus rfl) | ((with_reducible apply gy6); iterate 4 focus rfl) | ((with_reducible apply d_bar); iterate 3 focus rfl) | ((with_reducible apply q_pub); iterate 1 focus rfl) | ((with_reducible apply gy7); iterate 1 focus rfl) | ((with_reducible apply gy9); (focus ((with_reducible refine gE ?_); (try simp (disch := omega) only [go_sem]) <;> rfl))) | ((with_reducible apply gz1); (focus first | rfl | (simp (disch := omega) only [go_sem]; done))) | ((with_reducible apply r_drawD (pickR [(4, ratQ u), (9, ratQ v), (10, ratQ x)]) [] [4]); (focus kernel_rfl); (focus rfl); (focus kernel_rfl); (focus (simp only [List.length_cons, List.length_nil, Nat.reduceAdd]; rfl)))))
  simp (disch := omega) only [go_sem]
abbrev PQ := Rat × Rat
abbrev PQ.av (p : PQ) : AV := ptQ p.1 p.2
def PQ.sz (p : PQ) (j : Nat) : Prop := Sz p.1 j ∧ Sz p.2 j
def crossP (p q r s : PQ) : Rat := (q.1 - p.1) * (s.2 - r.2) - (q.2 - p.2) * (s.1 - r.1)
def dotP (p q r s : PQ) : Rat := (q.1 - p.1) * (s.1 - r.1) + (q.2 - p.2) * (s.2 - r.2)
theorem crossP_sz {p q r s : PQ} {j : Nat} (hp : p.sz j) (hq : q.sz j) (hr : r.sz j) (hs : s.sz j) : Sz (crossP p q r s) (8 * j + 5) := by
  unfold crossP
  exact (((hq.1.sub hp.1).mul (hs.2.sub hr.2)).sub ((hq.2.sub hp.2).mul (hs.1.sub hr.1))).mono (by omega)
theorem plCrossP (p q r s : PQ) {j : Nat} (hp : p.sz j) (hq : q.sz j) (hr : r.sz j) (hs : s.sz j) (hj : j ≤ 10000) : Pure Tryz.prog 90 [p.av, q.av, r.av, s.av] (ratQ (crossP p q r s)) := by
  have c1 := plFrom p.1 p.2 q.1 q.2 hp.1 hp.2 hq.1 hq.2 (by omega)
  have c2 := plFrom r.1 r.2 s.1 s.2 hr.1 hr.2 hs.1 hs.2 (by omega)
  have c3 := plCross (q.1 - p.1) (q.2 - p.2) (s.1 - r.1) (s.2 - r.2) (hq.1.sub hp.1) (hq.2.sub hp.2) (hs.1.sub hr.1) (hs.2.sub hr.2) (by omega)
  unfold crossP
  obtain ⟨p1, p2⟩ := p
  obtain ⟨q1, q2⟩ := q
  obtain ⟨r1, r2⟩ := r
  obtain ⟨s1, s2⟩ := s
  simp only at *
  generalize (q1 - p1) * (s2 - r2) - (q2 - p2) * (s1 - r1) = x at *
  generalize q1 - p1 = a at *
  generalize q2 - p2 = b at *
  generalize s1 - r1 = c at *
  generalize s2 - r2 = d at *
  refine pure_intro (tok := 0) Tryz.func90 rfl Tryz.ntmps90 Tryz.results90 Tryz.call90 (by rfl) (by simp) ?_
  (repeat' (first | (with_reducible first | refine stp ?_ | apply gx1 | apply gx2 | apply gx3 | apply gx4 | apply gx5 | apply gx6 | apply gx7 | apply gy8 | apply gz2 | apply gz3 | refine gw0 (c1) ?_ ?_ | refine gw3 (c1) ?_ ?_ ?_ | refine gw0 (c2) ?_ ?_ | refine gw3 (c2) ?_ ?_ ?_ | refine gw0 (c3) ?_ ?_ | refine gw3 (c3) ?_ ?_ ?_) | (with_reducible refine all_v ?_; intro _) | ((with_reducible refine gE ?_); (try simp (disch := omega) only [go_sem]) <;> first | rfl | omega) | with_reducible refine t_in_other (by decide) ?_ | ((with_reducible apply gy1); iterate 3 focus rfl) | ((with_reducible apply gy2); iterate 3 focus rfl) | ((with_reducible apply gy3); iterate 2 focus rfl) | ((with_reducible apply gy4); iterate 1 focus rfl) | ((with_reducible apply gy5); iterate 4 focus rfl) | ((with_reducible apply gy6); iterate 4 focus rfl) | ((with_reducible apply d_bar); iterate 3 focus rfl) | ((with_reducible apply q_pub); iterate 1 focus rfl) | ((with_reducible apply gy7); iterate 1 focus rfl) | ((with_reducible apply gy9); (focus ((with_reducible refine gE ?_); (try simp (disch := omega) only [go_sem]) <;> rfl))) | ((with_reducible apply gz1); (focus first | rfl | (simp (disch := omega) only [go_sem]; done))) | ((with_reducible apply r_drawD (pickR [(2, ptQ a b), (5, ptQ c d), (6, ratQ x)]) [] [8]); (focus kernel_rfl); (focus rfl); (focus kernel_rfl); (focus (simp only [List.length_cons, List.length_nil, Nat.reduceAdd]; rfl)))))
  simp (disch := omega) only [go_sem]
theorem qEqual (a b : Rat) {j k : Nat} (ha : Sz a j) (hb : Sz b k) (hj : j ≤ 1000000) (hk : k ≤ 1000000) : Pure Tryz.prog 62 [ratQ a, ratQ b] (.v (.bool (decide (a = b)))) := by
  have c := qCmp a b ha hb (by omega) (by omega)
  have e : (cmpQ a b == 0) = decide (a = b) := by
    rw [Bool.eq_iff_iff, beq_iff_eq, decide_eq_true_eq]
    unfold cmpQ
    constructor
    · intro h
      split at h
      · omega
      · split at h
        · omega
        · rename_i h1 h2
          exact Rat.le_antisymm (Rat.not_lt.1 h2) (Rat.not_lt.1 h1)
    · rintro rfl
      simp
  rw [← e]
  generalize cmpQ a b = s at *
  refine pure_intro (tok := 0) Tryz.func62 rfl Tryz.ntmps62 Tryz.results62 Tryz.call62 (by rfl) (by simp) ?_
  (focus (refine wkvp w_t (w_a c w_t) ?_; (repeat' first | exact w_t | apply w_l); all_goals intros))
  simp (disch := omega) only [go_sem]
end Go.Proofs.YtbgmnobnaplmlaaGreat
end

section
namespace Go.Proofs.YtbgmnobnaplmlaaGreat
open Go Go.RowKit Go.Pg
set_option linter.unusedSimpArgs false
set_option linter.unusedVariables false
set_option maxRecDepth 20000
attribute [local go_sem] Tryz.underlying3 Tryz.underlying2 Tryz.underlying178 Tryz.underlying115 Tryz.underlying4 Tryz.underlying31 Tryz.underlying43 Tryz.underlying39 Tryz.underlying41 Tryz.underlying52 sz3 by3 z3 szL byL zL szErr zErr szRat zRat szNat zNat szInt zInt szB zB szPt byPt zPt Bool.and_self
attribute [-bool_to_prop] Bool.and_eq_decide Bool.or_eq_decide Bool.decide_beq_decide decide_eq_decide
theorem r13Vec (a b c d : Rat) {j : Nat} (ha : Sz a j) (hb : Sz b j) (hc : Sz c j) (hd : Sz d j) (hj : j ≤ 100000) : Pure Tryz.prog 60 [ptQ a b, ptQ c d] (ptQ (c - a) (d - b)) := by
  have c1 := qSub c a hc ha (by omega) (by omega)
  have c2 := qSub d b hd hb (by omega) (by omega)
  generalize c - a = u at *
  generalize d - b = v at *
  refine pure_intro (tok := 0) Tryz.func60 rfl Tryz.ntmps60 Tryz.results60 Tryz.call60 (by rfl) (by simp) ?_
  (repeat' (first | (with_reducible first | refine stp ?_ | apply gx1 | apply gx2 | apply gx3 | apply gx4 | apply gx5 | apply gx6 | apply gx7 | apply gy8 | apply gz2 | apply gz3 | refine gw0 (c1) ?_ ?_ | refine gw3 (c1) ?_ ?_ ?_ | refine gw0 (c2) ?_ ?_ | refine gw3 (c2) ?_ ?_ ?_) | (with_reducible refine all_v ?_; intro _) | ((with_reducible refine gE ?_); (try simp (disch := omega) only [go_sem]) <;> first | rfl | omega) | with_reducible refine t_in_other (by decide) ?_ | ((with_reducible apply gy1); iterate 3 focus rfl) | ((with_reducible apply gy2); iterate 3 focus rfl) | ((with_reducible apply gy3); iterate 2 focus rfl) | ((with_reducible apply gy4); iterate 1 focus rfl) | ((with_reducible apply gy5); iterate 4 focus rfl) | ((with_reducible apply gy6); iterate 4 focus rfl) | ((with_reducible apply d_bar); iterate 3 focus rfl) | ((with_reducible apply q_pub); iterate 1 focus rfl) | ((with_reducible apply gy7); iterate 1 focus rfl) | ((with_reducible apply gy9); (focus ((with_reducible refine gE ?_); (try simp (disch := omega) only [go_sem]) <;> rfl))) | ((with_reducible apply gz1); (focus first | rfl | (simp (disch := omega) only [go_sem]; done))) | ((with_reducible apply r_drawD (pickR [(4, ratQ u), (9, ratQ v)]) [] [4]); (focus kernel_rfl); (focus rfl); (focus kernel_rfl); (focus (simp only [List.length_cons, List.length_nil, Nat.reduceAdd]; rfl)))))
  simp (disch := omega) only [go_sem]
theorem r13Cross (a b c d : Rat) {j : Nat} (ha : Sz a j) (hb : Sz b j) (hc : Sz c j) (hd : Sz d j) (hj : j ≤ 100000) : Pure Tryz.prog 216 [ptQ a b, ptQ c d] (ratQ (a * d - b * c)) := by
  have c1 := qMul a d ha hd (by omega) (by omega)
  have c2 := qMul b c hb hc (by omega) (by omega)
  have c3 := qSub (a * d) (b * c) (ha.mul hd) (hb.mul hc) (by omega) (by omega)
  generalize a * d - b * c = x at *
  generalize a * d = u at *
  generalize b * c = v at *
  refine pure_intro (tok := 0) Tryz.func216 rfl Tryz.ntmps216 Tryz.results216 Tryz.call216 (by rfl) (by simp) ?_
  (repeat' (first | (with_reducible first | refine stp ?_ | apply gx1 | apply gx2 | apply gx3 | apply gx4 | apply gx5 | apply gx6 | apply gx7 | apply gy8 | apply gz2 | apply gz3 | refine gw0 (c1) ?_ ?_ | refine gw3 (c1) ?_ ?_ ?_ | refine gw0 (c2) ?_ ?_ | refine gw3 (c2) ?_ ?_ ?_ | refine gw0 (c3) ?_ ?_ | refine gw3 (c3) ?_ ?_ ?_) | (with_reducible refine all_v ?_; intro _) | ((with_reducible refine gE ?_); (try simp (disch := omega) only [go_sem]) <;> first | rfl | omega) | with_reducible refine t_in_other (by decide) ?_ | ((with_reducible apply gy1); iterate 3 focus rfl) | ((with_reducible apply gy2); iterate 3 focus rfl) | ((with_reducible apply gy3); iterate 2 focus rfl) | ((with_reducible apply gy4); iterate 1 focus rfl) | ((with_reducible apply gy5); iterate 4 focus rfl) | ((with_reducible apply gy6); iterate 4 focus rfl) | ((with_reducible apply d_bar); iterate 3 focus rfl) | ((with_reducible apply q_pub); iterate 1 focus rfl) | ((with_reducible apply gy7); iterate 1 focus rfl) | ((with_reducible apply gy9); (focus ((with_reducible refine gE ?_); (try simp (disch := omega) only [go_sem]) <;> rfl))) | ((with_reducible apply gz1); (focus first | rfl | (simp (disch := omega) only [go_sem]; done))) | ((with_reducible apply r_drawD (pickR [(4, ratQ u), (9, ratQ v), (10, ratQ x)]) [] [4]); (focus kernel_rfl); (focus rfl); (focus kernel_rfl); (focus (simp only [List.length_cons, List.length_nil, Nat.reduceAdd]; rfl)))))
  simp (disch := omega) only [go_sem]
theorem r13CrossP (p q r s : PQ) {j : Nat} (hp : p.sz j) (hq : q.sz j) (hr : r.sz j) (hs : s.sz j) (hj : j ≤ 10000) : Pure Tryz.prog 170 [p.av, q.av, r.av, s.av] (ratQ (crossP p q r s)) := by
  have c1 := r13Vec p.1 p.2 q.1 q.2 hp.1 hp.2 hq.1 hq.2 (by omega)
  have c2 := r13Vec r.1 r.2 s.1 s.2 hr.1 hr.2 hs.1 hs.2 (by omega)
  have c3 := r13Cross (q.1 - p.1) (q.2 - p.2) (s.1 - r.1) (s.2 - r.2) (hq.1.sub hp.1) (hq.2.sub hp.2) (hs.1.sub hr.1) (hs.2.sub hr.2) (by omega)
  unfold crossP
  obtain ⟨p1, p2⟩ := p
  obtain ⟨q1, q2⟩ := q
  obtain ⟨r1, r2⟩ := r
  obtain ⟨s1, s2⟩ := s
  simp only at *
  generalize (q1 - p1) * (s2 - r2) - (q2 - p2) * (s1 - r1) = x at *
  generalize q1 - p1 = a at *
  generalize q2 - p2 = b at *
  generalize s1 - r1 = c at *
  generalize s2 - r2 = d at *
  refine pure_intro (tok := 0) Tryz.func170 rfl Tryz.ntmps170 Tryz.results170 Tryz.call170 (by rfl) (by simp) ?_
  (repeat' (first | (with_reducible first | refine stp ?_ | apply gx1 | apply gx2 | apply gx3 | apply gx4 | apply gx5 | apply gx6 | apply gx7 | apply gy8 | apply gz2 | apply gz3 | refine gw0 (c1) ?_ ?_ | refine gw3 (c1) ?_ ?_ ?_ | refine gw0 (c2) ?_ ?_ | refine gw3 (c2) ?_ ?_ ?_ | refine gw0 (c3) ?_ ?_ | refine gw3 (c3) ?_ ?_ ?_) | (with_reducible refine all_v ?_; intro _) | ((with_reducible refine gE ?_); (try simp (disch := omega) only [go_sem]) <;> first | rfl | omega) | with_reducible refine t_in_other (by decide) ?_ | ((with_reducible apply gy1); iterate 3 focus rfl) | ((with_reducible apply gy2); iterate 3 focus rfl) | ((with_reducible apply gy3); iterate 2 focus rfl) | ((with_reducible apply gy4); iterate 1 focus rfl) | ((with_reducible apply gy5); iterate 4 focus rfl) | ((with_reducible apply gy6); iterate 4 focus rfl) | ((with_reducible apply d_bar); iterate 3 focus rfl) | ((with_reducible apply q_pub); iterate 1 focus rfl) | ((with_reducible apply gy7); iterate 1 focus rfl) | ((with_reducible apply gy9); (focus ((with_reducible refine gE ?_); (try simp (disch := omega) only [go_sem]) <;> rfl))) | ((with_reducible apply gz1); (focus first | rfl | (simp (disch := omega) only [go_sem]; done))) | ((with_reducible apply r_drawD (pickR [(2, ptQ a b), (5, ptQ c d), (6, ratQ x)]) [] [8]); (focus kernel_rfl); (focus rfl); (focus kernel_rfl); (focus (simp only [List.length_cons, List.length_nil, Nat.reduceAdd]; rfl)))))
  simp (disch := omega) only [go_sem]
theorem ratEqual (a b : Rat) {j k : Nat} (ha : Sz a j) (hb : Sz b k) (hj : j ≤ 1000000) (hk : k ≤ 1000000) : Pure Tryz.prog 144 [ratQ a, ratQ b] (.v (.bool (decide (a = b)))) := by
  have c := ratCmp a b ha hb (by omega) (by omega)
  have e : (cmpQ a b == 0) = decide (a = b) := by
    rw [Bool.eq_iff_iff, beq_iff_eq, decide_eq_true_eq]
    unfold cmpQ
    constructor
    · intro h
      split at h
      · omega
      · split at h
        · omega
        · rename_i h1 h2
          exact Rat.le_antisymm (Rat.not_lt.1 h2) (Rat.not_lt.1 h1)
    · rintro rfl
      simp
  rw [← e]
  generalize cmpQ a b = s at *
  refine pure_intro (tok := 0) Tryz.func144 rfl Tryz.ntmps144 Tryz.results144 Tryz.call144 (by rfl) (by simp) ?_
  (focus (refine wkvp w_t (w_a c w_t) ?_; (repeat' first | exact w_t | apply w_l); all_goals intros))
  simp (disch := omega) only [go_sem]
end Go.Proofs.YtbgmnobnaplmlaaGreat
end

section
namespace Go.Proofs.YtbgmnobnaplmlaaGreat
open Go Go.RowKit Go.Pg
set_option linter.unusedSimpArgs false
set_option linter.unusedVariables false
set_option maxRecDepth 20000
attribute [-bool_to_prop] Bool.and_eq_decide Bool.or_eq_decide Bool.decide_beq_decide decide_eq_decide
theorem szIns : szOf Tryz.prog 89 = some 3 := by kernel_rfl
theorem zIns : zeroOf Tryz.prog 89 = some (.agg #[.slice none 0 0, .slice none 0 0, .slice none 0 0]) := by kernel_rfl
end Go.Proofs.YtbgmnobnaplmlaaGreat
end
