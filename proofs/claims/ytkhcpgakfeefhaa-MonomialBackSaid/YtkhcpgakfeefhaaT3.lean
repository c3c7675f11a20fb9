import Derived.Test.YtkhcpgakfeefhaaT2
namespace Go.Proofs.Ytkhcpgakfeefhaa
open Go Go.RowKit Go.Pg
set_option linter.unusedSimpArgs false
set_option linter.unusedVariables false
attribute [local go_sem] Try.underlying23 Try.underlying22 Try.underlying3 sz3 by3 z3

/-! ### without the zeros at the end -/
def trimN (l : List Int) : Nat → Nat
  | 0 => 0
  | n + 1 => if gI l n = 0 then trimN l n else n + 1
theorem trimN_le (l : List Int) : ∀ n, trimN l n ≤ n
  | 0 => Nat.le_refl _
  | n + 1 => by
    simp only [trimN]
    split
    · exact Nat.le_trans (trimN_le l n) (by omega)
    · omega
def trimI (l : List Int) : List Int := l.take (trimN l l.length)
theorem trimN_stop {l : List Int} {k : Nat} (h : 0 < k) (hx : gI l (k - 1) ≠ 0) : trimN l k = k := by
  cases k with
  | zero => omega
  | succ k => simp only [trimN]; rw [if_neg (by simpa using hx)]
theorem trimN_step {l : List Int} {k : Nat} (h : 0 < k) (hx : gI l (k - 1) = 0) : trimN l (k - 1) = trimN l k := by
  cases k with
  | zero => omega
  | succ k => simp only [trimN]; rw [if_pos (by simpa using hx)]; rfl
theorem cast_pred {k : Nat} (h : 0 < k) : (k : Int) - 1 = ((k - 1 : Nat) : Int) := by omega

set_option maxHeartbeats 1000000 in
theorem monTrim' (l : List Int) (hs : l.length ≤ 1000) : Pure Try.prog 34 [ints l] (if trimN l l.length = 0 then .v (.slice none 0 0) else ints (trimI l)) := by
  have hle := trimN_le l l.length
  have hcode : ∀ r : AV, (trimN l l.length = 0 → r = .v (.slice none 0 0)) → (trimN l l.length ≠ 0 → r = .sl 1 ((l.map fun n => AV.v (.int .i64 n)).take (trimN l l.length))) → Pure Try.prog 34 [ints l] r := by
    intro r h1 h2
    unfold ints
    refine pure_intro (tok := 0) (rs := [.tmp 2]) Try.func34 rfl Try.ntmps34 Try.results34 Try.call34 (by rfl) (by simp) ?_
    repeat' (first | with_reducible refine r_seq ?_ | with_reducible refine r_block ?_ | with_reducible refine r_skip ?_ | with_reducible refine r_ret ?_ | with_reducible refine r_exit ?_ | with_reducible refine t_then ?_ | with_reducible refine t_then_ret ?_ | with_reducible refine t_then_exit ?_ | with_reducible refine t_in ?_ | with_reducible refine t_in_ret ?_ | with_reducible refine t_in_exit ?_ | with_reducible refine t_done ?_ | with_reducible refine t_done' ?_ | (with_reducible refine r_reg ?_; intro K hK; simp (disch := omega) only [go_sem, ↓reduceIte, Nat.reduceAdd, Nat.reduceSub, Nat.reduceMul, Nat.reduceEqDiff, Nat.reduceLT, Nat.reduceLeDiff, Nat.reduceBEq, Int.reduceNeg, Int.reduceLT, Int.reduceLE, Int.reduceEq, reduceCtorEq]; (repeat (first | (refine ⟨by omega, ?_⟩) | intro _)); refine hK _ ?_; clear K hK) | (with_reducible refine r_true ?_ ?_; (focus (simp (disch := omega) only [go_sem, ↓reduceIte, Nat.reduceAdd, Nat.reduceSub, Nat.reduceMul, Nat.reduceEqDiff, Nat.reduceLT, Nat.reduceLeDiff, Nat.reduceBEq, Int.reduceNeg, Int.reduceLT, Int.reduceLE, Int.reduceEq, reduceCtorEq]; done))) | (with_reducible refine r_false ?_ ?_; (focus (simp (disch := omega) only [go_sem, ↓reduceIte, Nat.reduceAdd, Nat.reduceSub, Nat.reduceMul, Nat.reduceEqDiff, Nat.reduceLT, Nat.reduceLeDiff, Nat.reduceBEq, Int.reduceNeg, Int.reduceLT, Int.reduceLE, Int.reduceEq, reduceCtorEq]; done))))
    refine r_loop (ι := Nat) (fun k st => k ≤ l.length ∧ st.env 0 = .sl 1 (l.map fun n => AV.v (.int .i64 n)) ∧ st.env 3 = .v (.int .i64 k) ∧ trimN l k = trimN l l.length) (fun k => k) l.length (by rfl) ?_ ?_
    · rintro k st ⟨hk, e0, e3, ha⟩
      by_cases h0 : 0 < k
      · by_cases hx : gI l (k - 1) = 0
        · repeat' (first | with_reducible refine r_seq ?_ | with_reducible refine r_block ?_ | with_reducible refine r_skip ?_ | with_reducible refine r_ret ?_ | with_reducible refine r_exit ?_ | with_reducible refine t_then ?_ | with_reducible refine t_then_ret ?_ | with_reducible refine t_then_exit ?_ | with_reducible refine t_in ?_ | with_reducible refine t_in_ret ?_ | with_reducible refine t_in_exit ?_ | with_reducible refine t_done ?_ | with_reducible refine t_done' ?_ | (with_reducible refine r_reg ?_; intro K hK; simp (disch := omega) only [go_sem, ↓reduceIte, Nat.reduceAdd, Nat.reduceSub, Nat.reduceMul, Nat.reduceEqDiff, Nat.reduceLT, Nat.reduceLeDiff, Nat.reduceBEq, Int.reduceNeg, Int.reduceLT, Int.reduceLE, Int.reduceEq, reduceCtorEq, e0, e3]; (repeat (first | (refine ⟨by omega, ?_⟩) | intro _)); refine hK _ ?_; clear K hK) | (with_reducible refine r_true ?_ ?_; (focus (simp (disch := omega) only [go_sem, ↓reduceIte, Nat.reduceAdd, Nat.reduceSub, Nat.reduceMul, Nat.reduceEqDiff, Nat.reduceLT, Nat.reduceLeDiff, Nat.reduceBEq, Int.reduceNeg, Int.reduceLT, Int.reduceLE, Int.reduceEq, reduceCtorEq, e0, e3]; done))) | (with_reducible refine r_false ?_ ?_; (focus (simp (disch := omega) only [go_sem, ↓reduceIte, Nat.reduceAdd, Nat.reduceSub, Nat.reduceMul, Nat.reduceEqDiff, Nat.reduceLT, Nat.reduceLeDiff, Nat.reduceBEq, Int.reduceNeg, Int.reduceLT, Int.reduceLE, Int.reduceEq, reduceCtorEq, e0, e3]; done))))
          refine ⟨k - 1, ⟨by omega, by simp (disch := omega) only [go_sem, ↓reduceIte, Nat.reduceAdd, Nat.reduceSub, Nat.reduceMul, Nat.reduceEqDiff, Nat.reduceLT, Nat.reduceLeDiff, Nat.reduceBEq, Int.reduceNeg, Int.reduceLT, Int.reduceLE, Int.reduceEq, reduceCtorEq, e0], by simp (disch := omega) only [go_sem, ↓reduceIte, Nat.reduceAdd, Nat.reduceSub, Nat.reduceMul, Nat.reduceEqDiff, Nat.reduceLT, Nat.reduceLeDiff, Nat.reduceBEq, Int.reduceNeg, Int.reduceLT, Int.reduceLE, Int.reduceEq, reduceCtorEq, e3]; rw [cast_pred h0], ?_⟩, by omega⟩
          rw [trimN_step h0 hx, ha]
        · rw [trimN_stop h0 hx] at ha
          rw [← ha] at h1 h2 hle
          rw [h2 (by omega)]
          repeat' (first | with_reducible refine r_seq ?_ | with_reducible refine r_block ?_ | with_reducible refine r_skip ?_ | with_reducible refine r_ret ?_ | with_reducible refine r_exit ?_ | with_reducible refine t_then ?_ | with_reducible refine t_then_ret ?_ | with_reducible refine t_then_exit ?_ | with_reducible refine t_in ?_ | with_reducible refine t_in_ret ?_ | with_reducible refine t_in_exit ?_ | with_reducible refine t_done ?_ | with_reducible refine t_done' ?_ | (with_reducible refine r_reg ?_; intro K hK; simp (disch := omega) only [go_sem, ↓reduceIte, Nat.reduceAdd, Nat.reduceSub, Nat.reduceMul, Nat.reduceEqDiff, Nat.reduceLT, Nat.reduceLeDiff, Nat.reduceBEq, Int.reduceNeg, Int.reduceLT, Int.reduceLE, Int.reduceEq, reduceCtorEq, e0, e3]; (repeat (first | (refine ⟨by omega, ?_⟩) | intro _)); refine hK _ ?_; clear K hK) | (with_reducible refine r_true ?_ ?_; (focus (simp (disch := omega) only [go_sem, ↓reduceIte, Nat.reduceAdd, Nat.reduceSub, Nat.reduceMul, Nat.reduceEqDiff, Nat.reduceLT, Nat.reduceLeDiff, Nat.reduceBEq, Int.reduceNeg, Int.reduceLT, Int.reduceLE, Int.reduceEq, reduceCtorEq, e0, e3]; done))) | (with_reducible refine r_false ?_ ?_; (focus (simp (disch := omega) only [go_sem, ↓reduceIte, Nat.reduceAdd, Nat.reduceSub, Nat.reduceMul, Nat.reduceEqDiff, Nat.reduceLT, Nat.reduceLeDiff, Nat.reduceBEq, Int.reduceNeg, Int.reduceLT, Int.reduceLE, Int.reduceEq, reduceCtorEq, e0, e3]; done))))
          simp (disch := omega) only [go_sem, ↓reduceIte, Nat.reduceAdd, Nat.reduceSub, Nat.reduceMul, Nat.reduceEqDiff, Nat.reduceLT, Nat.reduceLeDiff, Nat.reduceBEq, Int.reduceNeg, Int.reduceLT, Int.reduceLE, Int.reduceEq, reduceCtorEq]
      · have hk0 : k = 0 := by omega
        subst hk0
        have h3 : trimN l l.length = 0 := ha.symm
        rw [h1 h3]
        repeat' (first | with_reducible refine r_seq ?_ | with_reducible refine r_block ?_ | with_reducible refine r_skip ?_ | with_reducible refine r_ret ?_ | with_reducible refine r_exit ?_ | with_reducible refine t_then ?_ | with_reducible refine t_then_ret ?_ | with_reducible refine t_then_exit ?_ | with_reducible refine t_in ?_ | with_reducible refine t_in_ret ?_ | with_reducible refine t_in_exit ?_ | with_reducible refine t_done ?_ | with_reducible refine t_done' ?_ | (with_reducible refine r_reg ?_; intro K hK; simp (disch := omega) only [go_sem, ↓reduceIte, Nat.reduceAdd, Nat.reduceSub, Nat.reduceMul, Nat.reduceEqDiff, Nat.reduceLT, Nat.reduceLeDiff, Nat.reduceBEq, Int.reduceNeg, Int.reduceLT, Int.reduceLE, Int.reduceEq, reduceCtorEq, e0, e3]; (repeat (first | (refine ⟨by omega, ?_⟩) | intro _)); refine hK _ ?_; clear K hK) | (with_reducible refine r_true ?_ ?_; (focus (simp (disch := omega) only [go_sem, ↓reduceIte, Nat.reduceAdd, Nat.reduceSub, Nat.reduceMul, Nat.reduceEqDiff, Nat.reduceLT, Nat.reduceLeDiff, Nat.reduceBEq, Int.reduceNeg, Int.reduceLT, Int.reduceLE, Int.reduceEq, reduceCtorEq, e0, e3]; done))) | (with_reducible refine r_false ?_ ?_; (focus (simp (disch := omega) only [go_sem, ↓reduceIte, Nat.reduceAdd, Nat.reduceSub, Nat.reduceMul, Nat.reduceEqDiff, Nat.reduceLT, Nat.reduceLeDiff, Nat.reduceBEq, Int.reduceNeg, Int.reduceLT, Int.reduceLE, Int.reduceEq, reduceCtorEq, e0, e3]; done))))
        simp (disch := omega) only [go_sem, ↓reduceIte, Nat.reduceAdd, Nat.reduceSub, Nat.reduceMul, Nat.reduceEqDiff, Nat.reduceLT, Nat.reduceLeDiff, Nat.reduceBEq, Int.reduceNeg, Int.reduceLT, Int.reduceLE, Int.reduceEq, reduceCtorEq]
    · exact ⟨Nat.le_refl _, by simp (disch := omega) only [go_sem, ↓reduceIte, Nat.reduceAdd, Nat.reduceSub, Nat.reduceMul, Nat.reduceEqDiff, Nat.reduceLT, Nat.reduceLeDiff, Nat.reduceBEq, Int.reduceNeg, Int.reduceLT, Int.reduceLE, Int.reduceEq, reduceCtorEq], by simp (disch := omega) only [go_sem, ↓reduceIte, Nat.reduceAdd, Nat.reduceSub, Nat.reduceMul, Nat.reduceEqDiff, Nat.reduceLT, Nat.reduceLeDiff, Nat.reduceBEq, Int.reduceNeg, Int.reduceLT, Int.reduceLE, Int.reduceEq, reduceCtorEq], rfl⟩
  refine hcode _ (fun h => by rw [if_pos h]) (fun h => by rw [if_neg h]; unfold ints trimI; rw [List.map_take])
theorem monTrim (l : List Int) (hs : l.length ≤ 1000) : Pure Try.prog 34 [ints l] (ints (trimI l)) := by
  refine (monTrim' l hs).wk ?_
  split
  · rename_i h
    unfold trimI ints
    rw [h]
    exact .nil 1
  · exact .refl _

set_option maxHeartbeats 1000000 in
theorem refCut (l : List Int) (hs : l.length ≤ 1000) : Pure Try.prog 39 [ints l] (ints (trimI l)) := by
  have hle := trimN_le l l.length
  have hcode : ∀ r : AV, (r = .sl 1 ((l.map fun n => AV.v (.int .i64 n)).take (trimN l l.length))) → Pure Try.prog 39 [ints l] r := by
    intro r h2
    unfold ints
    refine pure_intro (tok := 0) (rs := [.tmp 2]) Try.func39 rfl Try.ntmps39 Try.results39 Try.call39 (by rfl) (by simp) ?_
    repeat' (first | with_reducible refine r_seq ?_ | with_reducible refine r_block ?_ | with_reducible refine r_skip ?_ | with_reducible refine r_ret ?_ | with_reducible refine r_exit ?_ | with_reducible refine t_then ?_ | with_reducible refine t_then_ret ?_ | with_reducible refine t_then_exit ?_ | with_reducible refine t_in ?_ | with_reducible refine t_in_ret ?_ | with_reducible refine t_in_exit ?_ | with_reducible refine t_done ?_ | with_reducible refine t_done' ?_ | (with_reducible refine r_reg ?_; intro K hK; simp (disch := omega) only [go_sem, ↓reduceIte, Nat.reduceAdd, Nat.reduceSub, Nat.reduceMul, Nat.reduceEqDiff, Nat.reduceLT, Nat.reduceLeDiff, Nat.reduceBEq, Int.reduceNeg, Int.reduceLT, Int.reduceLE, Int.reduceEq, reduceCtorEq]; (repeat (first | (refine ⟨by omega, ?_⟩) | intro _)); refine hK _ ?_; clear K hK) | (with_reducible refine r_true ?_ ?_; (focus (simp (disch := omega) only [go_sem, ↓reduceIte, Nat.reduceAdd, Nat.reduceSub, Nat.reduceMul, Nat.reduceEqDiff, Nat.reduceLT, Nat.reduceLeDiff, Nat.reduceBEq, Int.reduceNeg, Int.reduceLT, Int.reduceLE, Int.reduceEq, reduceCtorEq]; done))) | (with_reducible refine r_false ?_ ?_; (focus (simp (disch := omega) only [go_sem, ↓reduceIte, Nat.reduceAdd, Nat.reduceSub, Nat.reduceMul, Nat.reduceEqDiff, Nat.reduceLT, Nat.reduceLeDiff, Nat.reduceBEq, Int.reduceNeg, Int.reduceLT, Int.reduceLE, Int.reduceEq, reduceCtorEq]; done))))
    refine r_loop (ι := Nat) (fun k st => k ≤ l.length ∧ st.env 0 = .sl 1 (l.map fun n => AV.v (.int .i64 n)) ∧ st.env 3 = .v (.int .i64 k) ∧ trimN l k = trimN l l.length ∧ st.mem = noMem) (fun k => k) l.length (by rfl) ?_ ?_
    · rintro k st ⟨hk, e0, e3, ha, em⟩
      by_cases h0 : 0 < k
      · by_cases hx : gI l (k - 1) = 0
        · repeat' (first | with_reducible refine r_seq ?_ | with_reducible refine r_block ?_ | with_reducible refine r_skip ?_ | with_reducible refine r_ret ?_ | with_reducible refine r_exit ?_ | with_reducible refine t_then ?_ | with_reducible refine t_then_ret ?_ | with_reducible refine t_then_exit ?_ | with_reducible refine t_in ?_ | with_reducible refine t_in_ret ?_ | with_reducible refine t_in_exit ?_ | with_reducible refine t_done ?_ | with_reducible refine t_done' ?_ | (with_reducible refine r_reg ?_; intro K hK; simp (disch := omega) only [go_sem, ↓reduceIte, Nat.reduceAdd, Nat.reduceSub, Nat.reduceMul, Nat.reduceEqDiff, Nat.reduceLT, Nat.reduceLeDiff, Nat.reduceBEq, Int.reduceNeg, Int.reduceLT, Int.reduceLE, Int.reduceEq, reduceCtorEq, e0, e3]; (repeat (first | (refine ⟨by omega, ?_⟩) | intro _)); refine hK _ ?_; clear K hK) | (with_reducible refine r_true ?_ ?_; (focus (simp (disch := omega) only [go_sem, ↓reduceIte, Nat.reduceAdd, Nat.reduceSub, Nat.reduceMul, Nat.reduceEqDiff, Nat.reduceLT, Nat.reduceLeDiff, Nat.reduceBEq, Int.reduceNeg, Int.reduceLT, Int.reduceLE, Int.reduceEq, reduceCtorEq, e0, e3]; done))) | (with_reducible refine r_false ?_ ?_; (focus (simp (disch := omega) only [go_sem, ↓reduceIte, Nat.reduceAdd, Nat.reduceSub, Nat.reduceMul, Nat.reduceEqDiff, Nat.reduceLT, Nat.reduceLeDiff, Nat.reduceBEq, Int.reduceNeg, Int.reduceLT, Int.reduceLE, Int.reduceEq, reduceCtorEq, e0, e3]; done))))
          refine ⟨k - 1, ⟨by omega, by simp (disch := omega) only [go_sem, ↓reduceIte, Nat.reduceAdd, Nat.reduceSub, Nat.reduceMul, Nat.reduceEqDiff, Nat.reduceLT, Nat.reduceLeDiff, Nat.reduceBEq, Int.reduceNeg, Int.reduceLT, Int.reduceLE, Int.reduceEq, reduceCtorEq, e0], by simp (disch := omega) only [go_sem, ↓reduceIte, Nat.reduceAdd, Nat.reduceSub, Nat.reduceMul, Nat.reduceEqDiff, Nat.reduceLT, Nat.reduceLeDiff, Nat.reduceBEq, Int.reduceNeg, Int.reduceLT, Int.reduceLE, Int.reduceEq, reduceCtorEq, e3]; rw [cast_pred h0], ?_, by simp (disch := omega) only [go_sem, ↓reduceIte, Nat.reduceAdd, Nat.reduceSub, Nat.reduceMul, Nat.reduceEqDiff, Nat.reduceLT, Nat.reduceLeDiff, Nat.reduceBEq, Int.reduceNeg, Int.reduceLT, Int.reduceLE, Int.reduceEq, reduceCtorEq, em]⟩, by omega⟩
          rw [trimN_step h0 hx, ha]
        · rw [trimN_stop h0 hx] at ha
          rw [← ha] at h2 hle
          rw [h2]
          repeat' (first | with_reducible refine r_seq ?_ | with_reducible refine r_block ?_ | with_reducible refine r_skip ?_ | with_reducible refine r_ret ?_ | with_reducible refine r_exit ?_ | with_reducible refine t_then ?_ | with_reducible refine t_then_ret ?_ | with_reducible refine t_then_exit ?_ | with_reducible refine t_in ?_ | with_reducible refine t_in_ret ?_ | with_reducible refine t_in_exit ?_ | with_reducible refine t_done ?_ | with_reducible refine t_done' ?_ | (with_reducible refine r_reg ?_; intro K hK; simp (disch := omega) only [go_sem, ↓reduceIte, Nat.reduceAdd, Nat.reduceSub, Nat.reduceMul, Nat.reduceEqDiff, Nat.reduceLT, Nat.reduceLeDiff, Nat.reduceBEq, Int.reduceNeg, Int.reduceLT, Int.reduceLE, Int.reduceEq, reduceCtorEq, e0, e3, em]; (repeat (first | (refine ⟨by omega, ?_⟩) | intro _)); refine hK _ ?_; clear K hK) | (with_reducible refine r_true ?_ ?_; (focus (simp (disch := omega) only [go_sem, ↓reduceIte, Nat.reduceAdd, Nat.reduceSub, Nat.reduceMul, Nat.reduceEqDiff, Nat.reduceLT, Nat.reduceLeDiff, Nat.reduceBEq, Int.reduceNeg, Int.reduceLT, Int.reduceLE, Int.reduceEq, reduceCtorEq, e0, e3, em]; done))) | (with_reducible refine r_false ?_ ?_; (focus (simp (disch := omega) only [go_sem, ↓reduceIte, Nat.reduceAdd, Nat.reduceSub, Nat.reduceMul, Nat.reduceEqDiff, Nat.reduceLT, Nat.reduceLeDiff, Nat.reduceBEq, Int.reduceNeg, Int.reduceLT, Int.reduceLE, Int.reduceEq, reduceCtorEq, e0, e3, em]; done))))
          simp (disch := omega) only [go_sem, ↓reduceIte, Nat.reduceAdd, Nat.reduceSub, Nat.reduceMul, Nat.reduceEqDiff, Nat.reduceLT, Nat.reduceLeDiff, Nat.reduceBEq, Int.reduceNeg, Int.reduceLT, Int.reduceLE, Int.reduceEq, reduceCtorEq]
      · have hk0 : k = 0 := by omega
        subst hk0
        have h3 : trimN l l.length = 0 := ha.symm
        rw [h2, h3]
        repeat' (first | with_reducible refine r_seq ?_ | with_reducible refine r_block ?_ | with_reducible refine r_skip ?_ | with_reducible refine r_ret ?_ | with_reducible refine r_exit ?_ | with_reducible refine t_then ?_ | with_reducible refine t_then_ret ?_ | with_reducible refine t_then_exit ?_ | with_reducible refine t_in ?_ | with_reducible refine t_in_ret ?_ | with_reducible refine t_in_exit ?_ | with_reducible refine t_done ?_ | with_reducible refine t_done' ?_ | (with_reducible refine r_reg ?_; intro K hK; simp (disch := omega) only [go_sem, ↓reduceIte, Nat.reduceAdd, Nat.reduceSub, Nat.reduceMul, Nat.reduceEqDiff, Nat.reduceLT, Nat.reduceLeDiff, Nat.reduceBEq, Int.reduceNeg, Int.reduceLT, Int.reduceLE, Int.reduceEq, reduceCtorEq, e0, e3, em]; (repeat (first | (refine ⟨by omega, ?_⟩) | intro _)); refine hK _ ?_; clear K hK) | (with_reducible refine r_true ?_ ?_; (focus (simp (disch := omega) only [go_sem, ↓reduceIte, Nat.reduceAdd, Nat.reduceSub, Nat.reduceMul, Nat.reduceEqDiff, Nat.reduceLT, Nat.reduceLeDiff, Nat.reduceBEq, Int.reduceNeg, Int.reduceLT, Int.reduceLE, Int.reduceEq, reduceCtorEq, e0, e3, em]; done))) | (with_reducible refine r_false ?_ ?_; (focus (simp (disch := omega) only [go_sem, ↓reduceIte, Nat.reduceAdd, Nat.reduceSub, Nat.reduceMul, Nat.reduceEqDiff, Nat.reduceLT, Nat.reduceLeDiff, Nat.reduceBEq, Int.reduceNeg, Int.reduceLT, Int.reduceLE, Int.reduceEq, reduceCtorEq, e0, e3, em]; done))))
        simp (disch := omega) only [go_sem, ↓reduceIte, Nat.reduceAdd, Nat.reduceSub, Nat.reduceMul, Nat.reduceEqDiff, Nat.reduceLT, Nat.reduceLeDiff, Nat.reduceBEq, Int.reduceNeg, Int.reduceLT, Int.reduceLE, Int.reduceEq, reduceCtorEq]
    · exact ⟨Nat.le_refl _, by simp (disch := omega) only [go_sem, ↓reduceIte, Nat.reduceAdd, Nat.reduceSub, Nat.reduceMul, Nat.reduceEqDiff, Nat.reduceLT, Nat.reduceLeDiff, Nat.reduceBEq, Int.reduceNeg, Int.reduceLT, Int.reduceLE, Int.reduceEq, reduceCtorEq], by simp (disch := omega) only [go_sem, ↓reduceIte, Nat.reduceAdd, Nat.reduceSub, Nat.reduceMul, Nat.reduceEqDiff, Nat.reduceLT, Nat.reduceLeDiff, Nat.reduceBEq, Int.reduceNeg, Int.reduceLT, Int.reduceLE, Int.reduceEq, reduceCtorEq], rfl, by simp (disch := omega) only [go_sem, ↓reduceIte, Nat.reduceAdd, Nat.reduceSub, Nat.reduceMul, Nat.reduceEqDiff, Nat.reduceLT, Nat.reduceLeDiff, Nat.reduceBEq, Int.reduceNeg, Int.reduceLT, Int.reduceLE, Int.reduceEq, reduceCtorEq]⟩
  refine hcode _ (by unfold ints trimI; rw [List.map_take])
end Go.Proofs.Ytkhcpgakfeefhaa
