import Derived.Test.YtkhcpgakfeefhaaL2
namespace Go.Proofs.Ytkhcpgakfeefhaa
open Go Go.RowKit Go.Pg
set_option linter.unusedSimpArgs false
set_option linter.unusedVariables false
attribute [local go_sem] Try.underlying23 Try.underlying22 Try.underlying39 Try.underlying3 Try.underlying4 sz3 by3 z3 sz23

/-! ### plain laws of the orders -/
theorem lt1_rev {x y : Int} (h : x ≠ y) : lt1 y x = - lt1 x y := by unfold lt1; split <;> split <;> omega
theorem lt1_bd (x y : Int) : -1 ≤ lt1 x y ∧ lt1 x y ≤ 1 ∧ lt1 x y ≠ 0 := by unfold lt1; split <;> omega
theorem lt1_le {x y : Int} (h : lt1 x y ≤ 0) : x < y := by unfold lt1 at h; split at h <;> omega
theorem lt1_lt {x y : Int} (h : x < y) : lt1 x y = -1 := by unfold lt1; rw [if_pos h]
theorem lexC_up {a b : List Int} : ∀ n, max a.length b.length ≤ n → lexC a b n = lexC a b (max a.length b.length)
  | 0, h => by rw [show max a.length b.length = 0 by omega]
  | n + 1, h => by
    by_cases h1 : max a.length b.length = n + 1
    · rw [h1]
    · simp only [lexC]
      rw [gI_out (l := a) (by omega), gI_out (l := b) (by omega), if_pos rfl]
      exact lexC_up n (by omega)
theorem lexC_rev {a b : List Int} : ∀ n, lexC b a n = - lexC a b n
  | 0 => rfl
  | n + 1 => by
    simp only [lexC]
    by_cases h : gI a n = gI b n
    · rw [if_pos h, if_pos h.symm]; exact lexC_rev n
    · rw [if_neg h, if_neg (Ne.symm h)]; exact lt1_rev h
theorem lexC_bd {a b : List Int} : ∀ n, -1 ≤ lexC a b n ∧ lexC a b n ≤ 1
  | 0 => by simp [lexC]
  | n + 1 => by
    simp only [lexC]
    split
    · exact lexC_bd n
    · have := lt1_bd (gI a n) (gI b n); omega
theorem lexC_zero {a b : List Int} : ∀ n, lexC a b n = 0 → ∀ j, j < n → gI a j = gI b j
  | 0, _, j, hj => by omega
  | n + 1, h, j, hj => by
    simp only [lexC] at h
    split at h
    · rename_i he
      rcases Nat.lt_or_ge j n with h1 | h1
      · exact lexC_zero n h j h1
      · rw [show j = n by omega]; exact he
    · exact absurd h (lt1_bd _ _).2.2
theorem lexC_refl {a : List Int} : ∀ n, lexC a a n = 0
  | 0 => rfl
  | n + 1 => by simp only [lexC, if_true]; exact lexC_refl n
theorem lexC_trans {a b c : List Int} : ∀ n, lexC a b n ≤ 0 → lexC b c n ≤ 0 → lexC a c n ≤ 0
  | 0, _, _ => by simp [lexC]
  | n + 1, h1, h2 => by
    simp only [lexC] at h1 h2 ⊢
    by_cases e1 : gI a n = gI b n
    · rw [if_pos e1] at h1
      by_cases e2 : gI b n = gI c n
      · rw [if_pos e2] at h2
        rw [if_pos (e1.trans e2)]
        exact lexC_trans n h1 h2
      · rw [if_neg e2] at h2
        have := lt1_le h2
        rw [if_neg (by omega), lt1_lt (by omega)]; omega
    · rw [if_neg e1] at h1
      have h3 := lt1_le h1
      by_cases e2 : gI b n = gI c n
      · rw [if_neg (by omega), lt1_lt (by omega)]; omega
      · rw [if_neg e2] at h2
        have := lt1_le h2
        rw [if_neg (by omega), lt1_lt (by omega)]; omega
theorem lexC_nil {a : List Int} (h : ∀ j, 0 ≤ gI a j) : ∀ n, lexC [] a n ≤ 0
  | 0 => by simp [lexC]
  | n + 1 => by
    simp only [lexC]
    have h1 := h n
    rw [gI_out (l := []) (by simp)]
    split
    · exact lexC_nil h n
    · rw [lt1_lt (by omega)]; omega
theorem lexC_add {a b c : List Int} : ∀ n, lexC (zipI (· + ·) a c) (zipI (· + ·) b c) n = lexC a b n
  | 0 => rfl
  | n + 1 => by
    simp only [lexC, add_get]
    rw [lexC_add n]
    by_cases h : gI a n = gI b n
    · rw [if_pos (by omega), if_pos h]
    · rw [if_neg (by omega), if_neg h]
      unfold lt1
      split <;> split <;> omega
theorem sumT_up {l : List Int} : ∀ n, l.length ≤ n → sumT l n = sumT l l.length
  | 0, h => by rw [show l.length = 0 by omega]
  | n + 1, h => by
    by_cases h1 : l.length = n + 1
    · rw [h1]
    · simp only [sumT]
      rw [gI_out (by omega), sumT_up n (by omega)]; omega
theorem sumT_add (a c : List Int) : ∀ n, sumT (zipI (· + ·) a c) n = sumT a n + sumT c n
  | 0 => rfl
  | n + 1 => by simp only [sumT, add_get, sumT_add a c n]; omega
theorem sum_add (a c : List Int) : sumT (zipI (· + ·) a c) (zipI (· + ·) a c).length = sumT a a.length + sumT c c.length := by
  rw [sumT_add, zipI_len, sumT_up (l := a) _ (by omega), sumT_up (l := c) _ (by omega)]
theorem cmp_at {a b : List Int} {n : Nat} (o : Int) (h : max a.length b.length ≤ n) : cmpI a b o = if o = 1 ∧ sumT a a.length ≠ sumT b b.length then lt1 (sumT a a.length) (sumT b b.length) else lexC a b n := by
  unfold cmpI; rw [lexC_up n h]
theorem cmp_rev (a b : List Int) (o : Int) : cmpI b a o = - cmpI a b o := by
  rw [cmp_at (n := max a.length b.length) o (by omega), cmp_at (n := max a.length b.length) o (by omega)]
  by_cases h : o = 1 ∧ sumT a a.length ≠ sumT b b.length
  · rw [if_pos h, if_pos ⟨h.1, Ne.symm h.2⟩]; exact lt1_rev h.2
  · rw [if_neg h, if_neg (fun h2 => h ⟨h2.1, Ne.symm h2.2⟩)]; exact lexC_rev _
theorem cmp_bd (a b : List Int) (o : Int) : -1 ≤ cmpI a b o ∧ cmpI a b o ≤ 1 := by
  unfold cmpI
  split
  · have := lt1_bd (sumT a a.length) (sumT b b.length); omega
  · exact lexC_bd _
theorem cmp_same {a b : List Int} (ha : Ok a) (hb : Ok b) (o : Int) : (cmpI a b o == 0) = (a == b) := by
  by_cases h : a = b
  · subst h
    rw [beq_self_eq_true, beq_iff_eq]
    unfold cmpI
    rw [if_neg (fun h => h.2 rfl)]
    exact lexC_refl _
  · have h2 : (a == b) = false := by simpa using h
    rw [h2, beq_eq_false_iff_ne]
    intro h3
    unfold cmpI at h3
    split at h3
    · exact absurd h3 (lt1_bd _ _).2.2
    · have h4 := lexC_zero _ h3
      refine h ?_
      have h5 : trimI a = b := trim_unique (fun k => by
        rcases Nat.lt_or_ge k (max a.length b.length) with h6 | h6
        · exact h4 k h6
        · rw [gI_out (by omega), gI_out (by omega)]) (by rcases hb.last with h0 | h0; exact .inl h0; exact .inr (by omega))
      rwa [ha.trim] at h5
theorem cmp_nil {a : List Int} (ha : Ok a) (o : Int) : cmpI [] a o ≤ 0 := by
  unfold cmpI
  split
  · rename_i h
    have h1 := sumT_bd ha.sm a.length
    have h2 : sumT [] ([] : List Int).length = 0 := rfl
    have h3 := h.2
    rw [h2] at h3 ⊢
    rw [lt1_lt (by omega)]; omega
  · exact lexC_nil (fun j => (ha.all j).1) _
theorem cmp_mul (a b c : List Int) (o : Int) : cmpI (zipI (· + ·) a c) (zipI (· + ·) b c) o = cmpI a b o := by
  rw [cmp_at (n := max (max a.length b.length) c.length) o (by rw [zipI_len, zipI_len]; omega), cmp_at (a := a) (b := b) (n := max (max a.length b.length) c.length) o (by omega), sum_add, sum_add, lexC_add]
  by_cases h : o = 1 ∧ sumT a a.length ≠ sumT b b.length
  · rw [if_pos h, if_pos ⟨h.1, by have := h.2; omega⟩]
    unfold lt1
    split <;> split <;> omega
  · rw [if_neg h, if_neg (fun h2 => h ⟨h2.1, by have := h2.2; omega⟩)]
theorem cmp_trans {a b c : List Int} {o : Int} (h1 : cmpI a b o ≤ 0) (h2 : cmpI b c o ≤ 0) : cmpI a c o ≤ 0 := by
  rw [cmp_at (n := max (max a.length b.length) c.length) o (by omega)] at h1 h2 ⊢
  by_cases ho : o = 1
  · by_cases e1 : sumT a a.length = sumT b b.length
    · rw [if_neg (fun h => h.2 e1)] at h1
      by_cases e2 : sumT b b.length = sumT c c.length
      · rw [if_neg (fun h => h.2 e2)] at h2
        rw [if_neg (fun h => h.2 (e1.trans e2))]
        exact lexC_trans _ h1 h2
      · rw [if_pos ⟨ho, e2⟩] at h2
        have := lt1_le h2
        rw [if_pos ⟨ho, by omega⟩, lt1_lt (by omega)]; omega
    · rw [if_pos ⟨ho, e1⟩] at h1
      have h3 := lt1_le h1
      by_cases e2 : sumT b b.length = sumT c c.length
      · rw [if_pos ⟨ho, by omega⟩, lt1_lt (by omega)]; omega
      · rw [if_pos ⟨ho, e2⟩] at h2
        have := lt1_le h2
        rw [if_pos ⟨ho, by omega⟩, lt1_lt (by omega)]; omega
  · rw [if_neg (fun h => ho h.1)] at h1 h2 ⊢
    exact lexC_trans _ h1 h2
end Go.Proofs.Ytkhcpgakfeefhaa
