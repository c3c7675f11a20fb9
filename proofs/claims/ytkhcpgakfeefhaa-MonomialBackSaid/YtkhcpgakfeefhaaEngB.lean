/- The engine, part B: states, operations on abstract values, calls. -/
import Derived.Test.YtkhcpgakfeefhaaEngA
import Derived.Maps.AppendAt
namespace Go.Pg
open Go Go.RowKit
set_option linter.unusedSimpArgs false
set_option linter.unusedVariables false

/-- append onto a row of the call's own: where the row lies, and that what was read of the old row still reads. -/
theorem append_law {P : Program} (w : World) (base : Nat) (t ty e : TypeId) (i : TypeInfo) (z : Value) (ht : P.underlying t = some (.slice e)) (hi : P.info? e = some i) (hz : i.zero = some z)
    (hzs : z.cells.size = i.size) (v : Value) (n : Nat) (xs : List Value) (hown : w.ownsRow base e i.size v n xs)
    (A : Option Addr) (m c : Nat) (news : List Value) (hl : news.length = m * i.size) (hA : 0 < m → A ≠ none) (hnews : ∀ ad, A = some ad → ∀ (j : Nat) (u : Value), news[j]? = some u → w.cell? (ad.add j) = some u) (h1 : ∀ u ∈ news, u.oneCell' = true)
    (h63 : n + m ≤ maxLen) (hbytes : (n + m) * i.bytes ≤ 140737488355328) (hbase : base ≤ w.heap.size) :
    ∃ v' w', (Builtin.append_ #[t, t] ty #[v, .slice A m c]).run P w = .ok v' w' ∧ w'.ownsRow base e i.size v' (n + m) (xs ++ news) ∧ w.grownBy w' v.ownBlock ∧
      (v'.ownBlock = v.ownBlock ∨ v'.ownBlock = some w.heap.size) ∧ (∀ g j, v.ownBlock = some g → j < n * i.size → w'.cell? ⟨g, j, none⟩ = w.cell? ⟨g, j, none⟩) := by
  have hself : m = 0 → A = none → ∃ v' w', (Builtin.append_ #[t, t] ty #[v, .slice A m c]).run P w = .ok v' w' ∧ w'.ownsRow base e i.size v' (n + m) (xs ++ news) ∧ w.grownBy w' v.ownBlock ∧
      (v'.ownBlock = v.ownBlock ∨ v'.ownBlock = some w.heap.size) ∧ (∀ g j, v.ownBlock = some g → j < n * i.size → w'.cell? ⟨g, j, none⟩ = w.cell? ⟨g, j, none⟩) := by
    intro hm hA0
    subst hm; subst hA0
    have hn : news = [] := List.eq_nil_of_length_eq_zero (by simpa using hl)
    subst hn
    refine ⟨v, w, ?_, by simpa using hown, World.grownBy.refl w _, .inl rfl, fun _ _ _ _ => rfl⟩
    rcases hown.2 with ⟨rfl, rfl⟩ | ⟨g, cap, cur, rfl, _, _, hnc, _⟩
    · simp [Builtin.append_, run_underlying ht, sizeOf, typeInfo, hi, Builtin.lenOf, Builtin.firstCells]
    · simp [Builtin.append_, run_underlying ht, sizeOf, typeInfo, hi, Builtin.lenOf, Builtin.firstCells, hnc, storeCells]
  rcases A with _ | ad
  · exact hself (by rcases Nat.eq_zero_or_pos m with h | h; exact h; exact absurd rfl (hA h)) rfl
  have hnews := hnews ad rfl
  by_cases hroom : ∃ g cap, v = .slice (some ⟨g, 0, none⟩) n cap ∧ n + m ≤ cap
  · obtain ⟨g, cap, rfl, hroom⟩ := hroom
    obtain ⟨w', hr, ho, hg⟩ := run_append_fits (P := P) w base t ty e i i.size ht hi rfl g n cap xs hown ad m c news hl hnews h1 hroom
    refine ⟨_, w', hr, ho, hg, .inl rfl, fun g' j hg' hj => ?_⟩
    have : g = g' := by simpa [Value.ownBlock] using hg'
    subst this
    rw [ho.cellAt j (Nat.lt_of_lt_of_le hj (Nat.mul_le_mul_right _ (Nat.le_add_right _ _))), hown.cellAt j hj, List.getElem?_append_left (by rw [hown.1]; exact hj)]
  · by_cases hm : m = 0 ∧ v = .slice none 0 0
    · obtain ⟨rfl, rfl⟩ := hm
      have hn : news = [] := List.eq_nil_of_length_eq_zero (by simpa using hl)
      subst hn
      refine ⟨.slice none 0 0, w, ?_, by simpa using hown, World.grownBy.refl w _, .inl rfl, fun g j hg => by simp [Value.ownBlock] at hg⟩
      simp [Builtin.append_, run_underlying ht, sizeOf, typeInfo, hi, Builtin.lenOf, Builtin.firstCells, loadCells, loadCellsFrom]
    · -- a new block is laid; nothing old is touched
      have h63' : n + m ≤ 9223372036854775807 := by simp only [maxLen] at h63; omega
      have key : ∀ (old : Nat), old < n + m → ∀ w2 : World, w2 = w.drew.alloc (.cells (xs.toArray ++ news.toArray ++ Builtin.zeroCells z.cells (grownCap w (n + m) old e - (n + m))) e) →
          w2.ownsRow base e i.size (.slice (some ⟨w.heap.size, 0, none⟩) (n + m) (grownCap w (n + m) old e)) (n + m) (xs ++ news) ∧ (∀ row, w.grownBy w2 row) ∧ ∀ g j, v.ownBlock = some g → w2.cell? ⟨g, j, none⟩ = w.cell? ⟨g, j, none⟩ := by
        rintro old hold w2 rfl
        have hlen : (xs ++ news).length = (n + m) * i.size := by rw [List.length_append, hown.1, hl, Nat.add_mul]
        have hge := grownCap_ge w (n + m) old e
        refine ⟨⟨hlen, .inr ⟨w.heap.size, _, _, rfl, hbase, heap_alloc_new w.drew _, hge, grownCap_le_maxLen w (n + m) old e h63, ?_, ?_⟩⟩, fun row => ⟨rfl, rfl, rfl, by simp, fun k hk _ => Below.heap_alloc w.drew _ k hk⟩, fun g j hg => ?_⟩
        · have hz2 := size_zeroCells z.cells (grownCap w (n + m) old e - (n + m))
          have hsum : n + m + (grownCap w (n + m) old e - (n + m)) = grownCap w (n + m) old e := by omega
          rw [Array.size_append, Array.size_append, hz2, hzs]
          simp only [List.size_toArray]
          rw [hown.1, hl, ← Nat.add_mul, ← Nat.add_mul, hsum]
        · rw [← hlen]
          simp only [Array.toList_append, List.append_assoc]
          rw [← List.append_assoc]
          exact List.take_left
        · exact World.cell?_alloc_lt w.drew _ ⟨g, j, none⟩ (hown.lt g hg).2
      rcases hown.2 with ⟨rfl, rfl⟩ | ⟨g, cap, cur, rfl, hbg, hg, hnc, hcm, hcs, htake⟩
      · have hx : xs = [] := List.eq_nil_of_length_eq_zero (by simpa using hown.1)
        subst hx
        have hm0 : 0 < m := by rcases Nat.eq_zero_or_pos m with h | h; exact absurd ⟨h, rfl⟩ hm; exact h
        have hr := run_append_nil (P := P) w t ty e i z ht hi hz ad m c news hl hnews hm0 (by omega) (by have hb := hbytes; simp only [Nat.zero_add] at hb; omega)
        have hk := key 0 (by omega) _ rfl
        simp only [Nat.zero_add, List.nil_append, Array.empty_append] at hk ⊢
        exact ⟨_, _, hr, hk.1, hk.2.1 _, .inr rfl, fun g j hg _ => hk.2.2 g j hg⟩
      · have hnr : ¬ n + m ≤ cap := fun h => hroom ⟨g, cap, rfl, h⟩
        have holds : ∀ (j : Nat) (u : Value), xs[j]? = some u → w.cell? ((⟨g, 0, none⟩ : Addr).add j) = some u := hown.cells (g := g) rfl
        have hr := run_append_grow (P := P) w t ty e i z ht hi hz ⟨g, 0, none⟩ n cap xs hown.1 holds ad m c news hl hnews (by omega) (by omega) (growslice_fits (by omega) hbytes)
        have hk := key cap (by omega) _ rfl
        exact ⟨_, _, hr, hk.1, hk.2.1 _, .inr rfl, fun g j hg _ => hk.2.2 g j hg⟩

end Go.Pg
