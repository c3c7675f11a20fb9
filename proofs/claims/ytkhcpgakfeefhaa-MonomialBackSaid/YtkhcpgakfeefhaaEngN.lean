/- The engine, part N: every operation; code; calls. -/
import Derived.Test.YtkhcpgakfeefhaaEngM
namespace Go.Pg
open Go Go.RowKit
set_option linter.unusedSimpArgs false
set_option linter.unusedVariables false

section
variable {P : Program} {c : Cx} {n tok : Nat} {st : St} {a : Act} {w : World} {imm : Imm} {K : St → Prop} {o : Oper} {Q : Exit → Act → World → Prop}

theorem evs_rel {xs : Array Operand} (h : Rel c n st a w imm) : (xs.toList.map st.ev).length = (xs.map a.eval).size ∧ ∀ (j : Nat) (b : AV) (y : Value), (xs.toList.map st.ev)[j]? = some b → (xs.map a.eval)[j]? = some y → Rs w imm b y := by
  refine ⟨by simp, fun j b y hb hy => ?_⟩
  rw [List.getElem?_map, Array.getElem?_toList] at hb
  rw [Array.getElem?_map] at hy
  rcases hx : xs[j]? with _ | x
  · rw [hx] at hb; cases hb
  · rw [hx] at hb hy
    simp only [Option.map_some, Option.some.injEq] at hb hy
    subst hb; subst hy
    exact h.ev x

theorem s_len {t ty : TypeId} {xv : AV} {x : Value} {d : TypeDesc} (h : Rel c n st a w imm) (hd : ∀ d, o.dst = some d → d < n) (hu : P.underlying t = some d) (hK : aRes P tok o.dst (lenRes st d xv) K st) (hx : Rs w imm xv x) :
    o.upon P a (Go_on c n K) Q (((do pure (Next.value (← Builtin.len_ #[t] ty #[x]))) : Sem Next).run P w) := by
  unfold lenRes at hK
  split at hK
  · obtain ⟨A, cap, f, rfl, _⟩ := hx.sl_inv
    exact upon_pure h hd hK (by simp [Builtin.len_, run_underlying hu, goInt]) (.pure (.v _))
  · split at hK
    · rename_i sv' e' m es pub hk
      obtain ⟨rfl, hK⟩ := hK
      have := hx.own_inv
      subst this
      obtain ⟨A, cp, xs, hsrc, _, _⟩ := src_own h.mem hk
      have hv := hsrc.val
      subst hv
      exact upon_pure h hd hK (by simp [Builtin.len_, run_underlying hu, goInt]) (.pure (.v _))
    · exact hK.elim
  · have := hx.v_inv
    subst this
    exact upon_pure h hd hK (by simp [Builtin.len_, run_underlying hu, goInt]) (.pure (.v _))
  · have := hx.v_inv
    subst this
    exact upon_pure h hd hK (by simp [Builtin.len_, run_underlying hu, goInt]) (.pure (.v _))
  · exact upon_pure h hd hK (by simp [Builtin.len_, run_underlying hu, goInt]) (.pure (.v _))
  · exact hK.elim

theorem run_call {cl : Call} {ty : TypeId} {b : Builtin} (hb : cl.callee = .builtin b) : ((do let d ← resolve a.eval cl ty; invoke d.target d.args) : Sem Next).run P w = (builtin b cl.argTypes ty (cl.args.map fun | .const _ => true | _ => false) (cl.args.map a.eval)).run P w := by
  simp [resolve, hb, invoke]
  rfl

theorem map1 (f : Operand → Value) (x : Operand) : (#[x] : Array Operand).map f = #[f x] := by simp
theorem map2 (f : Operand → Value) (x y : Operand) : (#[x, y] : Array Operand).map f = #[f x, f y] := by simp
theorem list1 {α : Type} {xs : Array α} {x : α} (h : xs.toList = [x]) : xs = #[x] := by rw [← Array.toArray_toList (xs := xs), h]
theorem list2 {α : Type} {xs : Array α} {x y : α} (h : xs.toList = [x, y]) : xs = #[x, y] := by rw [← Array.toArray_toList (xs := xs), h]

theorem s_call {cl : Call} {ty : TypeId} (h : Rel c n st a w imm) (hd : ∀ d, o.dst = some d → d < n) (hK : aRes P tok o.dst (callRes P st cl) K st) :
    o.upon P a (Go_on c n K) Q (((do let d ← resolve a.eval cl ty; invoke d.target d.args) : Sem Next).run P w) := by
  unfold callRes at hK
  split at hK
  · rename_i hc
    split at hK
    · rename_i x t hx ht
      rw [run_call hc, list1 hx, list1 ht, map1 a.eval]
      split at hK
      · rename_i d hu
        exact s_len h hd hu hK (h.ev x)
      · exact hK.elim
    · exact hK.elim
  · rename_i hc
    split at hK
    · rename_i s x t t' hx ht
      rw [run_call hc, list2 hx, list2 ht, map2 a.eval]
      exact s_append h hd hK (h.ev s) (h.ev x)
    · exact hK.elim
  · rename_i hc
    split at hK
    · rename_i s x t t' hx ht
      rw [run_call hc, list2 hx, list2 ht, map2 a.eval]
      exact s_copy h hd hK (h.ev s) (h.ev x)
    · exact hK.elim
  · rename_i hc
    rw [run_call hc]
    generalize hl : cl.args.toList = l at hK
    have hal : cl.args = l.toArray := by rw [← hl]
    rw [hal]
    match l, hK with
    | [x, y], hK =>
      unfold mmRes at hK
      simp only [List.map_cons, List.map_nil] at hK
      split at hK
      · rename_i k i k' j heq
        simp only [List.cons.injEq, and_true] at heq
        obtain ⟨rfl, hK⟩ := hK
        have e1 := h.ev x
        rw [heq.1] at e1
        have e2 := h.ev y
        rw [heq.2] at e2
        refine upon_pure h hd hK ?_ (.pure (.v _))
        simp [e1.v_inv, e2.v_inv, Builtin.max_, Builtin.max2]
      · exact hK.elim
    | [], hK => exact hK.elim
    | [x], hK => simp [mmRes, aRes] at hK
    | x :: y :: z :: r, hK => simp [mmRes, aRes] at hK
  · rename_i hc
    rw [run_call hc]
    generalize hl : cl.args.toList = l at hK
    have hal : cl.args = l.toArray := by rw [← hl]
    rw [hal]
    match l, hK with
    | [x, y], hK =>
      unfold mmRes at hK
      simp only [List.map_cons, List.map_nil] at hK
      split at hK
      · rename_i k i k' j heq
        simp only [List.cons.injEq, and_true] at heq
        obtain ⟨rfl, hK⟩ := hK
        have e1 := h.ev x
        rw [heq.1] at e1
        have e2 := h.ev y
        rw [heq.2] at e2
        refine upon_pure h hd hK ?_ (.pure (.v _))
        simp [e1.v_inv, e2.v_inv, Builtin.min_, Builtin.min2]
      · exact hK.elim
    | [], hK => exact hK.elim
    | [x], hK => simp [mmRes, aRes] at hK
    | x :: y :: z :: r, hK => simp [mmRes, aRes] at hK
  · rename_i f hc
    split at hK
    · rename_i g caps hf
      have hfv := h.ev f
      rw [hf] at hfv
      obtain ⟨vs, hv, hl, hr⟩ := hfv.fn_inv
      obtain ⟨hal, har⟩ := evs_rel (xs := cl.args) h
      have hrun : ((do let d ← resolve a.eval cl ty; invoke d.target d.args) : Sem Next).run P w = .ok (.enter g (cl.args.map a.eval ++ vs)) w := by
        simp only [resolve, hc, hv, Deferred.ofValue, Sem.run_bind, Sem.run_pure, Result.andThen_ok, invoke, Array.empty_append]
        exact hK.1 _ _
      rw [hrun]
      refine upon_call h hd hK (by simp [hl]) fun j b y hb hy => ?_
      rcases Nat.lt_or_ge j cl.args.size with hj | hj
      · rw [List.getElem?_append_left (by simpa using hj)] at hb
        rw [Array.getElem?_append_left (by simpa using hj)] at hy
        exact har j b y hb hy
      · rw [List.getElem?_append_right (by simpa using hj)] at hb
        rw [Array.getElem?_append_right (by simpa using hj)] at hy
        simp only [List.length_map, Array.length_toList] at hb
        simp only [Array.size_map] at hy
        exact hr _ b y hb hy
    · exact hK.elim
  · exact hK.elim

end
end Go.Pg
