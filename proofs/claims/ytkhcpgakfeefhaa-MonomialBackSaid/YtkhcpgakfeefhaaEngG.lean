/- The engine, part G: the meanings are those of the model (operations that read). -/
import Derived.Test.YtkhcpgakfeefhaaEngF
namespace Go.Pg
open Go Go.RowKit
set_option linter.unusedSimpArgs false
set_option linter.unusedVariables false

section runs
variable {P : Program} {w : World}
theorem run_sizeOf' {t : TypeId} {n : Nat} (h : szOf P t = some n) : (sizeOf t).run P w = .ok n w := by
  unfold szOf at h
  cases hi : P.info? t with
  | none => rw [hi] at h; cases h
  | some i =>
    rw [hi] at h
    simp only [Option.map_some, Option.some.injEq] at h
    simp [sizeOf, typeInfo, hi, h]
theorem run_zeroValue' {t : TypeId} {z : Value} (h : zeroOf P t = some z) : (zeroValue t).run P w = .ok z w := by
  unfold zeroOf at h
  cases hi : P.info? t with
  | none => rw [hi] at h; cases h
  | some i =>
    rw [hi] at h
    simp only [Option.bind_some] at h
    simp [zeroValue, typeInfo, hi, h]
theorem info_of_sz {t : TypeId} {n b : Nat} {z : Value} (hs : szOf P t = some n) (hb : bytOf P t = some b) (hz : zeroOf P t = some z) : ∃ i, P.info? t = some i ∧ i.size = n ∧ i.bytes = b ∧ i.zero = some z := by
  unfold szOf at hs; unfold bytOf at hb; unfold zeroOf at hz
  cases hi : P.info? t with
  | none => rw [hi] at hs; cases hs
  | some i =>
    rw [hi] at hs hb hz
    simp only [Option.map_some, Option.some.injEq, Option.bind_some] at hs hb hz
    exact ⟨i, rfl, hs, hb, hz⟩
end runs

theorem add_of_add (a : Addr) (i j : Nat) : (a.add i).add j = a.add (i + j) := by
  unfold Addr.add
  by_cases hi : i = 0 <;> by_cases hj : j = 0 <;> simp [hi, hj, Nat.add_assoc]

/-- The cells at a place, one by one. -/
def CellsAt (w : World) (imm : Imm) (ad : Addr) (cs : List AV) : Prop := ∀ (j : Nat) (a : AV), cs[j]? = some a → ∃ x, w.cell? (ad.add j) = some x ∧ Rs w imm a x

theorem CellsAt.drop {w : World} {imm : Imm} {ad : Addr} {cs : List AV} (h : CellsAt w imm ad cs) (k : Nat) : CellsAt w imm (ad.add k) (cs.drop k) := by
  intro j a ha
  rw [List.getElem?_drop] at ha
  rw [add_of_add]
  exact h _ a ha
theorem Rd.one_of {w : World} {imm : Imm} {a : AV} {x : Value} (h : Rd w imm a x) (ho : a.one = true) : x.oneCell' = true := by
  cases h <;> simp_all [AV.one, Value.oneCell']
theorem Rs.one_of {w : World} {imm : Imm} {a : AV} {x : Value} (h : Rs w imm a x) (ho : a.one = true) : x.oneCell' = true := by
  cases h with
  | pure h => exact h.one_of ho
  | own k sv h1 => exact h1
  | _ => simp_all [AV.one, Value.oneCell']

theorem cells_of_one {x : Value} (h : x.oneCell' = true) : x.cells = #[x] := by
  cases x <;> first | rfl | cases h
/-- The cells of a value in hand, one by one. -/
theorem Rs.cells_of {w : World} {imm : Imm} {a : AV} {x : Value} (h : Rs w imm a x) (ho : a.ok = true) : a.cells.length = x.cells.size ∧ (∀ (j : Nat) (b : AV) (y : Value), a.cells[j]? = some b → x.cells[j]? = some y → Rs w imm b y) ∧ (∀ b ∈ a.cells, b.one = true) := by
  have leaf : a.cells = [a] → x.cells = #[x] → a.one = true → a.cells.length = x.cells.size ∧ (∀ (j : Nat) (b : AV) (y : Value), a.cells[j]? = some b → x.cells[j]? = some y → Rs w imm b y) ∧ (∀ b ∈ a.cells, b.one = true) := by
    intro h1 h2 h3
    rw [h1, h2]
    refine ⟨rfl, fun j b y hb hy => ?_, by simpa using h3⟩
    match j with
    | 0 => simp at hb hy; subst hb; subst hy; exact h
    | j + 1 => simp at hb
  cases a with
  | agg cs =>
    obtain ⟨vs, rfl, hl, hr⟩ := h.agg_inv
    exact ⟨hl, hr, fun b hb => List.all_eq_true.1 ho b hb⟩
  | tup cs => simp [AV.ok, AV.one] at ho
  | u => simp [AV.ok, AV.one] at ho
  | _ =>
    have h1 : x.oneCell' = true := h.one_of ho
    exact leaf rfl (cells_of_one h1) ho

section
variable {P : Program} {c : Cx} {n tok : Nat} {st : St} {a : Act} {w : World} {imm : Imm} {K : St → Prop} {o : Oper} {Q : Exit → Act → World → Prop}

theorem run_v {s : Sem Value} {x : Value} {w' : World} (h : s.run P w = .ok x w') : ((do pure (Next.value (← s))) : Sem Next).run P w = .ok (.value x) w' := by simp [h]

/-- An operation that leaves the world alone. -/
theorem upon_pure {s : Sem Value} {x : Value} {av : AV} (h : Rel c n st a w imm) (hd : ∀ d, o.dst = some d → d < n) (hK : aRes P tok o.dst (.val av []) K st) (hs : s.run P w = .ok x w) (hx : Rs w imm av x) :
    o.upon P a (Go_on c n K) Q (((do pure (Next.value (← s))) : Sem Next).run P w) := by
  rw [run_v hs]
  exact upon_val h hd hK fun _ _ hk => hk.rs hx

theorem loadOf_sound {t : TypeId} {cs : List AV} {ad : Addr} (h : Rel c n st a w imm) (hd : ∀ d, o.dst = some d → d < n) (hK : aRes P tok o.dst (loadOf P t cs) K st) (hc : CellsAt w imm ad cs) :
    o.upon P a (Go_on c n K) Q (((do pure (Next.value (← loadVar t ad))) : Sem Next).run P w) := by
  have scalar : (isAgg t).run P w = .ok false w → aRes P tok o.dst (headRes cs) K st → o.upon P a (Go_on c n K) Q (((do pure (Next.value (← loadVar t ad))) : Sem Next).run P w) := by
    intro hag hK
    cases cs with
    | nil => exact hK.elim
    | cons x r =>
      obtain ⟨y, hy, hr⟩ := hc 0 x rfl
      have : ad.add 0 = ad := by simp [Addr.add]
      rw [this] at hy
      refine upon_pure h hd hK ?_ hr
      simp [loadVar, hag, hy]
  have aggr : (isAgg t).run P w = .ok true w → aRes P tok o.dst (takeRes P t cs) K st → o.upon P a (Go_on c n K) Q (((do pure (Next.value (← loadVar t ad))) : Sem Next).run P w) := by
    intro hag hK
    unfold takeRes at hK
    cases hs : szOf P t with
    | none => rw [hs] at hK; exact hK.elim
    | some k =>
      rw [hs] at hK
      obtain ⟨hle, hK⟩ := hK
      have hex : ∀ j, j < k → ∃ x, w.cell? (ad.add j) = some x ∧ ∀ b, cs[j]? = some b → Rs w imm b x := by
        intro j hj
        obtain ⟨x, h1, h2⟩ := hc j cs[j] (List.getElem?_eq_getElem (by omega))
        exact ⟨x, h1, fun b hb => by rw [List.getElem?_eq_getElem (by omega)] at hb; simp only [Option.some.injEq] at hb; exact hb ▸ h2⟩
      let f : Nat → Value := fun j => (w.cell? (ad.add j)).getD undef
      have hf : ∀ j, j < k → w.cell? (ad.add j) = some (f j) := by
        intro j hj
        obtain ⟨x, h1, _⟩ := hex j hj
        simp [f, h1]
      have hl := run_loadCells (P := P) w ad k f hf
      refine upon_pure h hd hK (x := .agg ((List.range k).map f).toArray) ?_ ?_
      · simp [loadVar, hag, run_sizeOf' hs, hl]
      · refine .agg _ _ (by simp [hle]) fun j b x h1 h2 => ?_
        rw [List.getElem?_take] at h1
        split at h1
        · rename_i hj
          obtain ⟨y, h3, h4⟩ := hex j hj
          have : f j = x := by
            have h2' : ((List.range k).map f)[j]? = some x := by simpa using h2
            simpa [List.getElem?_map, List.getElem?_range hj] using h2'
          rw [← this]
          simp only [f, h3, Option.getD_some]
          exact h4 b h1
        · cases h1
  unfold loadOf at hK
  cases hu : P.underlying t with
  | none => rw [hu] at hK; exact hK.elim
  | some d =>
    rw [hu] at hK
    have hag : (isAgg t).run P w = .ok (isAggD d) w := by
      simp only [isAgg, Sem.run_bind, run_underlying hu, Result.andThen_ok]
      cases d <;> rfl
    cases hb : isAggD d with
    | true => rw [hb] at hag; simp only [hb, if_true] at hK; exact aggr hag hK
    | false => rw [hb] at hag; simp only [hb, Bool.false_eq_true, if_false] at hK; exact scalar hag hK

theorem partOf_sound {t : TypeId} {cs : List AV} {vs : Array Value} {off : Nat} (h : Rel c n st a w imm) (hd : ∀ d, o.dst = some d → d < n) (hK : aRes P tok o.dst (partOf P t cs off) K st)
    (hl : cs.length = vs.size) (hr : ∀ (j : Nat) (a : AV) (x : Value), cs[j]? = some a → vs[j]? = some x → Rs w imm a x) :
    o.upon P a (Go_on c n K) Q (((do pure (Next.value (← part t vs off))) : Sem Next).run P w) := by
  have scalar : (isAgg t).run P w = .ok false w → aRes P tok o.dst (headRes (cs.drop off)) K st → o.upon P a (Go_on c n K) Q (((do pure (Next.value (← part t vs off))) : Sem Next).run P w) := by
    intro hag hK
    cases hcs : cs.drop off with
    | nil => rw [hcs] at hK; exact hK.elim
    | cons x r =>
      rw [hcs] at hK
      have hx : cs[off]? = some x := by
        have := congrArg (fun l => l[0]?) hcs
        simpa [List.getElem?_drop] using this
      have hlt : off < vs.size := by
        rw [← hl]
        rcases Nat.lt_or_ge off cs.length with h1 | h1
        · exact h1
        · rw [List.getElem?_eq_none h1] at hx; cases hx
      have hv : vs[off]? = some vs[off] := Array.getElem?_eq_getElem hlt
      refine upon_pure h hd hK (x := vs[off]) ?_ (hr off x _ hx hv)
      simp [part, hag, hv]
  have aggr : (isAgg t).run P w = .ok true w → aRes P tok o.dst (takeRes' P t cs off) K st → o.upon P a (Go_on c n K) Q (((do pure (Next.value (← part t vs off))) : Sem Next).run P w) := by
    intro hag hK
    unfold takeRes' at hK
    cases hs : szOf P t with
    | none => rw [hs] at hK; exact hK.elim
    | some k =>
      rw [hs] at hK
      refine upon_pure h hd hK (x := .agg (vs.extract off (off + k))) ?_ ?_
      · simp [part, hag, run_sizeOf' hs]
      · refine .agg _ _ (by simp [hl]; omega) fun j b x h1 h2 => ?_
        rw [List.getElem?_take] at h1
        split at h1
        · rw [List.getElem?_drop] at h1
          refine hr (off + j) b x h1 ?_
          rw [Array.getElem?_extract] at h2
          split at h2
          · exact h2
          · cases h2
        · cases h1
  unfold partOf at hK
  cases hu : P.underlying t with
  | none => rw [hu] at hK; exact hK.elim
  | some d =>
    rw [hu] at hK
    have hag : (isAgg t).run P w = .ok (isAggD d) w := by
      simp only [isAgg, Sem.run_bind, run_underlying hu, Result.andThen_ok]
      cases d <;> rfl
    cases hb : isAggD d with
    | true => rw [hb] at hag; simp only [hb, if_true] at hK; exact aggr hag hK
    | false => rw [hb] at hag; simp only [hb, Bool.false_eq_true, if_false] at hK; exact scalar hag hK
end
end Go.Pg
