/- The engine, part M: composite values, calls; every operation. -/
import Derived.Test.YtkhcpgakfeefhaaEngL
namespace Go.Pg
open Go Go.RowKit
set_option linter.unusedSimpArgs false
set_option linter.unusedVariables false

theorem ofVal_rs (w : World) (imm : Imm) (z : Value) : Rs w imm (AV.ofVal z) z := by
  cases z <;> first
    | exact .pure (.v _)
    | (rename_i cs
       refine .pure (.agg _ cs (by simp) fun j a x h1 h2 => ?_)
       simp only [List.getElem?_map, Array.getElem?_toList, h2, Option.map_some, Option.some.injEq] at h1
       subst h1
       exact .v _)

/-- Two lists of cells that go together. -/
def CL (w : World) (imm : Imm) (cs : List AV) (vs : Array Value) : Prop := cs.length = vs.size ∧ ∀ (j : Nat) (b : AV) (y : Value), cs[j]? = some b → vs[j]? = some y → Rs w imm b y

theorem ofVal_cells {w : World} {imm : Imm} (z : Value) : CL w imm (AV.ofVal z).cells z.cells := by
  have h := ofVal_rs w imm z
  cases z <;> first
    | (rename_i cs
       obtain ⟨vs, hv, hl, hr⟩ := h.agg_inv
       cases hv
       exact ⟨hl, hr⟩)
    | (refine ⟨rfl, fun j b y hb hy => ?_⟩
       simp only [AV.ofVal, AV.cells, Value.cells] at hb hy
       match j with
       | 0 => simp at hb hy; subst hb; subst hy; exact .pure (.v _)
       | j + 1 => simp at hb)

theorem foldl_set : ∀ (l : List (Value × Nat)) (cs : Array Value), (l.foldl (fun cs (x : Value × Nat) => cs.setIfInBounds x.2 x.1) cs).size = cs.size
  | [], _ => rfl
  | x :: l, cs => by simp only [List.foldl_cons]; rw [foldl_set l]; simp

/-- What 'fill' lays for one part. -/
theorem fill_part (off : Nat) (vs : Array Value) (cs : Array Value) (h : off + vs.size ≤ cs.size) (j : Nat) :
    (vs.zipIdx.foldl (fun cs (x : Value × Nat) => cs.setIfInBounds (off + x.2) x.1) cs)[j]? = if off ≤ j ∧ j < off + vs.size then vs[j - off]? else cs[j]? := by
  have key : ∀ (l : List Value) (k : Nat) (cs : Array Value), off + k + l.length ≤ cs.size → ∀ j, ((l.zipIdx k).foldl (fun cs (x : Value × Nat) => cs.setIfInBounds (off + x.2) x.1) cs)[j]? = if off + k ≤ j ∧ j < off + k + l.length then l[j - (off + k)]? else cs[j]? := by
    intro l
    induction l with
    | nil => intro k cs _ j; simp; omega
    | cons x l ih =>
      intro k cs hle j
      simp only [List.length_cons] at hle
      simp only [List.zipIdx_cons, List.foldl_cons, List.length_cons]
      rw [ih (k + 1) _ (by simp; omega) j]
      by_cases h1 : off + (k + 1) ≤ j ∧ j < off + (k + 1) + l.length
      · rw [if_pos h1, if_pos (by omega)]
        have : j - (off + k) = (j - (off + (k + 1))) + 1 := by omega
        rw [this, List.getElem?_cons_succ]
      · rw [if_neg h1, Array.getElem?_setIfInBounds]
        by_cases h2 : off + k = j
        · subst h2
          rw [if_pos rfl, if_pos (by omega), if_pos (by omega)]
          simp
        · rw [if_neg h2, if_neg (by omega)]
  have := key vs.toList 0 cs (by simpa using h) j
  rw [← Array.foldl_toList, Array.toList_zipIdx]
  simpa using this
theorem fill_size (off : Nat) (vs : Array Value) (cs : Array Value) : (vs.zipIdx.foldl (fun cs (x : Value × Nat) => cs.setIfInBounds (off + x.2) x.1) cs).size = cs.size := by
  rw [← Array.foldl_toList]
  generalize vs.zipIdx.toList = l
  induction l generalizing cs with
  | nil => rfl
  | cons x l ih => simp only [List.foldl_cons]; rw [ih]; simp

section
variable {P : Program} {c : Cx} {n tok : Nat} {st : St} {a : Act} {w : World} {imm : Imm} {K : St → Prop} {o : Oper} {Q : Exit → Act → World → Prop}

theorem fillA_inv {place : Nat → Option (Nat × Nat)} {R : List AV → Res} {dst : Option Nat} : ∀ (parts : List (Nat × AV)) (vals : List (Nat × Value)) (cs : List AV) (vs : Array Value),
    CL w imm cs vs → parts.length = vals.length → (∀ (j : Nat) (p : Nat × AV) (q : Nat × Value), parts[j]? = some p → vals[j]? = some q → p.1 = q.1 ∧ Rs w imm p.2 q.2) →
    aRes P tok dst (fillA place cs parts R) K st → ∃ cs' vs', Instr.fill place vs vals = some vs' ∧ CL w imm cs' vs' ∧ aRes P tok dst (R cs') K st
  | [], [], cs, vs, hcl, _, _, hK => ⟨cs, vs, rfl, hcl, hK⟩
  | [], q :: vals, _, _, _, hl, _, _ => by simp at hl
  | (i, b) :: parts, [], _, _, _, hl, _, _ => by simp at hl
  | (i, b) :: parts, q :: vals, cs, vs, hcl, hl, hr, hK => by
    obtain ⟨h1, h2⟩ := hr 0 (i, b) q rfl rfl
    simp only at h1 h2
    subst h1
    simp only [fillA] at hK
    cases hp : place q.1 with
    | none => rw [hp] at hK; exact hK.elim
    | some os =>
      obtain ⟨off, sz⟩ := os
      rw [hp] at hK
      obtain ⟨⟨hok, hsz, hfit⟩, hK⟩ := hK
      obtain ⟨hlc, hrc, _⟩ := h2.cells_of hok
      have hfit' : off + b.cells.length ≤ cs.length := by omega
      obtain ⟨cs', vs', e1, e2, e3⟩ := fillA_inv parts vals (splice cs off b.cells) (q.2.cells.zipIdx.foldl (fun cs (x : Value × Nat) => cs.setIfInBounds (off + x.2) x.1) vs)
        ⟨by rw [splice_length hfit', fill_size]; exact hcl.1, fun j x y hx hy => by
          rw [splice_get hfit'] at hx
          rw [fill_part off q.2.cells vs (by rw [← hcl.1, ← hlc]; exact hfit'), ← hlc] at hy
          split at hx
          · rename_i hc
            rw [if_pos hc] at hy
            exact hrc _ x y hx hy
          · rename_i hc
            rw [if_neg hc] at hy
            exact hcl.2 j x y hx hy⟩ (by simpa using hl) (fun j p q' hp hq => hr (j + 1) p q' (by simpa using hp) (by simpa using hq)) hK
      refine ⟨cs', vs', ?_, e2, e3⟩
      simp only [Instr.fill, hp]
      have h5 := hcl.1
      rw [if_neg (by simp; omega)]
      exact e1

theorem parts_rel {parts : Array (Nat × Operand)} (h : Rel c n st a w imm) : ((parts.toList.map fun p => (p.1, st.ev p.2)).length = (parts.map fun (i, x) => (i, a.eval x)).toList.length) ∧
    ∀ (j : Nat) (p : Nat × AV) (q : Nat × Value), (parts.toList.map fun p => (p.1, st.ev p.2))[j]? = some p → (parts.map fun (i, x) => (i, a.eval x)).toList[j]? = some q → p.1 = q.1 ∧ Rs w imm p.2 q.2 := by
  refine ⟨by simp, fun j p q hp hq => ?_⟩
  simp only [Array.toList_map, List.getElem?_map] at hp hq
  rcases hx : parts.toList[j]? with _ | x
  · rw [hx] at hp; cases hp
  · rw [hx] at hp hq
    simp only [Option.map_some, Option.some.injEq] at hp hq
    subst hp; subst hq
    exact ⟨rfl, h.ev _⟩

theorem mapM_places {fields : Array Field} (hall : (fields.toList.all fun f => (szOf P f.type).isSome) = true) :
    (fields.mapM fun f => (do pure (f.offset, ← sizeOf f.type) : Sem (Nat × Nat))).run P w = .ok (fields.map fun f => (f.offset, (szOf P f.type).getD 0)) w := by
  have key : ∀ (l : List Field), (∀ f ∈ l, (szOf P f.type).isSome = true) → (l.mapM fun f => (do pure (f.offset, ← sizeOf f.type) : Sem (Nat × Nat))).run P w = .ok (l.map fun f => (f.offset, (szOf P f.type).getD 0)) w := by
    intro l
    induction l with
    | nil => intro _; rfl
    | cons f l ih =>
      intro hl
      have h1 := hl f (List.mem_cons_self ..)
      obtain ⟨s, hs⟩ := Option.isSome_iff_exists.1 h1
      have h2 := ih fun g hg => hl g (List.mem_cons_of_mem _ hg)
      rw [List.mapM_cons]
      simp only [Sem.run_bind, run_sizeOf' hs, Result.andThen_ok, Sem.run_pure, h2, List.map_cons, hs, Option.getD_some]
  have h := key fields.toList fun f hf => List.all_eq_true.1 hall f hf
  rw [Array.mapM_eq_mapM_toList]
  simp only [Sem.run_map, h, Result.andThen_ok]
  congr 1
  apply Array.ext'
  simp

theorem s_build {t : TypeId} {parts : Array (Nat × Operand)} (h : Rel c n st a w imm) (hd : ∀ d, o.dst = some d → d < n) (hK : aRes P tok o.dst (buildRes P t (parts.toList.map fun p => (p.1, st.ev p.2))) K st) :
    o.upon P a (Go_on c n K) Q (((do pure (Next.value (← Instr.build t (parts.map fun (i, x) => (i, a.eval x))))) : Sem Next).run P w) := by
  obtain ⟨hpl, hpr⟩ := parts_rel (parts := parts) h
  unfold buildRes at hK
  split at hK
  · rename_i fields z hu hz
    obtain ⟨hall, hK⟩ := hK
    have hpe : (fun i : Nat => (fields[i]?).bind fun f : Field => (szOf P f.type).map fun s => (f.offset, s)) = fun i : Nat => ((fields.map fun f : Field => (f.offset, (szOf P f.type).getD 0))[i]?) := by
      funext i
      rw [Array.getElem?_map]
      rcases hf : fields[i]? with _ | f
      · rfl
      · have : (szOf P f.type).isSome = true := List.all_eq_true.1 hall f (by
          have := Array.mem_of_getElem? hf
          exact Array.mem_toList_iff.2 this)
        obtain ⟨s, hs⟩ := Option.isSome_iff_exists.1 this
        simp [hs]
    rw [hpe] at hK
    obtain ⟨cs', vs', e1, e2, e3⟩ := fillA_inv _ _ _ _ (ofVal_cells z) hpl hpr hK
    refine upon_pure h hd e3 (x := .agg vs') ?_ (.agg _ _ e2.1 e2.2)
    simp only [Instr.build, Sem.run_bind, run_zeroValue' hz, Result.andThen_ok, run_underlying hu, mapM_places hall, e1, Sem.run_pure]
  · rename_i len e z hu hz
    split at hK
    · rename_i sz hsz
      obtain ⟨cs', vs', e1, e2, e3⟩ := fillA_inv _ _ _ _ (ofVal_cells z) hpl hpr hK
      refine upon_pure h hd e3 (x := .agg vs') ?_ (.agg _ _ e2.1 e2.2)
      simp only [Instr.build, Sem.run_bind, run_zeroValue' hz, Result.andThen_ok, run_underlying hu, run_sizeOf' hsz, e1, Sem.run_pure]
    · exact hK.elim
  · exact hK.elim

theorem fillEs_inv {σ : Mem} {m : Nat} {R : List AV → Res} {dst : Option Nat} (hm : Mx c σ w imm) : ∀ (parts : List (Nat × AV)) (vals : List (Nat × Value)) (es : List AV) (vs : Array Value),
    (∀ e ∈ es, e.cells.length = m) → (∀ e ∈ es, e.ok = true) → (flat es).length = vs.size → (∀ (j : Nat) (b : AV) (y : Value), (flat es)[j]? = some b → vs[j]? = some y → Rd w imm b y) →
    parts.length = vals.length → (∀ (j : Nat) (p : Nat × AV) (q : Nat × Value), parts[j]? = some p → vals[j]? = some q → p.1 = q.1 ∧ Rs w imm p.2 q.2) →
    aRes P tok dst (fillEs σ m es parts R) K st → ∃ es' vs', Instr.fill (fun i => some (i * m, m)) vs vals = some vs' ∧ es'.length = es.length ∧ (∀ e ∈ es', e.cells.length = m) ∧ (∀ e ∈ es', e.ok = true) ∧ vs'.size = vs.size ∧
      (∀ (j : Nat) (b : AV) (y : Value), (flat es')[j]? = some b → vs'[j]? = some y → Rd w imm b y) ∧ aRes P tok dst (R es') K st
  | [], [], es, vs, h1, h2, _, h4, _, _, hK => ⟨es, vs, rfl, rfl, h1, h2, rfl, h4, hK⟩
  | [], q :: vals, _, _, _, _, _, _, hl, _, _ => by simp at hl
  | (i, b) :: parts, [], _, _, _, _, _, _, hl, _, _ => by simp at hl
  | (i, b) :: parts, q :: vals, es, vs, h1, h2, h3, h4, hl, hr, hK => by
    obtain ⟨e1, e2⟩ := hr 0 (i, b) q rfl rfl
    simp only at e1 e2
    subst e1
    simp only [fillEs] at hK
    obtain ⟨⟨hok, hsz, hi, hpo⟩, hK⟩ := hK
    obtain ⟨hpok, hpl⟩ := pub_ok hpo hok
    have hrd := pub_rd hm e2 hpo
    obtain ⟨hlc, _, _⟩ := (Rs.pure hrd).cells_of hpok
    have hel : (pubV σ b).cells.length = m := by omega
    have hfl := flat_length h1
    have him : q.1 * m + m ≤ es.length * m := by
      have : (q.1 + 1) * m ≤ es.length * m := Nat.mul_le_mul_right _ hi
      rwa [Nat.add_mul, Nat.one_mul] at this
    have hs1 : ∀ e ∈ es.set q.1 (pubV σ b), e.cells.length = m := fun y hy => by
      rcases List.mem_or_eq_of_mem_set hy with h5 | rfl
      · exact h1 y h5
      · exact hel
    obtain ⟨es', vs', f1, f2, f3, f4, f5, f6, f7⟩ := fillEs_inv hm parts vals (es.set q.1 (pubV σ b)) (q.2.cells.zipIdx.foldl (fun cs (x : Value × Nat) => cs.setIfInBounds (q.1 * m + x.2) x.1) vs) hs1
      (fun y hy => by
        rcases List.mem_or_eq_of_mem_set hy with h5 | rfl
        · exact h2 y h5
        · exact hpok)
      (by rw [flat_length hs1, fill_size, ← h3, hfl, List.length_set])
      (fun j x y hx hy => by
        rw [flat_set h1 _ hi hel] at hx
        rw [fill_part (q.1 * m) q.2.cells vs (by omega), ← hlc, hel] at hy
        split at hx
        · rename_i hc
          rw [if_pos hc] at hy
          exact pubLV_pure hrd hpok _ x hx y hy
        · rename_i hc
          rw [if_neg hc] at hy
          exact h4 j x y hx hy)
      (by simpa using hl) (fun j p q' hp hq => hr (j + 1) p q' (by simpa using hp) (by simpa using hq)) hK
    refine ⟨es', vs', ?_, by rw [f2, List.length_set], f3, f4, by rw [f5, fill_size], f6, f7⟩
    simp only [Instr.fill]
    rw [if_neg (by simp; omega)]
    exact f1

theorem run_buildSlice {t e : TypeId} {len m : Nat} {z : Value} {vals : Array (Nat × Value)} {vs' : Array Value} (hu : P.underlying t = some (.slice e)) (hsz : szOf P e = some m) (hz : zeroOf P e = some z) (hlim : len * m ≤ 16777216)
    (f1 : Instr.fill (fun i => some (i * m, m)) ((Array.range (len * m)).map (z.cells[· % z.cells.size]!)) vals.toList = some vs') :
    (Instr.buildSlice t len vals).run P w = .ok (.slice (some ⟨w.heap.size, 0, none⟩) len len) (w.alloc (.cells vs' e)) := by
  have hlim' : ¬ (len * m > 2 ^ 24) := by omega
  simp only [Instr.buildSlice, Sem.run_bind, run_underlying hu, Result.andThen_ok, run_sizeOf' hsz, if_neg hlim']
  by_cases h0 : len * m = 0
  · have h1 : Array.range (len * m) = #[] := by rw [h0]; rfl
    rw [h1] at f1
    simp only [Array.map_empty] at f1
    simp only [if_pos h0, Sem.run_bind, Sem.run_pure, Result.andThen_ok, h1, Array.map_empty, f1, newRow, run_newObj]
    rfl
  · simp only [if_neg h0, Sem.run_bind, run_zeroValue' hz, Sem.run_pure, Result.andThen_ok, f1, newRow, run_newObj]
    rfl

theorem s_buildSlice {t : TypeId} {len : Nat} {parts : Array (Nat × Operand)} (h : Rel c n st a w imm) (hd : ∀ d, o.dst = some d → d < n) (hK : aRes P tok o.dst (buildSliceRes P st t len (parts.toList.map fun p => (p.1, st.ev p.2))) K st) :
    o.upon P a (Go_on c n K) Q (((do pure (Next.value (← Instr.buildSlice t len (parts.map fun (i, x) => (i, a.eval x))))) : Sem Next).run P w) := by
  unfold buildSliceRes at hK
  split at hK
  · rename_i e hu
    split at hK
    · rename_i m z hsz hz
      obtain ⟨⟨hlim, hlim2, hzl, hzok⟩, hK⟩ := hK
      generalize hks : AV.toksL ((parts.toList.map fun p => (p.1, st.ev p.2)).map (·.2)) = ks at hK
      obtain ⟨i', hm', hk'⟩ := marks_ok ks h.mem
      obtain ⟨hpl, hpr⟩ := parts_rel (parts := parts) h
      have hrep1 : ∀ y ∈ List.replicate len (AV.ofVal z), y.cells.length = m := fun y hy => by rw [List.eq_of_mem_replicate hy]; exact hzl
      have hzsz : z.cells.size = m := by rw [← hzl]; exact (ofVal_cells (w := w) (imm := imm) z).1.symm
      obtain ⟨es', vs', f1, f2, f3, f4, f5, f6, f7⟩ := fillEs_inv hm' _ _ _ ((Array.range (len * m)).map (z.cells[· % z.cells.size]!)) hrep1 (fun y hy => by rw [List.eq_of_mem_replicate hy]; exact hzok)
        (by rw [flat_length hrep1]; simp) (fun j b y hb hy => by
          have hj : j < len * m := by
            have := lt_of_get hb
            rwa [flat_length hrep1, List.length_replicate] at this
          have hm0 : 0 < m := by
            rcases Nat.eq_zero_or_pos m with h4 | h4
            · rw [h4] at hj; omega
            · exact h4
          have hdm : j = (j / m) * m + j % m := by rw [Nat.mul_comm]; exact (Nat.div_add_mod j m).symm
          have hq : j / m < len := by rw [Nat.div_lt_iff_lt_mul hm0]; exact hj
          have hfg := flat_get hrep1 (j / m) (j % m) (Nat.mod_lt _ hm0) (by simpa using hq)
          rw [← hdm, hb] at hfg
          rw [List.getD_eq_getElem?_getD, List.getElem?_replicate, if_pos hq] at hfg
          simp only [Option.getD_some] at hfg
          have hlt : j % m < z.cells.size := by rw [hzsz]; exact Nat.mod_lt _ hm0
          have hy2 : y = z.cells[j % m] := by
            rw [Array.getElem?_map, Array.getElem?_range, if_pos hj] at hy
            simp only [Option.map_some, Option.some.injEq, hzsz] at hy
            rw [← hy]
            simp [hlt]
          rw [hy2]
          have h8 := (ofVal_cells (w := w) (imm := i') z).2 (j % m) b _ hfg.symm (Array.getElem?_eq_getElem hlt)
          have h9 : ∃ y, b = .v y := by
            cases z <;> first
              | (simp only [AV.ofVal, AV.cells] at hfg
                 have : j % m = 0 := by
                   have := lt_of_get hfg.symm
                   simp at this
                   omega
                 rw [this] at hfg
                 simp at hfg
                 exact ⟨_, hfg⟩)
              | (simp only [AV.ofVal, AV.cells, List.getElem?_map] at hfg
                 rename_i cs
                 rcases hc : cs.toList[j % m]? with _ | y
                 · rw [hc] at hfg; cases hfg
                 · rw [hc] at hfg
                   simp only [Option.map_some, Option.some.injEq] at hfg
                   exact ⟨y, hfg⟩)
          obtain ⟨y', rfl⟩ := h9
          rw [h8.v_inv]
          exact .v _)
        hpl (fun j p q h1 h2 => ⟨(hpr j p q h1 h2).1, hk'.rs (hpr j p q h1 h2).2⟩) hK
      have hlen : es'.length = len := by rw [f2, List.length_replicate]
      have hrun := run_buildSlice (w := w) hu hsz hz hlim f1
      rw [run_v hrun]
      have := upon_row' (Q := Q) (cap := len) (vs := vs') h hd f7 hm' hk' (by omega) ?_ (by rw [f5]; simp) f3 f4 f6
      · rwa [hlen] at this
      · simp only [maxLen]
        omega
    · exact hK.elim
  · exact hK.elim

end
end Go.Pg
