/- The engine, part H: loads and stores. -/
import Derived.Test.YtkhcpgakfeefhaaEngG
namespace Go.Pg
open Go Go.RowKit
set_option linter.unusedSimpArgs false
set_option linter.unusedVariables false

theorem flat_get {m : Nat} : ∀ {es : List AV}, (∀ x ∈ es, x.cells.length = m) → ∀ (i j : Nat), j < m → i < es.length → (flat es)[i * m + j]? = (es.getD i .u).cells[j]?
  | [], _, i, j, _, h => by simp at h
  | a :: r, hl, 0, j, hj, _ => by
    have ha := hl a (List.mem_cons_self ..)
    simp only [flat, List.flatMap_cons, Nat.zero_mul, Nat.zero_add, List.getD_cons_zero]
    rw [List.getElem?_append_left (by rw [ha]; exact hj)]
  | a :: r, hl, i + 1, j, hj, h => by
    have ha := hl a (List.mem_cons_self ..)
    have ih := flat_get (es := r) (fun x hx => hl x (List.mem_cons_of_mem _ hx)) i j hj (by simpa using h)
    simp only [flat, List.flatMap_cons, List.getD_cons_succ] at ih ⊢
    have e : (i + 1) * m + j = m + (i * m + j) := by rw [Nat.add_mul, Nat.one_mul]; omega
    rw [e, List.getElem?_append_right (by omega), ha, Nat.add_sub_cancel_left]
    exact ih

theorem splice_get {cs new : List AV} {off : Nat} (h : off + new.length ≤ cs.length) (j : Nat) : (splice cs off new)[j]? = if off ≤ j ∧ j < off + new.length then new[j - off]? else cs[j]? := by
  unfold splice
  have hl : (cs.take off).length = off := by simp; omega
  by_cases h1 : j < off
  · rw [if_neg (by omega), List.append_assoc, List.getElem?_append_left (by omega), List.getElem?_take, if_pos h1]
  · rw [List.append_assoc, List.getElem?_append_right (by omega), hl]
    by_cases h2 : j < off + new.length
    · rw [if_pos (by omega), List.getElem?_append_left (by omega)]
    · rw [if_neg (by omega), List.getElem?_append_right (by omega), List.getElem?_drop]
      congr 1
      omega
theorem splice_length {cs new : List AV} {off : Nat} (h : off + new.length ≤ cs.length) : (splice cs off new).length = cs.length := by
  simp [splice]; omega

theorem spliceV_get {cs new : List Value} {off : Nat} (h : off + new.length ≤ cs.length) (j : Nat) : (cs.take off ++ new ++ cs.drop (off + new.length))[j]? = if off ≤ j ∧ j < off + new.length then new[j - off]? else cs[j]? := by
  have hl : (cs.take off).length = off := by simp; omega
  by_cases h1 : j < off
  · rw [if_neg (by omega), List.append_assoc, List.getElem?_append_left (by omega), List.getElem?_take, if_pos h1]
  · rw [List.append_assoc, List.getElem?_append_right (by omega), hl]
    by_cases h2 : j < off + new.length
    · rw [if_pos (by omega), List.getElem?_append_left (by omega)]
    · rw [if_neg (by omega), List.getElem?_append_right (by omega), List.getElem?_drop]
      congr 1
      omega

theorem setRow_grown (w : World) (g : Nat) (cs : Array Value) : w.grownBy (w.setRow g cs) (some g) :=
  ⟨rfl, rfl, rfl, by simp, fun k _ hk => setRow_other w g k cs (fun e => hk (by rw [e]))⟩

section
variable {P : Program} {c : Cx} {n tok : Nat} {st : St} {a : Act} {w : World} {imm : Imm} {K : St → Prop} {o : Oper} {Q : Exit → Act → World → Prop}

theorem box_cells {σ : Mem} (h : Mx c σ w imm) {k g : Nat} {e : TypeId} {cs : List AV} {pub : Bool} (hk : σ k = some (.box g e cs pub)) : CellsAt w imm ⟨g, 0, none⟩ cs := by
  obtain ⟨cur, hh, _, hl, _, hr, _⟩ := h.ok.ent k _ hk
  intro j b hb
  have hlt : j < cur.size := by
    rw [← hl]
    rcases Nat.lt_or_ge j cs.length with h1 | h1
    · exact h1
    · rw [List.getElem?_eq_none h1] at hb; cases hb
  refine ⟨cur[j], ?_, hr j b _ hb (Array.getElem?_eq_getElem hlt)⟩
  rw [Addr.add_lit, Nat.zero_add, cell_of_row w g j cur e (0, 0) hh]
  exact Array.getElem?_eq_getElem hlt

theorem row_cells {σ : Mem} (h : Mx c σ w imm) {k g : Nat} {e : TypeId} {m nn cc pub : Nat} {es : List AV} (hk : σ k = some (.row (.slice (some ⟨g, 0, none⟩) nn cc) e m es pub)) {i : Nat} (hi : i < es.length) :
    CellsAt w imm ⟨g, i * m, none⟩ (es.getD i .u).cells := by
  obtain ⟨xs, hown, hm, hok, hr, _⟩ := h.ok.ent k _ hk
  intro j b hb
  have hel : (es.getD i .u).cells.length = m := by
    rw [List.getD_eq_getElem?_getD, List.getElem?_eq_getElem hi]
    exact hm _ (List.getElem_mem _)
  have hj : j < m := by
    rw [← hel]
    rcases Nat.lt_or_ge j (es.getD i .u).cells.length with h1 | h1
    · exact h1
    · rw [List.getElem?_eq_none h1] at hb; cases hb
  have hf := flat_get hm i j hj hi
  rw [hb] at hf
  have hlt : i * m + j < es.length * m := by
    have : (i + 1) * m ≤ es.length * m := Nat.mul_le_mul_right _ hi
    rw [Nat.add_mul, Nat.one_mul] at this
    omega
  have hx : i * m + j < xs.length := by rw [hown.1]; exact hlt
  have hn : nn = es.length := by
    rcases hown.2 with ⟨h1, _⟩ | ⟨g', cap, cur, h1, _⟩
    · cases h1
    · cases h1; rfl
  subst hn
  refine ⟨xs[i * m + j], ?_, .pure (hr _ b _ hf (List.getElem?_eq_getElem hx))⟩
  rw [Addr.add_lit, hown.cellAt _ hlt]
  exact List.getElem?_eq_getElem hx

theorem s_load {t : TypeId} {av : AV} {x : Value} (h : Rel c n st a w imm) (hd : ∀ d, o.dst = some d → d < n) (hK : aRes P tok o.dst (loadRes P st t av) K st) (hx : Rs w imm av x) :
    o.upon P a (Go_on c n K) Q (((do pure (Next.value (← Instr.loadAt t x))) : Sem Next).run P w) := by
  cases av with
  | pimm cs =>
    obtain ⟨ad, f, rfl, h1, h2⟩ := hx.pimm_inv
    refine loadOf_sound h hd hK (ad := ad) fun j b hb => ?_
    have hj : j < cs.length := by
      rcases Nat.lt_or_ge j cs.length with h3 | h3
      · exact h3
      · rw [List.getElem?_eq_none h3] at hb; cases hb
    exact ⟨f j, (h1 j hj).2, .pure (h2 j b hb)⟩
  | pbox k g off =>
    have := hx.pbox_inv
    subst this
    unfold loadRes at hK
    cases hk : st.mem k with
    | none => simp only [hk] at hK; exact hK.elim
    | some e =>
      cases e with
      | row => simp only [hk] at hK; exact hK.elim
      | box g' e cs pub =>
        simp only [hk] at hK
        obtain ⟨rfl, hK⟩ := hK
        refine loadOf_sound h hd hK (ad := ⟨g, off, none⟩) ?_
        have := (box_cells h.mem hk).drop off
        rwa [Addr.add_lit, Nat.zero_add] at this
  | prow k sv m i off =>
    obtain ⟨g, nn, cc, rfl, rfl⟩ := hx.prow_inv
    unfold loadRes at hK
    cases hk : st.mem k with
    | none => simp only [hk] at hK; exact hK.elim
    | some e =>
      cases e with
      | box => simp only [hk] at hK; exact hK.elim
      | row sv' e m' es pub =>
        simp only [hk] at hK
        obtain ⟨⟨rfl, rfl, hi⟩, hK⟩ := hK
        refine loadOf_sound h hd hK (ad := ⟨g, i * m + off, none⟩) ?_
        have := (row_cells h.mem hk hi).drop off
        rwa [Addr.add_lit] at this
  | _ => exact hK.elim

theorem box_put {σ : Mem} (h : Mx c σ w imm) {k g : Nat} {e : TypeId} {cs cs' : List AV} (hk : σ k = some (.box g e cs false)) {off : Nat} {vs : List Value} (hl : cs'.length = cs.length) (hfit : off + vs.length ≤ cs.length)
    (h1 : ∀ v ∈ vs, v.oneCell' = true) (hone : ∀ x ∈ cs', x.one = true)
    (hr : ∀ (j : Nat) (b : AV), cs'[j]? = some b → if off ≤ j ∧ j < off + vs.length then ∀ x, vs[j - off]? = some x → Rs w imm b x else cs[j]? = some b) :
    ∃ w', (storeCells ⟨g, off, none⟩ vs).run P w = .ok () w' ∧ Mx c (upd σ k (some (.box g e cs' false))) w' imm ∧ Keeps w imm w' imm := by
  obtain ⟨cur, hh, hB, hlen, _, hrs, hp, _⟩ := h.ok.ent k _ hk
  have hst := run_storeCells_at P g off e vs 0 cur w hh (by simpa [← hlen] using hfit) h1
  simp only [Nat.add_zero] at hst
  have hcell : ∀ ad, imm ad → (w.setRow g (cur.toList.take off ++ vs ++ cur.toList.drop (off + vs.length)).toArray).cell? ad = w.cell? ad := by
    intro ad h2
    have hne : ad.block ≠ g := fun e => by have := hp ad h2 e; cases this
    exact grown_cell (setRow_grown w g _) (h.ok.lt ad h2) (by simpa using hne)
  have hkeep : Keeps w imm (w.setRow g (cur.toList.take off ++ vs ++ cur.toList.drop (off + vs.length)).toArray) imm := fun ad h2 => ⟨h2, hcell ad h2⟩
  refine ⟨_, hst, mem_put h (setRow_grown w g _) (fun g' hg' => by cases hg'; exact hB) hcell k _ ⟨_, setRow_heap w g cur _ e (0, 0) hh, hB, ?_, hone, fun j b x h2 h3 => hkeep.rs ?_, hp, fun h2 => by cases h2⟩ fun j e2 b h2 h3 h4 => ?_⟩
  · simp only [List.size_toArray, List.length_append, List.length_take, List.length_drop, Array.length_toList]
    omega
  · have h5 := hr j b h2
    have h6 : (cur.toList.take off ++ vs ++ cur.toList.drop (off + vs.length))[j]? = some x := by simpa using h3
    rw [spliceV_get (by have : cur.toList.length = cur.size := rfl; omega)] at h6
    split at h5
    · rename_i hc
      rw [if_pos hc] at h6
      exact h5 x h6
    · rename_i hc
      rw [if_neg hc] at h6
      exact hrs j b x h5 (by simpa using h6)
  · have : b ≠ g := fun e => h2 (h.ok.apart j k e2 _ g h3 hk (e ▸ h4) rfl)
    exact ⟨by simpa using this, by simpa [Ent.blk] using fun e => this e.symm⟩

theorem row_put {σ : Mem} (h : Mx c σ w imm) {k g : Nat} {e : TypeId} {m nn cc pub : Nat} {es es' : List AV} (hk : σ k = some (.row (.slice (some ⟨g, 0, none⟩) nn cc) e m es pub)) {off : Nat} {vs : List Value}
    (hl : es'.length = es.length) (hfit : off + vs.length ≤ es.length * m) (hpub : pub * m ≤ off) (h1 : ∀ v ∈ vs, v.oneCell' = true) (hm' : ∀ x ∈ es', x.cells.length = m) (hok' : ∀ x ∈ es', x.ok = true)
    (hr : ∀ (j : Nat) (b : AV), (flat es')[j]? = some b → if off ≤ j ∧ j < off + vs.length then ∀ x, vs[j - off]? = some x → Rd w imm b x else (flat es)[j]? = some b) :
    ∃ w', (storeCells ⟨g, off, none⟩ vs).run P w = .ok () w' ∧ Mx c (upd σ k (some (.row (.slice (some ⟨g, 0, none⟩) nn cc) e m es' pub))) w' imm ∧ Keeps w imm w' imm := by
  obtain ⟨xs, hown, hm, hok, hrs, hpl, hp, hq⟩ := h.ok.ent k _ hk
  rcases hown.2 with ⟨h2, _⟩ | ⟨g', cap, cur, h2, hB, hh, hnc, hcm, hcs, htake⟩
  · cases h2
  cases h2
  have hcl : es.length * m ≤ cur.size := by rw [hcs]; exact Nat.mul_le_mul_right _ hnc
  have hst := run_storeCells_at P g off e vs 0 cur w hh (by omega) h1
  simp only [Nat.add_zero] at hst
  have hcell : ∀ ad, imm ad → (w.setRow g (cur.toList.take off ++ vs ++ cur.toList.drop (off + vs.length)).toArray).cell? ad = w.cell? ad := by
    intro ad h2
    by_cases hg : ad.block = g
    · have h3 := hp ad h2 (by simp [Value.ownBlock, hg])
      have h4 := h.ok.spot ad h2
      obtain ⟨b, of, s⟩ := ad
      simp only at hg h3 h4
      subst hg; subst h4
      rw [cell_of_row _ b of _ e (0, 0) (setRow_heap w b cur _ e (0, 0) hh), cell_of_row w b of cur e (0, 0) hh]
      have := spliceV_get (cs := cur.toList) (new := vs) (off := off) (by have : cur.toList.length = cur.size := rfl; omega) of
      rw [if_neg (by omega)] at this
      simpa using this
    · exact grown_cell (setRow_grown w g _) (h.ok.lt ad h2) (by simpa using hg)
  have hkeep : Keeps w imm (w.setRow g (cur.toList.take off ++ vs ++ cur.toList.drop (off + vs.length)).toArray) imm := fun ad h2 => ⟨h2, hcell ad h2⟩
  have hlen2 : (cur.toList.take off ++ vs ++ cur.toList.drop (off + vs.length)).length = cur.size := by
    simp only [List.length_append, List.length_take, List.length_drop, Array.length_toList]
    omega
  refine ⟨_, hst, mem_put h (setRow_grown w g _) (fun g' hg' => by cases hg'; exact hB) hcell k _
    ⟨(cur.toList.take off ++ vs ++ cur.toList.drop (off + vs.length)).take (es.length * m), ⟨by rw [List.length_take, hlen2, hl]; exact Nat.min_eq_left hcl, .inr ⟨g, _, _, by rw [hl], hB, setRow_heap w g cur _ e (0, 0) hh, by rw [hl]; exact hnc, hcm, by rw [List.size_toArray, hlen2, hcs], by rw [hl]⟩⟩, hm', hok',
      fun j b x h2 h3 => hkeep.rd ?_, by rw [hl]; exact hpl, hp, hq⟩ fun j e2 b h2 h3 h4 => ?_⟩
  · rw [List.getElem?_take] at h3
    split at h3
    · rename_i hj
      rw [spliceV_get (by have : cur.toList.length = cur.size := rfl; omega)] at h3
      have h5 := hr j b h2
      split at h5
      · rename_i hc
        rw [if_pos hc] at h3
        exact h5 x h3
      · rename_i hc
        rw [if_neg hc] at h3
        refine hrs j b x h5 ?_
        rw [← htake, List.getElem?_take, if_pos hj]
        exact h3
    · cases h3
  · have : b ≠ g := fun e => h2 (h.ok.apart j k e2 _ g h3 hk (e ▸ h4) rfl)
    exact ⟨by simpa using this, by simpa [Ent.blk, Value.ownBlock] using fun e => this e.symm⟩

end
end Go.Pg
