/- The engine, part I: stores, appends, copies. -/
import Derived.Test.YtkhcpgakfeefhaaEngH
namespace Go.Pg
open Go Go.RowKit
set_option linter.unusedSimpArgs false
set_option linter.unusedVariables false

theorem one_cells {a : AV} (h : a.one = true) : a.cells = [a] := by cases a <;> first | rfl | cases h
theorem one_ok {a : AV} (h : a.one = true) : a.ok = true := by cases a <;> first | exact h | cases h
theorem ok_one {a : AV} (h : a.ok = true) : ∀ b ∈ a.cells, b.one = true := by
  cases a with
  | agg cs => exact fun b hb => List.all_eq_true.1 h b hb
  | _ => intro b hb; simp only [AV.cells, List.mem_singleton] at hb; subst hb; exact h
theorem flat_one {es : List AV} (hok : ∀ e ∈ es, e.ok = true) : ∀ b ∈ flat es, b.one = true := by
  intro b hb
  simp only [flat, List.mem_flatMap] at hb
  obtain ⟨e, he, hb⟩ := hb
  exact ok_one (hok e he) b hb

theorem pub_one {σ : Mem} {a : AV} (ho : pubOk σ a) (h : a.one = true) : (pubV σ a).one = true := by
  cases a with
  | own k sv =>
    simp only [pubOk, pubV, leafOk, leafV] at ho ⊢
    split at ho
    · rfl
    · exact ho.elim
  | pbox k g off =>
    simp only [pubOk, pubV] at ho ⊢
    split at ho
    · rfl
    · exact ho.elim
  | prow => exact ho.elim
  | v x => exact h
  | _ => first | rfl | cases h
theorem pubLV_one {σ : Mem} : ∀ {l : List AV}, pubLOk σ l → (∀ b ∈ l, b.one = true) → ∀ b ∈ pubLV σ l, b.one = true
  | [], _, _, b, hb => by simp [pubLV] at hb
  | a :: r, ho, h, b, hb => by
    simp only [pubLV, List.mem_cons] at hb
    rcases hb with rfl | hb
    · exact pub_one ho.1 (h a (List.mem_cons_self ..))
    · exact pubLV_one ho.2 (fun c hc => h c (List.mem_cons_of_mem _ hc)) b hb
theorem pub_ok {σ : Mem} {a : AV} (ho : pubOk σ a) (h : a.ok = true) : (pubV σ a).ok = true ∧ (pubV σ a).cells.length = a.cells.length := by
  cases ha : a with
  | agg cs =>
    subst ha
    exact ⟨List.all_eq_true.2 (pubLV_one ho fun b hb => List.all_eq_true.1 h b hb), pubLV_length σ cs⟩
  | tup cs => subst ha; cases h
  | u => subst ha; cases h
  | _ =>
    have h1 : a.one = true := by rw [ha] at h ⊢; exact h
    have h2 := pub_one ho h1
    rw [← ha]
    exact ⟨one_ok h2, by rw [one_cells h2, one_cells h1]; rfl⟩

/-- The cells of a value that is read are read. -/
theorem pubLV_pure {w : World} {imm : Imm} {a : AV} {x : Value} (h : Rd w imm a x) (ho : a.ok = true) (j : Nat) (b : AV) (hb : a.cells[j]? = some b) (y : Value) (hy : x.cells[j]? = some y) : Rd w imm b y := by
  cases ha : a with
  | agg cs =>
    subst ha
    cases h with
    | agg _ vs hl hr => exact hr j b y hb hy
  | tup cs => subst ha; cases ho
  | u => subst ha; cases ho
  | _ =>
    have h1 : a.one = true := by rw [ha] at ho ⊢; exact ho
    rw [one_cells h1] at hb
    rw [cells_of_one (h.one_of h1)] at hy
    match j with
    | 0 => simp at hb hy; subst hb; subst hy; exact h
    | j + 1 => simp at hb

theorem flat_set {m : Nat} {el : AV} : ∀ {es : List AV}, (∀ x ∈ es, x.cells.length = m) → ∀ (i : Nat), i < es.length → el.cells.length = m → ∀ j, (flat (es.set i el))[j]? = if i * m ≤ j ∧ j < i * m + m then el.cells[j - i * m]? else (flat es)[j]?
  | [], _, i, h, _, _ => by simp at h
  | a :: r, hl, 0, _, he, j => by
    have ha := hl a (List.mem_cons_self ..)
    simp only [flat, List.set_cons_zero, List.flatMap_cons, Nat.zero_mul, Nat.zero_add, Nat.zero_le, true_and, Nat.sub_zero]
    by_cases hj : j < m
    · rw [if_pos hj, List.getElem?_append_left (by omega)]
    · rw [if_neg hj, List.getElem?_append_right (by omega), List.getElem?_append_right (by omega), he, ha]
  | a :: r, hl, i + 1, h, he, j => by
    have ha := hl a (List.mem_cons_self ..)
    have ih := flat_set (es := r) (fun x hx => hl x (List.mem_cons_of_mem _ hx)) i (by simpa using h) he (j - m)
    have e : (i + 1) * m = m + i * m := by rw [Nat.add_mul, Nat.one_mul, Nat.add_comm]
    simp only [flat, List.set_cons_succ, List.flatMap_cons] at ih ⊢
    by_cases hj : j < m
    · rw [List.getElem?_append_left (by omega), List.getElem?_append_left (by omega), if_neg (by omega)]
    · rw [List.getElem?_append_right (by omega), List.getElem?_append_right (by omega), ha, ih]
      by_cases hc : i * m ≤ j - m ∧ j - m < i * m + m
      · rw [if_pos hc, if_pos (by omega)]
        congr 1
        omega
      · rw [if_neg hc, if_neg (by omega)]

section
variable {P : Program} {c : Cx} {n tok : Nat} {st : St} {a : Act} {w : World} {imm : Imm} {K : St → Prop} {o : Oper} {Q : Exit → Act → World → Prop}

theorem run_storeAt {t : TypeId} {ad : Addr} {x : Value} {w' : World} {k : Nat} (hs : szOf P t = some k) (hk : x.cells.size = k) (hr : (storeCells ad x.cells.toList).run P w = .ok () w') :
    ((do Instr.storeAt t (.pointer (some ad)) x; pure Next.skip) : Sem Next).run P w = .ok .skip w' := by
  have : Instr.storeAt t (.pointer (some ad)) x = storeVar t ad x := rfl
  rw [this]
  simp [storeVar, run_sizeOf' hs, hk, hr]

theorem cells_one {a : AV} {x : Value} (h : Rs w imm a x) (ho : a.ok = true) : ∀ v ∈ x.cells.toList, v.oneCell' = true := by
  obtain ⟨hl, hr, h1⟩ := h.cells_of ho
  intro v hv
  obtain ⟨j, hj⟩ := List.getElem?_of_mem hv
  have hlt : j < a.cells.length := by
    rw [hl]
    rcases Nat.lt_or_ge j x.cells.toList.length with h2 | h2
    · simpa using h2
    · rw [List.getElem?_eq_none h2] at hj; cases hj
  exact (hr j _ v (List.getElem?_eq_getElem hlt) (by simpa using hj)).one_of (h1 _ (List.getElem_mem hlt))

theorem s_store {t : TypeId} {pv av : AV} {p x : Value} (h : Rel c n st a w imm) (hd : ∀ d, o.dst = some d → d < n) (hK : aRes P tok o.dst (storeRes P st t pv av) K st) (hp : Rs w imm pv p) (hx : Rs w imm av x) :
    o.upon P a (Go_on c n K) Q (((do Instr.storeAt t p x; pure Next.skip) : Sem Next).run P w) := by
  unfold storeRes at hK
  cases hs : szOf P t with
  | none => simp only [hs] at hK; exact hK.elim
  | some sz =>
    simp only [hs] at hK
    cases pv with
    | pbox k g off =>
      have := hp.pbox_inv
      subst this
      cases hk : st.mem k with
      | none => simp only [hk] at hK; exact hK.elim
      | some e =>
        cases e with
        | row => simp only [hk] at hK; exact hK.elim
        | box g' e cs pub =>
          cases pub with
          | true => simp only [hk] at hK; exact hK.elim
          | false =>
            simp only [hk] at hK
            obtain ⟨⟨rfl, hok, hlen, hfit⟩, hK⟩ := hK
            obtain ⟨hl, hr, h1⟩ := hx.cells_of hok
            have hfit' : off + av.cells.length ≤ cs.length := by omega
            obtain ⟨w', hrun, hm, hkp⟩ := box_put h.mem hk (off := off) (vs := x.cells.toList) (cs' := splice cs off av.cells) (splice_length hfit') (by simp [← hl]; omega) (cells_one hx hok)
              (fun b hb => by
                simp only [splice, List.mem_append] at hb
                obtain ⟨cur, _, _, _, hone, _⟩ := h.mem.ok.ent k _ hk
                rcases hb with (hb | hb) | hb
                · exact hone b (List.mem_of_mem_take hb)
                · exact h1 b hb
                · exact hone b (List.mem_of_mem_drop hb))
              (fun j b hb => by
                rw [splice_get hfit'] at hb
                simp only [Array.length_toList, ← hl]
                split
                · rename_i hc
                  rw [if_pos hc] at hb
                  exact fun y hy => hr _ b y hb (by simpa using hy)
                · rename_i hc
                  rwa [if_neg hc] at hb)
            rw [run_storeAt hs (by omega) hrun]
            refine upon_sto h hd hK (.inr ⟨rfl, rfl⟩) fun i' hm' hk' => ?_
            -- nothing is marked here: the memory of before serves, at the later imm
            obtain ⟨w2, hrun2, hm2, hkp2⟩ := box_put hm' hk (off := off) (vs := x.cells.toList) (cs' := splice cs off av.cells) (splice_length hfit') (by simp [← hl]; omega) (cells_one hx hok)
              (fun b hb => by
                simp only [splice, List.mem_append] at hb
                obtain ⟨cur, _, _, _, hone, _⟩ := h.mem.ok.ent k _ hk
                rcases hb with (hb | hb) | hb
                · exact hone b (List.mem_of_mem_take hb)
                · exact h1 b hb
                · exact hone b (List.mem_of_mem_drop hb))
              (fun j b hb => by
                rw [splice_get hfit'] at hb
                simp only [Array.length_toList, ← hl]
                split
                · rename_i hc
                  rw [if_pos hc] at hb
                  exact fun y hy => hk'.rs (hr _ b y hb (by simpa using hy))
                · rename_i hc
                  rwa [if_neg hc] at hb)
            rw [hrun] at hrun2
            cases hrun2
            exact ⟨hm2, hkp2, .pure (.u _)⟩
    | prow k sv m i off =>
      obtain ⟨g, nn, cc, rfl, rfl⟩ := hp.prow_inv
      cases hk : marks st.mem av.toks k with
      | none => simp only [hk] at hK; exact hK.elim
      | some e =>
        cases e with
        | box => simp only [hk] at hK; exact hK.elim
        | row sv' e m' es pub =>
          simp only [hk] at hK
          obtain ⟨⟨rfl, rfl, hpi, hi, hok, hlen, hpo⟩, hK⟩ := hK
          obtain ⟨i', hm', hk'⟩ := marks_ok av.toks h.mem
          have hrd := pub_rd hm' (hk'.rs hx) hpo
          obtain ⟨hpok, hplen⟩ := pub_ok hpo hok
          obtain ⟨hl, hr, h1⟩ := (Rs.pure hrd).cells_of hpok
          obtain ⟨xs, hown, hmm, hokk, _⟩ := hm'.ok.ent k _ hk
          have hvl : x.cells.toList.length = sz := by simp [← hl]; omega
          have key : ∀ (es' : List AV) (el : AV), es' = es.set i el → el.cells.length = m → el.ok = true → off + sz ≤ m →
              (∀ (j : Nat) (b : AV), el.cells[j]? = some b → if off ≤ j ∧ j < off + sz then (pubV (marks st.mem av.toks) av).cells[j - off]? = some b else (es.getD i .u).cells[j]? = some b) →
              aRes P tok o.dst (.sto .u k (.row (.slice (some ⟨g, 0, none⟩) nn cc) e m es' pub) av.toks) K st → o.upon P a (Go_on c n K) Q (((do Instr.storeAt t (.pointer (some ⟨g, i * m + off, none⟩)) x; pure Next.skip) : Sem Next).run P w) := by
            rintro es' el rfl hel helok hfit hcells hK
            have him : i * m + m ≤ es.length * m := by
              have : (i + 1) * m ≤ es.length * m := Nat.mul_le_mul_right _ hi
              rwa [Nat.add_mul, Nat.one_mul] at this
            have hpim : pub * m ≤ i * m := Nat.mul_le_mul_right _ hpi
            have put : ∀ i2, Mx c (marks st.mem av.toks) w i2 → Keeps w imm w i2 → ∃ w', (storeCells ⟨g, i * m + off, none⟩ x.cells.toList).run P w = .ok () w' ∧ Mx c (upd (marks st.mem av.toks) k (some (.row (.slice (some ⟨g, 0, none⟩) nn cc) e m (es.set i el) pub))) w' i2 ∧ Keeps w i2 w' i2 := by
              intro i2 hm2 hk2
              have hrd2 := pub_rd hm2 (hk2.rs hx) hpo
              refine row_put hm2 hk (off := i * m + off) (vs := x.cells.toList) (by simp) (by omega) (by omega) (cells_one (.pure hrd2) hpok) (fun y hy => ?_) (fun y hy => ?_) fun j b hb => ?_
              · rcases List.mem_or_eq_of_mem_set hy with h2 | rfl
                · exact hmm y h2
                · exact hel
              · rcases List.mem_or_eq_of_mem_set hy with h2 | rfl
                · exact hokk y h2
                · exact helok
              · rw [flat_set hmm i hi hel] at hb
                rw [hvl]
                by_cases hc : i * m ≤ j ∧ j < i * m + m
                · rw [if_pos hc] at hb
                  have h4 := hcells _ b hb
                  by_cases hc2 : i * m + off ≤ j ∧ j < i * m + off + sz
                  · rw [if_pos hc2]
                    rw [if_pos (by omega)] at h4
                    intro y hy
                    have e1 : j - i * m - off = j - (i * m + off) := by omega
                    rw [e1] at h4
                    exact pubLV_pure hrd2 hpok _ _ h4 _ (by simpa using hy)
                  · rw [if_neg hc2]
                    rw [if_neg (by omega)] at h4
                    have h5 := flat_get hmm i (j - i * m) (by omega) hi
                    have e1 : i * m + (j - i * m) = j := by omega
                    rw [e1] at h5
                    rw [h5]; exact h4
                · rw [if_neg hc] at hb
                  rw [if_neg (by omega)]
                  exact hb
            obtain ⟨w', hrun, hm2, hk2⟩ := put i' hm' hk'
            rw [run_storeAt hs (by simpa using hvl) hrun]
            refine upon_sto h hd hK (.inr ⟨rfl, rfl⟩) fun i2 hmi hki => ?_
            obtain ⟨w2, hrun2, hm3, hk3⟩ := put i2 hmi hki
            rw [hrun] at hrun2
            cases hrun2
            exact ⟨hm3, hk3, .pure (.u _)⟩
          unfold putEl at hK
          have hgel : (es.getD i .u).cells.length = m := by
            rw [List.getD_eq_getElem?_getD, List.getElem?_eq_getElem hi]
            exact hmm _ (List.getElem_mem _)
          by_cases hm1 : m = 1
          · rw [if_pos hm1] at hK
            obtain ⟨⟨rfl, hone⟩, hK⟩ := hK
            have h2 := pub_one hpo hone
            have h3 := one_cells h2
            have h4 : sz = 1 := by rw [← hlen, one_cells hone]; rfl
            refine key _ _ rfl (by rw [h3, hm1]; rfl) (one_ok h2) (by omega) (fun j b hb => ?_) hK
            rw [h3] at hb
            match j with
            | 0 => rw [if_pos (by omega), h3]; exact hb
            | j + 1 => simp at hb
          · rw [if_neg hm1] at hK
            cases hge : es.getD i .u with
            | agg ecs =>
              rw [hge] at hK hgel
              obtain ⟨hfit, hK⟩ := hK
              change ecs.length = m at hgel
              have hf2 : off + (pubV (marks st.mem av.toks) av).cells.length ≤ ecs.length := by omega
              refine key _ (.agg (splice ecs off (pubV (marks st.mem av.toks) av).cells)) rfl ((splice_length hf2).trans hgel) ?_ hfit (fun j b hb => ?_) hK
              · have hgok : (AV.agg ecs).ok = true := by
                  rw [← hge, List.getD_eq_getElem?_getD, List.getElem?_eq_getElem hi]
                  exact hokk _ (List.getElem_mem _)
                refine List.all_eq_true.2 fun b hb => ?_
                simp only [splice, List.mem_append] at hb
                rcases hb with (hb | hb) | hb
                · exact List.all_eq_true.1 hgok b (List.mem_of_mem_take hb)
                · exact ok_one hpok b hb
                · exact List.all_eq_true.1 hgok b (List.mem_of_mem_drop hb)
              · change (splice ecs off (pubV (marks st.mem av.toks) av).cells)[j]? = some b at hb
                rw [splice_get hf2, hplen, hlen] at hb
                rw [hge]
                split
                · rename_i hc
                  rwa [if_pos hc] at hb
                · rename_i hc
                  rwa [if_neg hc] at hb
            | _ => rw [hge] at hK; exact hK.elim
    | _ => exact hK.elim
end
end Go.Pg
