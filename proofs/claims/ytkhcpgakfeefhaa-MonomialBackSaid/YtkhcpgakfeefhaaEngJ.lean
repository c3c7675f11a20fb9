/- The engine, part J: appends, copies, makes, slices. -/
import Derived.Test.YtkhcpgakfeefhaaEngI
namespace Go.Pg
open Go Go.RowKit
set_option linter.unusedSimpArgs false
set_option linter.unusedVariables false

section
variable {P : Program} {c : Cx} {n tok : Nat} {st : St} {a : Act} {w : World} {imm : Imm} {K : St → Prop} {o : Oper} {Q : Exit → Act → World → Prop}

/-- What a slice in hand holds, its cells where they lie. -/
structure Src (w : World) (imm : Imm) (m : Nat) (es : List AV) (x : Value) (A : Option Addr) (cp : Nat) (xs : List Value) : Prop where
  val : x = .slice A es.length cp
  len : xs.length = es.length * m
  some_ : 0 < es.length → A ≠ none
  cell : ∀ ad, A = some ad → ∀ (j : Nat) (u : Value), xs[j]? = some u → w.cell? (ad.add j) = some u
  one : ∀ u ∈ xs, u.oneCell' = true
  rd : ∀ (j : Nat) (a : AV) (x : Value), (flat es)[j]? = some a → xs[j]? = some x → Rd w imm a x
  cells : ∀ x ∈ es, x.cells.length = m
  ok : ∀ x ∈ es, x.ok = true

theorem lt_of_get {α : Type} {l : List α} {j : Nat} {a : α} (h : l[j]? = some a) : j < l.length := by
  rcases Nat.lt_or_ge j l.length with h1 | h1
  · exact h1
  · rw [List.getElem?_eq_none h1] at h; cases h

theorem src_sl {m : Nat} {es : List AV} {x : Value} (h : Rs w imm (.sl m es) x) : ∃ A cp xs, Src w imm m es x A cp xs ∧ es.length ≤ cp := by
  obtain ⟨A, cap, f, rfl, hcap, hm, hok, hn, hA, hr⟩ := h.sl_inv
  have hfl := flat_length hm
  refine ⟨A, cap, (List.range (es.length * m)).map f, ⟨rfl, by simp, hn, fun ad had j u hu => ?_, fun u hu => ?_, fun j b y hb hy => ?_, hm, hok⟩, hcap⟩
  · have hj : j < es.length * m := by simpa using lt_of_get hu
    rw [List.getElem?_map, List.getElem?_range hj] at hu
    simp only [Option.map_some, Option.some.injEq] at hu
    obtain ⟨ad', h1, _, h2⟩ := hA j hj
    rw [had] at h1
    cases h1
    rw [← hu]; exact h2
  · simp only [List.mem_map, List.mem_range] at hu
    obtain ⟨j, hj, rfl⟩ := hu
    have hlt : j < (flat es).length := by rw [hfl]; exact hj
    exact (hr j _ (List.getElem?_eq_getElem hlt)).one_of (flat_one hok _ (List.getElem_mem hlt))
  · have hj : j < es.length * m := by rw [← hfl]; exact lt_of_get hb
    rw [List.getElem?_map, List.getElem?_range hj] at hy
    simp only [Option.map_some, Option.some.injEq] at hy
    rw [← hy]; exact hr j b hb

theorem src_own {σ : Mem} (h : Mx c σ w imm) {k : Nat} {sv : Value} {e : TypeId} {m pub : Nat} {es : List AV} (hk : σ k = some (.row sv e m es pub)) : ∃ A cp xs, Src w imm m es sv A cp xs ∧ es.length ≤ cp ∧ w.ownsRow c.B e m sv es.length xs := by
  obtain ⟨xs, hown, hm, hok, hr, _⟩ := h.ok.ent k _ hk
  have hfl := flat_length hm
  have hone : ∀ u ∈ xs, u.oneCell' = true := by
    intro u hu
    obtain ⟨j, hj⟩ := List.getElem?_of_mem hu
    have hlt : j < (flat es).length := by rw [hfl, ← hown.1]; exact lt_of_get hj
    exact (hr j _ u (List.getElem?_eq_getElem hlt) hj).one_of (flat_one hok _ (List.getElem_mem hlt))
  rcases hown.2 with ⟨rfl, hn⟩ | ⟨g, cap, cur, rfl, hB, hh, hnc, hcm, hcs, htake⟩
  · have : es = [] := List.eq_nil_of_length_eq_zero hn
    subst this
    exact ⟨none, 0, xs, ⟨rfl, hown.1, by simp, by simp, hone, hr, hm, hok⟩, by simp, hown⟩
  · exact ⟨some ⟨g, 0, none⟩, cap, xs, ⟨rfl, hown.1, by simp, fun ad had => by cases had; exact hown.cells (g := g) rfl, hone, hr, hm, hok⟩, hnc, hown⟩

theorem elemsOf_inv {m : Nat} {av : AV} {x : Value} {R : List AV → Res} {dst : Option Nat} (h : Mx c st.mem w imm) (hx : Rs w imm av x) (hK : aRes P tok dst (elemsOf st.mem m av R) K st) :
    ∃ es A cp xs, aRes P tok dst (R es) K st ∧ Src w imm m es x A cp xs := by
  unfold elemsOf at hK
  split at hK
  · rename_i m' es
    obtain ⟨rfl, hK⟩ := hK
    obtain ⟨A, cp, xs, hs, _⟩ := src_sl hx
    exact ⟨es, A, cp, xs, hK, hs⟩
  · rename_i k sv
    split at hK
    · rename_i sv' e m' es pub hk
      obtain ⟨⟨rfl, rfl⟩, hK⟩ := hK
      obtain ⟨A, cp, xs, hs, _⟩ := src_own h hk
      have := hx.own_inv
      subst this
      exact ⟨es, A, cp, xs, hK, hs⟩
    · exact hK.elim
  · have := hx.v_inv
    subst this
    exact ⟨[], none, 0, [], hK, ⟨rfl, by simp, by simp, by simp, by simp, by simp [flat], by simp, by simp⟩⟩
  · exact hK.elim

theorem wp_builtin {b : Builtin} {at_ : Array TypeId} {ty : TypeId} {cs : Array Bool} {args : Array Value} {s : Sem Value} (hb : builtin b at_ ty cs args = (do pure (Next.value (← s)))) :
    (invoke (.builtin b at_ ty cs) args).run P w = ((do pure (Next.value (← s))) : Sem Next).run P w := by
  simp only [invoke, hb]

theorem s_append {t t' ty : TypeId} {sv_ xv : AV} {s x : Value} (h : Rel c n st a w imm) (hd : ∀ d, o.dst = some d → d < n) (hK : aRes P tok o.dst (appRes P st t t' sv_ xv) K st) (hs : Rs w imm sv_ s) (hx : Rs w imm xv x) :
    o.upon P a (Go_on c n K) Q (((do pure (Next.value (← Builtin.append_ #[t, t'] ty #[s, x]))) : Sem Next).run P w) := by
  unfold appRes at hK
  split at hK
  · rename_i e hu
    split at hK
    · rename_i m by_ z hsz hby hz
      obtain ⟨i, hi, rfl, rfl, hzz⟩ := info_of_sz hsz hby hz
      split at hK
      · rename_i k sv
        split at hK
        · rename_i sv' e' m' es pub hk
          obtain ⟨⟨rfl, rfl, rfl, rfl, hzs⟩, hK⟩ := hK
          have := hs.own_inv
          subst this
          obtain ⟨news, A, cp, xn, hK, hsrc⟩ := elemsOf_inv h.mem hx hK
          obtain ⟨⟨h63, hbytes⟩, hK⟩ := hK
          obtain ⟨xs, hown, hm, hok, hr, hpl, hp, hq⟩ := h.mem.ok.ent k _ hk
          have hxv := hsrc.val
          subst hxv
          obtain ⟨v', w', hrun, hown', hg, hat, hsame⟩ := append_law (P := P) w c.B t ty e' i z hu hi hzz hzs s es.length xs hown A news.length cp xn hsrc.len hsrc.some_ hsrc.cell hsrc.one (by simp only [maxLen]; omega) hbytes h.mem.lt
          obtain ⟨i', hm', hk'⟩ := app_ent (pub := pub) h.mem hown' hown.1 hg hat hsame (fun y hy => (List.mem_append.1 hy).elim (hm y) (hsrc.cells y)) (fun y hy => (List.mem_append.1 hy).elim (hok y) (hsrc.ok y)) hr hsrc.rd hpl
            (fun g hg' => (hown.lt g hg').1) hp (fun j e2 b h1 h2 h3 h4 => h1 (h.mem.ok.apart j k e2 _ b h2 hk h3 h4.symm))
          rw [run_v hrun]
          have hv1 : v'.oneCell' = true := by
            rcases hown'.2 with ⟨rfl, _⟩ | ⟨g, cap, cur, rfl, _⟩ <;> rfl
          have hK2 : ∀ sv : Value, K (St.put ⟨st.env, upd st.mem k (some (.row sv e' i.size (es ++ news) pub))⟩ o.dst (.own k sv)) := by
            have := hK
            simp only [aRes, marks, hk] at this
            exact this
          exact ⟨_, i', hK2 v', h.step hk' hm' hd (.own k v' hv1)⟩
        · exact hK.elim
      · obtain ⟨⟨rfl, hzs⟩, hK⟩ := hK
        have := hs.v_inv
        subst this
        obtain ⟨news, A, cp, xn, hK, hsrc⟩ := elemsOf_inv h.mem hx hK
        obtain ⟨⟨h63, hbytes⟩, hK⟩ := hK
        have hxv := hsrc.val
        subst hxv
        obtain ⟨v', w', hrun, hown', hg, hat, hsame⟩ := append_law (P := P) w c.B t ty e i z hu hi hzz hzs (.slice none 0 0) 0 [] (World.ownsRow_nil w c.B e i.size) A news.length cp xn hsrc.len hsrc.some_ hsrc.cell hsrc.one (by simp only [maxLen]; omega) (by simpa using hbytes) h.mem.lt
        obtain ⟨i', hm', hk'⟩ := app_ent (k := tok) (es := []) (xs := []) (pub := 0) (sv := .slice none 0 0) h.mem (by simpa using hown') (by simp) hg hat (by simp [Value.ownBlock]) (by simpa using hsrc.cells) (by simpa using hsrc.ok) (by simp [flat]) hsrc.rd (by simp)
          (by simp [Value.ownBlock]) (by simp [Value.ownBlock]) (by simp [Value.ownBlock])
        rw [run_v hrun]
        have hv1 : v'.oneCell' = true := by
          rcases hown'.2 with ⟨rfl, _⟩ | ⟨g, cap, cur, rfl, _⟩ <;> rfl
        exact ⟨_, i', hK v', h.step hk' hm' hd (.own tok v' hv1)⟩
      · exact hK.elim
    · exact hK.elim
  · exact hK.elim

theorem s_copy {t ty u : TypeId} {dv xv : AV} {s x : Value} (h : Rel c n st a w imm) (hd : ∀ d, o.dst = some d → d < n) (hK : aRes P tok o.dst (copyRes P st t dv xv) K st) (hs : Rs w imm dv s) (hx : Rs w imm xv x) :
    o.upon P a (Go_on c n K) Q (((do pure (Next.value (← Builtin.copy_ #[t, u] ty #[s, x]))) : Sem Next).run P w) := by
  unfold copyRes at hK
  split at hK
  · rename_i e hu
    split at hK
    · rename_i m hsz
      split at hK
      · rename_i k sv
        split at hK
        · rename_i sv' e' m' es pub hk
          obtain ⟨⟨rfl, rfl, rfl, rfl⟩, hK⟩ := hK
          have := hs.own_inv
          subst this
          obtain ⟨news, A, cp, xn, hK, hsrc⟩ := elemsOf_inv h.mem hx hK
          have hxv := hsrc.val
          subst hxv
          obtain ⟨A2, cp2, xs, hsrc2, _, hown⟩ := src_own h.mem hk
          have hsv := hsrc2.val
          subst hsv
          have hq : min news.length es.length * m' ≤ xn.length := by rw [hsrc.len]; exact Nat.mul_le_mul_right _ (Nat.min_le_left _ _)
          -- the copied cells
          have hf : (Builtin.firstCells m' (min news.length es.length) (.slice A news.length cp)).run P w = .ok (xn.take (min news.length es.length * m')).toArray w := by
            cases A with
            | some ad =>
              refine run_firstCells_some (P := P) w m' _ ad _ _ _ (by rw [List.length_take]; omega) fun j v hv => ?_
              rw [List.getElem?_take] at hv
              split at hv
              · exact hsrc.cell ad rfl j v hv
              · cases hv
            | none =>
              have h0 : news.length = 0 := by rcases Nat.eq_zero_or_pos news.length with h1 | h1; exact h1; exact absurd rfl (hsrc.some_ h1)
              simp [Builtin.firstCells, h0]
          have hlen : (news.take es.length ++ es.drop news.length).length = es.length := by simp; omega
          have put : ∀ i2, Mx c st.mem w i2 → Keeps w imm w i2 → ∃ w', (match A2 with | some ad => storeCells ad (xn.take (min news.length es.length * m')) | none => pure ()).run P w = .ok () w' ∧ Mx c (upd st.mem k (some (.row (.slice A2 es.length cp2) e' m' (news.take es.length ++ es.drop news.length) 0))) w' i2 ∧ Keeps w i2 w' i2 := by
            intro i2 hm2 hk2
            rcases hown.2 with ⟨h1, h2⟩ | ⟨g, cap, cur, h1, h2⟩
            · have : es = [] := List.eq_nil_of_length_eq_zero h2
              subst this
              simp only [List.length_nil, Value.slice.injEq, true_and] at h1
              obtain ⟨rfl, rfl⟩ := h1
              refine ⟨w, rfl, ?_, Keeps.refl _ _⟩
              have e1 : upd st.mem k (some (.row (.slice none 0 0) e' m' [] 0)) = st.mem := by
                funext j
                rw [upd_at]
                split
                · subst_vars; rw [hk]; rfl
                · rfl
              simp only [List.length_nil, List.take_zero, List.drop_nil, List.append_nil]
              rw [e1]
              exact hm2
            · cases h1
              refine row_put hm2 hk (off := 0) (vs := xn.take (min news.length es.length * m')) hlen ?_ (by simp) (fun v hv => hsrc.one v (List.mem_of_mem_take hv)) ?_ ?_ fun j b hb => ?_
              · rw [List.length_take, Nat.zero_add]
                exact Nat.le_trans (Nat.min_le_left _ _) (Nat.mul_le_mul_right _ (Nat.min_le_right _ _))
              · intro y hy
                rcases List.mem_append.1 hy with hy | hy
                · exact hsrc.cells y (List.mem_of_mem_take hy)
                · exact hsrc2.cells y (List.mem_of_mem_drop hy)
              · intro y hy
                rcases List.mem_append.1 hy with hy | hy
                · exact hsrc.ok y (List.mem_of_mem_take hy)
                · exact hsrc2.ok y (List.mem_of_mem_drop hy)
              · have hl1 : (flat (news.take es.length)).length = min news.length es.length * m' := by
                  rw [flat_length fun y hy => hsrc.cells y (List.mem_of_mem_take hy), List.length_take, Nat.min_comm]
                have hl2 : (xn.take (min news.length es.length * m')).length = min news.length es.length * m' := by rw [List.length_take]; omega
                rw [flat_append] at hb
                rw [hl2]
                split
                · rename_i hc
                  rw [List.getElem?_append_left (by omega)] at hb
                  intro y hy
                  rw [Nat.sub_zero, List.getElem?_take, if_pos (by omega)] at hy
                  have hb2 : (flat news)[j]? = some b := by
                    have e1 : flat news = flat (news.take es.length) ++ flat (news.drop es.length) := by rw [← flat_append, List.take_append_drop]
                    rw [e1, List.getElem?_append_left (by omega)]
                    exact hb
                  exact hk2.rd (hsrc.rd j b y hb2 hy)
                · rename_i hc
                  rw [List.getElem?_append_right (by omega), hl1] at hb
                  have e1 : flat es = flat (es.take news.length) ++ flat (es.drop news.length) := by rw [← flat_append, List.take_append_drop]
                  have hl3 : (flat (es.take news.length)).length = min news.length es.length * m' := by
                    rw [flat_length fun y hy => hsrc2.cells y (List.mem_of_mem_take hy), List.length_take]
                  rw [e1, List.getElem?_append_right (by omega), hl3]
                  exact hb
          obtain ⟨w', hrun, _, _⟩ := put imm h.mem (Keeps.refl _ _)
          have hall : (Builtin.copy_ #[t, u] ty #[.slice A2 es.length cp2, .slice A news.length cp]).run P w = .ok (.int .i64 (min news.length es.length : Nat)) w' := by
            have hmin : Nat.min news.length es.length = min news.length es.length := rfl
            cases A2 with
            | none =>
              simp only [Sem.run_pure, Result.ok.injEq, true_and] at hrun
              subst hrun
              simp [Builtin.copy_, run_underlying hu, Builtin.lenOf, run_sizeOf' hsz, hmin, hf, goInt]
            | some ad => simp [Builtin.copy_, run_underlying hu, Builtin.lenOf, run_sizeOf' hsz, hmin, hf, goInt, hrun]
          rw [run_v hall]
          refine upon_sto h hd hK (.inl rfl) fun i' hm' hk' => ?_
          obtain ⟨w2, hrun2, hm2, hk2⟩ := put i' hm' hk'
          rw [hrun] at hrun2
          cases hrun2
          exact ⟨hm2, hk2, .pure (.v _)⟩
        · exact hK.elim
      · exact hK.elim
    · exact hK.elim
  · exact hK.elim

theorem s_make {t : TypeId} {lv cv : AV} {l cp : Value} (h : Rel c n st a w imm) (hd : ∀ d, o.dst = some d → d < n) (hK : aRes P tok o.dst (makeSliceRes P t lv cv) K st) (hl : Rs w imm lv l) (hc : Rs w imm cv cp) :
    o.upon P a (Go_on c n K) Q (((do pure (Next.value (← Instr.makeSlice t l cp))) : Sem Next).run P w) := by
  unfold makeSliceRes at hK
  split at hK
  · rename_i e kl nn kc cap hu
    split at hK
    · rename_i m by_ z hsz hby hz
      obtain ⟨i, hi, rfl, rfl, hzz⟩ := info_of_sz hsz hby hz
      obtain ⟨⟨h0, h1, h2, h3, hzl, hzok⟩, hK⟩ := hK
      have := hl.v_inv
      subst this
      have := hc.v_inv
      subst this
      obtain ⟨nn, rfl⟩ := Int.eq_ofNat_of_zero_le h0
      obtain ⟨cap, rfl⟩ := Int.eq_ofNat_of_zero_le (show 0 ≤ cap by omega)
      have hr := run_make (P := P) w t e i z hu hi hzz kl kc (nn : Int) (cap : Int) (by omega) (by omega) h3 h2
      simp only [Int.toNat_natCast] at hr hK
      rw [run_v hr]
      have hzc := (Rs.pure (Rd.v (w := w) (imm := imm) z))
      have hcs : ∀ (b : AV) (y : Value) (j : Nat), (AV.ofVal z).cells[j]? = some b → z.cells[j]? = some y → b = .v y := by
        intro b y j hb hy
        cases z <;> first
          | (simp only [AV.ofVal, AV.cells, Value.cells] at hb hy
             match j with
             | 0 => simp at hb hy; rw [← hb, ← hy]
             | j + 1 => simp at hb)
          | (simp only [AV.ofVal, AV.cells, Value.cells, List.getElem?_map, Array.getElem?_toList] at hb hy
             rw [hy] at hb
             simp at hb
             exact hb.symm)
      have hzsz : z.cells.size = i.size := by
        rw [← hzl]
        cases z <;> simp [AV.ofVal, AV.cells, Value.cells]
      refine upon_row (cap := cap) (vs := madeCells z.cells (cap * i.size)) (es := List.replicate nn (AV.ofVal z)) h hd hK (by simp; omega) (by simp only [maxLen]; omega) (by simp [madeCells]) (fun y hy => by rw [List.eq_of_mem_replicate hy]; exact hzl) (fun y hy => by rw [List.eq_of_mem_replicate hy]; exact hzok) ?_ |> (fun h => by simpa using h)
      intro imm' _ _ j b y hb hy
      have hm : ∀ x ∈ List.replicate nn (AV.ofVal z), x.cells.length = i.size := fun y hy => by rw [List.eq_of_mem_replicate hy]; exact hzl
      have hj : j < nn * i.size := by
        have := lt_of_get hb
        rwa [flat_length hm, List.length_replicate] at this
      have hm0 : 0 < i.size := by
        rcases Nat.eq_zero_or_pos i.size with h4 | h4
        · rw [h4] at hj; omega
        · exact h4
      have hdm : j = (j / i.size) * i.size + j % i.size := by rw [Nat.mul_comm]; exact (Nat.div_add_mod j i.size).symm
      have hq : j / i.size < nn := by rw [Nat.div_lt_iff_lt_mul hm0]; exact hj
      have hfg := flat_get hm (j / i.size) (j % i.size) (Nat.mod_lt _ hm0) (by simpa using hq)
      rw [← hdm, hb] at hfg
      rw [List.getD_eq_getElem?_getD, List.getElem?_replicate, if_pos hq] at hfg
      simp only [Option.getD_some] at hfg
      have hjc : j < cap * i.size := Nat.lt_of_lt_of_le hj (Nat.mul_le_mul_right _ (by omega))
      have hy2 : y = z.cells[j % i.size]! := by
        simp only [madeCells, hzsz] at hy
        rw [Array.getElem?_map, Array.getElem?_range, if_pos hjc] at hy
        simpa using hy.symm
      have hlt : j % i.size < z.cells.size := by rw [hzsz]; exact Nat.mod_lt _ hm0
      have := hcs b y (j % i.size) hfg.symm (by rw [hy2, Array.getElem?_eq_getElem hlt]; simp [hlt])
      rw [this]
      exact .v y
    · exact hK.elim
  · exact hK.elim

end
end Go.Pg
