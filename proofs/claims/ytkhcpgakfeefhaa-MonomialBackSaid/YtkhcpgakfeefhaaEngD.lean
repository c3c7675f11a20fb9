/- The engine, part D: how memory moves. -/
import Derived.Test.YtkhcpgakfeefhaaEngC
namespace Go.Pg
open Go Go.RowKit
set_option linter.unusedSimpArgs false
set_option linter.unusedVariables false

def Ent.len : Ent → Nat
  | .row _ _ m es _ => es.length * m
  | .box _ _ cs _ => cs.length
theorem Ent.mark_blk (e : Ent) : e.mark.blk = e.blk := by cases e <;> rfl

theorem EntOk.mark {B : Nat} {w : World} {imm imm' : Imm} {e : Ent} (h : EntOk B w imm e) (hi : ∀ ad, imm ad → imm' ad) (hs : ∀ ad, imm' ad → imm ad ∨ (e.blk = some ad.block → ad.off < e.len))
    (hall : ∀ g off, e.blk = some g → off < e.len → imm' ⟨g, off, none⟩) : EntOk B w imm' e.mark := by
  cases e with
  | row sv e m es pub =>
    obtain ⟨xs, hown, hm, hok, hr, hpl, hp, hq⟩ := h
    refine ⟨xs, hown, hm, hok, fun j a x h1 h2 => (hr j a x h1 h2).keep hi (fun _ _ => rfl), Nat.le_refl _, fun ad h1 h2 => ?_, fun g off h1 h2 => hall g off h1 h2⟩
    rcases hs ad h1 with h3 | h3
    · exact Nat.lt_of_lt_of_le (hp ad h3 h2) (Nat.mul_le_mul_right _ hpl)
    · exact h3 h2
  | box g e cs pub =>
    obtain ⟨cur, hh, hB, hl, hone, hr, hp, hq⟩ := h
    exact ⟨cur, hh, hB, hl, hone, fun j a x h1 h2 => (hr j a x h1 h2).keep hi (fun _ _ => rfl), fun _ _ _ => rfl, fun _ off h2 => hall g off rfl h2⟩

theorem mark_ok {c : Cx} {σ : Mem} {w : World} {imm : Imm} (h : Mx c σ w imm) (k : Nat) : ∃ imm', Mx c (mark σ k) w imm' ∧ Keeps w imm w imm' := by
  cases hk : σ k with
  | none =>
    have : mark σ k = σ := by
      funext j
      simp only [mark, upd_at, hk, Option.map_none]
      split
      · subst_vars; exact hk.symm
      · rfl
    rw [this]
    exact ⟨imm, h, Keeps.refl w imm⟩
  | some e =>
    have hlt := fun b hb => (h.ok.ent k e hk).blk_lt (b := b) hb
    let imm' : Imm := fun ad => imm ad ∨ (e.blk = some ad.block ∧ ad.off < e.len ∧ ad.spot = none)
    have hi : ∀ ad, imm ad → imm' ad := fun ad h1 => .inl h1
    refine ⟨imm', ⟨⟨fun j e' hj => ?_, fun j j' e1 e2 b h1 h2 h3 h4 => ?_, fun ad h1 => ?_, fun ad h1 => h1.elim (h.ok.spot ad) fun h2 => h2.2.2⟩, h.below, h.lt, fun ad h1 => .inl (h.old ad h1), fun ad h1 => ?_, h.cells⟩, fun ad h1 => ⟨.inl h1, rfl⟩⟩
    · simp only [mark, upd_at] at hj
      by_cases hjk : j = k
      · subst hjk
        rw [if_pos rfl, hk] at hj
        simp only [Option.map_some, Option.some.injEq] at hj
        subst hj
        exact (h.ok.ent _ e hk).mark hi (fun ad h1 => h1.imp id fun h2 _ => h2.2.1) (fun g off h1 h2 => .inr ⟨h1, h2, rfl⟩)
      · rw [if_neg hjk] at hj
        refine (h.ok.ent j e' hj).keep (World.grownBy.refl w none) ?_ hi (fun _ _ => rfl) fun ad h1 => ?_
        · rcases hb : e'.blk with _ | b
          · exact .inl rfl
          · exact .inr (by simp)
        · rcases h1 with h1 | ⟨h1, _⟩
          · exact .inl h1
          · exact .inr fun h2 => hjk (h.ok.apart j k e' e _ hj hk h2 h1)
    · have conv : ∀ (i : Nat) (e' : Ent), mark σ k i = some e' → ∃ e'', σ i = some e'' ∧ e''.blk = e'.blk := by
        intro i e' hi
        simp only [mark, upd_at] at hi
        by_cases hik : i = k
        · rw [if_pos hik, hk] at hi
          simp only [Option.map_some, Option.some.injEq] at hi
          exact ⟨e, hik ▸ hk, by rw [← hi, Ent.mark_blk]⟩
        · rw [if_neg hik] at hi
          exact ⟨e', hi, rfl⟩
      obtain ⟨a1, p1, q1⟩ := conv j e1 h1
      obtain ⟨a2, p2, q2⟩ := conv j' e2 h2
      exact h.ok.apart j j' a1 a2 b p1 p2 (q1.trans h3) (q2.trans h4)
    · rcases h1 with h1 | ⟨h1, _⟩
      · exact h.ok.lt ad h1
      · exact (hlt _ h1).2
    · rcases h1 with h1 | ⟨h1, _⟩
      · exact h.new ad h1
      · exact .inr (hlt _ h1).1

theorem marks_ok {c : Cx} {w : World} (ks : List Nat) : ∀ {σ : Mem} {imm : Imm}, Mx c σ w imm → ∃ imm', Mx c (marks σ ks) w imm' ∧ Keeps w imm w imm' := by
  induction ks with
  | nil => exact fun h => ⟨_, h, Keeps.refl w _⟩
  | cons k ks ih =>
    intro σ imm h
    obtain ⟨i1, h1, k1⟩ := mark_ok h k
    obtain ⟨i2, h2, k2⟩ := ih h1
    exact ⟨i2, h2, k1.trans k2⟩

/-! ### reading what is published -/
theorem row_rd {c : Cx} {σ : Mem} {w : World} {imm : Imm} (h : Mx c σ w imm) {k : Nat} {sv : Value} {e : TypeId} {m : Nat} {es : List AV} {pub : Nat} (hk : σ k = some (.row sv e m es pub)) (hp : pub = es.length) :
    Rd w imm (.sl m es) sv := by
  obtain ⟨xs, hown, hm, hok, hr, hpl, _, hq⟩ := h.ok.ent k _ hk
  have hfl : (flat es).length = es.length * m := by
    have : ∀ l : List AV, (∀ x ∈ l, x.cells.length = m) → (flat l).length = l.length * m := by
      intro l
      induction l with
      | nil => intro _; simp [flat]
      | cons a r ih =>
        intro hl
        have h1 := ih fun x hx => hl x (List.mem_cons_of_mem _ hx)
        have h2 := hl a (List.mem_cons_self ..)
        simp only [flat, List.flatMap_cons, List.length_append, List.length_cons] at h1 ⊢
        rw [h1, h2, Nat.add_mul, Nat.one_mul, Nat.add_comm]
    exact this es hm
  rcases hown.2 with ⟨rfl, hn⟩ | ⟨g, cap, cur, rfl, hB, hh, hnc, hcm, hcs, htake⟩
  · have : es = [] := List.eq_nil_of_length_eq_zero hn
    subst this
    exact .sl m [] none 0 (fun _ => undef) (by simp) (by simp) (by simp) (by simp) (by simp) (by simp [flat])
  · refine .sl m es (some ⟨g, 0, none⟩) cap (fun j => xs.getD j undef) hm hok hnc (by simp) (fun j hj => ?_) (fun j a ha => ?_)
    · have hx : j < xs.length := by rw [hown.1]; exact hj
      refine ⟨_, rfl, ?_, ?_⟩
      · rw [Addr.add_lit, Nat.zero_add]
        exact hq g j rfl (by rw [hp]; exact hj)
      · rw [Addr.add_lit, Nat.zero_add, hown.cellAt j hj, List.getElem?_eq_getElem hx]
        simp [List.getD_eq_getElem?_getD, List.getElem?_eq_getElem hx]
    · have hj : j < xs.length := by
        rw [hown.1, ← hfl]
        rcases Nat.lt_or_ge j (flat es).length with h1 | h1
        · exact h1
        · rw [List.getElem?_eq_none h1] at ha; cases ha
      have := hr j a xs[j] ha (List.getElem?_eq_getElem hj)
      simpa [List.getD_eq_getElem?_getD, List.getElem?_eq_getElem hj] using this

theorem leaf_rd {c : Cx} {σ : Mem} {w : World} {imm : Imm} (h : Mx c σ w imm) {a : AV} {x : Value} (hr : Rs w imm a x) (ho : leafOk σ a) : Rd w imm (leafV σ a) x := by
  cases a with
  | own k sv =>
    have hx := hr.own_inv
    subst hx
    simp only [leafOk, leafV] at ho ⊢
    split at ho
    · rename_i sv' e m es pub hk
      obtain ⟨rfl, hp⟩ := ho
      exact row_rd h hk hp
    · exact ho.elim
  | v y => cases hr with | pure h => exact h
  | sl m es => cases hr with | pure h => exact h
  | pimm cs => cases hr with | pure h => exact h
  | u => exact .u x
  | _ => simp [leafOk] at ho

theorem leaves_at {σ : Mem} : ∀ {l : List AV}, leavesOk σ l → ∀ (j : Nat) (a : AV), l[j]? = some a → leafOk σ a
  | [], _, j, a, h => by simp at h
  | b :: r, ho, 0, a, h => by simp at h; subst h; exact ho.1
  | b :: r, ho, j + 1, a, h => leaves_at ho.2 j a (by simpa using h)

theorem pubLV_at {σ : Mem} : ∀ {l : List AV} (j : Nat) (a : AV), (pubLV σ l)[j]? = some a → ∃ b, l[j]? = some b ∧ a = pubV σ b
  | [], j, a, h => by simp [pubLV] at h
  | b :: r, 0, a, h => by simp [pubLV] at h; exact ⟨b, rfl, h.symm⟩
  | b :: r, j + 1, a, h => pubLV_at (l := r) j a (by simpa [pubLV] using h)
theorem pubLOk_at {σ : Mem} : ∀ {l : List AV}, pubLOk σ l → ∀ (j : Nat) (a : AV), l[j]? = some a → pubOk σ a
  | [], _, j, a, h => by simp at h
  | b :: r, ho, 0, a, h => by simp at h; subst h; exact ho.1
  | b :: r, ho, j + 1, a, h => pubLOk_at (l := r) ho.2 j a (by simpa using h)
theorem pubLV_length (σ : Mem) : ∀ l : List AV, (pubLV σ l).length = l.length
  | [] => rfl
  | a :: r => by simp [pubLV, pubLV_length σ r]

theorem pub_rd {c : Cx} {σ : Mem} {w : World} {imm : Imm} (h : Mx c σ w imm) {a : AV} {x : Value} (hr : Rs w imm a x) (ho : pubOk σ a) : Rd w imm (pubV σ a) x := by
  induction hr with
  | pure hr =>
    rename_i a x
    -- what is pure already is read as it stands, part by part
    induction hr with
    | v x => exact .v x
    | u x => exact .u x
    | sl m es A cap f hm hok hcap hn hA hr _ => exact .sl m es A cap f hm hok hcap hn hA hr
    | agg cs vs hl hr ih =>
      refine .agg _ vs (by rw [pubLV_length]; exact hl) fun j a x h1 h2 => ?_
      obtain ⟨b, hb, rfl⟩ := pubLV_at j a h1
      exact ih j b x hb h2 (pubLOk_at ho j b hb)
    | tup cs vs hl hr ih =>
      refine .tup _ vs (by rw [pubLV_length]; exact hl) fun j a x h1 h2 => ?_
      obtain ⟨b, hb, rfl⟩ := pubLV_at j a h1
      exact ih j b x hb h2 (pubLOk_at ho j b hb)
    | pimm cs ad f hA hr _ => exact .pimm cs ad f hA hr
    | fn f cs vs hl hr ih =>
      refine .fn f _ vs (by rw [pubLV_length]; exact hl) fun j a x h1 h2 => ?_
      obtain ⟨b, hb, rfl⟩ := pubLV_at j a h1
      exact ih j b x hb h2 (pubLOk_at ho j b hb)
    | ifc t a x _ ih => exact .ifc t _ x (ih ho)
  | own k sv h1 =>
    have := leaf_rd h (Rs.own k sv h1) ho
    exact this
  | prow k sv m i off g n c h => exact ho.elim
  | pbox k g off =>
    simp only [pubOk, pubV] at ho ⊢
    split at ho
    · rename_i g' e cs pub hk
      obtain ⟨rfl, rfl, hoff, hl⟩ := ho
      obtain ⟨cur, hh, hB, hlen, hone, hrs, _, hq⟩ := h.ok.ent k _ hk
      refine .pimm _ ⟨g, off, none⟩ (fun j => cur.getD (off + j) undef) (fun j hj => ?_) (fun j a ha => ?_)
      · simp only [List.length_drop, List.length_map] at hj
        rw [Addr.add_lit]
        refine ⟨hq rfl _ (by omega), ?_⟩
        rw [cell_of_row w g (off + j) cur e (0, 0) hh]
        have : off + j < cur.size := by omega
        simp [Array.getD_eq_getD_getElem?, Array.getElem?_eq_getElem this]
      · rw [List.getElem?_drop, List.getElem?_map] at ha
        rcases hb : cs[off + j]? with _ | b
        · rw [hb] at ha; cases ha
        · rw [hb] at ha
          simp only [Option.map_some, Option.some.injEq] at ha
          subst ha
          have hlt : off + j < cur.size := by
            rw [← hlen]
            rcases Nat.lt_or_ge (off + j) cs.length with h1 | h1
            · exact h1
            · rw [List.getElem?_eq_none h1] at hb; cases hb
          have h2 := hrs (off + j) b cur[off + j] hb (Array.getElem?_eq_getElem hlt)
          have h3 := leaf_rd h h2 (leaves_at hl (off + j) b hb)
          simpa [Array.getD_eq_getD_getElem?, Array.getElem?_eq_getElem hlt] using h3
    · exact ho.elim
  | agg cs vs hl hr ih =>
    refine .agg _ vs (by rw [pubLV_length]; exact hl) fun j a x h1 h2 => ?_
    obtain ⟨b, hb, rfl⟩ := pubLV_at j a h1
    exact ih j b x hb h2 (pubLOk_at ho j b hb)
  | tup cs vs hl hr ih =>
    refine .tup _ vs (by rw [pubLV_length]; exact hl) fun j a x h1 h2 => ?_
    obtain ⟨b, hb, rfl⟩ := pubLV_at j a h1
    exact ih j b x hb h2 (pubLOk_at ho j b hb)
  | fn f cs vs hl hr ih =>
    refine .fn f _ vs (by rw [pubLV_length]; exact hl) fun j a x h1 h2 => ?_
    obtain ⟨b, hb, rfl⟩ := pubLV_at j a h1
    exact ih j b x hb h2 (pubLOk_at ho j b hb)
  | ifc t a x _ ih => exact .ifc t _ x (ih ho)

end Go.Pg
