/- The engine, part E: one operation's meaning. -/
import Derived.Test.YtkhcpgakfeefhaaEngD
namespace Go.Pg
open Go Go.RowKit
set_option linter.unusedSimpArgs false
set_option linter.unusedVariables false

theorem mem_put' {c : Cx} {σ : Mem} {w w' : World} {imm imm' : Imm} (h : Mx c σ w imm) {row : Option Nat} (hg : w.grownBy w' row) (hB : ∀ g, row = some g → c.B ≤ g) (hcell : ∀ ad, imm ad → w'.cell? ad = w.cell? ad)
    (k : Nat) (e' : Ent) (he : EntOk c.B w' imm' e') (hi : ∀ ad, imm ad → imm' ad) (hnew : ∀ ad, imm' ad → imm ad ∨ (e'.blk = some ad.block ∧ ad.spot = none))
    (hoth : ∀ j e2 b, j ≠ k → σ j = some e2 → e2.blk = some b → some b ≠ row ∧ e'.blk ≠ some b) : Mx c (upd σ k (some e')) w' imm' ∧ Keeps w imm w' imm' := by
  refine ⟨⟨⟨fun j e2 hj => ?_, fun j j' e1 e2 b h1 h2 h3 h4 => ?_, fun ad h1 => ?_, fun ad h1 => (hnew ad h1).elim (h.ok.spot ad) fun h2 => h2.2⟩, h.below.grown hg h.lt (fun g hg' => hB g hg'), Nat.le_trans h.lt hg.size, fun ad h1 => hi _ (h.old ad h1), fun ad h1 => ?_, fun ad h1 => (hcell ad (h.old ad h1)).trans (h.cells ad h1)⟩, fun ad h1 => ⟨hi _ h1, hcell ad h1⟩⟩
  · rw [upd_at] at hj
    by_cases hjk : j = k
    · rw [if_pos hjk] at hj
      simp only [Option.some.injEq] at hj
      exact hj ▸ he
    · rw [if_neg hjk] at hj
      refine (h.ok.ent j e2 hj).keep hg ?_ hi hcell fun ad h1 => ?_
      · rcases hb : e2.blk with _ | b
        · exact .inl rfl
        · exact .inr (hoth j e2 b hjk hj hb).1
      · rcases hnew ad h1 with h2 | h2
        · exact .inl h2
        · exact .inr fun h3 => (hoth j e2 _ hjk hj h3).2 h2.1
  · rw [upd_at] at h1 h2
    by_cases hjk : j = k <;> by_cases hjk' : j' = k
    · rw [hjk, hjk']
    · rw [if_pos hjk] at h1; rw [if_neg hjk'] at h2
      simp only [Option.some.injEq] at h1
      exact absurd (h1 ▸ h3) (hoth j' e2 b hjk' h2 h4).2
    · rw [if_neg hjk] at h1; rw [if_pos hjk'] at h2
      simp only [Option.some.injEq] at h2
      exact absurd (h2 ▸ h4) (hoth j e1 b hjk h1 h3).2
    · rw [if_neg hjk] at h1; rw [if_neg hjk'] at h2
      exact h.ok.apart j j' e1 e2 b h1 h2 h3 h4
  · rcases hnew ad h1 with h2 | h2
    · exact Nat.lt_of_lt_of_le (h.ok.lt ad h2) hg.size
    · exact (he.blk_lt h2.1).2
  · rcases hnew ad h1 with h2 | h2
    · exact h.new ad h2
    · exact .inr (he.blk_lt h2.1).1
theorem mem_put {c : Cx} {σ : Mem} {w w' : World} {imm : Imm} (h : Mx c σ w imm) {row : Option Nat} (hg : w.grownBy w' row) (hB : ∀ g, row = some g → c.B ≤ g) (hcell : ∀ ad, imm ad → w'.cell? ad = w.cell? ad)
    (k : Nat) (e' : Ent) (he : EntOk c.B w' imm e') (hoth : ∀ j e2 b, j ≠ k → σ j = some e2 → e2.blk = some b → some b ≠ row ∧ e'.blk ≠ some b) : Mx c (upd σ k (some e')) w' imm ∧ Keeps w imm w' imm :=
  mem_put' h hg hB hcell k e' he (fun _ h1 => h1) (fun _ h1 => .inl h1) hoth

theorem flat_length {m : Nat} : ∀ {l : List AV}, (∀ x ∈ l, x.cells.length = m) → (flat l).length = l.length * m
  | [], _ => by simp [flat]
  | a :: r, hl => by
    have h1 := flat_length (l := r) fun x hx => hl x (List.mem_cons_of_mem _ hx)
    have h2 := hl a (List.mem_cons_self ..)
    simp only [flat, List.flatMap_cons, List.length_append, List.length_cons] at h1 ⊢
    rw [h1, h2, Nat.add_mul, Nat.one_mul, Nat.add_comm]
theorem flat_append (a b : List AV) : flat (a ++ b) = flat a ++ flat b := by simp [flat]

/-- What append leaves, as an entry. `old`: the row before (none: the nil slice). -/
theorem app_ent {c : Cx} {σ : Mem} {w w' : World} {imm : Imm} (h : Mx c σ w imm) {k : Nat} {sv v' : Value} {e : TypeId} {m : Nat} {es news : List AV} {xs xn : List Value} {pub : Nat}
    (hown' : w'.ownsRow c.B e m v' (es.length + news.length) (xs ++ xn)) (hxl : xs.length = es.length * m)
    (hg : w.grownBy w' sv.ownBlock) (hat : v'.ownBlock = sv.ownBlock ∨ v'.ownBlock = some w.heap.size)
    (hsame : ∀ g j, sv.ownBlock = some g → j < es.length * m → w'.cell? ⟨g, j, none⟩ = w.cell? ⟨g, j, none⟩)
    (hm : ∀ x ∈ es ++ news, x.cells.length = m) (hok : ∀ x ∈ es ++ news, x.ok = true)
    (hr1 : ∀ (j : Nat) (a : AV) (x : Value), (flat es)[j]? = some a → xs[j]? = some x → Rd w imm a x) (hr2 : ∀ (j : Nat) (a : AV) (x : Value), (flat news)[j]? = some a → xn[j]? = some x → Rd w imm a x)
    (hpl : pub ≤ es.length) (hB : ∀ g, sv.ownBlock = some g → c.B ≤ g) (hp : ∀ ad, imm ad → sv.ownBlock = some ad.block → ad.off < pub * m)
    (hoth : ∀ j e2 b, j ≠ k → σ j = some e2 → e2.blk = some b → some b ≠ sv.ownBlock) :
    ∃ imm', Mx c (upd σ k (some (.row v' e m (es ++ news) pub))) w' imm' ∧ Keeps w imm w' imm' := by
  have hpm : pub * m ≤ es.length * m := Nat.mul_le_mul_right _ hpl
  have hcell : ∀ ad, imm ad → w'.cell? ad = w.cell? ad := by
    intro ad h1
    by_cases hb : sv.ownBlock = some ad.block
    · have hs := h.ok.spot ad h1
      have := hsame ad.block ad.off hb (Nat.lt_of_lt_of_le (hp ad h1 hb) hpm)
      obtain ⟨b, o, s⟩ := ad
      simp only at hs
      subst hs
      exact this
    · exact grown_cell hg (h.ok.lt ad h1) (fun h2 => hb h2.symm)
  let imm' : Imm := fun ad => imm ad ∨ (v'.ownBlock = some ad.block ∧ ad.off < pub * m ∧ ad.spot = none)
  have hi : ∀ ad, imm ad → imm' ad := fun ad h1 => .inl h1
  have hk : ∀ (a : AV) (x : Value), Rd w imm a x → Rd w' imm' a x := fun a x hr => hr.keep hi hcell
  have hfl : (flat es).length = es.length * m := flat_length fun x hx => hm x (List.mem_append_left _ hx)
  refine ⟨imm', mem_put' h hg hB hcell k _ ⟨xs ++ xn, by rw [List.length_append]; exact hown', hm, hok, fun j a x h1 h2 => ?_, by simp; omega, fun ad h1 h2 => ?_, fun g off h1 h2 => .inr ⟨h1, h2, rfl⟩⟩ hi (fun ad h1 => h1.imp id fun h2 => ⟨h2.1, h2.2.2⟩) fun j e2 b h1 h2 h3 => ⟨hoth j e2 b h1 h2 h3, ?_⟩⟩
  · rw [flat_append] at h1
    rcases Nat.lt_or_ge j (es.length * m) with hlt | hge
    · rw [List.getElem?_append_left (by rw [hfl]; exact hlt)] at h1
      rw [List.getElem?_append_left (by rw [hxl]; exact hlt)] at h2
      exact hk a x (hr1 j a x h1 h2)
    · rw [List.getElem?_append_right (by rw [hfl]; exact hge), hfl] at h1
      rw [List.getElem?_append_right (by rw [hxl]; exact hge), hxl] at h2
      exact hk a x (hr2 _ a x h1 h2)
  · rcases h1 with h1 | h1
    · rcases hat with h3 | h3
      · exact hp ad h1 (h3.symm.trans h2)
      · have := h.ok.lt ad h1
        rw [h3] at h2
        simp only [Option.some.injEq] at h2
        omega
    · exact h1.2.1
  · simp only [Ent.blk]
    rcases hat with h4 | h4
    · rw [h4]; exact fun h5 => hoth j e2 b h1 h2 h3 h5.symm
    · rw [h4]
      have := (h.ok.ent j e2 h2).blk_lt h3
      simp only [ne_eq, Option.some.injEq]
      omega

/-- Where a rest goes on. -/
def Go_on (c : Cx) (n : Nat) (K : St → Prop) : Act → World → Prop := fun a w => ∃ st imm, K st ∧ Rel c n st a w imm

section
variable {P : Program} {c : Cx} {n tok : Nat} {st : St} {a : Act} {w : World} {imm : Imm} {K : St → Prop} {o : Oper} {Q : Exit → Act → World → Prop}

theorem upon_val {av : AV} {ks : List Nat} {x : Value} (h : Rel c n st a w imm) (hd : ∀ d, o.dst = some d → d < n) (hK : aRes P tok o.dst (.val av ks) K st)
    (hx : ∀ imm', Mx c (marks st.mem ks) w imm' → Keeps w imm w imm' → Rs w imm' av x) : o.upon P a (Go_on c n K) Q (.ok (.value x) w) := by
  obtain ⟨i', hm, hk⟩ := marks_ok ks h.mem
  exact ⟨_, i', hK, h.step hk hm hd (hx i' hm hk)⟩

theorem upon_box {e : TypeId} {cs : List AV} {vs : Array Value} (h : Rel c n st a w imm) (hd : ∀ d, o.dst = some d → d < n) (hK : aRes P tok o.dst (.box e cs) K st)
    (hl : cs.length = vs.size) (hone : ∀ x ∈ cs, x.one = true) (hr : ∀ (j : Nat) (a : AV) (x : Value), cs[j]? = some a → vs[j]? = some x → Rs w imm a x) :
    o.upon P a (Go_on c n K) Q (.ok (.value (.pointer (some ⟨w.heap.size, 0, none⟩))) (w.alloc (.cells vs e))) := by
  have hcell : ∀ ad, imm ad → (w.alloc (.cells vs e)).cell? ad = w.cell? ad := fun ad h1 => World.cell?_alloc_lt w _ ad (h.mem.ok.lt ad h1)
  have hkeep : Keeps w imm (w.alloc (.cells vs e)) imm := fun ad h1 => ⟨h1, hcell ad h1⟩
  obtain ⟨hm, hk⟩ := mem_put h.mem (World.grownBy_alloc w (.cells vs e) none) (by simp) hcell tok (.box w.heap.size e cs false)
    ⟨vs, heap_alloc_new w _, h.mem.lt, hl, hone, fun j a x h1 h2 => hkeep.rs (hr j a x h1 h2), fun ad h1 h2 => absurd (h.mem.ok.lt ad h1) (by omega), fun h1 => by cases h1⟩
    (fun j e2 b _ hj hb => ⟨by simp, by have := (h.mem.ok.ent j e2 hj).blk_lt hb; simp [Ent.blk]; omega⟩)
  exact ⟨_, imm, hK w.heap.size, h.step hk hm hd (.pbox tok w.heap.size 0)⟩

theorem upon_row' {e : TypeId} {m : Nat} {es : List AV} {ks : List Nat} {vs : Array Value} {cap : Nat} {i' : Imm} (h : Rel c n st a w imm) (hd : ∀ d, o.dst = some d → d < n) (hK : aRes P tok o.dst (.row e m es ks) K st)
    (hmx : Mx c (marks st.mem ks) w i') (hk1 : Keeps w imm w i')
    (hcap : es.length ≤ cap) (hmax : cap ≤ maxLen) (hsz : vs.size = cap * m) (hm : ∀ x ∈ es, x.cells.length = m) (hok : ∀ x ∈ es, x.ok = true)
    (hr : ∀ (j : Nat) (a : AV) (x : Value), (flat es)[j]? = some a → vs[j]? = some x → Rd w i' a x) :
    o.upon P a (Go_on c n K) Q (.ok (.value (.slice (some ⟨w.heap.size, 0, none⟩) es.length cap)) (w.alloc (.cells vs e))) := by
  have hcell : ∀ ad, i' ad → (w.alloc (.cells vs e)).cell? ad = w.cell? ad := fun ad h1 => World.cell?_alloc_lt w _ ad (hmx.ok.lt ad h1)
  have hkeep : Keeps w i' (w.alloc (.cells vs e)) i' := fun ad h1 => ⟨h1, hcell ad h1⟩
  have hle : es.length * m ≤ cap * m := Nat.mul_le_mul_right _ hcap
  obtain ⟨hmm, hk⟩ := mem_put hmx (World.grownBy_alloc w (.cells vs e) none) (by simp) hcell tok (.row (.slice (some ⟨w.heap.size, 0, none⟩) es.length cap) e m es 0)
    ⟨vs.toList.take (es.length * m), ⟨by rw [List.length_take, show vs.toList.length = cap * m by rw [← hsz]; rfl]; exact Nat.min_eq_left hle, .inr ⟨w.heap.size, cap, vs, rfl, hmx.lt, heap_alloc_new w _, hcap, hmax, hsz, rfl⟩⟩, hm, hok,
      fun j a x h1 h2 => hkeep.rd (hr j a x h1 (by
        rw [List.getElem?_take] at h2
        split at h2
        · simpa using h2
        · cases h2)), Nat.zero_le _, fun ad h1 h2 => by
          have := hmx.ok.lt ad h1
          simp [Value.ownBlock] at h2
          omega, fun g off _ h2 => by simp at h2⟩
    (fun j e2 b _ hj hb => ⟨by simp, by have := (hmx.ok.ent j e2 hj).blk_lt hb; simp [Ent.blk, Value.ownBlock]; omega⟩)
  exact ⟨_, i', hK _, h.step (hk1.trans hk) hmm hd (.own tok _ rfl)⟩

theorem upon_row {e : TypeId} {m : Nat} {es : List AV} {ks : List Nat} {vs : Array Value} {cap : Nat} (h : Rel c n st a w imm) (hd : ∀ d, o.dst = some d → d < n) (hK : aRes P tok o.dst (.row e m es ks) K st)
    (hcap : es.length ≤ cap) (hmax : cap ≤ maxLen) (hsz : vs.size = cap * m) (hm : ∀ x ∈ es, x.cells.length = m) (hok : ∀ x ∈ es, x.ok = true)
    (hr : ∀ imm', Mx c (marks st.mem ks) w imm' → Keeps w imm w imm' → ∀ (j : Nat) (a : AV) (x : Value), (flat es)[j]? = some a → vs[j]? = some x → Rd w imm' a x) :
    o.upon P a (Go_on c n K) Q (.ok (.value (.slice (some ⟨w.heap.size, 0, none⟩) es.length cap)) (w.alloc (.cells vs e))) := by
  obtain ⟨i', hmx, hk1⟩ := marks_ok ks h.mem
  exact upon_row' h hd hK hmx hk1 hcap hmax hsz hm hok (hr i' hmx hk1)

theorem upon_sto {av : AV} {k : Nat} {ent : Ent} {ks : List Nat} {nx : Next} {x : Value} {w' : World} (h : Rel c n st a w imm) (hd : ∀ d, o.dst = some d → d < n) (hK : aRes P tok o.dst (.sto av k ent ks) K st)
    (hnx : nx = .value x ∨ (nx = .skip ∧ x = undef))
    (hm : ∀ imm', Mx c (marks st.mem ks) w imm' → Keeps w imm w imm' → Mx c (upd (marks st.mem ks) k (some ent)) w' imm' ∧ Keeps w imm' w' imm' ∧ Rs w' imm' av x) :
    o.upon P a (Go_on c n K) Q (.ok nx w') := by
  obtain ⟨i', hmx, hk1⟩ := marks_ok ks h.mem
  obtain ⟨h1, h2, h3⟩ := hm i' hmx hk1
  rcases hnx with rfl | ⟨rfl, rfl⟩
  · exact ⟨_, i', hK, h.step (hk1.trans h2) h1 hd h3⟩
  · exact ⟨_, i', hK, h.step (hk1.trans h2) h1 hd h3⟩

theorem upon_call {f : FuncId} {args : List AV} {vs : Array Value} (h : Rel c n st a w imm) (hd : ∀ d, o.dst = some d → d < n) (hK : aRes P tok o.dst (.call f args) K st)
    (hl : args.length = vs.size) (hr : ∀ (j : Nat) (a : AV) (x : Value), args[j]? = some a → vs[j]? = some x → Rs w imm a x) :
    o.upon P a (Go_on c n K) Q (.ok (.enter f vs) w) := by
  refine (hK.2 c w imm vs h.mem hl hr).mono fun e w' he => ?_
  obtain ⟨r, σ', imm', x, rfl, hR, hx, hm, hk⟩ := he
  exact ⟨_, imm', hR, h.step hk hm hd hx⟩
end

end Go.Pg
