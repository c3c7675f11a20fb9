/- The engine, part R: regions that draw their order. -/
import Derived.Test.YtkhcpgakfeefhaaEngQ
namespace Go.Pg
open Go Go.RowKit
set_option linter.unusedSimpArgs false
set_option linter.unusedVariables false

/-! ### operations that look at no memory of the call's own -/
def merge (σ σ' : Mem) : Mem := fun k => match σ' k with
  | some e => some e
  | none => σ k

theorem EntOk.lower {B B' : Nat} {w : World} {imm : Imm} {e : Ent} (h : EntOk B w imm e) (hB : B' ≤ B) : EntOk B' w imm e := by
  cases e with
  | row sv e m es pub =>
    obtain ⟨xs, hown, hrest⟩ := h
    refine ⟨xs, ⟨hown.1, ?_⟩, hrest⟩
    rcases hown.2 with h1 | ⟨g, cap, cur, h1, h2, h3⟩
    · exact .inl h1
    · exact .inr ⟨g, cap, cur, h1, by omega, h3⟩
  | box g e cs pub =>
    obtain ⟨cur, h1, h2, h3⟩ := h
    exact ⟨cur, h1, by omega, h3⟩

section
variable {P : Program} {c : Cx} {n tok : Nat} {st : St} {a : Act} {w : World} {imm : Imm} {K : St → Prop} {o : Oper} {Q : Exit → Act → World → Prop}

theorem calm_sound (h : Rel c n st a w imm) (hd : ∀ d, o.dst = some d → d < n)
    (hK : aRes P tok o.dst (opRes P ⟨st.env, noMem⟩ o.op) (fun st' => K ⟨st'.env, merge st.mem st'.mem⟩) ⟨st.env, noMem⟩) : o.wp P a w (Go_on c n K) Q := by
  have hrel : Rel ⟨w.heap.size, w, imm⟩ n ⟨st.env, noMem⟩ a w imm :=
    ⟨h.env, h.size, h.defers, ⟨⟨fun k e hk => by simp [noMem] at hk, fun k k' e e' b hk => by simp [noMem] at hk, h.mem.ok.lt, h.mem.ok.spot⟩, Below.refl _ _, Nat.le_refl _, fun _ h1 => h1, fun _ h1 => .inl h1, fun _ _ => rfl⟩⟩
  refine Oper.wp_mono (fun a' w' hg => ?_) (op_sound hrel hd hK)
  obtain ⟨st', imm', hk, hr⟩ := hg
  have hb := hr.mem.below
  have hgr : w.grownBy w' none := ⟨hb.os, hb.tape, hb.output, hb.size, fun k hk _ => hb.block k hk⟩
  have hi : ∀ ad, imm ad → imm' ad := hr.mem.old
  have hcell : ∀ ad, imm ad → w'.cell? ad = w.cell? ad := hr.mem.cells
  have hold : ∀ k e, st.mem k = some e → EntOk c.B w' imm' e := by
    intro k e hk
    refine (h.mem.ok.ent k e hk).keep hgr ?_ hi hcell fun ad h1 => ?_
    · rcases hbk : e.blk with _ | b
      · exact .inl rfl
      · exact .inr (by simp)
    · rcases hr.mem.new ad h1 with h2 | h2
      · exact .inl h2
      · refine .inr fun h3 => ?_
        have := ((h.mem.ok.ent k e hk).blk_lt h3).2
        simp only at h2
        omega
  have hnewb : ∀ k e b, st'.mem k = some e → e.blk = some b → w.heap.size ≤ b := fun k e b hk he => ((hr.mem.ok.ent k e hk).blk_lt he).1
  have holdb : ∀ k e b, st.mem k = some e → e.blk = some b → b < w.heap.size := fun k e b hk he => ((h.mem.ok.ent k e hk).blk_lt he).2
  refine ⟨_, imm', hk, hr.env, hr.size, hr.defers, ⟨⟨fun k e hk => ?_, fun k k' e e' b hk hk' he he' => ?_, hr.mem.ok.lt, hr.mem.ok.spot⟩, h.mem.below.trans (hb.mono h.mem.lt), Nat.le_trans h.mem.lt hb.size, fun ad h1 => hi _ (h.mem.old ad h1), fun ad h1 => ?_, fun ad h1 => (hcell ad (h.mem.old ad h1)).trans (h.mem.cells ad h1)⟩⟩
  · simp only [merge] at hk
    split at hk
    · rename_i e' he'
      cases hk
      exact (hr.mem.ok.ent k _ he').lower h.mem.lt
    · exact hold k e hk
  · simp only [merge] at hk hk'
    split at hk <;> split at hk'
    · rename_i _ e1 h1 _ e2 h2
      cases hk; cases hk'
      exact hr.mem.ok.apart k k' _ _ b h1 h2 he he'
    · rename_i _ e1 h1 _ h2
      cases hk
      have := hnewb k _ b h1 he
      have := holdb k' _ b hk' he'
      omega
    · rename_i _ h1 _ e2 h2
      cases hk'
      have := hnewb k' _ b h2 he'
      have := holdb k _ b hk he
      omega
    · exact h.mem.ok.apart k k' _ _ b hk hk' he he'
  · rcases hr.mem.new ad h1 with h2 | h2
    · exact h.mem.new ad h2
    · exact .inr (Nat.le_trans h.mem.lt h2)
end

/-! ### what such an operation comes to -/
inductive Out where
  | val (a : AV)
  | box (e : TypeId) (cs : List AV)
  | row (e : TypeId) (m : Nat) (es : List AV)
def resOut (r0 : AV) : Res → Option Out
  | .val a [] => some (.val a)
  | .need _ r => resOut r0 r
  | .box e cs => some (.box e cs)
  | .row e m es [] => some (.row e m es)
  | .call _ _ => some (.val r0)
  | _ => none
def resNeed (P : Program) (r0 : AV) : Res → Prop
  | .val _ [] => True
  | .need p r => p ∧ resNeed P r0 r
  | .box _ _ => True
  | .row _ _ _ [] => True
  | .call f args => AV.toksL args = [] ∧ pubLOk noMem args ∧ Pure P f (pubLV noMem args) r0
  | _ => False
def outK (tok : Nat) (dst : Option Nat) : Out → (St → Prop) → St → Prop
  | .val a, K, st => K (St.put st dst a)
  | .box e cs, K, st => ∀ g : Nat, K (St.put ⟨st.env, upd st.mem tok (some (.box g e cs false))⟩ dst (.pbox tok g 0))
  | .row e m es, K, st => ∀ sv : Value, K (St.put ⟨st.env, upd st.mem tok (some (.row sv e m es 0))⟩ dst (.own tok sv))
def optK (tok : Nat) (dst : Option Nat) (o : Option Out) (K : St → Prop) (st : St) : Prop :=
  match o with
  | some out => outK tok dst out K st
  | none => False

theorem merge_none (σ : Mem) : merge σ noMem = σ := rfl
theorem merge_upd (σ : Mem) (k : Nat) (e : Ent) : merge σ (upd noMem k (some e)) = upd σ k (some e) := by
  funext j
  simp only [merge, upd_at]
  by_cases h : j = k
  · simp [h]
  · simp [h, noMem]
theorem put_env (e : Nat → AV) (σ σ' : Mem) (d : Option Nat) (a : AV) : (St.put ⟨e, σ⟩ d a).env = (St.put ⟨e, σ'⟩ d a).env := by cases d <;> rfl
theorem put_mem (e : Nat → AV) (σ : Mem) (d : Option Nat) (a : AV) : (St.put ⟨e, σ⟩ d a).mem = σ := by cases d <;> rfl
theorem put_eq (st : St) (σ : Mem) (d : Option Nat) (a : AV) : (⟨(St.put ⟨st.env, σ⟩ d a).env, st.mem⟩ : St) = St.put st d a := by cases d <;> rfl

theorem aRes_of {P : Program} {tok : Nat} {dst : Option Nat} {r0 : AV} {K : St → Prop} {st : St} : ∀ (r : Res), resNeed P r0 r → optK tok dst (resOut r0 r) K st → aRes P tok dst r (fun st' => K ⟨st'.env, merge st.mem st'.mem⟩) ⟨st.env, noMem⟩
  | .val a [], _, h => by
    simp only [aRes, marks, put_mem, merge_none]
    rw [put_eq]; exact h
  | .val a (_ :: _), h, _ => h.elim
  | .need p r, h, h2 => ⟨h.1, aRes_of r h.2 h2⟩
  | .box e cs, _, h => fun g => by
    simp only [put_mem, merge_upd]
    have := h g
    cases dst <;> exact this
  | .row e m es [], _, h => fun g => by
    simp only [marks, put_mem, merge_upd]
    have := h g
    cases dst <;> exact this
  | .row e m es (_ :: _), h, _ => h.elim
  | .call f args, h, h2 => by
    obtain ⟨h1, h3, h4⟩ := h
    refine acall_pure (args' := pubLV noMem args) h4 ?_ ?_ ?_
    · rw [h1]; exact h3
    · rw [h1]; rfl
    · rw [h1]
      simp only [marks, put_mem, merge_none]
      rw [put_eq]; exact h2
  | .app .., h, _ => h.elim
  | .sto .., h, _ => h.elim
  | .bad, h, _ => h.elim

/-! ### one step, any step -/
/-- A step of an operation that may change places with its neighbours. -/
def dStep (P : Program) (tok : Nat) (all : List Oper) (rs : Nat → AV) (i : Nat) (o : Oper) (K : St → Prop) (st : St) : Prop :=
  match o.guard with
  | none => resNeed P (rs i) (opRes P ⟨st.env, noMem⟩ o.op) ∧ optK (tok + o.dst.getD 0) o.dst (resOut (rs i) (opRes P ⟨st.env, noMem⟩ o.op)) K st
  | some (j, want) => known (guardOf all ⟨st.env, noMem⟩ j) ∧ if says (guardOf all ⟨st.env, noMem⟩ j) want = true then resNeed P (rs i) (opRes P ⟨st.env, noMem⟩ o.op) ∧ optK (tok + o.dst.getD 0) o.dst (resOut (rs i) (opRes P ⟨st.env, noMem⟩ o.op)) K st else K (st.put o.dst (.v (.tuple #[])))
/-- A step of an operation that stays in its place. -/
def fStep (P : Program) (tok : Nat) (all : List Oper) (o : Oper) (K : St → Prop) (st : St) : Prop := aList P tok all [o] K st
def xStep (P : Program) (tok : Nat) (all : List Oper) (rs : Nat → AV) (bar : List Nat) (i : Nat) (K : St → Prop) (st : St) : Prop :=
  match all[i]? with
  | some o => if bar.contains i then fStep P tok all o K st else dStep P tok all rs i o K st
  | none => K st

def aAny (P : Program) (tok : Nat) (all : List Oper) (rs : Nat → AV) (bar : List Nat) : Nat → Array Bool → (St → Prop) → St → Prop
  | 0, listed, K, st => Region.ready .any all.toArray listed = [] ∧ K st
  | f + 1, listed, K, st => (Region.ready .any all.toArray listed = [] → K st) ∧ ∀ i ∈ Region.ready .any all.toArray listed, xStep P tok all rs bar i (aAny P tok all rs bar f (listed.setIfInBounds i true) K) st

section
variable {P : Program} {c : Cx} {n tok : Nat}

theorem guard_wanted {all : List Oper} {st : St} {a : Act} {w : World} {imm : Imm} {j : Nat} {want : Bool} (henv : ∀ t, Rs w imm (st.env t) (a.tmps.getD t undef)) (hk : known (guardOf all st j)) : (yielded all.toArray a.tmps j == some want) = says (guardOf all st j) want := by
  unfold guardOf at hk ⊢
  split at hk
  · rename_i d hdj
    have hdj' : ((all.toArray[j]?).bind (·.dst)) = some d := by simpa using hdj
    cases hb : st.env d with
    | v x =>
      have hv := henv d
      rw [hb] at hv
      have hv := hv.v_inv
      unfold yielded
      rw [hdj']
      simp only [Option.bind_some, hb]
      by_cases hx : ∃ b, x = .bool b
      · obtain ⟨b, rfl⟩ := hx
        have hlt : d < a.tmps.size := by
          rcases Nat.lt_or_ge d a.tmps.size with h1 | h1
          · exact h1
          · rw [Array.getD_eq_getD_getElem?, Array.getElem?_eq_none h1] at hv
            simp [undef] at hv
        have hget : a.tmps[d]? = some (.bool b) := by
          rw [Array.getElem?_eq_getElem hlt]
          rw [Array.getD_eq_getD_getElem?, Array.getElem?_eq_getElem hlt] at hv
          simpa using hv
        rw [hget]
        simp [says]
      · have hs : says (.v x) want = false := by cases x <;> first | rfl | exact absurd ⟨_, rfl⟩ hx
        rw [hs]
        rcases ht : a.tmps[d]? with _ | y
        · rfl
        · rw [Array.getD_eq_getD_getElem?, ht] at hv
          simp only [Option.getD_some] at hv
          subst hv
          cases y <;> first | rfl | exact absurd ⟨_, rfl⟩ hx
    | _ => rw [hb] at hk; exact hk.elim
  · exact hk.elim

theorem xStep_sound {all : List Oper} {rs : Nat → AV} {bar : List Nat} {Q : Exit → Act → World → Prop} {K : St → Prop} (hf : all.all (opFits n) = true) {i : Nat} {st : St} {a : Act} {w : World} {imm : Imm} (h : Rel c n st a w imm)
    (hK : xStep P tok all rs bar i K st) : wpOp P all.toArray Q i (Go_on c n K) a w := by
  unfold xStep at hK
  unfold wpOp
  cases ho : all[i]? with
  | none =>
    rw [ho] at hK
    simp only [List.getElem?_toArray, ho]
    exact ⟨st, imm, hK, h⟩
  | some o =>
    rw [ho] at hK
    simp only [List.getElem?_toArray, ho]
    have hof : opFits n o = true := List.all_eq_true.1 hf o (List.mem_of_getElem? ho)
    have hd : ∀ d, o.dst = some d → d < n := by
      intro d hdd
      rw [opFits, hdd] at hof
      simpa using hof
    simp only at hK
    by_cases hb : bar.contains i = true
    · rw [if_pos hb] at hK
      unfold fStep aList at hK
      cases hg : o.guard with
      | none =>
        rw [hg] at hK
        rw [if_pos (by simp [Region.wanted, hg])]
        exact .inl (op_sound h hd hK)
      | some jw =>
        obtain ⟨j, want⟩ := jw
        rw [hg] at hK
        obtain ⟨hkn, hK⟩ := hK
        have hw := guard_wanted (want := want) h.env hkn
        by_cases hs : says (guardOf all st j) want = true
        · rw [if_pos hs] at hK
          rw [if_pos (by simp only [Region.wanted, hg]; rw [hw]; exact hs)]
          exact .inl (op_sound h hd hK)
        · rw [if_neg hs] at hK
          rw [if_neg (by simp only [Region.wanted, hg]; rw [hw]; exact hs)]
          exact ⟨_, imm, hK, h.step (Keeps.refl _ _) h.mem hd (.pure (.v _))⟩
    · rw [if_neg hb] at hK
      unfold dStep at hK
      cases hg : o.guard with
      | none =>
        rw [hg] at hK
        rw [if_pos (by simp [Region.wanted, hg])]
        exact .inl (calm_sound h hd (aRes_of _ hK.1 hK.2))
      | some jw =>
        obtain ⟨j, want⟩ := jw
        rw [hg] at hK
        obtain ⟨hkn, hK⟩ := hK
        have hw := guard_wanted (st := ⟨st.env, noMem⟩) (want := want) h.env hkn
        by_cases hs : says (guardOf all ⟨st.env, noMem⟩ j) want = true
        · rw [if_pos hs] at hK
          rw [if_pos (by simp only [Region.wanted, hg]; rw [hw]; exact hs)]
          exact .inl (calm_sound h hd (aRes_of _ hK.1 hK.2))
        · rw [if_neg hs] at hK
          rw [if_neg (by simp only [Region.wanted, hg]; rw [hw]; exact hs)]
          exact ⟨_, imm, hK, h.step (Keeps.refl _ _) h.mem hd (.pure (.v _))⟩

theorem aAny_sound {all : List Oper} {rs : Nat → AV} {bar : List Nat} {Q : AE → St → Prop} (hf : all.all (opFits n) = true) : ∀ (f : Nat) (listed : Array Bool) (st : St) (a : Act) (w : World) (imm : Imm), Rel c n st a w imm →
    aAny P tok all rs bar f listed (Q .normal) st → wpAny P .any all.toArray (post c n Q) f listed a w
  | 0, listed, st, a, w, imm, h, hK => ⟨hK.1, .normal, st, imm, rfl, hK.2, h⟩
  | f + 1, listed, st, a, w, imm, h, hK => by
    refine ⟨fun h0 => ⟨.normal, st, imm, rfl, hK.1 h0, h⟩, fun i hi => ?_⟩
    refine wpOp_mono (fun a' w' hg => ?_) (xStep_sound hf h (hK.2 i hi))
    obtain ⟨st', imm', hk, hr⟩ := hg
    exact aAny_sound hf f _ st' a' w' imm' hr hk
end

/-! ### changing places -/
theorem ev_congr {e e' : Nat → AV} {σ : Mem} {x : Operand} (h : ∀ t, x = .tmp t → e t = e' t) : St.ev ⟨e, σ⟩ x = St.ev ⟨e', σ⟩ x := by
  cases x with
  | tmp t => exact h t rfl
  | _ => rfl

theorem opRes_congr {P : Program} {e e' : Nat → AV} {op : Op} (hs : ∀ cs b, op ≠ .select cs b) (h : ∀ x ∈ op.operands, ∀ t, x = .tmp t → e t = e' t) : opRes P ⟨e, noMem⟩ op = opRes P ⟨e', noMem⟩ op := by
  have hev : ∀ x ∈ op.operands, St.ev ⟨e, noMem⟩ x = St.ev ⟨e', noMem⟩ x := fun x hx => ev_congr (h x hx)
  have hl : ∀ xs : Array Operand, (∀ x ∈ xs, x ∈ op.operands) → xs.toList.map (St.ev ⟨e, noMem⟩) = xs.toList.map (St.ev ⟨e', noMem⟩) := fun xs hx =>
    List.map_congr_left fun x hm => hev x (hx x (Array.mem_toList_iff.1 hm))
  have hp : ∀ ps : Array (Nat × Operand), (∀ p ∈ ps, p.2 ∈ op.operands) → ps.toList.map (fun p => (p.1, St.ev ⟨e, noMem⟩ p.2)) = ps.toList.map (fun p => (p.1, St.ev ⟨e', noMem⟩ p.2)) := fun ps hx =>
    List.map_congr_left fun p hm => by rw [hev p.2 (hx p (Array.mem_toList_iff.1 hm))]
  have ho : ∀ b : Option Operand, (∀ x, b = some x → x ∈ op.operands) → b.map (St.ev ⟨e, noMem⟩) = b.map (St.ev ⟨e', noMem⟩) := by
    intro b hb
    cases b with
    | none => rfl
    | some x => simp only [Option.map_some]; rw [hev x (hb x rfl)]
  cases op with
  | call cl =>
    simp only [opRes]
    unfold callRes
    have ha := hl cl.args (fun x hx => by simp only [Op.operands, Call.operands]; exact Array.mem_append.2 (.inr hx))
    have h1 : ∀ x ∈ cl.args.toList, St.ev ⟨e, noMem⟩ x = St.ev ⟨e', noMem⟩ x := fun x hx => hev x (by simp only [Op.operands, Call.operands]; exact Array.mem_append.2 (.inr (Array.mem_toList_iff.1 hx)))
    cases hc : cl.callee with
    | builtin b =>
      cases b <;> simp only <;> first
        | rfl
        | (rw [ha]; done)
        | (split <;> first
            | rfl
            | (rename_i hx _
               rw [hx] at h1
               rw [h1 _ (by simp)]
               first
               | rfl
               | (rw [h1 _ (by simp)]; rfl)
               | (rename_i hx2 _; rw [h1 _ (by simp)]; rfl)))
    | value f =>
      simp only
      rw [hev f (by simp [Op.operands, Call.operands, hc]), ha]
    | invoke r nm => rfl
  | move x => simp only [opRes]; rw [hev x (by simp [Op.operands])]
  | assign x => simp only [opRes]; rw [hev x (by simp [Op.operands])]
  | pick cc x y => simp only [opRes, pickRes]; rw [hev cc (by simp [Op.operands]), hev x (by simp [Op.operands]), hev y (by simp [Op.operands])]
  | alloc t => rfl
  | box t x => simp only [opRes]; rw [hev x (by simp [Op.operands])]
  | build t ps => simp only [opRes]; rw [hp ps (fun p hpp => by simp only [Op.operands]; simp; exact ⟨p.1, hpp⟩)]
  | buildSlice t len ps => simp only [opRes]; rw [hp ps (fun p hpp => by simp only [Op.operands]; simp; exact ⟨p.1, hpp⟩)]; rfl
  | load t x => simp only [opRes]; rw [hev x (by simp [Op.operands])]; rfl
  | store t p x => simp only [opRes]; rw [hev p (by simp [Op.operands]), hev x (by simp [Op.operands])]; rfl
  | nilCheck x => simp only [opRes]; rw [hev x (by simp [Op.operands])]
  | binOp b t x y u => simp only [opRes]; rw [hev x (by simp [Op.operands]), hev y (by simp [Op.operands])]
  | unOp b t x => simp only [opRes]; rw [hev x (by simp [Op.operands])]
  | convert s d x => simp only [opRes]; rw [hev x (by simp [Op.operands])]
  | makeFunc fn first caps =>
    cases fn with
    | func f => simp only [opRes]; rw [hl caps (fun x hx => by simp only [Op.operands]; exact Array.mem_append.2 (.inr hx))]
    | _ => rfl
  | makeSlice t l cp => simp only [opRes]; rw [hev l (by simp [Op.operands]), hev cp (by simp [Op.operands])]
  | slice t x lo hi mx =>
    simp only [opRes]
    rw [hev x (by simp [Op.operands]), ho lo (fun y hy => by simp [Op.operands, hy]), ho hi (fun y hy => by simp [Op.operands, hy]), ho mx (fun y hy => by simp [Op.operands, hy])]
    rfl
  | fieldAddr s x f => simp only [opRes]; rw [hev x (by simp [Op.operands])]
  | field s x f => simp only [opRes]; rw [hev x (by simp [Op.operands])]
  | indexAddr t x i => simp only [opRes]; rw [hev x (by simp [Op.operands]), hev i (by simp [Op.operands])]; rfl
  | index t x i => simp only [opRes]; rw [hev x (by simp [Op.operands]), hev i (by simp [Op.operands])]
  | extract x i => simp only [opRes]; rw [hev x (by simp [Op.operands])]
  | makeInterface t x => simp only [opRes]; rw [hev x (by simp [Op.operands])]
  | _ => rfl

def dNeed (P : Program) (all : List Oper) (r0 : AV) (o : Oper) (e : Nat → AV) : Prop :=
  match o.guard with
  | none => resNeed P r0 (opRes P ⟨e, noMem⟩ o.op)
  | some (j, want) => known (guardOf all ⟨e, noMem⟩ j) ∧ (says (guardOf all ⟨e, noMem⟩ j) want = true → resNeed P r0 (opRes P ⟨e, noMem⟩ o.op))
def dOut (P : Program) (all : List Oper) (r0 : AV) (o : Oper) (e : Nat → AV) : Option Out :=
  match o.guard with
  | none => resOut r0 (opRes P ⟨e, noMem⟩ o.op)
  | some (j, want) => if says (guardOf all ⟨e, noMem⟩ j) want = true then resOut r0 (opRes P ⟨e, noMem⟩ o.op) else some (.val (.v (.tuple #[])))
def outSt (tok : Nat) (dst : Option Nat) (st : St) (x : Nat × Value) : Out → St
  | .val a => St.put st dst a
  | .box e cs => St.put ⟨st.env, upd st.mem tok (some (.box x.1 e cs false))⟩ dst (.pbox tok x.1 0)
  | .row e m es => St.put ⟨st.env, upd st.mem tok (some (.row x.2 e m es 0))⟩ dst (.own tok x.2)

theorem dStep_iff {P : Program} {tok : Nat} {all : List Oper} {rs : Nat → AV} {i : Nat} {o : Oper} {st : St} {K : St → Prop} :
    dStep P tok all rs i o K st ↔ dNeed P all (rs i) o st.env ∧ ∃ out, dOut P all (rs i) o st.env = some out ∧ ∀ x, K (outSt (tok + o.dst.getD 0) o.dst st x out) := by
  have key : ∀ (ou : Option Out), optK (tok + o.dst.getD 0) o.dst ou K st ↔ ∃ out, ou = some out ∧ ∀ x, K (outSt (tok + o.dst.getD 0) o.dst st x out) := by
    intro ou
    cases ou with
    | none => simp [optK]
    | some out =>
      simp only [optK, Option.some.injEq, exists_eq_left']
      cases out with
      | val a => exact ⟨fun h _ => h, fun h => h (0, undef)⟩
      | box e cs => exact ⟨fun h x => h x.1, fun h g => h (g, undef)⟩
      | row e m es => exact ⟨fun h x => h x.2, fun h sv => h (0, sv)⟩
  unfold dStep dNeed dOut
  cases hg : o.guard with
  | none => simp only [key]
  | some jw =>
    obtain ⟨j, want⟩ := jw
    simp only
    by_cases hs : says (guardOf all ⟨st.env, noMem⟩ j) want = true
    · simp only [hs, if_true, forall_const, key, and_assoc]
    · have hs' : says (guardOf all ⟨st.env, noMem⟩ j) want = false := by simpa using hs
      simp only [hs', Bool.false_eq_true, if_false, false_imp_iff, and_true]
      rw [← key (some (.val (.v (.tuple #[]))))]
      exact .rfl

theorem looks_op {ops : Array Oper} {o : Oper} {t : Nat} (h : Operand.tmp t ∈ o.op.operands) : t ∈ o.looksAt ops := by
  unfold Oper.looksAt
  refine List.mem_append.2 (.inl ?_)
  rw [List.mem_filterMap]
  exact ⟨.tmp t, Array.mem_toList_iff.2 h, rfl⟩

theorem d_congr {P : Program} {all : List Oper} {r0 : AV} {o : Oper} {e e' : Nat → AV} (hsel : ∀ cs b, o.op ≠ .select cs b) (h : ∀ t ∈ o.looksAt all.toArray, e t = e' t) : dNeed P all r0 o e = dNeed P all r0 o e' ∧ dOut P all r0 o e = dOut P all r0 o e' := by
  have h1 : opRes P ⟨e, noMem⟩ o.op = opRes P ⟨e', noMem⟩ o.op := opRes_congr hsel fun x hx t ht => h t (looks_op (ht ▸ hx))
  unfold dNeed dOut
  rw [h1]
  cases hg : o.guard with
  | none => exact ⟨rfl, rfl⟩
  | some jw =>
    obtain ⟨j, want⟩ := jw
    have h2 : guardOf all ⟨e, noMem⟩ j = guardOf all ⟨e', noMem⟩ j := by
      unfold guardOf
      rcases hd : (all[j]?).bind (·.dst) with _ | d
      · rfl
      · refine h d ?_
        unfold Oper.looksAt
        refine List.mem_append.2 (.inr ?_)
        rw [hg]
        simp only [List.getElem?_toArray, hd]
        simp
    simp only [h2]
    exact ⟨trivial, trivial⟩

theorem outSt_env {tok d : Nat} {st : St} {x : Nat × Value} {out : Out} {t : Nat} (h : t ≠ d) : (outSt tok (some d) st x out).env t = st.env t := by
  cases out <;> simp [outSt, St.put, upd_at, h]

theorem upd_comm {α : Type} (f : Nat → α) {k j : Nat} (u v : α) (h : k ≠ j) : upd (upd f k u) j v = upd (upd f j v) k u := by
  funext n
  simp only [upd_at]
  by_cases h1 : n = j <;> by_cases h2 : n = k
  · exact absurd (h2.symm.trans h1) h
  · simp [h1, h2]; intro h3; exact absurd h3.symm h
  · simp [h1, h2]; intro h3; exact absurd h3 h
  · simp [h1, h2]

theorem outSt_comm {tok d e : Nat} {st : St} {x y : Nat × Value} {o1 o2 : Out} (h : d ≠ e) : outSt (tok + e) (some e) (outSt (tok + d) (some d) st x o1) y o2 = outSt (tok + d) (some d) (outSt (tok + e) (some e) st y o2) x o1 := by
  have ht : tok + d ≠ tok + e := by omega
  cases o1 <;> cases o2 <;> simp only [outSt, St.put] <;> first
    | rw [upd_comm _ _ _ h, upd_comm _ _ _ ht]
    | rw [upd_comm _ _ _ h]

theorem dStep_swap {P : Program} {tok : Nat} {all : List Oper} {rs : Nat → AV} {i j : Nat} {oi oj : Oper} {st : St} {K : St → Prop} {di dj : Nat} (hdi : oi.dst = some di) (hdj : oj.dst = some dj)
    (hsi : ∀ cs b, oi.op ≠ .select cs b) (hsj : ∀ cs b, oj.op ≠ .select cs b) (hap : oi.apart all.toArray oj = true)
    (h : dStep P tok all rs i oi (dStep P tok all rs j oj K) st) : dStep P tok all rs j oj (dStep P tok all rs i oi K) st := by
  obtain ⟨h1, h2, h3⟩ := Oper.apart_spec hap
  have hne : di ≠ dj := fun e => h2 di hdi (e ▸ hdj)
  have ai : ∀ x out, ∀ t ∈ oj.looksAt all.toArray, (outSt (tok + oi.dst.getD 0) oi.dst st x out).env t = st.env t := by
    intro x out t ht
    rw [hdi]
    exact outSt_env (fun e => h1 di hdi (e ▸ ht))
  have aj : ∀ x out, ∀ t ∈ oi.looksAt all.toArray, (outSt (tok + oj.dst.getD 0) oj.dst st x out).env t = st.env t := by
    intro x out t ht
    rw [hdj]
    exact outSt_env (fun e => h3 dj hdj (e ▸ ht))
  rw [dStep_iff] at h ⊢
  obtain ⟨n1, out1, e1, k1⟩ := h
  have k1' := fun x => dStep_iff.1 (k1 x)
  obtain ⟨n2, out2, e2, _⟩ := k1' (0, undef)
  have c2 := fun x => d_congr (P := P) (r0 := rs j) hsj (ai x out1)
  rw [(c2 (0, undef)).1] at n2
  rw [(c2 (0, undef)).2] at e2
  refine ⟨n2, out2, e2, fun y => ?_⟩
  rw [dStep_iff]
  have c1 := d_congr (P := P) (r0 := rs i) hsi (aj y out2)
  rw [c1.1, c1.2]
  refine ⟨n1, out1, e1, fun x => ?_⟩
  obtain ⟨_, out3, e3, k3⟩ := k1' x
  rw [(c2 x).2, e2] at e3
  cases e3
  have := k3 y
  rw [hdi, hdj] at this ⊢
  simp only [Option.getD_some] at this ⊢
  rw [outSt_comm hne] at this
  exact this

theorem dStep_mono {P : Program} {tok : Nat} {all : List Oper} {rs : Nat → AV} {i : Nat} {o : Oper} {st : St} {K K' : St → Prop} (h : ∀ st, K st → K' st) (hd : dStep P tok all rs i o K st) : dStep P tok all rs i o K' st := by
  rw [dStep_iff] at hd ⊢
  obtain ⟨h1, out, h2, h3⟩ := hd
  exact ⟨h1, out, h2, fun x => h _ (h3 x)⟩

/-! ### the lexical order -/
/-- Operation i comes before operation j. -/
def reach (ops : Array Oper) : Nat → Nat → Nat → Bool
  | 0, _, _ => false
  | f + 1, i, j => match ops[j]? with
    | some o => o.after.any fun e => Region.binds .any e && (e.on == i || reach ops f i e.on)
    | none => false

def Closed (ops : Array Oper) (listed : Array Bool) : Prop := ∀ j o, ops[j]? = some o → listed.getD j false = true → ∀ e ∈ o.after, Region.binds .any e = true → listed.getD e.on false = true

theorem reach_listed {ops : Array Oper} {listed : Array Bool} (hc : Closed ops listed) {i : Nat} : ∀ (f j : Nat) (o : Oper), ops[j]? = some o → (∀ e ∈ o.after, Region.binds .any e = true → listed.getD e.on false = true) → reach ops f i j = true → listed.getD i false = true
  | 0, _, _, _, _, h => by simp [reach] at h
  | f + 1, j, o, ho, hall, h => by
    simp only [reach, ho] at h
    obtain ⟨e, he, hb⟩ := Array.any_eq_true'.1 h
    simp only [Bool.and_eq_true, Bool.or_eq_true, beq_iff_eq] at hb
    obtain ⟨hb, h1 | h1⟩ := hb
    · rw [← h1]; exact hall e he hb
    · have hl := hall e he hb
      cases hx : ops[e.on]? with
      | none =>
        cases f with
        | zero => simp [reach] at h1
        | succ f => simp [reach, hx] at h1
      | some o' => exact reach_listed hc f e.on o' hx (hc e.on o' hx hl) h1

theorem Closed.set {ops : Array Oper} {listed : Array Bool} (hc : Closed ops listed) {i : Nat} (hr : i ∈ Region.ready .any ops listed) : Closed ops (listed.setIfInBounds i true) := by
  intro j o ho hj e he hb
  by_cases hij : j = i
  · subst hij
    obtain ⟨_, o', ho', hall⟩ := mem_ready.1 hr
    rw [ho] at ho'
    cases ho'
    exact getD_set_true (hall e he hb)
  · rw [getD_set_ne false (Ne.symm hij)] at hj
    exact getD_set_true (hc j o ho hj e he hb)

/-- What is asked of operation i when it is taken first: whatever could come before it may change places with it. -/
def takeOk (ops : Array Oper) (bar : List Nat) (listed : Array Bool) (i : Nat) : Bool :=
  match ops[i]? with
  | none => false
  | some oi => (match oi.op with | .select .. => false | _ => true) && (Region.ready .any ops listed).contains i && (bar.contains i || oi.dst.isSome) &&
    (List.range ops.size).all fun j => j == i || listed.getD j true || reach ops ops.size i j || match ops[j]? with
      | some oj => !bar.contains i && !bar.contains j && oj.dst.isSome && (match oj.op with | .select .. => false | _ => true) && oi.apart ops oj
      | none => true

theorem xStep_mono {P : Program} {tok : Nat} {all : List Oper} {rs : Nat → AV} {bar : List Nat} {i : Nat} {st : St} {K K' : St → Prop} (h : ∀ st, K st → K' st) (hx : xStep P tok all rs bar i K st) : xStep P tok all rs bar i K' st := by
  have amono : ∀ (tok : Nat) (dst : Option Nat) (r : Res) (st : St), aRes P tok dst r K st → aRes P tok dst r K' st := by
    intro tok dst r
    induction r with
    | val a ks => exact fun st hr => h _ hr
    | box e cs => exact fun st hr g => h _ (hr g)
    | row e m es ks => exact fun st hr g => h _ (hr g)
    | app k news ks =>
      intro st hr
      simp only [aRes] at hr ⊢
      split at hr
      · exact fun sv => h _ (hr sv)
      · exact hr.elim
    | sto a k ent ks => exact fun st hr => h _ hr
    | call f args =>
      intro st hr
      refine ⟨hr.1, fun c w imm vs hm hl hrr => (hr.2 c w imm vs hm hl hrr).mono fun e w' he => ?_⟩
      obtain ⟨r, σ', imm', x, h1, h2, h3⟩ := he
      exact ⟨r, σ', imm', x, h1, h _ h2, h3⟩
    | need p r ih => exact fun st hr => ⟨hr.1, ih st hr.2⟩
    | bad => exact fun st hr => hr.elim
  unfold xStep at hx ⊢
  split at hx
  · rename_i o ho
    by_cases hb : bar.contains i = true
    · rw [if_pos hb] at hx ⊢
      unfold fStep aList at hx ⊢
      split at hx
      · exact amono _ _ _ _ hx
      · refine ⟨hx.1, ?_⟩
        have hx2 := hx.2
        split at hx2
        · rename_i hs; rw [if_pos hs]; exact amono _ _ _ _ hx2
        · rename_i hs; rw [if_neg hs]; exact h _ hx2
    · rw [if_neg hb] at hx ⊢
      exact dStep_mono h hx
  · exact h _ hx

structure TakeOk (ops : Array Oper) (bar : List Nat) (listed : Array Bool) (i : Nat) (oi : Oper) : Prop where
  sel : ∀ cs b, oi.op ≠ .select cs b
  ready : i ∈ Region.ready .any ops listed
  other : ∀ j oj, ops[j]? = some oj → j ≠ i → listed.getD j true = false → reach ops ops.size i j = true ∨
    (bar.contains i = false ∧ bar.contains j = false ∧ oi.dst.isSome = true ∧ oj.dst.isSome = true ∧ (∀ cs b, oj.op ≠ .select cs b) ∧ oi.apart ops oj = true)

theorem takeOk_spec {ops : Array Oper} {bar : List Nat} {listed : Array Bool} {i : Nat} (h : takeOk ops bar listed i = true) : ∃ oi, ops[i]? = some oi ∧ TakeOk ops bar listed i oi := by
  unfold takeOk at h
  split at h
  · cases h
  · rename_i oi hoi
    simp only [Bool.and_eq_true] at h
    obtain ⟨⟨⟨h1, h2⟩, h3⟩, h4⟩ := h
    refine ⟨oi, hoi, ⟨fun cs b e => (by rw [e] at h1; cases h1), by simpa using h2, fun j oj hj hji hun => ?_⟩⟩
    have hjr : j ∈ List.range ops.size := List.mem_range.2 (Array.getElem?_eq_some_iff.1 hj).1
    have h5 := List.all_eq_true.1 h4 j hjr
    simp only [hj, Bool.or_eq_true, beq_iff_eq, hji, hun, Bool.false_eq_true, false_or] at h5
    rcases h5 with h5 | h5
    · exact .inl h5
    · simp only [Bool.and_eq_true, Bool.not_eq_true'] at h5
      obtain ⟨⟨⟨⟨h6, h7⟩, h8⟩, h9⟩, h10⟩ := h5
      refine .inr ⟨h6, h7, ?_, h8, fun cs b e => (by rw [e] at h9; cases h9), h10⟩
      simp only [Bool.or_eq_true] at h3
      rcases h3 with h3 | h3
      · rw [h6] at h3; cases h3
      · exact h3

theorem take_first {P : Program} {tok : Nat} {all : List Oper} {rs : Nat → AV} {bar : List Nat} {K : St → Prop} {i : Nat} {oi : Oper} (hoi : all.toArray[i]? = some oi) : ∀ (f : Nat) (listed : Array Bool) (st : St), Closed all.toArray listed → TakeOk all.toArray bar listed i oi →
    xStep P tok all rs bar i (aAny P tok all rs bar f (listed.setIfInBounds i true) K) st → aAny P tok all rs bar (f + 1) listed K st := by
  intro f
  have hoi' : all[i]? = some oi := by simpa using hoi
  have pair : ∀ (listed : Array Bool), Closed all.toArray listed → TakeOk all.toArray bar listed i oi → ∀ j, j ∈ Region.ready .any all.toArray listed → j ≠ i → ∃ oj, all[j]? = some oj ∧
      bar.contains i = false ∧ bar.contains j = false ∧ oi.dst.isSome = true ∧ oj.dst.isSome = true ∧ (∀ cs b, oj.op ≠ .select cs b) ∧ oi.apart all.toArray oj = true := by
    intro listed hc ht j hj hji
    obtain ⟨hun, oj, hoj, hall⟩ := mem_ready.1 hj
    refine ⟨oj, by simpa using hoj, ?_⟩
    rcases ht.other j oj hoj hji hun with h1 | h1
    · exfalso
      have h2 := reach_listed hc _ j oj hoj hall h1
      have h3 := (mem_ready.1 ht.ready).1
      rcases Nat.lt_or_ge i listed.size with h' | h'
      · simp [h'] at h3 h2; rw [h3] at h2; cases h2
      · simp [Array.getElem?_eq_none h'] at h2
    · exact h1
  have calm : ∀ (k : Nat) (ok : Oper), all[k]? = some ok → bar.contains k = false → ∀ (K : St → Prop) (st : St), xStep P tok all rs bar k K st = dStep P tok all rs k ok K st := by
    intro k ok hk hb K st
    unfold xStep
    rw [hk]
    exact if_neg (by rw [hb]; simp)
  induction f with
  | zero =>
    intro listed st hc ht h
    refine ⟨fun h0 => (by have := ht.ready; rw [h0] at this; cases this), fun j hj => ?_⟩
    by_cases hji : j = i
    · subst hji; exact h
    · exfalso
      obtain ⟨oj, hoj, h1, h2, h3, h4, h5, h6⟩ := pair listed hc ht j hj hji
      rw [calm i oi hoi' h1, dStep_iff] at h
      obtain ⟨_, out, _, hk⟩ := h
      have := ready_mono hj hji
      rw [(hk (0, undef)).1] at this
      cases this
  | succ f ih =>
    intro listed st hc ht h
    refine ⟨fun h0 => (by have := ht.ready; rw [h0] at this; cases this), fun j hj => ?_⟩
    by_cases hji : j = i
    · subst hji; exact h
    · obtain ⟨oj, hoj, h1, h2, h3, h4, h5, h6⟩ := pair listed hc ht j hj hji
      obtain ⟨di, hdi⟩ := Option.isSome_iff_exists.1 h3
      obtain ⟨dj, hdj⟩ := Option.isSome_iff_exists.1 h4
      rw [calm i oi hoi' h1] at h
      have hstep : dStep P tok all rs i oi (dStep P tok all rs j oj (aAny P tok all rs bar f ((listed.setIfInBounds i true).setIfInBounds j true) K)) st := by
        refine dStep_mono (fun st1 hh => ?_) h
        have := hh.2 j (ready_mono hj hji)
        rwa [calm j oj hoj h2] at this
      have hsw := dStep_swap hdi hdj ht.sel h5 h6 hstep
      rw [calm j oj hoj h2]
      refine dStep_mono (fun st2 hh => ?_) hsw
      have ht' : TakeOk all.toArray bar (listed.setIfInBounds j true) i oi := by
        refine ⟨ht.sel, ready_mono ht.ready (Ne.symm hji), fun k ok hk hki hun => ?_⟩
        refine ht.other k ok hk hki ?_
        by_cases hjk : j = k
        · subst hjk; exact (mem_ready.1 hj).1
        · rwa [getD_set_ne true hjk] at hun
      refine ih (listed.setIfInBounds j true) st2 (hc.set hj) ht' ?_
      rw [calm i oi hoi' h1, Array.setIfInBounds_comm _ _ hji]
      exact hh

def lexOk (ops : Array Oper) (bar : List Nat) : Nat → Nat → Array Bool → Bool
  | 0, _, listed => (Region.ready .any ops listed).isEmpty
  | f + 1, k, listed => takeOk ops bar listed k && lexOk ops bar f (k + 1) (listed.setIfInBounds k true)

/-- The walk of a region that draws, in the text's order. -/
def dList (P : Program) (tok : Nat) (all : List Oper) (rs : Nat → AV) (bar : List Nat) : Nat → Nat → (St → Prop) → St → Prop
  | 0, _, K, st => K st
  | f + 1, k, K, st => xStep P tok all rs bar k (dList P tok all rs bar f (k + 1) K) st

theorem lex_any {P : Program} {tok : Nat} {all : List Oper} {rs : Nat → AV} {bar : List Nat} {K : St → Prop} : ∀ (f k : Nat) (listed : Array Bool) (st : St), Closed all.toArray listed → lexOk all.toArray bar f k listed = true →
    dList P tok all rs bar f k K st → aAny P tok all rs bar f listed K st
  | 0, k, listed, st, _, hl, h => ⟨by simpa [lexOk] using hl, h⟩
  | f + 1, k, listed, st, hc, hl, h => by
    simp only [lexOk, Bool.and_eq_true] at hl
    obtain ⟨oi, hoi, ht⟩ := takeOk_spec hl.1
    refine take_first hoi f listed st hc ht ?_
    exact xStep_mono (fun st' h' => lex_any f (k + 1) _ st' (hc.set ht.ready) hl.2 h') h

theorem r_draw {P : Program} {tok n : Nat} {Q : AE → St → Prop} {st : St} {id : Nat} {l : List Oper} (rs : Nat → AV) (bar : List Nat) (hm : P.follows .mixedOrders = true) (hf : l.all (opFits n) = true)
    (hlex : lexOk l.toArray bar l.length 0 (Array.replicate l.length false) = true) (h : ∀ K : St → Prop, (∀ st', Q .normal st' → K st') → dList P tok l rs bar l.length 0 K st) : aCode P tok n (.region id l.toArray true) Q st := by
  intro c a w imm hr
  refine wp_region_any hm ?_
  have kd : Keeps w imm w.drew imm := fun ad h => ⟨h, rfl⟩
  have hgd : w.grownBy w.drew none := ⟨rfl, rfl, rfl, Nat.le_refl _, fun _ _ _ => rfl⟩
  have hdr : Rel c n st a w.drew imm := ⟨fun t => kd.rs (hr.env t), hr.size, hr.defers, ⟨⟨fun k e hk => (hr.mem.ok.ent k e hk).keep hgd (by cases e.blk <;> simp) (fun _ h => h) (fun _ _ => rfl) (fun _ h => .inl h), hr.mem.ok.apart, hr.mem.ok.lt, hr.mem.ok.spot⟩, hr.mem.below.drew, hr.mem.lt, hr.mem.old, hr.mem.new, hr.mem.cells⟩⟩
  have hcl : Closed l.toArray (Array.replicate l.length false) := by
    intro j o ho hj
    exfalso
    by_cases hjl : j < l.length <;> simp [Array.getElem?_replicate, hjl] at hj
  have := lex_any (K := Q .normal) l.length 0 _ st hcl hlex (h _ fun _ h => h)
  have h2 := aAny_sound (c := c) (Q := Q) hf l.length _ st a w.drew imm hdr this
  simpa using h2

end Go.Pg
