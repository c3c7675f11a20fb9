/- The engine, part O: every operation; code; functions. -/
import Derived.Test.YtkhcpgakfeefhaaEngN
namespace Go.Pg
open Go Go.RowKit
set_option linter.unusedSimpArgs false
set_option linter.unusedVariables false

section
variable {P : Program} {c : Cx} {n tok : Nat} {st : St} {a : Act} {w : World} {imm : Imm} {K : St → Prop} {o : Oper} {Q : Exit → Act → World → Prop}

theorem s_nil {x : Operand} (h : Rel c n st a w imm) (hd : ∀ d, o.dst = some d → d < n) (hK : aRes P tok o.dst (nilRes (st.ev x)) K st) (ho : o.op = .nilCheck x) :
    o.upon P a (Go_on c n K) Q ((execOp a.eval o).run P w) := by
  have hx := h.ev x
  unfold nilRes at hK
  split at hK
  · rename_i cs he
    rw [he] at hx
    obtain ⟨ad, f, hv, _⟩ := hx.pimm_inv
    simp only [execOp, ho, hv, Sem.run_pure]
    exact upon_val h hd hK fun _ _ hk => hk.rs (hv ▸ hx)
  · rename_i k g off he
    rw [he] at hx
    have hv := hx.pbox_inv
    simp only [execOp, ho, hv, Sem.run_pure]
    exact upon_val h hd hK fun _ _ hk => hk.rs (hv ▸ hx)
  · rename_i k sv m i off he
    rw [he] at hx
    obtain ⟨g, nn, cc, e1, hv⟩ := hx.prow_inv
    simp only [execOp, ho, hv, Sem.run_pure]
    exact upon_val h hd hK fun _ _ hk => hk.rs (hv ▸ hx)
  · rename_i f cs he
    rw [he] at hx
    obtain ⟨vs, hv, _⟩ := hx.fn_inv
    simp only [execOp, ho, hv, Sem.run_pure]
    exact upon_val h hd hK fun _ _ hk => hk.rs (hv ▸ hx)
  · exact hK.elim

theorem run_box {e : TypeId} {z : Value} : (Instr.box e z).run P w = .ok (.pointer (some ⟨w.heap.size, 0, none⟩)) (w.alloc (.cells z.cells e)) := by
  simp only [Instr.box, newVar, newRow, Sem.run_bind, run_newObj, Result.andThen_ok, Sem.run_pure]
  rfl

theorem op_sound (h : Rel c n st a w imm) (hd : ∀ d, o.dst = some d → d < n) (hK : aRes P tok o.dst (opRes P st o.op) K st) : o.wp P a w (Go_on c n K) Q := by
  unfold Oper.wp
  have same : ∀ {x : Operand}, aRes P tok o.dst (.val (st.ev x) []) K st → o.upon P a (Go_on c n K) Q (.ok (.value (a.eval x)) w) := fun hK => upon_val h hd hK fun _ _ hk => hk.rs (h.ev _)
  cases ho : o.op with
  | move x => simp only [opRes, ho] at hK; simp only [execOp, ho, Sem.run_pure]; exact same hK
  | assign x => simp only [opRes, ho] at hK; simp only [execOp, ho, Sem.run_pure]; exact same hK
  | pick cc x y =>
    simp only [opRes, ho, pickRes] at hK
    split at hK
    · rename_i t hc
      have hcv := h.ev cc
      rw [hc] at hcv
      have hv := hcv.v_inv
      have hrun : (execOp a.eval o).run P w = .ok (.value (if t then a.eval x else a.eval y)) w := by
        simp only [execOp, ho, hv, asBool, Sem.run_bind, Sem.run_pure, Result.andThen_ok]
      rw [hrun]
      unfold pickAV at hK
      split at hK
      · rename_i p q hp hq
        have e1 := h.ev x
        rw [hp] at e1
        have e2 := h.ev y
        rw [hq] at e2
        refine upon_val h hd hK fun _ _ hk => ?_
        rw [e1.v_inv, e2.v_inv]
        cases t <;> exact .pure (.v _)
      · refine upon_val h hd hK fun _ _ hk => ?_
        cases t
        · exact hk.rs (h.ev y)
        · exact hk.rs (h.ev x)
    · exact hK.elim
  | alloc e =>
    simp only [opRes, ho, aZero] at hK
    cases hz : zeroOf P e with
    | none => rw [hz] at hK; exact hK.elim
    | some z =>
      rw [hz] at hK
      obtain ⟨hok, hK⟩ := hK
      obtain ⟨hl, hr, h1⟩ := (ofVal_rs w imm z).cells_of hok
      have hrun : (execOp a.eval o).run P w = .ok (.value (.pointer (some ⟨w.heap.size, 0, none⟩))) (w.alloc (.cells z.cells e)) := by
        simp only [execOp, ho, Instr.alloc, Sem.run_bind, run_zeroValue' hz, Result.andThen_ok, newVar, newRow, run_newObj, Sem.run_pure]
        rfl
      rw [hrun]
      exact upon_box h hd hK hl h1 hr
  | box e x =>
    simp only [opRes, ho] at hK
    obtain ⟨hok, hK⟩ := hK
    obtain ⟨hl, hr, h1⟩ := (h.ev x).cells_of hok
    have hrun : (execOp a.eval o).run P w = .ok (.value (.pointer (some ⟨w.heap.size, 0, none⟩))) (w.alloc (.cells (a.eval x).cells e)) := by
      simp only [execOp, ho, Sem.run_bind, run_box, Result.andThen_ok, Sem.run_pure]
    rw [hrun]
    exact upon_box h hd hK hl h1 hr
  | build t parts => simp only [opRes, ho] at hK; simp only [execOp, ho]; exact s_build h hd hK
  | buildSlice t len parts => simp only [opRes, ho] at hK; simp only [execOp, ho]; exact s_buildSlice h hd hK
  | load t x => simp only [opRes, ho] at hK; simp only [execOp, ho]; exact s_load h hd hK (h.ev x)
  | store t p x => simp only [opRes, ho] at hK; simp only [execOp, ho]; exact s_store h hd hK (h.ev p) (h.ev x)
  | nilCheck x => simp only [opRes, ho] at hK; exact s_nil h hd hK ho
  | binOp op t x y u => simp only [opRes, ho] at hK; simp only [execOp, ho]; exact s_bin h hd hK (h.ev x) (h.ev y)
  | unOp op t x => simp only [opRes, ho] at hK; simp only [execOp, ho]; exact s_un h hd hK (h.ev x)
  | convert s d x => simp only [opRes, ho] at hK; simp only [execOp, ho]; exact s_conv h hd hK (h.ev x)
  | makeFunc fn first caps =>
    simp only [opRes, ho] at hK
    cases fn with
    | func f =>
      obtain ⟨h0, hK⟩ := hK
      have hf : first = #[] := by
        have : first.toList = [] := List.eq_nil_of_length_eq_zero h0
        rw [← Array.toArray_toList (xs := first), this]
      obtain ⟨hal, har⟩ := evs_rel (xs := caps) h
      have hrun : (execOp a.eval o).run P w = .ok (.value (.func (.func f) #[] (caps.map a.eval))) w := by
        simp only [execOp, ho, Instr.makeFunc, Sem.run_bind, Sem.run_pure, Result.andThen_ok, hf, Array.map_empty]
      rw [hrun]
      exact upon_val h hd hK fun _ _ hk => hk.rs (.fn f _ _ hal har)
    | _ => exact hK.elim
  | makeSlice t l cp => simp only [opRes, ho] at hK; simp only [execOp, ho]; exact s_make h hd hK (h.ev l) (h.ev cp)
  | slice t x lo hi mx => simp only [opRes, ho] at hK; simp only [execOp, ho]; exact s_slice h hd hK
  | fieldAddr s x f => simp only [opRes, ho] at hK; simp only [execOp, ho]; exact s_field h hd hK (h.ev x)
  | field s x f =>
    simp only [opRes, ho] at hK
    simp only [execOp, ho]
    split at hK
    · rename_i fields cs hu hx
      split at hK
      · rename_i fd hf
        have hxv := h.ev x
        rw [hx] at hxv
        obtain ⟨vs, hv, hl, hr⟩ := hxv.agg_inv
        have e1 : (Instr.field s (a.eval x) f).run P w = (part fd.type vs fd.offset).run P w := by
          simp only [Instr.field, Sem.run_bind, run_underlying hu, Result.andThen_ok, hf, hv, asAgg, Sem.run_pure]
        have := partOf_sound (o := o) (Q := Q) h hd hK hl hr
        simp only [Sem.run_bind] at this ⊢
        rw [e1]
        exact this
      · exact hK.elim
    · exact hK.elim
  | indexAddr t x i => simp only [opRes, ho] at hK; simp only [execOp, ho]; exact s_indexAddr h hd hK (h.ev x) (h.ev i)
  | index t x i => simp only [opRes, ho] at hK; simp only [execOp, ho]; exact s_index h hd hK (h.ev x) (h.ev i)
  | extract x i =>
    simp only [opRes, ho] at hK
    split at hK
    · rename_i cs hx
      split at hK
      · rename_i b hb
        have hxv := h.ev x
        rw [hx] at hxv
        obtain ⟨vs, hv, hl, hr⟩ := hxv.tup_inv
        have hlt : i < vs.size := by rw [← hl]; exact lt_of_get hb
        have hrun : (execOp a.eval o).run P w = .ok (.value vs[i]) w := by
          simp only [execOp, ho, Instr.extract, hv, Array.getElem?_eq_getElem hlt, Sem.run_bind, Sem.run_pure, Result.andThen_ok]
        rw [hrun]
        exact upon_val h hd hK fun _ _ hk => hk.rs (hr i b _ hb (Array.getElem?_eq_getElem hlt))
      · exact hK.elim
    · exact hK.elim
  | makeInterface t x =>
    simp only [opRes, ho] at hK
    cases hu : P.underlying t with
    | none => rw [hu] at hK; exact hK.elim
    | some d =>
      rw [hu] at hK
      have hrun : ∀ (hd : ∀ ms, d ≠ .interface ms), (execOp a.eval o).run P w = .ok (.value (.iface t (a.eval x))) w := by
        intro hdd
        simp only [execOp, ho, Instr.makeInterface, Sem.run_bind, run_underlying hu, Result.andThen_ok]
        cases d <;> first
          | exact absurd rfl (hdd _)
          | simp only [Sem.run_pure, Result.andThen_ok]
      cases d <;> first
        | exact hK.elim
        | (rw [hrun (fun _ h => by cases h)]
           exact upon_val h hd hK fun _ _ hk => .ifc t _ _ (hk.rs (h.ev x)))
  | call cl => simp only [opRes, ho] at hK; simp only [execOp, ho]; exact s_call h hd hK
  | _ => simp only [opRes, ho] at hK; exact hK.elim
end

/-! ### regions -/
def known : AV → Prop
  | .v _ => True
  | _ => False
def says : AV → Bool → Bool
  | .v (.bool b), w => b == w
  | _, _ => false
def guardOf (all : List Oper) (st : St) (j : Nat) : AV :=
  match (all[j]?).bind (·.dst) with
  | some d => st.env d
  | none => .u

def aList (P : Program) (tok : Nat) (all : List Oper) : List Oper → (St → Prop) → St → Prop
  | [], K, st => K st
  | o :: r, K, st => match o.guard with
    | none => aRes P (tok + o.dst.getD 0) o.dst (opRes P st o.op) (aList P tok all r K) st
    | some (j, want) => known (guardOf all st j) ∧ if says (guardOf all st j) want = true then aRes P (tok + o.dst.getD 0) o.dst (opRes P st o.op) (aList P tok all r K) st else aList P tok all r K (st.put o.dst (.v (.tuple #[])))

theorem aList_nil {P : Program} {tok : Nat} {all : List Oper} {K : St → Prop} {st : St} : aList P tok all [] K st = K st := rfl
theorem aList_none {P : Program} {tok : Nat} {all : List Oper} {K : St → Prop} {st : St} {d : Option Tmp} {op : Op} {t : TypeId} {pos : String} {af : Array Edge} {r : List Oper} :
    aList P tok all (⟨d, op, t, pos, af, none⟩ :: r) K st = aRes P (tok + d.getD 0) d (opRes P st op) (aList P tok all r K) st := rfl
theorem aList_some {P : Program} {tok : Nat} {all : List Oper} {K : St → Prop} {st : St} {d : Option Tmp} {op : Op} {t : TypeId} {pos : String} {af : Array Edge} {r : List Oper} {j : Nat} {want : Bool} :
    aList P tok all (⟨d, op, t, pos, af, some (j, want)⟩ :: r) K st = (known (guardOf all st j) ∧ if says (guardOf all st j) want = true then aRes P (tok + d.getD 0) d (opRes P st op) (aList P tok all r K) st else aList P tok all r K (st.put d (.v (.tuple #[])))) := rfl

def opFits (n : Nat) (o : Oper) : Bool := o.dst.all (fun d => decide (d < n))

inductive AE where
  | normal
  | exit (id : Nat)
  | ret
def AE.to : AE → Exit
  | .normal => .normal
  | .exit id => .exit id
  | .ret => .ret

def post (c : Cx) (n : Nat) (Q : AE → St → Prop) : Exit → Act → World → Prop := fun e a w => ∃ ae st imm, e = ae.to ∧ Q ae st ∧ Rel c n st a w imm

def AWP (P : Program) (n : Nat) (code : Code) (Q : AE → St → Prop) (st : St) : Prop := ∀ (c : Cx) (a : Act) (w : World) (imm : Imm), Rel c n st a w imm → code.wp P (post c n Q) a w

section
variable {P : Program} {c : Cx} {n tok : Nat}

theorem aList_sound (all : List Oper) {Q : AE → St → Prop} : ∀ (l : List Oper) (st : St) (a : Act) (w : World) (imm : Imm), Rel c n st a w imm → l.all (opFits n) = true → aList P tok all l (Q .normal) st → wpList P all.toArray (post c n Q) l a w
  | [], st, a, w, imm, h, _, hK => ⟨.normal, st, imm, rfl, hK, h⟩
  | o :: r, st, a, w, imm, h, hf, hK => by
    simp only [List.all_cons, Bool.and_eq_true] at hf
    have hd : ∀ d, o.dst = some d → d < n := by
      intro d hdd
      have := hf.1
      rw [opFits, hdd] at this
      simpa using this
    have yes : aRes P (tok + o.dst.getD 0) o.dst (opRes P st o.op) (aList P tok all r (Q .normal)) st → o.wp P a w (wpList P all.toArray (post c n Q) r) (post c n Q) := fun hy =>
      Oper.wp_mono (fun a' w' hg => by
        obtain ⟨st', imm', hk, hr⟩ := hg
        exact aList_sound all r st' a' w' imm' hr hf.2 hk) (op_sound h hd hy)
    have no : aList P tok all r (Q .normal) (st.put o.dst (.v (.tuple #[]))) → wpList P all.toArray (post c n Q) r (a.put o.dst undef) w := fun hn =>
      aList_sound all r _ _ w imm (h.step (Keeps.refl _ _) h.mem hd (.pure (.v _))) hf.2 hn
    unfold wpList
    unfold aList at hK
    cases hg : o.guard with
    | none =>
      rw [hg] at hK
      rw [if_pos (by simp [Region.wanted, hg])]
      exact .inl (yes hK)
    | some jw =>
      obtain ⟨j, want⟩ := jw
      rw [hg] at hK
      simp only at hK
      obtain ⟨hB, hK⟩ := hK
      unfold guardOf at hB hK
      split at hB
      · rename_i d hdj
        rw [hdj] at hK
        simp only at hK
        cases hb : st.env d with
        | v x =>
          have hv := h.env d
          rw [hb] at hv
          have hv := hv.v_inv
          have hdj' : ((all.toArray[j]?).bind (·.dst)) = some d := by simpa using hdj
          by_cases hx : ∃ b, x = .bool b
          · obtain ⟨b, rfl⟩ := hx
            have hlt : d < a.tmps.size := by
              rcases Nat.lt_or_ge d a.tmps.size with h1 | h1
              · exact h1
              · rw [Array.getD_eq_getD_getElem?, Array.getElem?_eq_none h1] at hv
                simp [undef] at hv
            have hget : a.tmps[d]? = some (.bool b) := by
              rw [Array.getElem?_eq_getElem hlt]
              rw [Array.getD_eq_getD_getElem?, Array.getElem?_eq_getElem hlt] at hv
              simpa using hv
            have hy : yielded all.toArray a.tmps j = some b := by
              unfold yielded
              rw [hdj']
              simp [hget]
            have hbo : says (st.env d) want = (b == want) := by rw [hb]; rfl
            by_cases hbw : b = want
            · rw [if_pos (by simp [Region.wanted, hg, hy, hbw])]
              rw [if_pos (by rw [hbo, hbw]; simp)] at hK
              exact .inl (yes hK)
            · rw [if_neg (by simp [Region.wanted, hg, hy, hbw])]
              rw [if_neg (by rw [hbo]; simpa using hbw)] at hK
              exact no hK
          · have hy : yielded all.toArray a.tmps j = none := by
              unfold yielded
              rw [hdj']
              simp only [Option.bind_some]
              rcases ht : a.tmps[d]? with _ | y
              · rfl
              · rw [Array.getD_eq_getD_getElem?, ht] at hv
                simp only [Option.getD_some] at hv
                subst hv
                split
                · rename_i b heq
                  simp only [Option.some.injEq] at heq
                  exact absurd ⟨b, heq⟩ hx
                · rfl
            have hbo : says (st.env d) want = false := by
              rw [hb]
              cases x <;> first | rfl | exact absurd ⟨_, rfl⟩ hx
            rw [if_neg (by simp [Region.wanted, hg, hy])]
            rw [if_neg (by rw [hbo]; simp)] at hK
            exact no hK
        | _ => rw [hb] at hB; exact hB.elim
      · exact hB.elim

def codeFits (n : Nat) : Code → Bool
  | .region _ ops _ => ops.toList.all (opFits n)
  | .seq x y => codeFits n x && codeFits n y
  | .cond _ x y => codeFits n x && codeFits n y
  | .block _ x => codeFits n x
  | .loop x => codeFits n x
  | _ => true

/-- The rest of a block, what leaves it. -/
def AE.inBlock (id : Nat) (Q : AE → St → Prop) : AE → St → Prop
  | .exit i, st => if i = id then Q .normal st else Q (.exit i) st
  | .normal, st => Q .normal st
  | .ret, st => Q .ret st
def AE.then (next : St → Prop) (Q : AE → St → Prop) : AE → St → Prop
  | .normal, st => next st
  | .exit i, st => Q (.exit i) st
  | .ret, st => Q .ret st

/-- Code, told forward. Loops and regions that draw their order are left standing. -/
def aCode (P : Program) (tok n : Nat) : Code → (AE → St → Prop) → St → Prop
  | .skip, Q, st => Q .normal st
  | .region id ops false, Q, st => aList P tok ops.toList ops.toList (Q .normal) st
  | .seq x y, Q, st => aCode P tok n x (AE.then (aCode P tok n y Q) Q) st
  | .cond o x y, Q, st => match st.ev o with
    | .v (.bool t) => (t = true → aCode P tok n x Q st) ∧ (t = false → aCode P tok n y Q st)
    | _ => False
  | .block id x, Q, st => aCode P tok n x (AE.inBlock id Q) st
  | .exit id, Q, st => Q (.exit id) st
  | .ret, Q, st => Q .ret st
  | code, Q, st => AWP P n code Q st

theorem post_mono {Q Q' : AE → St → Prop} (h : ∀ e st, Q e st → Q' e st) {e : Exit} {a : Act} {w : World} : post c n Q e a w → post c n Q' e a w := fun ⟨ae, st, imm, h1, h2, h3⟩ => ⟨ae, st, imm, h1, h _ _ h2, h3⟩

theorem aCode_sound : ∀ (code : Code) (Q : AE → St → Prop) (st : St), codeFits n code = true → aCode P tok n code Q st → AWP P n code Q st
  | .skip, Q, st, _, h => fun c a w imm hr => wp_skip ⟨.normal, st, imm, rfl, h, hr⟩
  | .region id ops false, Q, st, hf, h => fun c a w imm hr => by
    have := aList_sound (c := c) ops.toList ops.toList st a w imm hr hf h
    simp only [Array.toArray_toList] at this
    exact wp_region_list this
  | .seq x y, Q, st, hf, h => fun c a w imm hr => by
    simp only [codeFits, Bool.and_eq_true] at hf
    refine wp_seq (Code.wp_mono (fun e a' w' hp => ?_) (aCode_sound x _ st hf.1 h c a w imm hr))
    obtain ⟨ae, st', imm', rfl, h2, h3⟩ := hp
    cases ae with
    | normal => exact aCode_sound y _ st' hf.2 h2 c a' w' imm' h3
    | exit id => exact ⟨.exit id, st', imm', rfl, h2, h3⟩
    | ret => exact ⟨.ret, st', imm', rfl, h2, h3⟩
  | .cond o x y, Q, st, hf, h => fun c a w imm hr => by
    simp only [codeFits, Bool.and_eq_true] at hf
    simp only [aCode] at h
    split at h
    · rename_i t ht
      have hv := hr.ev o
      rw [ht] at hv
      exact wp_cond_split hv.v_inv (fun e => aCode_sound x _ st hf.1 (h.1 e) c a w imm hr) (fun e => aCode_sound y _ st hf.2 (h.2 e) c a w imm hr)
    · exact h.elim
  | .block id x, Q, st, hf, h => fun c a w imm hr => by
    refine wp_block (Code.wp_mono (fun e a' w' hp => ?_) (aCode_sound x _ st hf h c a w imm hr))
    obtain ⟨ae, st', imm', rfl, h2, h3⟩ := hp
    cases ae with
    | normal => exact ⟨.normal, st', imm', rfl, h2, h3⟩
    | exit i =>
      simp only [AE.inBlock] at h2
      by_cases hi : i = id
      · rw [if_pos hi] at h2
        simp only [AE.to, Exit.inBlock, hi, if_true]
        exact ⟨.normal, st', imm', rfl, h2, h3⟩
      · rw [if_neg hi] at h2
        simp only [AE.to, Exit.inBlock, hi, if_false]
        exact ⟨.exit i, st', imm', rfl, h2, h3⟩
    | ret => exact ⟨.ret, st', imm', rfl, h2, h3⟩
  | .exit id, Q, st, _, h => fun c a w imm hr => wp_exit ⟨.exit id, st, imm, rfl, h, hr⟩
  | .ret, Q, st, _, h => fun c a w imm hr => wp_ret ⟨.ret, st, imm, rfl, h, hr⟩
  | .region id ops true, Q, st, _, h => h
  | .loop x, Q, st, _, h => h
  | .rangeFunc .., Q, st, _, h => h
  | .scope x, Q, st, _, h => h
  | .label l, Q, st, _, h => h
  | .goto l, Q, st, _, h => h
  | .refuse y, Q, st, _, h => h

/-- A loop, by an index that goes down. -/
theorem awp_loop {ι : Type} {body : Code} {Q : AE → St → Prop} (I : ι → St → Prop) (μ : ι → Nat) (hf : codeFits n body = true)
    (round : ∀ i st, I i st → aCode P tok n body (AE.then (fun st' => ∃ i', I i' st' ∧ μ i' < μ i) Q) st) {i : ι} {st : St} (h0 : I i st) : AWP P n (.loop body) Q st := by
  intro c a w imm hr b k cs
  have key : ∀ m i st a w imm, μ i = m → I i st → Rel c n st a w imm →
      ∃ e a' w', post c n Q e a' w' ∧ Arrives P (lone (b.at a (.code body :: .inLoop body :: k)) cs w) b k cs e a' w' := by
    intro m
    induction m using Nat.strongRecOn with
    | _ m ih =>
      intro i st a w imm hm hI hr
      obtain ⟨e, a₁, w₁, hq, harr⟩ := aCode_sound body _ st hf (round i st hI) c a w imm hr b (.inLoop body :: k) cs
      obtain ⟨ae, st', imm', rfl, h2, h3⟩ := hq
      cases ae with
      | normal =>
        obtain ⟨i', hI', hlt⟩ := h2
        obtain ⟨e₂, a₂, w₂, hq₂, harr₂⟩ := ih (μ i') (hm ▸ hlt) i' st' a₁ w₁ imm' rfl hI' h3
        exact ⟨e₂, a₂, w₂, hq₂, .of_steps (Steps.trans harr (.one step_inLoop)) harr₂⟩
      | exit id => exact ⟨_, a₁, w₁, ⟨.exit id, st', imm', rfl, h2, h3⟩, .pass (x := .inLoop body) rfl (fun _ _ => .inl (by simp [AE.to])) harr⟩
      | ret => exact ⟨_, a₁, w₁, ⟨.ret, st', imm', rfl, h2, h3⟩, .pass (x := .inLoop body) rfl (fun _ _ => .inl (by simp [AE.to])) harr⟩
  obtain ⟨e, a', w', hq, harr⟩ := key _ i st a w imm rfl h0 hr
  exact ⟨e, a', w', hq, .of_steps (.one step_loop) harr⟩
end

end Go.Pg
