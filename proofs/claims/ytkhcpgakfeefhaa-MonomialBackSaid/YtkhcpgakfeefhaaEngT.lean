/- The engine, part T: one operation at a time. -/
import Derived.Test.YtkhcpgakfeefhaaEngS
namespace Go.Pg
open Go Go.RowKit
set_option linter.unusedSimpArgs false
set_option linter.unusedVariables false
section
variable {P : Program} {all rest : List Oper} {K : St → Prop} {e : Nat → AV} {m : Mem} {dst : Option Nat} {d t j : Nat} {op : Op} {ty : TypeId} {pos : String} {af : Array Edge} {r : Res} {want : Bool} {a : AV} {f : FuncId} {args args' : List AV}

theorem o_nil (h : K ⟨e, m⟩) : aList P 0 all [] K ⟨e, m⟩ := h
theorem o_op (h : opRes P ⟨e, m⟩ op = r) (k : aRes P d (some d) r (aList P 0 all rest K) ⟨e, m⟩) : aList P 0 all (⟨some d, op, ty, pos, af, none⟩ :: rest) K ⟨e, m⟩ := by
  rw [aList_none, h, Option.getD_some, Nat.zero_add]; exact k
theorem o_opN (h : opRes P ⟨e, m⟩ op = r) (k : aRes P 0 none r (aList P 0 all rest K) ⟨e, m⟩) : aList P 0 all (⟨none, op, ty, pos, af, none⟩ :: rest) K ⟨e, m⟩ := by
  rw [aList_none, h]; exact k
theorem o_on (hg : guardOf all ⟨e, m⟩ j = .v (.bool want)) (h : aList P 0 all (⟨dst, op, ty, pos, af, none⟩ :: rest) K ⟨e, m⟩) : aList P 0 all (⟨dst, op, ty, pos, af, some (j, want)⟩ :: rest) K ⟨e, m⟩ := by
  rw [aList_some, hg]
  refine ⟨trivial, ?_⟩
  rw [if_pos (by simp [says])]
  exact h
theorem o_off {v : Value} (hg : guardOf all ⟨e, m⟩ j = .v v) (hs : says (.v v) want = false) (h : aList P 0 all rest K ⟨upd e d (.v (.tuple #[])), m⟩) : aList P 0 all (⟨some d, op, ty, pos, af, some (j, want)⟩ :: rest) K ⟨e, m⟩ := by
  rw [aList_some, hg]
  refine ⟨trivial, ?_⟩
  rw [if_neg (by rw [hs]; simp)]
  exact h
theorem o_offN {v : Value} (hg : guardOf all ⟨e, m⟩ j = .v v) (hs : says (.v v) want = false) (h : aList P 0 all rest K ⟨e, m⟩) : aList P 0 all (⟨none, op, ty, pos, af, some (j, want)⟩ :: rest) K ⟨e, m⟩ := by
  rw [aList_some, hg]
  refine ⟨trivial, ?_⟩
  rw [if_neg (by rw [hs]; simp)]
  exact h
theorem o_val (h : K ⟨upd e d a, m⟩) : aRes P t (some d) (.val a []) K ⟨e, m⟩ := h
theorem o_vals {ks : List Nat} (h : K ⟨upd e d a, marks m ks⟩) : aRes P t (some d) (.val a ks) K ⟨e, m⟩ := h
theorem o_valN {ks : List Nat} (h : K ⟨e, marks m ks⟩) : aRes P t none (.val a ks) K ⟨e, m⟩ := h
theorem o_need {p : Prop} (hp : p) (h : aRes P t dst r K ⟨e, m⟩) : aRes P t dst (.need p r) K ⟨e, m⟩ := ⟨hp, h⟩
theorem o_row {mm : Nat} {es : List AV} (h : ∀ sv, K ⟨upd e d (.own t sv), upd m t (some (.row sv ty mm es 0))⟩) : aRes P t (some d) (.row ty mm es []) K ⟨e, m⟩ := h
theorem o_rows {mm : Nat} {es : List AV} {ks : List Nat} (h : ∀ sv, K ⟨upd e d (.own t sv), upd (marks m ks) t (some (.row sv ty mm es 0))⟩) : aRes P t (some d) (.row ty mm es ks) K ⟨e, m⟩ := h
theorem o_box {cs : List AV} (h : ∀ g, K ⟨upd e d (.pbox t g 0), upd m t (some (.box g ty cs false))⟩) : aRes P t (some d) (.box ty cs) K ⟨e, m⟩ := h
theorem o_app {k mm pub : Nat} {sv0 : Value} {es news : List AV} {ks : List Nat} (hk : marks m ks k = some (.row sv0 ty mm es pub)) (h : ∀ sv, K ⟨upd e d (.own k sv), upd (marks m ks) k (some (.row sv ty mm (es ++ news) pub))⟩) :
    aRes P t (some d) (.app k news ks) K ⟨e, m⟩ := by
  simp only [aRes, hk]
  exact h
theorem o_sto {k : Nat} {ent : Ent} {ks : List Nat} (h : K ⟨e, upd (marks m ks) k (some ent)⟩) : aRes P t none (.sto a k ent ks) K ⟨e, m⟩ := h
theorem o_stoD {k : Nat} {ent : Ent} {ks : List Nat} (h : K ⟨upd e d a, upd (marks m ks) k (some ent)⟩) : aRes P t (some d) (.sto a k ent ks) K ⟨e, m⟩ := h
theorem o_call {x : AV} (c : Pure P f args' x) (h0 : AV.toksL args = []) (ho : pubLOk m args) (ha : pubLV m args = args') (h : K ⟨upd e d x, m⟩) : aRes P t (some d) (.call f args) K ⟨e, m⟩ := by
  refine acall_pure c ?_ ?_ ?_
  · rw [h0]; exact ho
  · rw [h0]; exact ha
  · rw [h0]; exact h
theorem o_callN {x : AV} (c : Pure P f args' x) (h0 : AV.toksL args = []) (ho : pubLOk m args) (ha : pubLV m args = args') (h : K ⟨e, m⟩) : aRes P t none (.call f args) K ⟨e, m⟩ := by
  refine acall_pure c ?_ ?_ ?_
  · rw [h0]; exact ho
  · rw [h0]; exact ha
  · rw [h0]; exact h
theorem o_calls {x : AV} {ks : List Nat} {m' : Mem} (c : Pure P f args' x) (h0 : AV.toksL args = ks) (hm : marks m ks = m') (ho : pubLOk m' args) (ha : pubLV m' args = args') (h : K ⟨upd e d x, m'⟩) : aRes P t (some d) (.call f args) K ⟨e, m⟩ := by
  subst hm
  subst h0
  exact acall_pure c ho ha h

/-! ### in a region that draws -/
variable {rs : Nat → AV} {bar : List Nat} {fu k : Nat}
def dRes (P : Program) (t d : Nat) (r0 : AV) (r : Res) (K : St → Prop) (st : St) : Prop := resNeed P r0 r ∧ optK t (some d) (resOut r0 r) K st
theorem d_nil (h : K ⟨e, m⟩) : dList P 0 all rs bar 0 k K ⟨e, m⟩ := h
theorem d_op (hb : bar.contains k = false) (ho : all[k]? = some ⟨some d, op, ty, pos, af, none⟩) (h : opRes P ⟨e, noMem⟩ op = r) (hk : dRes P d d (rs k) r (dList P 0 all rs bar fu (k + 1) K) ⟨e, m⟩) : dList P 0 all rs bar (fu + 1) k K ⟨e, m⟩ := by
  rw [dList_succ]
  unfold xStep
  rw [ho]
  simp only [hb, Bool.false_eq_true, if_false]
  unfold dStep
  simp only [h, Option.getD_some, Nat.zero_add]
  exact hk
theorem d_on (hb : bar.contains k = false) (ho : all[k]? = some ⟨some d, op, ty, pos, af, some (j, want)⟩) (hg : guardOf all ⟨e, noMem⟩ j = .v (.bool want)) (h : opRes P ⟨e, noMem⟩ op = r) (hk : dRes P d d (rs k) r (dList P 0 all rs bar fu (k + 1) K) ⟨e, m⟩) : dList P 0 all rs bar (fu + 1) k K ⟨e, m⟩ := by
  rw [dList_succ]
  unfold xStep
  rw [ho]
  simp only [hb, Bool.false_eq_true, if_false]
  unfold dStep
  simp only [hg, h, Option.getD_some, Nat.zero_add, says_bool, beq_self_eq_true, if_true]
  exact ⟨trivial, hk⟩
theorem d_off {v : Value} (hb : bar.contains k = false) (ho : all[k]? = some ⟨some d, op, ty, pos, af, some (j, want)⟩) (hg : guardOf all ⟨e, noMem⟩ j = .v v) (hs : says (.v v) want = false) (hk : dList P 0 all rs bar fu (k + 1) K ⟨upd e d (.v (.tuple #[])), m⟩) : dList P 0 all rs bar (fu + 1) k K ⟨e, m⟩ := by
  rw [dList_succ]
  unfold xStep
  rw [ho]
  simp only [hb, Bool.false_eq_true, if_false]
  unfold dStep
  simp only [hg, hs, Bool.false_eq_true, if_false]
  exact ⟨trivial, hk⟩
theorem d_bar {o : Oper} (hb : bar.contains k = true) (ho : all[k]? = some o) (hk : aList P 0 all [o] (dList P 0 all rs bar fu (k + 1) K) ⟨e, m⟩) : dList P 0 all rs bar (fu + 1) k K ⟨e, m⟩ := by
  rw [dList_succ]
  unfold xStep
  rw [ho]
  simp only [hb, if_true]
  exact hk
theorem e_val {r0 : AV} (h : K ⟨upd e d a, m⟩) : dRes P t d r0 (.val a []) K ⟨e, m⟩ := ⟨trivial, h⟩
theorem e_need {r0 : AV} {p : Prop} (hp : p) (h : dRes P t d r0 r K ⟨e, m⟩) : dRes P t d r0 (.need p r) K ⟨e, m⟩ := ⟨⟨hp, h.1⟩, h.2⟩
theorem e_row {r0 : AV} {mm : Nat} {es : List AV} (h : ∀ sv, K ⟨upd e d (.own t sv), upd m t (some (.row sv ty mm es 0))⟩) : dRes P t d r0 (.row ty mm es []) K ⟨e, m⟩ := ⟨trivial, h⟩
theorem e_box {r0 : AV} {cs : List AV} (h : ∀ g, K ⟨upd e d (.pbox t g 0), upd m t (some (.box g ty cs false))⟩) : dRes P t d r0 (.box ty cs) K ⟨e, m⟩ := ⟨trivial, h⟩
theorem e_call {r0 : AV} {x : AV} (hx : r0 = x) (c : Pure P f args' x) (h0 : AV.toksL args = []) (ho : pubLOk noMem args) (ha : pubLV noMem args = args') (h : K ⟨upd e d x, m⟩) : dRes P t d r0 (.call f args) K ⟨e, m⟩ := by
  subst hx
  subst ha
  exact ⟨⟨h0, ho, c⟩, h⟩
end
section
variable {P : Program} {n : Nat} {Q : AE → St → Prop} {e : Nat → AV} {m : Mem}
theorem r_condE {o : Operand} {x y : Code} {t : Bool} (ht : St.ev ⟨e, m⟩ o = .v (.bool t)) (h1 : t = true → aCode P 0 n x Q ⟨e, m⟩) (h2 : t = false → aCode P 0 n y Q ⟨e, m⟩) : aCode P 0 n (.cond o x y) Q ⟨e, m⟩ := r_cond ht h1 h2
theorem r_loopE {ι : Type} {body : Code} (I : ι → (Nat → AV) → Mem → Prop) (μ : ι → Nat) (i : ι) (hf : codeFits n body = true)
    (round : ∀ i e m, I i e m → aCode P 0 n body (AE.then (fun st' => ∃ i', I i' st'.env st'.mem ∧ μ i' < μ i) Q) ⟨e, m⟩) (h0 : I i e m) : aCode P 0 n (.loop body) Q ⟨e, m⟩ :=
  r_loop (tok := 0) (fun i st => I i st.env st.mem) μ i hf (fun i st h => round i st.env st.mem h) h0
end

/-! ### the same rules, parted so that one evaluation serves all -/
section
variable {P : Program} {all rest : List Oper} {K : St → Prop} {e : Nat → AV} {m : Mem} {dst : Option Nat} {d t j n : Nat} {op : Op} {ty : TypeId} {pos : String} {af : Array Edge} {r : Res} {want : Bool} {a : AV} {f : FuncId} {args args' : List AV} {Q : AE → St → Prop} {rs : Nat → AV} {bar : List Nat} {fu k : Nat} {v : Value}
def AllV {α : Type} (p : α → Prop) : Prop := ∀ x, p x
theorem all_v {α : Type} {p : α → Prop} (h : ∀ x, p x) : AllV p := h
def OG (P : Program) (all rest : List Oper) (dst : Option Nat) (op : Op) (ty : TypeId) (pos : String) (af : Array Edge) (v : Value) (want : Bool) (K : St → Prop) (st : St) : Prop :=
  if says (.v v) want = true then aList P 0 all (⟨dst, op, ty, pos, af, none⟩ :: rest) K st else aList P 0 all rest K (st.put dst (.v (.tuple #[])))
theorem o_g (hg : guardOf all ⟨e, m⟩ j = .v v) (h : OG P all rest dst op ty pos af v want K ⟨e, m⟩) : aList P 0 all (⟨dst, op, ty, pos, af, some (j, want)⟩ :: rest) K ⟨e, m⟩ := by
  unfold OG at h
  rw [aList_some, hg]
  refine ⟨trivial, ?_⟩
  by_cases hs : says (.v v) want = true
  · rw [if_pos hs] at h ⊢; exact h
  · rw [if_neg hs] at h ⊢; exact h
theorem g_y (hs : says (.v v) want = true) (h : aList P 0 all (⟨dst, op, ty, pos, af, none⟩ :: rest) K ⟨e, m⟩) : OG P all rest dst op ty pos af v want K ⟨e, m⟩ := by
  unfold OG; rw [if_pos hs]; exact h
theorem g_n (hs : says (.v v) want = false) (h : aList P 0 all rest K ⟨upd e d (.v (.tuple #[])), m⟩) : OG P all rest (some d) op ty pos af v want K ⟨e, m⟩ := by
  unfold OG; rw [if_neg (by rw [hs]; simp)]; exact h
theorem g_nN (hs : says (.v v) want = false) (h : aList P 0 all rest K ⟨e, m⟩) : OG P all rest none op ty pos af v want K ⟨e, m⟩ := by
  unfold OG; rw [if_neg (by rw [hs]; simp)]; exact h
def CG (P : Program) (n : Nat) (t : Bool) (x y : Code) (Q : AE → St → Prop) (st : St) : Prop := if t = true then aCode P 0 n x Q st else aCode P 0 n y Q st
theorem r_c {o : Operand} {x y : Code} {t : Bool} (ht : St.ev ⟨e, m⟩ o = .v (.bool t)) (h : CG P n t x y Q ⟨e, m⟩) : aCode P 0 n (.cond o x y) Q ⟨e, m⟩ := by
  unfold CG at h
  refine r_cond ht (fun h1 => ?_) fun h1 => ?_
  · rwa [if_pos h1] at h
  · rwa [if_neg (by rw [h1]; simp)] at h
theorem c_t {x y : Code} {st : St} (h : aCode P 0 n x Q st) : CG P n true x y Q st := by unfold CG; rw [if_pos rfl]; exact h
theorem c_f {x y : Code} {st : St} (h : aCode P 0 n y Q st) : CG P n false x y Q st := by unfold CG; rw [if_neg (by simp)]; exact h
theorem c_split {x y : Code} {t : Bool} {st : St} (h1 : t = true → aCode P 0 n x Q st) (h2 : t = false → aCode P 0 n y Q st) : CG P n t x y Q st := by
  unfold CG
  by_cases h : t = true
  · rw [if_pos h]; exact h1 h
  · rw [if_neg h]; exact h2 (by simpa using h)
theorem p_row {mm : Nat} {es : List AV} (h : AllV fun sv => K ⟨upd e d (.own t sv), upd m t (some (.row sv ty mm es 0))⟩) : aRes P t (some d) (.row ty mm es []) K ⟨e, m⟩ := h
theorem p_rows {mm : Nat} {es : List AV} {ks : List Nat} (h : AllV fun sv => K ⟨upd e d (.own t sv), upd (marks m ks) t (some (.row sv ty mm es 0))⟩) : aRes P t (some d) (.row ty mm es ks) K ⟨e, m⟩ := h
theorem p_box {cs : List AV} (h : AllV fun g => K ⟨upd e d (.pbox t g 0), upd m t (some (.box g ty cs false))⟩) : aRes P t (some d) (.box ty cs) K ⟨e, m⟩ := h
theorem p_app {k mm pub : Nat} {sv0 : Value} {es news : List AV} {ks : List Nat} (hk : marks m ks k = some (.row sv0 ty mm es pub)) (h : AllV fun sv => K ⟨upd e d (.own k sv), upd (marks m ks) k (some (.row sv ty mm (es ++ news) pub))⟩) :
    aRes P t (some d) (.app k news ks) K ⟨e, m⟩ := o_app hk h
theorem q_row {r0 : AV} {mm : Nat} {es : List AV} (h : AllV fun sv => K ⟨upd e d (.own t sv), upd m t (some (.row sv ty mm es 0))⟩) : dRes P t d r0 (.row ty mm es []) K ⟨e, m⟩ := e_row h
theorem q_box {r0 : AV} {cs : List AV} (h : AllV fun g => K ⟨upd e d (.pbox t g 0), upd m t (some (.box g ty cs false))⟩) : dRes P t d r0 (.box ty cs) K ⟨e, m⟩ := e_box h
def DG (P : Program) (all : List Oper) (rs : Nat → AV) (bar : List Nat) (fu k d : Nat) (op : Op) (v : Value) (want : Bool) (K : St → Prop) (e : Nat → AV) (m : Mem) : Prop :=
  if says (.v v) want = true then ∃ r, opRes P ⟨e, noMem⟩ op = r ∧ dRes P d d (rs k) r (dList P 0 all rs bar fu (k + 1) K) ⟨e, m⟩ else dList P 0 all rs bar fu (k + 1) K ⟨upd e d (.v (.tuple #[])), m⟩
theorem d_g (hb : bar.contains k = false) (ho : all[k]? = some ⟨some d, op, ty, pos, af, some (j, want)⟩) (hg : guardOf all ⟨e, noMem⟩ j = .v v) (h : DG P all rs bar fu k d op v want K e m) : dList P 0 all rs bar (fu + 1) k K ⟨e, m⟩ := by
  unfold DG at h
  rw [dList_succ]
  unfold xStep
  rw [ho]
  simp only [hb, Bool.false_eq_true, if_false]
  unfold dStep
  simp only [hg]
  refine ⟨trivial, ?_⟩
  by_cases hs : says (.v v) want = true
  · rw [if_pos hs] at h ⊢
    obtain ⟨r, hr, hk⟩ := h
    rw [hr]
    simp only [Option.getD_some, Nat.zero_add]
    exact hk
  · rw [if_neg hs] at h ⊢; exact h
theorem dg_y (hs : says (.v v) want = true) (h : opRes P ⟨e, noMem⟩ op = r) (hk : dRes P d d (rs k) r (dList P 0 all rs bar fu (k + 1) K) ⟨e, m⟩) : DG P all rs bar fu k d op v want K e m := by
  unfold DG; rw [if_pos hs]; exact ⟨r, h, hk⟩
theorem dg_n (hs : says (.v v) want = false) (h : dList P 0 all rs bar fu (k + 1) K ⟨upd e d (.v (.tuple #[])), m⟩) : DG P all rs bar fu k d op v want K e m := by
  unfold DG; rw [if_neg (by rw [hs]; simp)]; exact h
end
theorem Pure.argsW {P : Program} {f : FuncId} {args args' : List AV} {r : AV} (h : Pure P f args r) (hl : args'.length = args.length) (hw : ∀ (j : Nat) (a b : AV), args'[j]? = some a → args[j]? = some b → Wk a b) : Pure P f args' r := by
  refine ⟨h.1, fun w imm vs h1 h2 h3 => h.2 w imm vs h1 (by omega) fun j b x hb hx => ?_⟩
  have hj : j < args'.length := by rw [hl]; exact (List.getElem?_eq_some_iff.1 hb).1
  exact (hw j args'[j] b (List.getElem?_eq_getElem hj) hb).rd (h3 j args'[j] x (List.getElem?_eq_getElem hj) hx)
theorem Pure.nil1 {P : Program} {f m : Nat} {r : AV} (h : Pure P f [.sl m []] r) : Pure P f [.v (.slice none 0 0)] r := by
  refine h.argsW rfl fun j a b h1 h2 => ?_
  match j with
  | 0 => simp at h1 h2; subst h1; subst h2; exact .nil m
  | j + 1 => simp at h1
theorem Pure.nil2 {P : Program} {f m : Nat} {x r : AV} (h : Pure P f [.sl m [], x] r) : Pure P f [.v (.slice none 0 0), x] r := by
  refine h.argsW rfl fun j a b h1 h2 => ?_
  match j with
  | 0 => simp at h1 h2; subst h1; subst h2; exact .nil m
  | 1 => simp at h1 h2; subst h1; subst h2; exact .refl _
  | j + 2 => simp at h1
theorem Pure.nil3 {P : Program} {f m : Nat} {x y r : AV} (h : Pure P f [.sl m [], x, y] r) : Pure P f [.v (.slice none 0 0), x, y] r := by
  refine h.argsW rfl fun j a b h1 h2 => ?_
  match j with
  | 0 => simp at h1 h2; subst h1; subst h2; exact .nil m
  | 1 => simp at h1 h2; subst h1; subst h2; exact .refl _
  | 2 => simp at h1 h2; subst h1; subst h2; exact .refl _
  | j + 3 => simp at h1
theorem ev_mk {e : Nat → AV} {m : Mem} {t : Nat} : St.ev ⟨e, m⟩ (.tmp t) = e t := rfl
theorem env_mk {e : Nat → AV} {m : Mem} : St.env ⟨e, m⟩ = e := rfl
theorem mem_mk {e : Nat → AV} {m : Mem} : St.mem ⟨e, m⟩ = m := rfl
theorem map_arr_cons {α β : Type} {f : α → β} {x : α} {l : List α} : (List.toArray (x :: l)).toList.map f = f x :: (List.toArray l).toList.map f := rfl
theorem map_arr_nil {α β : Type} {f : α → β} : (List.toArray ([] : List α)).toList.map f = [] := rfl
attribute [go_sem ↓] ev_mk env_mk mem_mk upd_at opRes guardOf callRes pickRes map_arr_cons map_arr_nil List.map_cons List.map_nil
end Go.Pg
