/- The engine, part Q: rules to step by. -/
import Derived.Test.YtkhcpgakfeefhaaEngP
namespace Go.Pg
open Go Go.RowKit
set_option linter.unusedSimpArgs false
set_option linter.unusedVariables false
section
variable {P : Program} {tok n : Nat} {Q : AE → St → Prop} {st : St}
theorem r_seq {x y : Code} (h : aCode P tok n x (AE.then (aCode P tok n y Q) Q) st) : aCode P tok n (.seq x y) Q st := h
theorem r_skip (h : Q .normal st) : aCode P tok n .skip Q st := h
theorem r_ret (h : Q .ret st) : aCode P tok n .ret Q st := h
theorem r_exit {id : Nat} (h : Q (.exit id) st) : aCode P tok n (.exit id) Q st := h
theorem r_block {id : Nat} {x : Code} (h : aCode P tok n x (AE.inBlock id Q) st) : aCode P tok n (.block id x) Q st := h
theorem r_cond {o : Operand} {x y : Code} {t : Bool} (ht : st.ev o = .v (.bool t)) (h1 : t = true → aCode P tok n x Q st) (h2 : t = false → aCode P tok n y Q st) : aCode P tok n (.cond o x y) Q st := by
  unfold aCode
  rw [ht]
  exact ⟨h1, h2⟩
theorem r_true {o : Operand} {x y : Code} (ht : st.ev o = .v (.bool true)) (h1 : aCode P tok n x Q st) : aCode P tok n (.cond o x y) Q st := r_cond ht (fun _ => h1) (fun h => by cases h)
theorem r_false {o : Operand} {x y : Code} (ht : st.ev o = .v (.bool false)) (h1 : aCode P tok n y Q st) : aCode P tok n (.cond o x y) Q st := r_cond ht (fun h => by cases h) (fun _ => h1)
theorem r_reg {id : Nat} {l : List Oper} (h : ∀ K : St → Prop, (∀ st', Q .normal st' → K st') → aList P tok l l K st) : aCode P tok n (.region id l.toArray false) Q st := by
  unfold aCode
  exact h _ fun _ h => h
theorem r_awp {x : Code} (h : AWP P n (.loop x) Q st) : aCode P tok n (.loop x) Q st := h
theorem r_loop {ι : Type} {body : Code} (I : ι → St → Prop) (μ : ι → Nat) (i : ι) (hf : codeFits n body = true)
    (round : ∀ i st, I i st → aCode P tok n body (AE.then (fun st' => ∃ i', I i' st' ∧ μ i' < μ i) Q) st) (h0 : I i st) : aCode P tok n (.loop body) Q st := awp_loop (tok := tok) I μ hf round h0
theorem t_then {next : St → Prop} (h : next st) : AE.then next Q .normal st := h
theorem t_then_ret {next : St → Prop} (h : Q .ret st) : AE.then next Q .ret st := h
theorem t_then_exit {next : St → Prop} {i : Nat} (h : Q (.exit i) st) : AE.then next Q (.exit i) st := h
theorem t_done {rs : List ResultVar} {K : St → AV → Prop} (h : retAV P st rs (K st)) : Done P rs K .ret st := h
theorem t_done' {rs : List ResultVar} {K : St → AV → Prop} (h : retAV P st rs (K st)) : Done P rs K .normal st := h
theorem t_in {id : Nat} (h : Q .normal st) : AE.inBlock id Q .normal st := h
theorem t_in_ret {id : Nat} (h : Q .ret st) : AE.inBlock id Q .ret st := h
theorem t_in_exit {id : Nat} (h : Q .normal st) : AE.inBlock id Q (.exit id) st := by simp only [AE.inBlock, if_true]; exact h
theorem t_in_other {id i : Nat} (hi : i ≠ id) (h : Q (.exit i) st) : AE.inBlock id Q (.exit i) st := by simp only [AE.inBlock, if_neg hi]; exact h
end

theorem getD_map {α : Type} {f : α → AV} {l : List α} {k : Nat} {x : α} (h : k < l.length) : (l.map f).getD k .u = f (l.getD k x) := by
  simp [List.getD_eq_getElem?_getD, List.getElem?_eq_getElem h]
theorem cells_agg (cs : List AV) : (AV.agg cs).cells = cs := rfl
theorem cells_v (x : Value) : (AV.v x).cells = [.v x] := rfl
theorem cells_sl (m : Nat) (es : List AV) : (AV.sl m es).cells = [.sl m es] := rfl
theorem cells_own (k : Nat) (sv : Value) : (AV.own k sv).cells = [.own k sv] := rfl
theorem cells_pimm (cs : List AV) : (AV.pimm cs).cells = [.pimm cs] := rfl
theorem cells_pbox (k g o : Nat) : (AV.pbox k g o).cells = [.pbox k g o] := rfl
theorem cells_fn (f : FuncId) (cs : List AV) : (AV.fn f cs).cells = [.fn f cs] := rfl
theorem wrap_i64 {x : Int} (h1 : -9223372036854775808 ≤ x) (h2 : x ≤ 9223372036854775807) : IntKind.i64.wrap x = x := IntWalk.i64_in x ⟨h1, h2⟩
theorem says_bool (b w : Bool) : says (.v (.bool b)) w = (b == w) := rfl
theorem says_undef (w : Bool) : says (.v (.tuple #[])) w = false := rfl
theorem known_v (x : Value) : known (.v x) = True := rfl

attribute [go_sem] aList_nil aList_none aList_some guardOf says_bool says_undef known_v aRes opRes St.ev St.put upd_at marks mark AV.ofVal callRes lenRes binRes intRes strRes unRes convRes pickRes pickAV indexAddrRes indexRes loadRes loadOf isAggD headRes takeRes takeRes' partOf
  appRes elemsOf copyRes sliceRes sliceLo sliceHi fieldRes fillA buildRes fillEs buildSliceRes makeSliceRes storeRes putEl nilRes mmRes aZero splice cells_agg cells_v cells_sl cells_own cells_pimm cells_pbox cells_fn
  AV.toks AV.toksL Ent.mark leafOk leafV leavesOk pubOk pubLOk pubV pubLV AV.ok AV.one Value.oneCell' pubRet retAV resVars resVar resK

end Go.Pg
