/- The engine, part S: facts about whole numbers, found where they are needed. -/
import Derived.Test.YtkhcpgakfeefhaaEngR
namespace Go.Pg
open Go Go.RowKit
set_option linter.unusedSimpArgs false
set_option linter.unusedVariables false
def pickR : List (Nat × AV) → Nat → AV
  | [], _ => .u
  | (k, a) :: l, i => if i = k then a else pickR l i
theorem dList_zero {P : Program} {tok : Nat} {all : List Oper} {rs : Nat → AV} {bar : List Nat} {k : Nat} {K : St → Prop} {st : St} : dList P tok all rs bar 0 k K st = K st := rfl
theorem dList_succ {P : Program} {tok : Nat} {all : List Oper} {rs : Nat → AV} {bar : List Nat} {f k : Nat} {K : St → Prop} {st : St} : dList P tok all rs bar (f + 1) k K st = xStep P tok all rs bar k (dList P tok all rs bar f (k + 1) K) st := rfl
attribute [go_sem] pickR dList_zero dList_succ xStep dStep fStep resNeed resOut optK outK List.contains_cons List.contains_nil Bool.or_false Bool.false_or Bool.or_true Bool.true_or noMem
theorem lt_t {a b : Int} (h : a < b) : decide (a < b) = true := decide_eq_true h
theorem lt_f {a b : Int} (h : b ≤ a) : decide (a < b) = false := decide_eq_false (by omega)
theorem le_t {a b : Int} (h : a ≤ b) : decide (a ≤ b) = true := decide_eq_true h
theorem le_f {a b : Int} (h : b < a) : decide (a ≤ b) = false := decide_eq_false (by omega)
theorem eq_t {a b : Int} (h : a = b) : (a == b) = true := by simp [h]
theorem eq_f {a b : Int} (h : a ≠ b) : (a == b) = false := by simp [h]
theorem ne_t {a b : Int} (h : a ≠ b) : (a != b) = true := by simp [h]
theorem ne_f {a b : Int} (h : a = b) : (a != b) = false := by simp [h]
theorem pred_toNat (n : Nat) : ((n : Int) - 1).toNat = n - 1 := by omega
theorem succ_toNat (n : Nat) : ((n : Int) + 1).toNat = n + 1 := by omega
/-- A row of whole numbers. -/
def ints (l : List Int) : AV := .sl 1 (l.map fun n => .v (.int .i64 n))
/-- The k-th of a row of whole numbers, 0 past its end. -/
def gI (l : List Int) (k : Nat) : Int := l.getD k 0
theorem ints_get {l : List Int} {k : Nat} (h : k < l.length) : (l.map fun n => AV.v (.int .i64 n)).getD k .u = .v (.int .i64 (gI l k)) := getD_map h
theorem gI_at {l : List Int} {k : Nat} (h : k < l.length) : gI l k = l[k] := by unfold gI; rw [List.getD_eq_getElem?_getD, List.getElem?_eq_getElem h]; rfl
theorem gI_out {l : List Int} {k : Nat} (h : l.length ≤ k) : gI l k = 0 := by unfold gI; rw [List.getD_eq_getElem?_getD, List.getElem?_eq_none h]; rfl
theorem cast_succ (n : Nat) : (n : Int) + 1 = ((n + 1 : Nat) : Int) := by omega
theorem if_max (x y : Int) : (if y > x then y else x) = max x y := by split <;> omega
attribute [go_sem] if_max lt_t lt_f le_t le_f eq_t eq_f ne_t ne_f pred_toNat succ_toNat ints_get

/-- What reads as a also reads as b. -/
inductive Wk : AV → AV → Prop
  | refl (a : AV) : Wk a a
  | nil (m : Nat) : Wk (.v (.slice none 0 0)) (.sl m [])
  | tup (as bs : List AV) (hl : as.length = bs.length) (h : ∀ (j : Nat) (a b : AV), as[j]? = some a → bs[j]? = some b → Wk a b) : Wk (.tup as) (.tup bs)
theorem Wk.rd {w : World} {imm : Imm} {a b : AV} (h : Wk a b) : ∀ {x : Value}, Rd w imm a x → Rd w imm b x := by
  induction h with
  | refl a => exact fun h => h
  | nil m =>
    intro x h
    cases h
    exact .sl m [] none 0 (fun _ => undef) (by simp) (by simp) (Nat.le_refl _) (by simp) (by simp) (by simp [flat])
  | tup as bs hl _ ih =>
    intro x h
    cases h with
    | tup _ vs hl2 hr =>
      refine .tup bs vs (by omega) fun j b x h1 h2 => ?_
      have hj : j < as.length := by rw [hl]; exact (List.getElem?_eq_some_iff.1 h1).1
      exact ih j as[j] b (List.getElem?_eq_getElem hj) h1 (hr j as[j] x (List.getElem?_eq_getElem hj) h2)
theorem Pure.wk {P : Program} {f : FuncId} {args : List AV} {r r' : AV} (h : Pure P f args r) (hw : Wk r r') : Pure P f args r' := by
  refine ⟨h.1, fun w imm vs h1 h2 h3 => (h.2 w imm vs h1 h2 h3).mono fun e w' he => ?_⟩
  obtain ⟨x, imm', e1, e2, e3⟩ := he
  exact ⟨x, imm', e1, hw.rd e2, e3⟩
theorem Wk.pair {a b c : AV} (h : Wk a b) : Wk (.tup [a, c]) (.tup [b, c]) := by
  refine .tup _ _ rfl fun j x y h1 h2 => ?_
  match j with
  | 0 => simp at h1 h2; subst h1; subst h2; exact h
  | 1 => simp at h1 h2; subst h1; subst h2; exact .refl _
  | j + 2 => simp at h1
attribute [go_sem] ne_eq true_and and_true implies_true Std.le_refl and_self not_true_eq_false not_false_eq_true forall_const Option.getD_some Option.getD_none List.getElem?_cons_zero List.getElem?_cons_succ List.getElem?_nil Option.bind_some Option.map_some Option.map_none Option.isSome_some Option.isSome_none
  List.map_cons List.map_nil List.length_cons List.length_nil List.length_map List.length_take List.length_replicate List.size_toArray List.append_nil List.nil_append List.cons_append List.getD_cons_zero List.getD_cons_succ List.getD_nil List.drop_zero List.drop_succ_cons List.take_zero List.take_succ_cons List.drop_nil List.take_nil
  List.set_cons_zero List.set_cons_succ List.replicate_succ List.replicate_zero List.all_cons List.all_nil Bool.and_true Bool.true_and Bool.false_eq_true Bool.true_eq_false Bool.not_true Bool.not_false decide_true decide_false decide_eq_true_eq Int.toNat_natCast Int.toNat_zero Int.toNat_one imp_false false_and and_false false_or or_false beq_self_eq_true beq_true beq_false wrap_i64
end Go.Pg
