/- The engine, part C: states of a frame, results of operations, their meaning. -/
import Derived.Test.YtkhcpgakfeefhaaEngB
namespace Go.Pg
open Go Go.RowKit
set_option linter.unusedSimpArgs false
set_option linter.unusedVariables false

def upd {α : Type} (f : Nat → α) (k : Nat) (v : α) : Nat → α := fun n => if n = k then v else f n
theorem upd_at {α : Type} (f : Nat → α) (k : Nat) (v : α) (n : Nat) : upd f k v n = if n = k then v else f n := rfl

structure St where
  env : Nat → AV
  mem : Mem

def St.put (st : St) (d : Option Nat) (a : AV) : St :=
  match d with
  | some d => ⟨upd st.env d a, st.mem⟩
  | none => st

def noMem : Mem := fun _ => none

def AV.ofVal : Value → AV
  | .agg cs => .agg (cs.toList.map AV.v)
  | x => .v x

def St.ev (st : St) : Operand → AV
  | .tmp t => st.env t
  | .const v => AV.ofVal v
  | .global g => .v (.pointer (some ⟨g, 0, none⟩))
  | .func f => .fn f []

/-! what the types' table says, in short -/
def szOf (P : Program) (t : TypeId) : Option Nat := (P.info? t).map (·.size)
def bytOf (P : Program) (t : TypeId) : Option Nat := (P.info? t).map (·.bytes)
def zeroOf (P : Program) (t : TypeId) : Option Value := (P.info? t).bind (·.zero)

/-! publication: own memory that others come to read -/
def Ent.mark : Ent → Ent
  | .row sv e m es _ => .row sv e m es es.length
  | .box g e cs _ => .box g e cs true
def mark (σ : Mem) (k : Nat) : Mem := upd σ k ((σ k).map Ent.mark)
def marks (σ : Mem) : List Nat → Mem
  | [] => σ
  | k :: ks => marks (mark σ k) ks

mutual
/-- The tokens that a value names. -/
def AV.toks : AV → List Nat
  | .own k _ => [k]
  | .prow k _ _ _ _ => [k]
  | .pbox k _ _ => [k]
  | .agg cs => AV.toksL cs
  | .tup cs => AV.toksL cs
  | .fn _ cs => AV.toksL cs
  | .ifc _ x => AV.toks x
  | _ => []
def AV.toksL : List AV → List Nat
  | [] => []
  | a :: r => AV.toks a ++ AV.toksL r
end

/-- A leaf that a published box may hold: when it may be read, and what it reads as. -/
def leafOk (σ : Mem) : AV → Prop
  | .own k sv => match σ k with
    | some (.row sv' _ _ es pub) => sv = sv' ∧ pub = es.length
    | _ => False
  | .v _ | .sl _ _ | .pimm _ | .u => True
  | _ => False
def leafV (σ : Mem) : AV → AV
  | .own k _ => match σ k with
    | some (.row _ _ m es _) => .sl m es
    | _ => .u
  | x => x
def leavesOk (σ : Mem) : List AV → Prop
  | [] => True
  | a :: r => leafOk σ a ∧ leavesOk σ r

mutual
/-- When a value may be read by others, all that it names being published. -/
def pubOk (σ : Mem) : AV → Prop
  | .own k sv => leafOk σ (.own k sv)
  | .pbox k g off => match σ k with
    | some (.box g' _ cs pub) => g = g' ∧ pub = true ∧ off ≤ cs.length ∧ leavesOk σ cs
    | _ => False
  | .prow _ _ _ _ _ => False
  | .agg cs => pubLOk σ cs
  | .tup cs => pubLOk σ cs
  | .fn _ cs => pubLOk σ cs
  | .ifc _ x => pubOk σ x
  | _ => True
def pubLOk (σ : Mem) : List AV → Prop
  | [] => True
  | a :: r => pubOk σ a ∧ pubLOk σ r
end
mutual
/-- What it then reads as. -/
def pubV (σ : Mem) : AV → AV
  | .own k sv => leafV σ (.own k sv)
  | .pbox k _ off => match σ k with
    | some (.box _ _ cs _) => .pimm ((cs.map (leafV σ)).drop off)
    | _ => .u
  | .agg cs => .agg (pubLV σ cs)
  | .tup cs => .tup (pubLV σ cs)
  | .fn f cs => .fn f (pubLV σ cs)
  | .ifc t x => .ifc t (pubV σ x)
  | x => x
def pubLV (σ : Mem) : List AV → List AV
  | [] => []
  | a :: r => pubV σ a :: pubLV σ r
end

/-- What an operation comes to. -/
inductive Res where
  | val (a : AV) (ks : List Nat)
  | box (e : TypeId) (cs : List AV)
  | row (e : TypeId) (m : Nat) (es : List AV) (ks : List Nat)
  | app (k : Nat) (news : List AV) (ks : List Nat)
  | sto (a : AV) (k : Nat) (ent : Ent) (ks : List Nat)
  | call (f : FuncId) (args : List AV)
  | need (p : Prop) (r : Res)
  | bad

/-- The context of a run: the world in which it began, and what could be read there. -/
structure Cx where
  B : Nat
  w0 : World
  imm0 : Imm

/-- The memory's part of the relation. -/
structure Mx (c : Cx) (σ : Mem) (w : World) (imm : Imm) : Prop where
  ok : MemOk c.B σ w imm
  below : Below c.B c.w0 w
  lt : c.B ≤ w.heap.size
  old : ∀ ad, c.imm0 ad → imm ad
  new : ∀ ad, imm ad → c.imm0 ad ∨ c.B ≤ ad.block
  cells : ∀ ad, c.imm0 ad → w.cell? ad = c.w0.cell? ad

structure Rel (c : Cx) (n : Nat) (st : St) (a : Act) (w : World) (imm : Imm) : Prop where
  env : ∀ t, Rs w imm (st.env t) (a.tmps.getD t undef)
  size : a.tmps.size = n
  defers : a.defers = []
  mem : Mx c st.mem w imm

def Keeps (w : World) (imm : Imm) (w' : World) (imm' : Imm) : Prop := ∀ ad, imm ad → imm' ad ∧ w'.cell? ad = w.cell? ad
theorem Keeps.rs {w w' : World} {imm imm' : Imm} (h : Keeps w imm w' imm') {a : AV} {x : Value} (hr : Rs w imm a x) : Rs w' imm' a x := hr.keep (fun ad h1 => (h ad h1).1) (fun ad h1 => (h ad h1).2)
theorem Keeps.rd {w w' : World} {imm imm' : Imm} (h : Keeps w imm w' imm') {a : AV} {x : Value} (hr : Rd w imm a x) : Rd w' imm' a x := hr.keep (fun ad h1 => (h ad h1).1) (fun ad h1 => (h ad h1).2)
theorem Keeps.refl (w : World) (imm : Imm) : Keeps w imm w imm := fun _ h => ⟨h, rfl⟩
theorem Keeps.trans {w w1 w2 : World} {i i1 i2 : Imm} (h : Keeps w i w1 i1) (k : Keeps w1 i1 w2 i2) : Keeps w i w2 i2 := fun ad h1 => ⟨(k ad (h ad h1).1).1, (k ad (h ad h1).1).2.trans (h ad h1).2⟩

/-- A call, seen from a caller whose own memory is σ. -/
def ACall (P : Program) (f : FuncId) (args : List AV) (σ : Mem) (R : AV → Mem → Prop) : Prop :=
  (∀ (vs : Array Value) (w : World), (callFunc f vs).run P w = .ok (.enter f vs) w) ∧
  ∀ (c : Cx) (w : World) (imm : Imm) (vs : Array Value), Mx c σ w imm → args.length = vs.size → (∀ (j : Nat) (a : AV) (x : Value), args[j]? = some a → vs[j]? = some x → Rs w imm a x) →
    Calls P f vs w fun e w' => ∃ r σ' imm' x, e = .returned x ∧ R r σ' ∧ Rs w' imm' r x ∧ Mx c σ' w' imm' ∧ Keeps w imm w' imm'

/-- What a result lets the rest go on with. -/
def aRes (P : Program) (tok : Nat) (dst : Option Nat) : Res → (St → Prop) → St → Prop
  | .val a ks, K, st => K (St.put ⟨st.env, marks st.mem ks⟩ dst a)
  | .box e cs, K, st => ∀ g : Nat, K (St.put ⟨st.env, upd st.mem tok (some (.box g e cs false))⟩ dst (.pbox tok g 0))
  | .row e m es ks, K, st => ∀ sv : Value, K (St.put ⟨st.env, upd (marks st.mem ks) tok (some (.row sv e m es 0))⟩ dst (.own tok sv))
  | .app k news ks, K, st => match marks st.mem ks k with
    | some (.row _ e m es pub) => ∀ sv : Value, K (St.put ⟨st.env, upd (marks st.mem ks) k (some (.row sv e m (es ++ news) pub))⟩ dst (.own k sv))
    | _ => False
  | .sto a k ent ks, K, st => K (St.put ⟨st.env, upd (marks st.mem ks) k (some ent)⟩ dst a)
  | .call f args, K, st => ACall P f args st.mem fun r σ' => K (St.put ⟨st.env, σ'⟩ dst r)
  | .need p r, K, st => p ∧ aRes P tok dst r K st
  | .bad, _, _ => False

/-! ### lasting -/
theorem Act.put_getD (a : Act) (d : Nat) (v : Value) (hd : d < a.tmps.size) (t : Nat) : (a.put (some d) v).tmps.getD t undef = if t = d then v else a.tmps.getD t undef := by
  simp only [Act.put, Array.getD_eq_getD_getElem?, Array.getElem?_setIfInBounds]
  by_cases h : d = t
  · subst h; simp [hd]
  · simp [h, Ne.symm h]
theorem Act.put_size (a : Act) (d : Option Nat) (v : Value) : (a.put d v).tmps.size = a.tmps.size := by cases d <;> simp [Act.put]
theorem Act.put_defers' (a : Act) (d : Option Nat) (v : Value) : (a.put d v).defers = a.defers := by cases d <;> rfl

theorem Rel.step {c : Cx} {n : Nat} {st : St} {a : Act} {w w' : World} {imm imm' : Imm} (h : Rel c n st a w imm) (hk : Keeps w imm w' imm') {σ' : Mem} (hm : Mx c σ' w' imm')
    {dst : Option Nat} (hd : ∀ d, dst = some d → d < n) {av : AV} {x : Value} (hx : Rs w' imm' av x) : Rel c n (St.put ⟨st.env, σ'⟩ dst av) (a.put dst x) w' imm' := by
  cases dst with
  | none => exact ⟨fun t => hk.rs (h.env t), h.size, h.defers, hm⟩
  | some d =>
    refine ⟨fun t => ?_, by rw [Act.put_size]; exact h.size, by rw [Act.put_defers']; exact h.defers, hm⟩
    rw [Act.put_getD a d x (by rw [h.size]; exact hd d rfl)]
    show Rs w' imm' (upd st.env d av t) _
    rw [upd_at]
    split
    · exact hx
    · exact hk.rs (h.env t)

theorem Rel.ev {c : Cx} {n : Nat} {st : St} {a : Act} {w : World} {imm : Imm} (h : Rel c n st a w imm) (x : Operand) : Rs w imm (st.ev x) (a.eval x) := by
  cases x with
  | tmp t => exact h.env t
  | const v =>
    show Rs w imm (AV.ofVal v) v
    cases v <;> first
      | exact .pure (.v _)
      | (rename_i cs
         refine .pure (.agg _ cs (by simp) fun j a x h1 h2 => ?_)
         simp only [List.getElem?_map, Array.getElem?_toList, h2, Option.map_some, Option.some.injEq] at h1
         subst h1
         exact .v _)
  | global g => exact .pure (.v _)
  | func f => exact .pure (.fn f [] #[] rfl fun j a x h1 _ => by simp at h1)

end Go.Pg
