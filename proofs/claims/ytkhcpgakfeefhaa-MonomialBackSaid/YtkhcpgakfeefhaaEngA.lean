/- The engine, part A: abstract values, what they say of memory, and how that lasts. -/
import Derived.Below
import Derived.Laws.OwnMore
import Derived.Laws.Cells
import Derived.Deep.AppendLies
import Derived.Deep.Draws
import Derived.WalkKit
import Derived.WalkSpells
import Derived.WalkLawsBesides
import Derived.Lib.Hide
namespace Go.Pg
open Go Go.RowKit
set_option linter.unusedSimpArgs false
set_option linter.unusedVariables false

/-- Abstract values. `v x`: the value x itself. `sl m es`: a slice that nobody writes, elements of m cells. `own k sv`: a row of the call's own, token k, slice value sv. `prow`, `pbox`: pointers into rows and boxes of the call's own. `pimm`: a pointer to cells that nobody writes. -/
inductive AV where
  | v (x : Value)
  | sl (m : Nat) (es : List AV)
  | agg (cs : List AV)
  | tup (vs : List AV)
  | pimm (cs : List AV)
  | fn (f : FuncId) (caps : List AV)
  | ifc (t : TypeId) (x : AV)
  | own (k : Nat) (sv : Value)
  | prow (k : Nat) (sv : Value) (m i off : Nat)
  | pbox (k g off : Nat)
  | u
  deriving Inhabited

def AV.cells : AV → List AV
  | .agg cs => cs
  | x => [x]
def flat (es : List AV) : List AV := es.flatMap AV.cells

/-- One cell's worth. -/
def AV.one : AV → Bool
  | .v x => x.oneCell'
  | .agg _ | .tup _ | .u => false
  | _ => true
/-- The value's cells are known one by one. -/
def AV.ok : AV → Bool
  | .agg cs => cs.all AV.one
  | x => x.one

abbrev Imm := Addr → Prop

/-- `a` describes the value `x` in the world `w`, reading only cells of `imm`. -/
inductive Rd (w : World) (imm : Imm) : AV → Value → Prop
  | v (x : Value) : Rd w imm (.v x) x
  | u (x : Value) : Rd w imm .u x
  | sl (m : Nat) (es : List AV) (A : Option Addr) (cap : Nat) (f : Nat → Value) (hm : ∀ e ∈ es, e.cells.length = m) (hok : ∀ e ∈ es, e.ok = true)
      (hcap : es.length ≤ cap) (hn : 0 < es.length → A ≠ none)
      (hA : ∀ j, j < es.length * m → ∃ ad, A = some ad ∧ imm (ad.add j) ∧ w.cell? (ad.add j) = some (f j))
      (hr : ∀ (j : Nat) (a : AV), (flat es)[j]? = some a → Rd w imm a (f j)) : Rd w imm (.sl m es) (.slice A es.length cap)
  | agg (cs : List AV) (vs : Array Value) (hl : cs.length = vs.size) (hr : ∀ (j : Nat) (a : AV) (x : Value), cs[j]? = some a → vs[j]? = some x → Rd w imm a x) : Rd w imm (.agg cs) (.agg vs)
  | tup (cs : List AV) (vs : Array Value) (hl : cs.length = vs.size) (hr : ∀ (j : Nat) (a : AV) (x : Value), cs[j]? = some a → vs[j]? = some x → Rd w imm a x) : Rd w imm (.tup cs) (.tuple vs)
  | pimm (cs : List AV) (ad : Addr) (f : Nat → Value) (hA : ∀ j, j < cs.length → imm (ad.add j) ∧ w.cell? (ad.add j) = some (f j))
      (hr : ∀ (j : Nat) (a : AV), cs[j]? = some a → Rd w imm a (f j)) : Rd w imm (.pimm cs) (.pointer (some ad))
  | fn (f : FuncId) (cs : List AV) (vs : Array Value) (hl : cs.length = vs.size) (hr : ∀ (j : Nat) (a : AV) (x : Value), cs[j]? = some a → vs[j]? = some x → Rd w imm a x) : Rd w imm (.fn f cs) (.func (.func f) #[] vs)
  | ifc (t : TypeId) (a : AV) (x : Value) (h : Rd w imm a x) : Rd w imm (.ifc t a) (.iface t x)

theorem Rd.keep {w w' : World} {imm imm' : Imm} {a : AV} {x : Value} (h : Rd w imm a x) (hi : ∀ ad, imm ad → imm' ad) (hw : ∀ ad, imm ad → w'.cell? ad = w.cell? ad) : Rd w' imm' a x := by
  induction h with
  | v x => exact .v x
  | u x => exact .u x
  | sl m es A cap f hm hok hcap hn hA _ ih =>
    exact .sl m es A cap f hm hok hcap hn (fun j hj => by
      obtain ⟨ad, e, h1, h2⟩ := hA j hj
      exact ⟨ad, e, hi _ h1, (hw _ h1).trans h2⟩) ih
  | agg cs vs hl _ ih => exact .agg cs vs hl ih
  | tup cs vs hl _ ih => exact .tup cs vs hl ih
  | pimm cs ad f hA _ ih => exact .pimm cs ad f (fun j hj => ⟨hi _ (hA j hj).1, (hw _ (hA j hj).1).trans (hA j hj).2⟩) ih
  | fn f cs vs hl _ ih => exact .fn f cs vs hl ih
  | ifc t a x _ ih => exact .ifc t a x ih

/-- The same of what a slot of the frame may hold: handles on memory of the call's own besides. -/
inductive Rs (w : World) (imm : Imm) : AV → Value → Prop
  | pure {a : AV} {x : Value} (h : Rd w imm a x) : Rs w imm a x
  | own (k : Nat) (sv : Value) (h : sv.oneCell' = true) : Rs w imm (.own k sv) sv
  | prow (k : Nat) (sv : Value) (m i off g n c : Nat) (h : sv = .slice (some ⟨g, 0, none⟩) n c) : Rs w imm (.prow k sv m i off) (.pointer (some ⟨g, i * m + off, none⟩))
  | pbox (k g off : Nat) : Rs w imm (.pbox k g off) (.pointer (some ⟨g, off, none⟩))
  | agg (cs : List AV) (vs : Array Value) (hl : cs.length = vs.size) (hr : ∀ (j : Nat) (a : AV) (x : Value), cs[j]? = some a → vs[j]? = some x → Rs w imm a x) : Rs w imm (.agg cs) (.agg vs)
  | tup (cs : List AV) (vs : Array Value) (hl : cs.length = vs.size) (hr : ∀ (j : Nat) (a : AV) (x : Value), cs[j]? = some a → vs[j]? = some x → Rs w imm a x) : Rs w imm (.tup cs) (.tuple vs)
  | fn (f : FuncId) (cs : List AV) (vs : Array Value) (hl : cs.length = vs.size) (hr : ∀ (j : Nat) (a : AV) (x : Value), cs[j]? = some a → vs[j]? = some x → Rs w imm a x) : Rs w imm (.fn f cs) (.func (.func f) #[] vs)
  | ifc (t : TypeId) (a : AV) (x : Value) (h : Rs w imm a x) : Rs w imm (.ifc t a) (.iface t x)

theorem Rs.keep {w w' : World} {imm imm' : Imm} {a : AV} {x : Value} (h : Rs w imm a x) (hi : ∀ ad, imm ad → imm' ad) (hw : ∀ ad, imm ad → w'.cell? ad = w.cell? ad) : Rs w' imm' a x := by
  induction h with
  | pure h => exact .pure (h.keep hi hw)
  | own k sv h => exact .own k sv h
  | prow k sv m i off g n c h => exact .prow k sv m i off g n c h
  | pbox k g off => exact .pbox k g off
  | agg cs vs hl _ ih => exact .agg cs vs hl ih
  | tup cs vs hl _ ih => exact .tup cs vs hl ih
  | fn f cs vs hl _ ih => exact .fn f cs vs hl ih
  | ifc t a x _ ih => exact .ifc t a x ih

section inv
variable {w : World} {imm : Imm}
theorem Rs.v_inv {x y : Value} (h : Rs w imm (.v x) y) : y = x := by
  cases h with
  | pure h => cases h; rfl
theorem Rs.own_inv {k : Nat} {sv y : Value} (h : Rs w imm (.own k sv) y) : y = sv := by
  cases h with
  | pure h => cases h
  | own => rfl
theorem Rs.own_one {k : Nat} {sv y : Value} (h : Rs w imm (.own k sv) y) : sv.oneCell' = true := by
  cases h with
  | pure h => cases h
  | own _ _ h => exact h
theorem Rs.pbox_inv {k g off : Nat} {y : Value} (h : Rs w imm (.pbox k g off) y) : y = .pointer (some ⟨g, off, none⟩) := by
  cases h with
  | pure h => cases h
  | pbox => rfl
theorem Rs.prow_inv {k m i off : Nat} {sv y : Value} (h : Rs w imm (.prow k sv m i off) y) : ∃ g n c, sv = .slice (some ⟨g, 0, none⟩) n c ∧ y = .pointer (some ⟨g, i * m + off, none⟩) := by
  cases h with
  | pure h => cases h
  | prow _ _ _ _ _ g n c h => exact ⟨g, n, c, h, rfl⟩
theorem Rs.agg_inv {cs : List AV} {y : Value} (h : Rs w imm (.agg cs) y) : ∃ vs, y = .agg vs ∧ cs.length = vs.size ∧ ∀ (j : Nat) (a : AV) (x : Value), cs[j]? = some a → vs[j]? = some x → Rs w imm a x := by
  cases h with
  | pure h => cases h with
    | agg _ vs hl hr => exact ⟨vs, rfl, hl, fun j a x h1 h2 => .pure (hr j a x h1 h2)⟩
  | agg _ vs hl hr => exact ⟨vs, rfl, hl, hr⟩
theorem Rs.tup_inv {cs : List AV} {y : Value} (h : Rs w imm (.tup cs) y) : ∃ vs, y = .tuple vs ∧ cs.length = vs.size ∧ ∀ (j : Nat) (a : AV) (x : Value), cs[j]? = some a → vs[j]? = some x → Rs w imm a x := by
  cases h with
  | pure h => cases h with
    | tup _ vs hl hr => exact ⟨vs, rfl, hl, fun j a x h1 h2 => .pure (hr j a x h1 h2)⟩
  | tup _ vs hl hr => exact ⟨vs, rfl, hl, hr⟩
theorem Rs.fn_inv {f : FuncId} {cs : List AV} {y : Value} (h : Rs w imm (.fn f cs) y) : ∃ vs, y = .func (.func f) #[] vs ∧ cs.length = vs.size ∧ ∀ (j : Nat) (a : AV) (x : Value), cs[j]? = some a → vs[j]? = some x → Rs w imm a x := by
  cases h with
  | pure h => cases h with
    | fn _ _ vs hl hr => exact ⟨vs, rfl, hl, fun j a x h1 h2 => .pure (hr j a x h1 h2)⟩
  | fn _ _ vs hl hr => exact ⟨vs, rfl, hl, hr⟩
theorem Rs.ifc_inv {t : TypeId} {a : AV} {y : Value} (h : Rs w imm (.ifc t a) y) : ∃ x, y = .iface t x ∧ Rs w imm a x := by
  cases h with
  | pure h => cases h with
    | ifc _ _ x h => exact ⟨x, rfl, .pure h⟩
  | ifc _ _ x h => exact ⟨x, rfl, h⟩
theorem Rs.sl_inv {m : Nat} {es : List AV} {y : Value} (h : Rs w imm (.sl m es) y) : ∃ (A : Option Addr) (cap : Nat) (f : Nat → Value), y = .slice A es.length cap ∧ es.length ≤ cap ∧ (∀ e ∈ es, e.cells.length = m) ∧ (∀ e ∈ es, e.ok = true) ∧ (0 < es.length → A ≠ none) ∧
    (∀ j, j < es.length * m → ∃ ad, A = some ad ∧ imm (ad.add j) ∧ w.cell? (ad.add j) = some (f j)) ∧ (∀ (j : Nat) (a : AV), (flat es)[j]? = some a → Rd w imm a (f j)) := by
  cases h with
  | pure h => cases h with
    | sl _ _ A cap f hm hok hcap hn hA hr => exact ⟨A, cap, f, rfl, hcap, hm, hok, hn, hA, hr⟩
theorem Rs.pimm_inv {cs : List AV} {y : Value} (h : Rs w imm (.pimm cs) y) : ∃ (ad : Addr) (f : Nat → Value), y = .pointer (some ad) ∧ (∀ j, j < cs.length → imm (ad.add j) ∧ w.cell? (ad.add j) = some (f j)) ∧ (∀ (j : Nat) (a : AV), cs[j]? = some a → Rd w imm a (f j)) := by
  cases h with
  | pure h => cases h with
    | pimm _ ad f hA hr => exact ⟨ad, f, rfl, hA, hr⟩
end inv

/-- What the own memory of a call holds: a row behind a slice value, a box behind a pointer. `pub`: how much of it others may be reading. -/
inductive Ent where
  | row (sv : Value) (e : TypeId) (m : Nat) (es : List AV) (pub : Nat)
  | box (g : Nat) (e : TypeId) (cs : List AV) (pub : Bool)

def Ent.blk : Ent → Option Nat
  | .row sv _ _ _ _ => sv.ownBlock
  | .box g _ _ _ => some g

def EntOk (B : Nat) (w : World) (imm : Imm) : Ent → Prop
  | .row sv e m es pub => ∃ xs : List Value, w.ownsRow B e m sv es.length xs ∧ (∀ x ∈ es, x.cells.length = m) ∧ (∀ x ∈ es, x.ok = true) ∧ (∀ (j : Nat) (a : AV) (x : Value), (flat es)[j]? = some a → xs[j]? = some x → Rd w imm a x) ∧
      pub ≤ es.length ∧ (∀ ad, imm ad → sv.ownBlock = some ad.block → ad.off < pub * m) ∧ (∀ g off, sv.ownBlock = some g → off < pub * m → imm ⟨g, off, none⟩)
  | .box g e cs pub => ∃ cur : Array Value, w.heap[g]? = some (.cells cur e (0, 0)) ∧ B ≤ g ∧ cs.length = cur.size ∧ (∀ x ∈ cs, x.one = true) ∧ (∀ (j : Nat) (a : AV) (x : Value), cs[j]? = some a → cur[j]? = some x → Rs w imm a x) ∧
      (∀ ad, imm ad → ad.block = g → pub = true) ∧ (pub = true → ∀ off, off < cs.length → imm ⟨g, off, none⟩)

abbrev Mem := Nat → Option Ent

structure MemOk (B : Nat) (σ : Mem) (w : World) (imm : Imm) : Prop where
  ent : ∀ k e, σ k = some e → EntOk B w imm e
  apart : ∀ k k' e e' b, σ k = some e → σ k' = some e' → e.blk = some b → e'.blk = some b → k = k'
  lt : ∀ ad, imm ad → ad.block < w.heap.size
  spot : ∀ ad, imm ad → ad.spot = none

theorem EntOk.blk_lt {B : Nat} {w : World} {imm : Imm} {e : Ent} (h : EntOk B w imm e) {b : Nat} (hb : e.blk = some b) : B ≤ b ∧ b < w.heap.size := by
  cases e with
  | row sv e m es pub =>
    obtain ⟨xs, hown, _⟩ := h
    exact hown.lt b hb
  | box g e cs pub =>
    obtain ⟨cur, hh, hB, _⟩ := h
    have : g = b := by simpa [Ent.blk] using hb
    subst this
    refine ⟨hB, ?_⟩
    rcases Nat.lt_or_ge g w.heap.size with hlt | hge
    · exact hlt
    · rw [Array.getElem?_eq_none hge] at hh; cases hh

theorem grown_cell {w w' : World} {row : Option Nat} (hg : w.grownBy w' row) {ad : Addr} (hlt : ad.block < w.heap.size) (hne : some ad.block ≠ row) : w'.cell? ad = w.cell? ad :=
  World.cell?_of_block (hg.block _ hlt hne)

/-- What is kept of an entry where the world grows and writes elsewhere. -/
theorem EntOk.keep {B : Nat} {w w' : World} {imm imm' : Imm} {e : Ent} (h : EntOk B w imm e) {row : Option Nat} (hg : w.grownBy w' row) (hne : e.blk = none ∨ e.blk ≠ row)
    (hi : ∀ ad, imm ad → imm' ad) (hw : ∀ ad, imm ad → w'.cell? ad = w.cell? ad) (hnew : ∀ ad, imm' ad → imm ad ∨ e.blk ≠ some ad.block) : EntOk B w' imm' e := by
  cases e with
  | row sv e m es pub =>
    obtain ⟨xs, hown, hm, hok, hr, hpl, hp, hq⟩ := h
    refine ⟨xs, hown.kept hg hne, hm, hok, fun j a x h1 h2 => (hr j a x h1 h2).keep hi hw, hpl, fun ad h1 h2 => ?_, fun g off h1 h2 => hi _ (hq g off h1 h2)⟩
    rcases hnew ad h1 with h3 | h3
    · exact hp ad h3 h2
    · exact absurd h2 h3
  | box g e cs pub =>
    have hlt := h.blk_lt (b := g) rfl
    obtain ⟨cur, hh, hB, hl, hone, hr, hp, hq⟩ := h
    refine ⟨cur, ?_, hB, hl, hone, fun j a x h1 h2 => (hr j a x h1 h2).keep hi hw, fun ad h1 h2 => ?_, fun h1 off h2 => hi _ (hq h1 off h2)⟩
    · rw [hg.block g hlt.2 (by rcases hne with hne | hne; exact absurd hne (by simp [Ent.blk]); exact hne)]; exact hh
    · rcases hnew ad h1 with h3 | h3
      · exact hp ad h3 h2
      · exact absurd (by simp [Ent.blk, h2]) h3

end Go.Pg
