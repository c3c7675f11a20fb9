/- The engine, part U: from a function's contract to what a statement asks of the walk. -/
import Derived.Test.YtkhcpgakfeefhaaEngT
namespace Go.Pg
open Go Go.RowKit
set_option linter.unusedSimpArgs false
set_option linter.unusedVariables false
def imm0 (w : World) : Imm := fun ad => ad.block < w.heap.size ∧ ad.spot = none
inductive Rds (w : World) : List AV → List Value → Prop
  | nil : Rds w [] []
  | cons {a : AV} {x : Value} {as : List AV} {xs : List Value} (h : Rd w (imm0 w) a x) (t : Rds w as xs) : Rds w (a :: as) (x :: xs)
theorem Rds.len {w : World} {as : List AV} {xs : List Value} (h : Rds w as xs) : as.length = xs.length := by
  induction h with
  | nil => rfl
  | cons _ _ ih => simp [ih]
theorem Rds.get {w : World} {as : List AV} {xs : List Value} (h : Rds w as xs) : ∀ (j : Nat) (a : AV) (x : Value), as[j]? = some a → xs[j]? = some x → Rd w (imm0 w) a x := by
  induction h with
  | nil => intro j a x h1; simp at h1
  | cons h1 _ ih =>
    intro j a x h2 h3
    cases j with
    | zero => simp at h2 h3; subst h2; subst h3; exact h1
    | succ j => exact ih j a x (by simpa using h2) (by simpa using h3)
theorem Pure.done {P : Program} {f : FuncId} {args : List AV} {v : Value} (h : Pure P f args (.v v)) {w : World} {vs : Array Value} (hr : Rds w args vs.toList) : Calls P f vs w fun e w' => e = .returned v ∧ Below w.heap.size w w' := by
  refine (h.2 w (imm0 w) vs (fun _ h => h) (by simpa using hr.len) fun j a x h1 h2 => hr.get j a x h1 (by simpa using h2)).mono fun e w' he => ?_
  obtain ⟨x, imm', rfl, hx, _, _, hb⟩ := he
  cases hx
  exact ⟨rfl, hb⟩
theorem imm0_cell {w : World} {ad : Addr} {v : Value} (h : w.cell? ad = some v) : imm0 w ad := by
  refine ⟨?_, World.cell?_spot h⟩
  exact World.block_lt_of_cell? w _ h
theorem flat_map_v {α : Type} (l : List α) (f : α → Value) : flat (l.map fun x => AV.v (f x)) = l.map fun x => AV.v (f x) := by
  unfold flat
  induction l with
  | nil => rfl
  | cons a l ih => simp only [List.map_cons, List.flatMap_cons, ih]; rfl
theorem rd_ints {w : World} {A : Option Addr} {len cap : Nat} {zs : List Int} (h : (A = none ∧ len = 0 ∧ cap = 0 ∧ zs = []) ∨
    ∃ x, A = some x ∧ len ≤ cap ∧ cap ≤ maxLen ∧ zs.length = cap ∧ (∀ i, i < zs.length → w.cell? (x.add i) = some (.int .i64 (zs.getD i 0))) ∧ ∀ n ∈ zs, (Lit.int .i64 n).wf = true) : Rd w (imm0 w) (ints (zs.take len)) (.slice A len cap) := by
  rcases h with ⟨rfl, rfl, rfl, rfl⟩ | ⟨x, rfl, hl, _, hz, hc, _⟩
  · exact (Wk.nil 1).rd (.v _)
  · have hlen : ((zs.take len).map fun n => AV.v (.int .i64 n)).length = len := by rw [List.length_map, List.length_take]; omega
    unfold ints
    have := Rd.sl (w := w) (imm := imm0 w) 1 ((zs.take len).map fun n => AV.v (.int .i64 n)) (some x) cap (fun j => .int .i64 (zs.getD j 0)) (fun e he => by
        obtain ⟨n, _, rfl⟩ := List.mem_map.1 he; rfl) (fun e he => by
        obtain ⟨n, _, rfl⟩ := List.mem_map.1 he; rfl) (by omega) (by simp) (fun j hj => ⟨x, rfl, imm0_cell (hc j (by omega)), hc j (by omega)⟩) (fun j a ha => by
        rw [flat_map_v, List.getElem?_map] at ha
        obtain ⟨n, hn, rfl⟩ := Option.map_eq_some_iff.1 ha
        rw [List.getElem?_take] at hn
        split at hn
        · rw [List.getD_eq_getElem?_getD, hn]; exact .v _
        · cases hn)
    rwa [hlen] at this
end Go.Pg
