/- The engine, part L: cuts of slices, literals, calls; every operation. -/
import Derived.Test.YtkhcpgakfeefhaaEngK
namespace Go.Pg
open Go Go.RowKit
set_option linter.unusedSimpArgs false
set_option linter.unusedVariables false

section
variable {P : Program} {c : Cx} {n tok : Nat} {st : St} {a : Act} {w : World} {imm : Imm} {K : St → Prop} {o : Oper} {Q : Exit → Act → World → Prop}

theorem sliceLo_inv {lo : Option AV} {R : Int → Res} {dst : Option Nat} (hK : aRes P tok dst (sliceLo lo R) K st) : ∃ l : Int, aRes P tok dst (R l) K st ∧ ((lo = none ∧ l = 0) ∨ ∃ k, lo = some (.v (.int k l))) := by
  unfold sliceLo at hK
  split at hK
  · exact ⟨0, hK, .inl ⟨rfl, rfl⟩⟩
  · rename_i k l
    exact ⟨l, hK, .inr ⟨k, rfl⟩⟩
  · exact hK.elim
theorem sliceHi_inv {len : Nat} {hi : Option AV} {R : Int → Res} {dst : Option Nat} (hK : aRes P tok dst (sliceHi len hi R) K st) : ∃ l : Int, aRes P tok dst (R l) K st ∧ ((hi = none ∧ l = len) ∨ ∃ k, hi = some (.v (.int k l))) := by
  unfold sliceHi at hK
  split at hK
  · exact ⟨len, hK, .inl ⟨rfl, rfl⟩⟩
  · rename_i k l
    exact ⟨l, hK, .inr ⟨k, rfl⟩⟩
  · exact hK.elim

/-- A bound in hand. -/
theorem bound_val {b : Option Operand} {k : IntKind} {l : Int} (h : Rel c n st a w imm) (hb : b.map st.ev = some (.v (.int k l))) : b.map a.eval = some (.int k l) := by
  cases b with
  | none => cases hb
  | some x =>
    simp only [Option.map_some, Option.some.injEq] at hb ⊢
    have := h.ev x
    rw [hb] at this
    exact this.v_inv

theorem run_bounds {len cap : Nat} {lo hi mx : Option Value} {l hh m : Nat} (is : Bool) (hl : (lo = none ∧ l = 0) ∨ ∃ k, lo = some (.int k l)) (hhi : (hi = none ∧ hh = len) ∨ ∃ k, hi = some (.int k hh))
    (hm : (mx = none ∧ m = cap) ∨ ∃ k, mx = some (.int k m)) (h1 : l ≤ hh) (h2 : hh ≤ m) (h3 : m ≤ cap) (h4 : mx.isSome = true → hi.isSome = true) :
    (Instr.sliceBounds is len cap lo hi mx).run P w = .ok (l, hh, m) w := by
  have b : ∀ (k : IntKind) (i y : Nat) (code : BoundsCode), i ≤ y → (Instr.sliceBound (.int k i) y code).run P w = .ok i w := by
    intro k i y code hi
    have : ((i : Int) ≤ (y : Int)) := by omega
    simp [Instr.sliceBound, asIntOf, this]
  rcases hm with ⟨rfl, rfl⟩ | ⟨km, rfl⟩ <;> rcases hhi with ⟨rfl, rfl⟩ | ⟨kh, rfl⟩ <;> rcases hl with ⟨rfl, rfl⟩ | ⟨kl, rfl⟩ <;> first
    | (simp only [Instr.sliceBounds, Sem.run_bind, Sem.run_pure, Result.andThen_ok, b _ _ _ _ h1, b _ _ _ _ h2, b _ _ _ _ h3, b _ _ _ _ (Nat.le_trans h2 h3)]; done)
    | (simp at h4; done)

theorem run_sliceAt {t e : TypeId} {sz : Nat} {A : Option Addr} {len cap : Nat} {lo hi mx : Option Value} {l hh m : Nat} (hu : P.underlying t = some (.slice e)) (hsz : szOf P e = some sz)
    (hb : (Instr.sliceBounds true len cap lo hi mx).run P w = .ok (l, hh, m) w) :
    (Instr.sliceAt t (.slice A len cap) lo hi mx).run P w = .ok (.slice (if m = l then A else A.map (·.add (l * sz))) (hh - l) (m - l)) w := by
  simp only [Instr.sliceAt, Sem.run_bind, run_underlying hu, Result.andThen_ok, Instr.slice, hb, run_sizeOf' hsz, Sem.run_pure]

theorem cut_rd {m : Nat} {es : List AV} {A : Option Addr} {cap l hh mm : Nat} (h : Rd w imm (.sl m es) (.slice A es.length cap)) (h1 : l ≤ hh) (h2 : hh ≤ es.length) (h3 : hh ≤ mm) :
    Rd w imm (.sl m ((es.take hh).drop l)) (.slice (if mm = l then A else A.map (·.add (l * m))) (hh - l) (mm - l)) := by
  obtain ⟨A', cap', f, hv, hcap, hm, hok, hn, hA, hr⟩ := (Rs.pure h).sl_inv
  cases hv
  have hlen : ((es.take hh).drop l).length = hh - l := by simp; omega
  rw [← hlen]
  have hsub : ∀ e ∈ (es.take hh).drop l, e ∈ es := fun e he => List.mem_of_mem_take (List.mem_of_mem_drop he)
  have hfl : ∀ (j : Nat) (b : AV), (flat ((es.take hh).drop l))[j]? = some b → (flat es)[l * m + j]? = some b := by
    intro j b hb
    have e1 : flat es = flat (es.take l) ++ (flat ((es.take hh).drop l) ++ flat (es.drop hh)) := by
      rw [← flat_append, ← flat_append]
      congr 1
      have e2 : es.take l = (es.take hh).take l := by rw [List.take_take, Nat.min_eq_left h1]
      rw [e2, ← List.append_assoc, List.take_append_drop, List.take_append_drop]
    have hl1 : (flat (es.take l)).length = l * m := by
      rw [flat_length fun e he => hm e (List.mem_of_mem_take he), List.length_take, Nat.min_eq_left (by omega)]
    rw [e1, List.getElem?_append_right (by omega), hl1, Nat.add_sub_cancel_left, List.getElem?_append_left (lt_of_get hb)]
    exact hb
  refine .sl m _ _ _ (fun j => f (l * m + j)) (fun e he => hm e (hsub e he)) (fun e he => hok e (hsub e he)) (by rw [hlen]; omega) (fun h4 => ?_) (fun j hj => ?_) fun j b hb => hr _ b (hfl j b hb)
  · rw [hlen] at h4
    rw [if_neg (by omega)]
    have := hn (by omega)
    cases A with
    | none => exact absurd rfl this
    | some ad => simp
  · rw [hlen] at hj
    have hlt : l < hh := by
      rcases Nat.lt_or_ge l hh with h5 | h5
      · exact h5
      · have : hh - l = 0 := by omega
        rw [this] at hj
        omega
    rw [if_neg (by omega)]
    have hmul : l * m + (hh - l) * m ≤ es.length * m := by rw [← Nat.add_mul]; exact Nat.mul_le_mul_right _ (by omega)
    obtain ⟨ad, rfl, h6, h7⟩ := hA (l * m + j) (by omega)
    exact ⟨_, rfl, by rw [add_of_add]; exact h6, by rw [add_of_add]; exact h7⟩

theorem s_slice {t : TypeId} {p : Operand} {lo hi mx : Option Operand} (h : Rel c n st a w imm) (hd : ∀ d, o.dst = some d → d < n) (hK : aRes P tok o.dst (sliceRes P st t (st.ev p) (lo.map st.ev) (hi.map st.ev) (mx.map st.ev)) K st) :
    o.upon P a (Go_on c n K) Q (((do pure (Next.value (← Instr.sliceAt t (a.eval p) (lo.map a.eval) (hi.map a.eval) (mx.map a.eval)))) : Sem Next).run P w) := by
  have hx := h.ev p
  have conv : ∀ {b : Option Operand} {l : Int} {d : Nat}, ((b.map st.ev = none ∧ l = d) ∨ ∃ k, b.map st.ev = some (.v (.int k l))) → 0 ≤ l → ((b.map a.eval = none ∧ l.toNat = d) ∨ ∃ k, b.map a.eval = some (.int k (l.toNat : Nat))) := by
    intro b l d hb h0
    rcases hb with ⟨h1, h2⟩ | ⟨k, h1⟩
    · cases b with
      | none => exact .inl ⟨rfl, by omega⟩
      | some x => cases h1
    · exact .inr ⟨k, by rw [bound_val h h1]; congr 2; omega⟩
  have isS : ∀ {b : Option Operand}, (b.map st.ev).isSome = (b.map a.eval).isSome := by intro b; cases b <;> rfl
  unfold sliceRes at hK
  split at hK
  · rename_i s hu hxx
    rw [hxx] at hx
    split at hK
    · rename_i hmx
      obtain ⟨l, hK, hl⟩ := sliceLo_inv hK
      obtain ⟨hh, hK, hhi⟩ := sliceHi_inv hK
      obtain ⟨⟨h0, h1, h2⟩, hK⟩ := hK
      have := hx.v_inv
      rw [this]
      have hmx2 : mx.map a.eval = none := by cases mx <;> simp_all
      have hb := run_bounds (P := P) (w := w) (len := s.size) (cap := s.size) (m := s.size) false (conv (d := 0) (by simpa using hl) h0) (conv hhi (by omega)) (.inl ⟨rfl, rfl⟩) (show l.toNat ≤ hh.toNat by omega) (by omega) (Nat.le_refl _) (by simp)
      refine upon_pure h hd hK ?_ (.pure (.v _))
      simp only [Instr.sliceAt, Sem.run_bind, run_underlying hu, Result.andThen_ok, Instr.slice, hmx2, Option.isSome_none, Bool.false_eq_true, if_false, Sem.run_pure, hb]
    · exact hK.elim
  · rename_i e m es hu hxx
    rw [hxx] at hx
    split at hK
    · rename_i m' hsz
      obtain ⟨l, hK, hl⟩ := sliceLo_inv hK
      obtain ⟨hh, hK, hhi⟩ := sliceHi_inv hK
      obtain ⟨m2, hK, hm2⟩ := sliceHi_inv hK
      obtain ⟨⟨rfl, h0, h1, h2, h3, h4⟩, hK⟩ := hK
      obtain ⟨A, cap, f, hv, hcap, hrest⟩ := hx.sl_inv
      rw [hv]
      have hrd : Rd w imm (.sl m' es) (.slice A es.length cap) := by
        have := hx
        rw [hv] at this
        cases this with | pure h => exact h
      have hmm : (mx.map a.eval = none ∧ (if (mx.map a.eval).isSome then m2.toNat else cap) = cap) ∨ ∃ k, mx.map a.eval = some (.int k ((if (mx.map a.eval).isSome then m2.toNat else cap : Nat) : Int)) := by
        rcases conv hm2 (by omega) with ⟨h5, _⟩ | ⟨k, h5⟩
        · exact .inl ⟨h5, by rw [h5]; rfl⟩
        · exact .inr ⟨k, by rw [h5]; rfl⟩
      have hmb : hh.toNat ≤ (if (mx.map a.eval).isSome then m2.toNat else cap) := by split <;> omega
      have hb := run_bounds (P := P) (w := w) (len := es.length) (cap := cap) true (conv (d := 0) (by simpa using hl) h0) (conv hhi (by omega)) hmm (show l.toNat ≤ hh.toNat by omega) hmb (by split <;> omega) (by rw [← isS, ← isS]; exact h4)
      exact upon_pure h hd hK (run_sliceAt hu hsz hb) (.pure (cut_rd hrd (by omega) (by omega) hmb))
    · exact hK.elim
  · rename_i e k sv hu hxx
    rw [hxx] at hx
    split at hK
    · rename_i sv' e' m es pub m' hk hsz
      obtain ⟨l, hK1, hl⟩ := sliceLo_inv hK
      obtain ⟨hh, hK2, hhi⟩ := sliceHi_inv hK1
      obtain ⟨m2, hK3, hm2⟩ := sliceHi_inv hK2
      obtain ⟨⟨rfl, rfl, h0, h1, h2, h3, h4⟩, hK4⟩ := hK3
      have hv := hx.own_inv
      rw [hv]
      obtain ⟨A, cap, xs, hsrc, hcap, hown⟩ := src_own h.mem hk
      have hval := hsrc.val
      subst hval
      have hmm : (mx.map a.eval = none ∧ (if (mx.map a.eval).isSome then m2.toNat else cap) = cap) ∨ ∃ k, mx.map a.eval = some (.int k ((if (mx.map a.eval).isSome then m2.toNat else cap : Nat) : Int)) := by
        rcases conv hm2 (by omega) with ⟨h5, _⟩ | ⟨k, h5⟩
        · exact .inl ⟨h5, by rw [h5]; rfl⟩
        · exact .inr ⟨k, by rw [h5]; rfl⟩
      have hmb : hh.toNat ≤ (if (mx.map a.eval).isSome then m2.toNat else cap) := by split <;> omega
      have hb := run_bounds (P := P) (w := w) (len := es.length) (cap := cap) true (conv (d := 0) (by simpa using hl) h0) (conv hhi (by omega)) hmm (show l.toNat ≤ hh.toNat by omega) hmb (by split <;> omega) (by rw [← isS, ← isS]; exact h4)
      rw [run_v (run_sliceAt hu hsz hb)]
      refine upon_val h hd hK4 fun i' hm' _ => ?_
      have hk' : marks st.mem [k] k = some (.row (.slice A es.length cap) e' m' es es.length) := by
        simp only [marks, mark, upd_at, if_true, hk, Option.map_some, Ent.mark]
      exact .pure (cut_rd (row_rd hm' hk' rfl) (by omega) (by omega) hmb)
    · exact hK.elim
  · rename_i e hu hxx
    rw [hxx] at hx
    split at hK
    · rename_i sz hsz
      obtain ⟨l, hK1, hl⟩ := sliceLo_inv hK
      obtain ⟨hh, hK2, hhi⟩ := sliceHi_inv hK1
      obtain ⟨m2, hK3, hm2⟩ := sliceHi_inv hK2
      obtain ⟨⟨h5, h6, h7, h4⟩, hK4⟩ := hK3
      have hv := hx.v_inv
      rw [hv]
      have hb := run_bounds (P := P) (w := w) (len := 0) (cap := 0) (l := l.toNat) (hh := hh.toNat) (m := m2.toNat) true (conv (d := 0) (by simpa using hl) (by omega)) (conv hhi (by omega)) (conv hm2 (by omega)) (by omega) (by omega) (by omega) (by rw [← isS, ← isS]; exact h4)
      refine upon_pure h hd hK4 (run_sliceAt hu hsz hb) ?_
      have e1 : hh.toNat - l.toNat = 0 := by omega
      have e2 : m2.toNat - l.toNat = 0 := by omega
      rw [e1, e2]
      have e3 : (if m2.toNat = l.toNat then (none : Option Addr) else Option.map (fun x : Addr => x.add (l.toNat * sz)) none) = none := by split <;> rfl
      rw [e3]
      exact .pure (.v _)
    · exact hK.elim
  · exact hK.elim

end
end Go.Pg
