/- The engine, part K: the other operations; every operation together. -/
import Derived.Test.YtkhcpgakfeefhaaEngJ
namespace Go.Pg
open Go Go.RowKit
set_option linter.unusedSimpArgs false
set_option linter.unusedVariables false

section
variable {P : Program} {c : Cx} {n tok : Nat} {st : St} {a : Act} {w : World} {imm : Imm} {K : St → Prop} {o : Oper} {Q : Exit → Act → World → Prop}

theorem s_field {s : TypeId} {xv : AV} {x : Value} {f : Nat} (h : Rel c n st a w imm) (hd : ∀ d, o.dst = some d → d < n) (hK : aRes P tok o.dst (fieldRes P s xv f) K st) (hx : Rs w imm xv x) :
    o.upon P a (Go_on c n K) Q (((do pure (Next.value (← Instr.fieldAt s x f))) : Sem Next).run P w) := by
  unfold fieldRes at hK
  split at hK
  · rename_i fields hu
    split at hK
    · rename_i fd hf
      split at hK
      · rename_i sz hsz
        obtain ⟨hne, hK⟩ := hK
        have run : ∀ ad : Addr, x = .pointer (some ad) → (Instr.fieldAt s x f).run P w = .ok (.pointer (some (ad.add fd.offset))) w := by
          rintro ad rfl
          simp [Instr.fieldAt, run_underlying hu, hf, Instr.sureAddr, fieldPlace, run_sizeOf' hsz, hne]
        cases xv with
        | pimm cs =>
          obtain ⟨ad, g, rfl, h1, h2⟩ := hx.pimm_inv
          refine upon_pure h hd hK (run ad rfl) (.pure (.pimm _ _ (fun j => g (fd.offset + j)) (fun j hj => ?_) fun j b hb => ?_))
          · rw [add_of_add]
            exact h1 _ (by simp at hj; omega)
          · rw [List.getElem?_drop] at hb
            exact h2 _ b hb
        | pbox k g off =>
          have := hx.pbox_inv
          subst this
          refine upon_pure h hd hK (run _ rfl) ?_
          rw [Addr.add_lit]
          exact .pbox _ _ _
        | prow k sv m i off =>
          obtain ⟨g, nn, cc, rfl, rfl⟩ := hx.prow_inv
          refine upon_pure h hd hK (run _ rfl) ?_
          rw [Addr.add_lit, Nat.add_assoc]
          exact .prow k _ m i (off + fd.offset) g nn cc rfl
        | _ => exact hK.elim
      · exact hK.elim
    · exact hK.elim
  · exact hK.elim

theorem s_indexAddr {t : TypeId} {xv iv : AV} {x i : Value} (h : Rel c n st a w imm) (hd : ∀ d, o.dst = some d → d < n) (hK : aRes P tok o.dst (indexAddrRes P st t xv iv) K st) (hx : Rs w imm xv x) (hi : Rs w imm iv i) :
    o.upon P a (Go_on c n K) Q (((do pure (Next.value (← Instr.indexAt t x i))) : Sem Next).run P w) := by
  unfold indexAddrRes at hK
  split at hK
  · rename_i e kk j hu
    have := hi.v_inv
    subst this
    split at hK
    · rename_i sz hsz
      have run : ∀ (ad : Addr) (len cap : Nat), x = .slice (some ad) len cap → 0 ≤ j → j < len → (Instr.indexAt t x (.int kk j)).run P w = .ok (.pointer (some (ad.add (j.toNat * sz)))) w := by
        rintro ad len cap rfl h0 h1
        simp [Instr.indexAt, asIntOf, run_underlying hu, h0, h1, run_sizeOf' hsz]
      cases xv with
      | sl m es =>
        obtain ⟨⟨rfl, h0, h1⟩, hK⟩ := hK
        obtain ⟨A, cap, f, rfl, hcap, hm, hok, hn, hA, hr⟩ := hx.sl_inv
        obtain ⟨j, rfl⟩ := Int.eq_ofNat_of_zero_le h0
        have hj : j < es.length := by omega
        have hA1 : A ≠ none := hn (by omega)
        cases A with
        | none => exact absurd rfl hA1
        | some ad =>
          simp only [Int.toNat_natCast] at hK
          have hel : (es.getD j .u).cells.length = sz := by
            rw [List.getD_eq_getElem?_getD, List.getElem?_eq_getElem hj]
            exact hm _ (List.getElem_mem _)
          have hmul : j * sz + sz ≤ es.length * sz := by
            have : (j + 1) * sz ≤ es.length * sz := Nat.mul_le_mul_right _ hj
            rwa [Nat.add_mul, Nat.one_mul] at this
          refine upon_pure h hd hK (run ad _ cap rfl h0 h1) (.pure (.pimm _ _ (fun q => f (j * sz + q)) (fun q hq => ?_) fun q b hb => ?_))
          · rw [hel] at hq
            rw [add_of_add, Int.toNat_natCast]
            obtain ⟨ad', e1, e2, e3⟩ := hA (j * sz + q) (by omega)
            cases e1
            exact ⟨e2, e3⟩
          · have hq : q < sz := by rw [← hel]; exact lt_of_get hb
            exact hr _ b ((flat_get hm j q hq hj).trans hb)
      | own k sv =>
        simp only at hK
        split at hK
        · rename_i sv' e' m es pub hk
          obtain ⟨⟨rfl, rfl, h0, h1⟩, hK⟩ := hK
          have := hx.own_inv
          subst this
          obtain ⟨xs, hown, _⟩ := h.mem.ok.ent k _ hk
          rcases hown.2 with ⟨_, hn⟩ | ⟨g, cap, cur, rfl, _⟩
          · omega
          · refine upon_pure h hd hK (run ⟨g, 0, none⟩ _ cap rfl h0 h1) ?_
            rw [Addr.add_lit, Nat.zero_add]
            exact .prow k _ sz j.toNat 0 g _ _ rfl
        · exact hK.elim
      | _ => exact hK.elim
    · exact hK.elim
  · rename_i len e kk j hu
    have := hi.v_inv
    subst this
    split at hK
    · rename_i sz hsz
      obtain ⟨⟨h0, h1⟩, hK⟩ := hK
      have run : ∀ ad : Addr, x = .pointer (some ad) → (Instr.indexAt t x (.int kk j)).run P w = .ok (.pointer (some (ad.add (j.toNat * sz)))) w := by
        rintro ad rfl
        simp [Instr.indexAt, asIntOf, run_underlying hu, Instr.sureAddr, h0, h1, run_sizeOf' hsz]
      cases xv with
      | pimm cs =>
        obtain ⟨ad, g, rfl, h2, h3⟩ := hx.pimm_inv
        refine upon_pure h hd hK (run ad rfl) (.pure (.pimm _ _ (fun q => g (j.toNat * sz + q)) (fun q hq => ?_) fun q b hb => ?_))
        · rw [add_of_add]
          exact h2 _ (by simp at hq; omega)
        · rw [List.getElem?_drop] at hb
          exact h3 _ b hb
      | pbox k g off =>
        have := hx.pbox_inv
        subst this
        refine upon_pure h hd hK (run _ rfl) ?_
        rw [Addr.add_lit]
        exact .pbox _ _ _
      | prow k sv m i off =>
        obtain ⟨g, nn, cc, rfl, rfl⟩ := hx.prow_inv
        refine upon_pure h hd hK (run _ rfl) ?_
        rw [Addr.add_lit, Nat.add_assoc]
        exact .prow k _ m i (off + j.toNat * sz) g nn cc rfl
      | _ => exact hK.elim
    · exact hK.elim
  · exact hK.elim

theorem s_index {t : TypeId} {xv iv : AV} {x i : Value} (h : Rel c n st a w imm) (hd : ∀ d, o.dst = some d → d < n) (hK : aRes P tok o.dst (indexRes P t xv iv) K st) (hx : Rs w imm xv x) (hi : Rs w imm iv i) :
    o.upon P a (Go_on c n K) Q (((do pure (Next.value (← Instr.index t x i))) : Sem Next).run P w) := by
  unfold indexRes at hK
  split at hK
  · rename_i len e cs kk j hu
    have := hi.v_inv
    subst this
    split at hK
    · rename_i sz hsz
      obtain ⟨⟨h0, h1⟩, hK⟩ := hK
      obtain ⟨vs, rfl, hl, hr⟩ := hx.agg_inv
      have e1 : (Instr.index t (.agg vs) (.int kk j)).run P w = (part e vs (j.toNat * sz)).run P w := by
        simp [Instr.index, asIntOf, run_underlying hu, h0, h1, run_sizeOf' hsz]
      have := partOf_sound (o := o) (Q := Q) h hd hK hl hr
      simp only [Sem.run_bind] at this ⊢
      rw [e1]
      exact this
    · exact hK.elim
  · rename_i s kk j hu
    have := hi.v_inv
    subst this
    have := hx.v_inv
    subst this
    obtain ⟨⟨h0, h1⟩, hK⟩ := hK
    obtain ⟨j, rfl⟩ := Int.eq_ofNat_of_zero_le h0
    have hj : j < s.size := by omega
    refine upon_pure h hd hK ?_ (.pure (.v _))
    have hj2 : j < s.data.toList.length := hj
    simp only [Int.toNat_natCast]
    rw [List.getD_eq_getElem?_getD, List.getElem?_eq_getElem hj2]
    simp [Instr.index, asIntOf, run_underlying hu, hj]
    rfl
  · exact hK.elim

theorem run_binInt {op : BinOp} {t : TypeId} {x y : Operand} {k k' : IntKind} {p q : Int} : ((do eqGuard op t x y (.int k p) (.int k' q); binOp op t (.int k p) (.int k' q)) : Sem Value).run P w = (binOp op t (.int k p) (.int k' q)).run P w := by
  simp [eqGuard]

theorem run_equal_bool {t : TypeId} {x y : Bool} (hu : P.underlying t = some .bool) : (Op.equal t (.bool x) (.bool y)).run P w = .ok (x == y) w := by
  have hd : Op.maxDepth = 9999 + 1 := rfl
  unfold Op.equal
  rw [hd]
  unfold Op.equalIn
  simp only [Sem.run_bind, run_underlying hu, Result.andThen_ok, Sem.run_pure]
theorem s_bin {op : BinOp} {t : TypeId} {p q : Operand} {xv yv : AV} {x y : Value} (h : Rel c n st a w imm) (hd : ∀ d, o.dst = some d → d < n) (hK : aRes P tok o.dst (binRes P op t xv yv) K st) (hx : Rs w imm xv x) (hy : Rs w imm yv y) :
    o.upon P a (Go_on c n K) Q (((do pure (Next.value (← (do eqGuard op t p q x y; binOp op t x y)))) : Sem Next).run P w) := by
  unfold binRes at hK
  split at hK
  · rename_i k i k' j
    have := hx.v_inv
    subst this
    have := hy.v_inv
    subst this
    split at hK
    · obtain ⟨h0, hK⟩ := hK
      refine upon_pure h hd hK ?_ (.pure (.v _))
      have : ¬ j < 0 := by omega
      simp [eqGuard, binOp, Op.shift, this]
    · obtain ⟨h0, hK⟩ := hK
      refine upon_pure h hd hK ?_ (.pure (.v _))
      have : ¬ j < 0 := by omega
      simp [eqGuard, binOp, Op.shift, this]
    · obtain ⟨rfl, hK⟩ := hK
      unfold intRes at hK
      cases op <;> first
        | exact hK.elim
        | (refine upon_pure h hd hK ?_ (.pure (.v _)); simp [eqGuard, binOp, Op.intArith, Op.intBits, Op.intCmp]; done)
        | (obtain ⟨h0, hK⟩ := hK; refine upon_pure h hd hK ?_ (.pure (.v _)); simp [eqGuard, binOp, Op.intDiv, h0]; done)
  · rename_i s1 s2
    have := hx.v_inv
    subst this
    have := hy.v_inv
    subst this
    unfold strRes at hK
    cases op <;> first
      | exact hK.elim
      | (refine upon_pure h hd hK ?_ (.pure (.v _)); simp [eqGuard, binOp, Op.stringOp]; done)
      | (obtain ⟨h0, hK⟩ := hK
         refine upon_pure h hd hK ?_ (.pure (.v _))
         have : ¬ (IntKind.i64.max < ((s1.size + s2.size : Nat) : Int)) := by
           have : IntKind.i64.max = 9223372036854775807 := by decide
           omega
         simp only [eqGuard, binOp, Op.stringOp, GT.gt, this, if_false]
         simp)
  · rename_i b1 b2
    have := hx.v_inv
    subst this
    have := hy.v_inv
    subst this
    split at hK
    · rename_i hu
      refine upon_pure h hd hK ?_ (.pure (.v _))
      simp [eqGuard, binOp, run_equal_bool hu]
    · rename_i hu
      refine upon_pure h hd hK ?_ (.pure (.v _))
      simp [eqGuard, binOp, run_equal_bool hu]
    · exact hK.elim
  · exact hK.elim

theorem s_un {op : UnOp} {xv : AV} {x : Value} (h : Rel c n st a w imm) (hd : ∀ d, o.dst = some d → d < n) (hK : aRes P tok o.dst (unRes op xv) K st) (hx : Rs w imm xv x) :
    o.upon P a (Go_on c n K) Q (((do pure (Next.value (← Op.unary op x))) : Sem Next).run P w) := by
  unfold unRes at hK
  split at hK
  · have := hx.v_inv
    subst this
    exact upon_pure h hd hK (by simp [Op.unary]) (.pure (.v _))
  · have := hx.v_inv
    subst this
    exact upon_pure h hd hK (by simp [Op.unary, Op.intArith]) (.pure (.v _))
  · exact hK.elim

theorem s_conv {s d : TypeId} {xv : AV} {x : Value} (h : Rel c n st a w imm) (hd : ∀ d, o.dst = some d → d < n) (hK : aRes P tok o.dst (convRes P s d xv) K st) (hx : Rs w imm xv x) :
    o.upon P a (Go_on c n K) Q (((do pure (Next.value (← convert s d x))) : Sem Next).run P w) := by
  unfold convRes at hK
  split at hK
  · rename_i u k k' i hsu hu
    have := hx.v_inv
    subst this
    exact upon_pure h hd hK (by simp [convert, run_underlying hsu, run_underlying hu, Conv.intToInt]) (.pure (.v _))
  · rename_i u i hsu hu
    have := hx.v_inv
    subst this
    exact upon_pure h hd hK (by simp [convert, run_underlying hsu, run_underlying hu]) (.pure (.v _))
  · exact hK.elim

end
end Go.Pg
