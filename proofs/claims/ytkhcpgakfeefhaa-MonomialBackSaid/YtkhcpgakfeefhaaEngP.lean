/- The engine, part P: functions. -/
import Derived.Test.YtkhcpgakfeefhaaEngO
namespace Go.Pg
open Go Go.RowKit
set_option linter.unusedSimpArgs false
set_option linter.unusedVariables false

/-- A function that reads what it is given and hands back new memory, or memory that it was given: `r` is what it returns. -/
def Pure (P : Program) (f : FuncId) (args : List AV) (r : AV) : Prop :=
  (∀ (vs : Array Value) (w : World), (callFunc f vs).run P w = .ok (.enter f vs) w) ∧
  ∀ (w : World) (imm : Imm) (vs : Array Value), (∀ ad, imm ad → ad.block < w.heap.size ∧ ad.spot = none) → args.length = vs.size → (∀ (j : Nat) (a : AV) (x : Value), args[j]? = some a → vs[j]? = some x → Rd w imm a x) →
    Calls P f vs w fun e w' => ∃ x imm', e = .returned x ∧ Rd w' imm' r x ∧ (∀ ad, imm ad → imm' ad) ∧ (∀ ad, imm' ad → (imm ad ∨ w.heap.size ≤ ad.block) ∧ ad.block < w'.heap.size ∧ ad.spot = none) ∧ Below w.heap.size w w'

theorem acall_pure {P : Program} {f : FuncId} {args args' : List AV} {r : AV} {σ : Mem} {R : AV → Mem → Prop} (h : Pure P f args' r) (ho : pubLOk (marks σ (AV.toksL args)) args) (ha : pubLV (marks σ (AV.toksL args)) args = args')
    (hR : R r (marks σ (AV.toksL args))) : ACall P f args σ R := by
  refine ⟨h.1, fun c w imm vs hm hl hr => ?_⟩
  obtain ⟨i1, hm1, hk1⟩ := marks_ok (AV.toksL args) hm
  refine (h.2 w i1 vs (fun ad h1 => ⟨hm1.ok.lt ad h1, hm1.ok.spot ad h1⟩) (by rw [← ha, pubLV_length]; exact hl) fun j a x h1 h2 => ?_).mono fun e w' he => ?_
  · rw [← ha] at h1
    obtain ⟨b, hb, rfl⟩ := pubLV_at j a h1
    exact pub_rd hm1 (hk1.rs (hr j b x hb h2)) (pubLOk_at ho j b hb)
  · obtain ⟨x, i2, rfl, hrd, hi, hn, hb⟩ := he
    have hg : w.grownBy w' none := ⟨hb.os, hb.tape, hb.output, hb.size, fun k hk _ => hb.block k hk⟩
    have hcell : ∀ ad, i1 ad → w'.cell? ad = w.cell? ad := fun ad h1 => hb.cell (hm1.ok.lt ad h1)
    refine ⟨r, _, i2, x, rfl, hR, .pure hrd, ⟨⟨fun k e hk => ?_, hm1.ok.apart, fun ad h1 => (hn ad h1).2.1, fun ad h1 => (hn ad h1).2.2⟩, hm1.below.trans (hb.mono hm1.lt), Nat.le_trans hm1.lt hb.size, fun ad h1 => hi _ (hm1.old ad h1), fun ad h1 => ?_, fun ad h1 => (hcell ad (hm1.old ad h1)).trans (hm1.cells ad h1)⟩,
      hk1.trans fun ad h1 => ⟨hi ad h1, hcell ad h1⟩⟩
    · refine (hm1.ok.ent k e hk).keep hg ?_ hi hcell fun ad h1 => ?_
      · rcases hbk : e.blk with _ | b
        · exact .inl rfl
        · exact .inr (by simp)
      · rcases (hn ad h1).1 with h2 | h2
        · exact .inl h2
        · refine .inr fun h3 => ?_
          have := ((hm1.ok.ent k e hk).blk_lt h3).2
          omega
    · rcases (hn ad h1).1 with h2 | h2
      · exact hm1.new ad h2
      · exact .inr (Nat.le_trans hm1.lt h2)

/-! ### results -/
def resK : Res → (AV → Prop) → Prop
  | .val x [], K => K x
  | .need p r, K => p ∧ resK r K
  | _, _ => False
def resVar (P : Program) (st : St) : ResultVar → (AV → Prop) → Prop
  | .tmp t, K => K (st.env t)
  | .cell a t, K => resK (loadRes P st t (st.env a)) K
def resVars (P : Program) (st : St) : List ResultVar → (List AV → Prop) → Prop
  | [], K => K []
  | v :: r, K => resVar P st v fun a => resVars P st r fun as => K (a :: as)
/-- The value that a frame returns. -/
def retAV (P : Program) (st : St) (rs : List ResultVar) (K : AV → Prop) : Prop :=
  resVars P st rs fun as => K (match as with | [a] => a | as => .tup as)

section
variable {P : Program} {c : Cx} {n tok : Nat} {st : St} {a : Act} {w : World} {imm : Imm}

theorem loadOf_run {t : TypeId} {cs : List AV} {ad : Addr} {K : AV → Prop} (hK : resK (loadOf P t cs) K) (hc : CellsAt w imm ad cs) : ∃ y b, (loadVar t ad).run P w = .ok y w ∧ K b ∧ Rs w imm b y := by
  unfold loadOf at hK
  cases hu : P.underlying t with
  | none => rw [hu] at hK; exact hK.elim
  | some d =>
    rw [hu] at hK
    have hag : (isAgg t).run P w = .ok (isAggD d) w := by
      simp only [isAgg, Sem.run_bind, run_underlying hu, Result.andThen_ok]
      cases d <;> rfl
    cases hb : isAggD d with
    | false =>
      rw [hb] at hag
      simp only [hb, Bool.false_eq_true, if_false] at hK
      cases cs with
      | nil => exact hK.elim
      | cons x r =>
        obtain ⟨y, hy, hr⟩ := hc 0 x rfl
        have : ad.add 0 = ad := by simp [Addr.add]
        rw [this] at hy
        exact ⟨y, x, by simp [loadVar, hag, hy], hK, hr⟩
    | true =>
      rw [hb] at hag
      simp only [hb, if_true] at hK
      unfold takeRes at hK
      cases hs : szOf P t with
      | none => rw [hs] at hK; exact hK.elim
      | some k =>
        rw [hs] at hK
        obtain ⟨hle, hK⟩ := hK
        have hex : ∀ j, j < k → ∃ x, w.cell? (ad.add j) = some x ∧ ∀ b, cs[j]? = some b → Rs w imm b x := by
          intro j hj
          obtain ⟨x, h1, h2⟩ := hc j cs[j] (List.getElem?_eq_getElem (by omega))
          exact ⟨x, h1, fun b hb => by rw [List.getElem?_eq_getElem (by omega)] at hb; simp only [Option.some.injEq] at hb; exact hb ▸ h2⟩
        let f : Nat → Value := fun j => (w.cell? (ad.add j)).getD undef
        have hf : ∀ j, j < k → w.cell? (ad.add j) = some (f j) := by
          intro j hj
          obtain ⟨x, h1, _⟩ := hex j hj
          simp [f, h1]
        have hl := run_loadCells (P := P) w ad k f hf
        refine ⟨.agg ((List.range k).map f).toArray, _, by simp [loadVar, hag, run_sizeOf' hs, hl], hK, .agg _ _ (by simp [hle]) fun j b x h1 h2 => ?_⟩
        rw [List.getElem?_take] at h1
        split at h1
        · rename_i hj
          obtain ⟨y, h3, h4⟩ := hex j hj
          have : f j = x := by
            have h2' : ((List.range k).map f)[j]? = some x := by simpa using h2
            simpa [List.getElem?_map, List.getElem?_range hj] using h2'
          rw [← this]
          simp only [f, h3, Option.getD_some]
          exact h4 b h1
        · cases h1

def rvRun (a : Act) : ResultVar → Sem Value
  | .tmp t => pure (a.tmps.getD t undef)
  | .cell x t => do loadVar t (← asAddr (a.tmps.getD x undef))

theorem resVar_run {rv : ResultVar} {K : AV → Prop} (h : Rel c n st a w imm) (hK : resVar P st rv K) :
    ∃ y b, (rvRun a rv).run P w = .ok y w ∧ K b ∧ Rs w imm b y := by
  cases rv with
  | tmp t => exact ⟨_, _, rfl, hK, h.env t⟩
  | cell x t =>
    simp only [resVar] at hK
    have hx := h.env x
    cases hxx : st.env x with
    | pbox k g off =>
      rw [hxx] at hK hx
      have hv := hx.pbox_inv
      simp only [rvRun, hv]
      unfold loadRes at hK
      simp only at hK
      cases hk : st.mem k with
      | none => simp only [hk] at hK; exact hK.elim
      | some e =>
        cases e with
        | row => simp only [hk] at hK; exact hK.elim
        | box g' e cs pub =>
          simp only [hk] at hK
          obtain ⟨rfl, hK⟩ := hK
          have hca := (box_cells h.mem hk).drop off
          rw [Addr.add_lit, Nat.zero_add] at hca
          obtain ⟨y, b, h1, h2, h3⟩ := loadOf_run hK hca
          exact ⟨y, b, by simp only [asAddr, Sem.run_bind, Sem.run_pure, Result.andThen_ok]; exact h1, h2, h3⟩
    | pimm cs =>
      rw [hxx] at hK hx
      obtain ⟨ad, f, hv, h1, h2⟩ := hx.pimm_inv
      simp only [rvRun, hv]
      obtain ⟨y, b, h3, h4, h5⟩ := loadOf_run (ad := ad) hK fun j b hb => ⟨f j, (h1 j (lt_of_get hb)).2, .pure (h2 j b hb)⟩
      exact ⟨y, b, by simp only [asAddr, Sem.run_bind, Sem.run_pure, Result.andThen_ok]; exact h3, h4, h5⟩
    | prow k sv m i off =>
      rw [hxx] at hK hx
      obtain ⟨g, nn, cc, e1, hv⟩ := hx.prow_inv
      subst e1
      simp only [rvRun, hv]
      unfold loadRes at hK
      simp only at hK
      cases hk : st.mem k with
      | none => simp only [hk] at hK; exact hK.elim
      | some e =>
        cases e with
        | box => simp only [hk] at hK; exact hK.elim
        | row sv' e m' es pub =>
          simp only [hk] at hK
          obtain ⟨⟨rfl, rfl, hi⟩, hK⟩ := hK
          have hca := (row_cells h.mem hk hi).drop off
          rw [Addr.add_lit] at hca
          obtain ⟨y, b, h1, h2, h3⟩ := loadOf_run hK hca
          exact ⟨y, b, by simp only [asAddr, Sem.run_bind, Sem.run_pure, Result.andThen_ok]; exact h1, h2, h3⟩
    | _ => rw [hxx] at hK; exact hK.elim

theorem resVars_run : ∀ (rs : List ResultVar) {K : List AV → Prop}, Rel c n st a w imm → resVars P st rs K →
    ∃ ys bs, (rs.mapM fun rv => rvRun a rv).run P w = .ok ys w ∧ K bs ∧ bs.length = ys.length ∧
      ∀ (j : Nat) (b : AV) (y : Value), bs[j]? = some b → ys[j]? = some y → Rs w imm b y
  | [], K, h, hK => ⟨[], [], rfl, hK, rfl, by simp⟩
  | rv :: rs, K, h, hK => by
    obtain ⟨y, b, h1, h2, h3⟩ := resVar_run h hK
    obtain ⟨ys, bs, h4, h5, h6, h7⟩ := resVars_run rs h h2
    refine ⟨y :: ys, b :: bs, ?_, h5, by simp [h6], fun j b' y' hb hy => ?_⟩
    · rw [List.mapM_cons]
      simp only [Sem.run_bind, h1, h4, Result.andThen_ok, Sem.run_pure]
    · match j with
      | 0 => simp at hb hy; subst hb; subst hy; exact h3
      | j + 1 => exact h7 j b' y' (by simpa using hb) (by simpa using hy)

theorem ret_run {fn : Func} {rs : List ResultVar} {K : AV → Prop} (hrs : fn.results = rs.toArray) (h : Rel c n st a w imm) (hK : retAV P st rs K) : ∃ y b, (results fn a.tmps).run P w = .ok y w ∧ K b ∧ Rs w imm b y := by
  obtain ⟨ys, bs, h1, h2, h3, h4⟩ := resVars_run rs h hK
  have hm : (fn.results.mapM fun rv => rvRun a rv).run P w = .ok ys.toArray w := by
    rw [hrs, Array.mapM_eq_mapM_toList]
    simp only [Sem.run_map, h1, Result.andThen_ok]
  have hr : (results fn a.tmps).run P w = .ok (if h : ys.toArray.size = 1 then ys.toArray[0] else .tuple ys.toArray) w := by
    have e : results fn a.tmps = (do let vs ← fn.results.mapM (rvRun a); pure (if h : vs.size = 1 then vs[0] else .tuple vs)) := by
      unfold results
      congr 1
    rw [e]
    simp only [Sem.run_bind, hm, Result.andThen_ok, Sem.run_pure]
  match bs, ys, h3, h4, h2, hr with
  | [b], [y], _, h4, h2, hr => exact ⟨y, b, by simpa using hr, h2, h4 0 b y rfl rfl⟩
  | [], [], _, h4, h2, hr => exact ⟨_, _, hr, h2, .tup _ _ rfl (by simp)⟩
  | b1 :: b2 :: bs, y1 :: y2 :: ys, h3, h4, h2, hr => exact ⟨_, _, hr, h2, by simpa using Rs.tup _ (y1 :: y2 :: ys).toArray (by simpa using h3) (fun j b y hb hy => h4 j b y hb (by simpa using hy))⟩
end

/-- A function's value, once published. -/
def pubRet (st : St) (r : AV) (b : AV) : Prop := pubOk (marks st.mem b.toks) b ∧ pubV (marks st.mem b.toks) b = r

/-- How a body must end. -/
def Done (P : Program) (rs : List ResultVar) (K : St → AV → Prop) : AE → St → Prop
  | .exit _, _ => False
  | .normal, st => retAV P st rs (K st)
  | .ret, st => retAV P st rs (K st)

theorem done_ret {P : Program} {rs : List ResultVar} {K : St → AV → Prop} {ae : AE} {st : St} (h : Done P rs K ae st) : retAV P st rs (K st) := by
  cases ae with
  | exit => exact h.elim
  | normal => exact h
  | ret => exact h

theorem pure_intro {P : Program} {f n tok : Nat} {fn : Func} {code : Code} {rs : List ResultVar} {args : List AV} {r : AV} (hf : P.funcs[f]? = some fn) (hb : fn.body = some code) (hn : fn.ntmps = n) (hrs : fn.results = rs.toArray)
    (hc : ∀ (vs : Array Value) (w : World), (callFunc f vs).run P w = .ok (.enter f vs) w) (hfit : codeFits n code = true) (hal : args.length ≤ n)
    (h : aCode P tok n code (Done P rs fun st => pubRet st r) ⟨fun t => args.getD t .u, noMem⟩) : Pure P f args r := by
  refine ⟨hc, fun w imm vs himm hl hr => ?_⟩
  refine calls_of_wp hf hb ?_
  let c : Cx := ⟨w.heap.size, w, imm⟩
  have hrel : Rel c n ⟨fun t => args.getD t .u, noMem⟩ { tmps := vs ++ Array.replicate (fn.ntmps - vs.size) undef, defers := [] } w imm := by
    refine ⟨fun t => ?_, by simp [hn]; omega, rfl, ⟨⟨fun k e hk => by simp [noMem] at hk, fun k k' e e' b hk => by simp [noMem] at hk, fun ad h1 => (himm ad h1).1, fun ad h1 => (himm ad h1).2⟩, Below.refl _ _, Nat.le_refl _, fun _ h1 => h1, fun _ h1 => .inl h1, fun _ _ => rfl⟩⟩
    simp only [List.getD_eq_getElem?_getD]
    rcases Nat.lt_or_ge t args.length with ht | ht
    · have ht2 : t < vs.size := by omega
      rw [List.getElem?_eq_getElem ht, Array.getD_eq_getD_getElem?, Array.getElem?_append_left ht2, Array.getElem?_eq_getElem ht2]
      exact .pure (hr t _ _ (List.getElem?_eq_getElem ht) (Array.getElem?_eq_getElem ht2))
    · rw [List.getElem?_eq_none ht]
      exact .pure (.u _)
  refine Code.wp_mono (fun e a' w' hp => ?_) (aCode_sound code _ _ hfit h c _ w imm hrel)
  obtain ⟨ae, st', imm', rfl, hdone, hrel'⟩ := hp
  have hret := done_ret hdone
  have hae : ∀ id, ae ≠ .exit id := by rintro id rfl; exact hdone
  obtain ⟨y, b, hrun, ⟨hpo, hpv⟩, hrs'⟩ := ret_run hrs hrel' hret
  obtain ⟨i2, hm2, hk2⟩ := marks_ok b.toks hrel'.mem
  have hrd := pub_rd hm2 (hk2.rs hrs') hpo
  rw [hpv] at hrd
  have fin : a'.defers = [] ∧ ∃ v, (results fn a'.tmps).run P w' = .ok v w' ∧ (fun e w' => ∃ x imm', e = Ending.returned x ∧ Rd w' imm' r x ∧ (∀ ad, imm ad → imm' ad) ∧ (∀ ad, imm' ad → (imm ad ∨ w.heap.size ≤ ad.block) ∧ ad.block < w'.heap.size ∧ ad.spot = none) ∧ Below w.heap.size w w') (Ending.returned v) w' :=
    ⟨hrel'.defers, y, hrun, y, i2, rfl, hrd, hm2.old, fun ad h1 => ⟨hm2.new ad h1, hm2.ok.lt ad h1, hm2.ok.spot ad h1⟩, hm2.below⟩
  cases ae with
  | normal => exact fin
  | ret => exact fin
  | exit id => exact absurd rfl (hae id)

/-- A call that is told by the callee's own text, on the caller's memory. -/
theorem acall_inline {P : Program} {f n tok : Nat} {fn : Func} {code : Code} {rs : List ResultVar} {args : List AV} {σ : Mem} {R : AV → Mem → Prop} (hf : P.funcs[f]? = some fn) (hb : fn.body = some code) (hn : fn.ntmps = n) (hrs : fn.results = rs.toArray)
    (hc : ∀ (vs : Array Value) (w : World), (callFunc f vs).run P w = .ok (.enter f vs) w) (hfit : codeFits n code = true) (hal : args.length ≤ n)
    (h : aCode P tok n code (Done P rs fun st b => R b st.mem) ⟨fun t => args.getD t .u, σ⟩) : ACall P f args σ R := by
  refine ⟨hc, fun c w imm vs hm hl hr => ?_⟩
  refine calls_of_wp hf hb ?_
  -- the callee's run, seen from where the caller stands
  have hrel : Rel ⟨c.B, w, imm⟩ n ⟨fun t => args.getD t .u, σ⟩ { tmps := vs ++ Array.replicate (fn.ntmps - vs.size) undef, defers := [] } w imm := by
    refine ⟨fun t => ?_, by simp [hn]; omega, rfl, ⟨hm.ok, Below.refl _ _, hm.lt, fun _ h1 => h1, fun _ h1 => .inl h1, fun _ _ => rfl⟩⟩
    simp only [List.getD_eq_getElem?_getD]
    rcases Nat.lt_or_ge t args.length with ht | ht
    · have ht2 : t < vs.size := by omega
      rw [List.getElem?_eq_getElem ht, Array.getD_eq_getD_getElem?, Array.getElem?_append_left ht2, Array.getElem?_eq_getElem ht2]
      exact hr t _ _ (List.getElem?_eq_getElem ht) (Array.getElem?_eq_getElem ht2)
    · rw [List.getElem?_eq_none ht]
      exact .pure (.u _)
  refine Code.wp_mono (fun e a' w' hp => ?_) (aCode_sound code _ _ hfit h _ _ w imm hrel)
  obtain ⟨ae, st', imm', rfl, hdone, hrel'⟩ := hp
  have hret := done_ret hdone
  have hae : ∀ id, ae ≠ .exit id := by rintro id rfl; exact hdone
  obtain ⟨y, b, hrun, hR, hrs'⟩ := ret_run hrs hrel' hret
  have hm' := hrel'.mem
  have fin : a'.defers = [] ∧ ∃ v, (results fn a'.tmps).run P w' = .ok v w' ∧ (fun e w' => ∃ r σ' imm' x, e = Ending.returned x ∧ R r σ' ∧ Rs w' imm' r x ∧ Mx c σ' w' imm' ∧ Keeps w imm w' imm') (Ending.returned v) w' :=
    ⟨hrel'.defers, y, hrun, b, st'.mem, imm', y, rfl, hR, hrs', ⟨hm'.ok, hm.below.trans hm'.below, hm'.lt, fun ad h1 => hm'.old ad (hm.old ad h1), fun ad h1 => (hm'.new ad h1).elim (hm.new ad) .inr, fun ad h1 => (hm'.cells ad (hm.old ad h1)).trans (hm.cells ad h1)⟩,
      fun ad h1 => ⟨hm'.old ad h1, hm'.cells ad h1⟩⟩
  cases ae with
  | normal => exact fin
  | ret => exact fin
  | exit id => exact absurd rfl (hae id)

end Go.Pg
