/- Contracts of the functions that the law reaches, and the rules by which they are walked. They say what a call hands back for every input within the bounds that each names; no other condition. -/
import Derived.Test.YtbgmnobnaplmlaaGreatBv3
import Derived.DataElems
import Derived.DataReads
import Derived.Laws.RangeString
import Derived.Lib.OthersKept
import Derived.Laws.Strings
section
namespace Go.Proofs.YtbgmnobnaplmlaaGreat
open Go Go.RowKit Go.Pg
/-! ### monomials in the lexical order (plain law; built outside of the tree with copies of gI, lt1, lexC, zipI) -/
/-- A monomial as it is kept: no zeros behind, no negative exponents. -/
def Can (l : List Int) : Prop := (∀ j, 0 ≤ gI l j) ∧ (l.length = 0 ∨ gI l (l.length - 1) ≠ 0)
/-- Less, by the greatest variable in which two monomials differ. -/
def LTm (a b : List Int) : Prop := ∃ k, gI a k < gI b k ∧ ∀ j, k < j → gI a j = gI b j
def ltM (a b : List Int) : Prop := lexC a b (max a.length b.length) = -1
instance : DecidableRel ltM := fun a b => inferInstanceAs (Decidable (lexC a b (max a.length b.length) = -1))
theorem lexC_lt {a b : List Int} : ∀ n, lexC a b n = -1 ↔ ∃ k, k < n ∧ gI a k < gI b k ∧ ∀ j, k < j → j < n → gI a j = gI b j
  | 0 => by
    constructor
    · intro h; exact absurd h (by show ¬ (0 : Int) = -1; omega)
    · rintro ⟨k, h, _⟩; omega
  | n + 1 => by
    unfold lexC
    by_cases h : gI a n = gI b n
    · rw [if_pos h, lexC_lt n]
      constructor
      · rintro ⟨k, h1, h2, h3⟩
        exact ⟨k, by omega, h2, fun j h4 h5 => by by_cases hj : j = n; subst hj; exact h; exact h3 j h4 (by omega)⟩
      · rintro ⟨k, h1, h2, h3⟩
        have : k ≠ n := by rintro rfl; omega
        exact ⟨k, by omega, h2, fun j h4 h5 => h3 j h4 (by omega)⟩
    · rw [if_neg h]
      unfold lt1
      constructor
      · intro h1
        by_cases h2 : gI a n < gI b n
        · exact ⟨n, by omega, h2, fun j h3 h4 => by omega⟩
        · rw [if_neg h2] at h1; omega
      · rintro ⟨k, h1, h2, h3⟩
        by_cases hk : k = n
        · subst hk; rw [if_pos h2]
        · exact absurd (h3 n (by omega) (by omega)) h
theorem ltM_iff {a b : List Int} : ltM a b ↔ LTm a b := by
  unfold ltM LTm
  rw [lexC_lt]
  constructor
  · rintro ⟨k, h1, h2, h3⟩
    refine ⟨k, h2, fun j h4 => ?_⟩
    by_cases hj : j < max a.length b.length
    · exact h3 j h4 hj
    · rw [gI_out (by omega), gI_out (by omega)]
  · rintro ⟨k, h2, h3⟩
    refine ⟨k, ?_, h2, fun j h4 _ => h3 j h4⟩
    by_cases hk : k < max a.length b.length
    · exact hk
    · rw [gI_out (by omega), gI_out (by omega)] at h2; omega
theorem lexC_three {a b : List Int} : ∀ n, lexC a b n = 0 ∧ (∀ j, j < n → gI a j = gI b j) ∨ lexC a b n = -1 ∨ lexC a b n = 1
  | 0 => .inl ⟨rfl, fun j h => by omega⟩
  | n + 1 => by
    unfold lexC
    by_cases h : gI a n = gI b n
    · rw [if_pos h]
      rcases @lexC_three a b n with ⟨h1, h2⟩ | h1
      · exact .inl ⟨h1, fun j hj => by by_cases e : j = n; subst e; exact h; exact h2 j (by omega)⟩
      · exact .inr h1
    · rw [if_neg h]
      unfold lt1
      split
      · exact .inr (.inl rfl)
      · exact .inr (.inr rfl)
theorem lexC_neg {a b : List Int} : ∀ n, lexC b a n = - lexC a b n
  | 0 => rfl
  | n + 1 => by
    unfold lexC
    by_cases h : gI a n = gI b n
    · rw [if_pos h, if_pos h.symm, lexC_neg n]
    · rw [if_neg h, if_neg (fun e => h e.symm)]
      unfold lt1
      by_cases h1 : gI a n < gI b n
      · rw [if_pos h1, if_neg (by omega)]; rfl
      · rw [if_neg h1, if_pos (by omega)]
theorem can_ext {a b : List Int} (ha : Can a) (hb : Can b) (h : ∀ j, gI a j = gI b j) : a = b := by
  have hl : a.length = b.length := by
    have h1 := h (a.length - 1)
    have h2 := h (b.length - 1)
    rcases Nat.lt_trichotomy a.length b.length with hl | hl | hl
    · rcases hb.2 with hb0 | hb0
      · omega
      · rw [← h2, gI_out (by omega)] at hb0; exact absurd rfl hb0
    · exact hl
    · rcases ha.2 with ha0 | ha0
      · omega
      · rw [h1, gI_out (by omega)] at ha0; exact absurd rfl ha0
  refine List.ext_getElem hl fun j h1 h2 => ?_
  have := h j
  rwa [gI_at h1, gI_at h2] at this
theorem ordM : Go.Pol.KO Can ltM where
  irr x h := by obtain ⟨k, h1, _⟩ := ltM_iff.1 h; omega
  tr x y z h g := by
    obtain ⟨k, h1, h2⟩ := ltM_iff.1 h
    obtain ⟨i, g1, g2⟩ := ltM_iff.1 g
    rw [ltM_iff]
    rcases Nat.lt_trichotomy k i with h3 | h3 | h3
    · exact ⟨i, by rw [h2 i h3]; exact g1, fun j hj => by rw [h2 j (by omega), g2 j hj]⟩
    · subst h3; exact ⟨k, by omega, fun j hj => by rw [h2 j hj, g2 j hj]⟩
    · exact ⟨k, by rw [← g2 k h3]; exact h1, fun j hj => by rw [h2 j hj, g2 j (by omega)]⟩
  tri x y hx hy := by
    rcases @lexC_three x y (max x.length y.length) with ⟨_, h⟩ | h | h
    · refine .inr (.inl (can_ext hx hy fun j => ?_))
      by_cases hj : j < max x.length y.length
      · exact h j hj
      · rw [gI_out (by omega), gI_out (by omega)]
    · exact .inl h
    · refine .inr (.inr ?_)
      unfold ltM
      rw [Nat.max_comm, lexC_neg, h]
theorem gI_zip (F : Int → Int → Int) (h0 : F 0 0 = 0) (a b : List Int) (j : Nat) : gI (zipI F a b) j = F (gI a j) (gI b j) := by
  by_cases h : j < max a.length b.length
  · rw [gI_at (by unfold zipI; simpa using h)]
    unfold zipI
    simp only [List.getElem_map, List.getElem_range]
  · rw [gI_out (by unfold zipI; simp only [List.length_map, List.length_range]; omega), gI_out (by omega), gI_out (by omega), h0]
abbrev mulM (a b : List Int) : List Int := zipI (· + ·) a b
theorem mulM_len (a b : List Int) : (mulM a b).length = max a.length b.length := by simp [mulM, zipI]
theorem mulK : Go.Pol.KM Can ltM mulM where
  comm x y := by
    unfold mulM zipI
    rw [Nat.max_comm]
    exact List.map_congr_left fun i _ => Int.add_comm _ _
  dom x y hx hy := by
    refine ⟨fun j => by rw [gI_zip _ rfl]; have := hx.1 j; have := hy.1 j; omega, ?_⟩
    rw [mulM_len, gI_zip _ rfl]
    have a1 := hx.1 (max x.length y.length - 1)
    have b1 := hy.1 (max x.length y.length - 1)
    rcases Nat.le_total x.length y.length with h | h
    · rw [Nat.max_eq_right h] at *
      rcases hy.2 with h1 | h1
      · exact .inl h1
      · exact .inr (by omega)
    · rw [Nat.max_eq_left h] at *
      rcases hx.2 with h1 | h1
      · exact .inl h1
      · exact .inr (by omega)
  mono x y z _ _ _ h := by
    obtain ⟨k, h1, h2⟩ := ltM_iff.1 h
    rw [ltM_iff]
    exact ⟨k, by rw [gI_zip _ rfl, gI_zip _ rfl]; omega, fun j hj => by rw [gI_zip _ rfl, gI_zip _ rfl, h2 j hj]⟩
theorem rat_pow_add (v : Rat) (a b : Nat) : v ^ (a + b) = v ^ a * v ^ b := by
  induction b with
  | zero => rw [Nat.add_zero, Rat.pow_zero, Rat.mul_one]
  | succ b ih => rw [Nat.add_succ, Rat.pow_succ, ih, Rat.pow_succ, Rat.mul_assoc]
/-- The value of a monomial. -/
def mvN (v : Nat → Rat) (m : List Int) : Nat → Rat
  | 0 => 1
  | n + 1 => mvN v m n * v n ^ (gI m n).toNat
def mv (v : Nat → Rat) (m : List Int) : Rat := mvN v m m.length
theorem mvN_ge (v : Nat → Rat) (m : List Int) : ∀ k, mvN v m (m.length + k) = mv v m
  | 0 => rfl
  | k + 1 => by
    show mvN v m (m.length + k) * v (m.length + k) ^ (gI m (m.length + k)).toNat = _
    rw [mvN_ge v m k, gI_out (by omega), show (0 : Int).toNat = 0 from rfl, Rat.pow_zero, Rat.mul_one]
theorem mvN_mul (v : Nat → Rat) {a b : List Int} (ha : Can a) (hb : Can b) : ∀ n, mvN v (mulM a b) n = mvN v a n * mvN v b n
  | 0 => by show (1 : Rat) = 1 * 1; rw [Rat.mul_one]
  | n + 1 => by
    have h1 := ha.1 n
    have h2 := hb.1 n
    show mvN v (mulM a b) n * v n ^ (gI (mulM a b) n).toNat = (mvN v a n * v n ^ (gI a n).toNat) * (mvN v b n * v n ^ (gI b n).toNat)
    rw [mvN_mul v ha hb n, gI_zip _ rfl, show (gI a n + gI b n).toNat = (gI a n).toNat + (gI b n).toNat by omega, rat_pow_add]
    grind
theorem mv_mul (v : Nat → Rat) {a b : List Int} (ha : Can a) (hb : Can b) : mv v (mulM a b) = mv v a * mv v b := by
  have h1 := mvN_ge v a (max a.length b.length - a.length)
  have h2 := mvN_ge v b (max a.length b.length - b.length)
  rw [show a.length + (max a.length b.length - a.length) = max a.length b.length by omega] at h1
  rw [show b.length + (max a.length b.length - b.length) = max a.length b.length by omega] at h2
  show mvN v (mulM a b) (mulM a b).length = _
  rw [mulM_len, mvN_mul v ha hb, h1, h2]
end Go.Proofs.YtbgmnobnaplmlaaGreat
end

section
namespace Go.Pol
/-! ### products with one term, differences -/
section
variable {α : Type} {D : α → Prop} {lt : α → α → Prop} [DecidableEq α] [DecidableRel lt]
end
section
variable {α : Type} {lt : α → α → Prop} [DecidableRel lt]
end
section
variable {α : Type} {D : α → Prop} {lt : α → α → Prop} [DecidableRel lt]
def subP (lt : α → α → Prop) [DecidableRel lt] (p q : List (Rat × α)) : List (Rat × α) := addP lt p (scaleP (-1) q)
theorem neg1 : (-1 : Rat) ≠ 0 := by decide
theorem sub_srt (o : KO D lt) {p q : List (Rat × α)} (hp : Srt D lt p) (hq : Srt D lt q) : Srt D lt (subP lt p q) := addP_srt o hp (scale_srt hq neg1)
end
section
variable {α : Type} {D : α → Prop} {lt : α → α → Prop} [DecidableEq α] [DecidableRel lt]
theorem sub_cof (o : KO D lt) {p q : List (Rat × α)} (hp : Srt D lt p) (hq : Srt D lt q) (x : α) : cof (subP lt p q) x = cof p x - cof q x := by
  unfold subP
  rw [cof_addP o x hp.dom (scale_srt hq neg1).dom, cof_scale]
  grind
theorem neg_sub (o : KO D lt) {p q : List (Rat × α)} (hp : Srt D lt p) (hq : Srt D lt q) : scaleP (-1) (subP lt p q) = subP lt q p :=
  srt_ext o (scale_srt (sub_srt o hp hq) neg1) (sub_srt o hq hp) fun x => by rw [cof_scale, sub_cof o hp hq, sub_cof o hq hp]; grind
end
section
variable {α : Type} {lt : α → α → Prop} [DecidableRel lt]
theorem mem_addP' {p q : List (Rat × α)} {t : Rat × α} (h : t ∈ addP lt p q) : t ∈ p ∨ t ∈ q ∨ ∃ s ∈ p, ∃ u ∈ q, t = (s.1 + u.1, s.2) := by
  fun_induction addP lt p q with
  | case1 q => exact .inr (.inl h)
  | case2 s p => exact .inl h
  | case3 s p u q h1 ih =>
    rcases List.mem_cons.1 h with rfl | h
    · exact .inl (.head _)
    · rcases ih h with h | h | ⟨a, ha, b, hb, e⟩
      · exact .inl (.tail _ h)
      · exact .inr (.inl h)
      · exact .inr (.inr ⟨a, .tail _ ha, b, hb, e⟩)
  | case4 s p u q h1 h2 ih =>
    rcases List.mem_cons.1 h with rfl | h
    · exact .inr (.inl (.head _))
    · rcases ih h with h | h | ⟨a, ha, b, hb, e⟩
      · exact .inl h
      · exact .inr (.inl (.tail _ h))
      · exact .inr (.inr ⟨a, ha, b, .tail _ hb, e⟩)
  | case5 s p u q h1 h2 h3 ih =>
    rcases ih h with h | h | ⟨a, ha, b, hb, e⟩
    · exact .inl (.tail _ h)
    · exact .inr (.inl (.tail _ h))
    · exact .inr (.inr ⟨a, .tail _ ha, b, .tail _ hb, e⟩)
  | case6 s p u q h1 h2 h3 ih =>
    rcases List.mem_cons.1 h with rfl | h
    · exact .inr (.inr ⟨s, .head _, u, .head _, rfl⟩)
    · rcases ih h with h | h | ⟨a, ha, b, hb, e⟩
      · exact .inl (.tail _ h)
      · exact .inr (.inl (.tail _ h))
      · exact .inr (.inr ⟨a, .tail _ ha, b, .tail _ hb, e⟩)
end
/-! ### numbers with a common denominator and of a bounded size -/
def BQ (D B : Nat) (q : Rat) : Prop := q.den ∣ D ∧ q.num.natAbs ≤ B * q.den
theorem mk_facts {z : Int} {m : Nat} (hm : m ≠ 0) {D B : Nat} (hd : m ∣ D * Nat.gcd z.natAbs m) (hb : z.natAbs ≤ B * m) : BQ D B (mkRat z m) := by
  have h0 : 0 < Nat.gcd z.natAbs m := Nat.gcd_pos_of_pos_right _ (Nat.pos_of_ne_zero hm)
  obtain ⟨c, hc⟩ := Nat.gcd_dvd_right z.natAbs m
  obtain ⟨a, ha⟩ := Nat.gcd_dvd_left z.natAbs m
  unfold BQ
  rw [Rat.num_mkRat, Rat.den_mkRat, if_neg hm, Nat.gcd_comm m z.natAbs]
  generalize Nat.gcd z.natAbs m = g at *
  have e1 : m / g = c := by rw [hc]; exact Nat.mul_div_cancel_left _ h0
  have e2 : (z / (g : Int)).natAbs = a := by
    rcases Int.natAbs_eq z with h | h
    · rw [h, ha, show ((g * a : Nat) : Int) = (g : Int) * (a : Int) from by simp, Int.mul_ediv_cancel_left _ (by omega)]; simp
    · rw [h, ha, show -((g * a : Nat) : Int) = (g : Int) * (-(a : Int)) from by simp [Int.mul_neg], Int.mul_ediv_cancel_left _ (by omega)]; simp
  rw [e1, if_neg hm, e2]
  constructor
  · rw [hc, Nat.mul_comm D] at hd
    exact Nat.dvd_of_mul_dvd_mul_left h0 hd
  · rw [ha, hc, show B * (g * c) = g * (B * c) from by simp only [Nat.mul_left_comm]] at hb
    exact Nat.le_of_mul_le_mul_left hb h0
theorem BQ.mono {D B E C : Nat} {q : Rat} (h : BQ D B q) (hd : D ∣ E) (hb : B ≤ C) : BQ E C q := ⟨Nat.dvd_trans h.1 hd, Nat.le_trans h.2 (Nat.mul_le_mul_right _ hb)⟩
theorem BQ.mul {D B E C : Nat} {a b : Rat} (h : BQ D B a) (k : BQ E C b) : BQ (D * E) (B * C) (a * b) := by
  rw [Rat.mul_def']
  refine mk_facts (Nat.mul_ne_zero a.den_nz b.den_nz) (Nat.dvd_trans (Nat.mul_dvd_mul h.1 k.1) (Nat.dvd_mul_right _ _)) ?_
  rw [Int.natAbs_mul]
  calc _ ≤ (B * a.den) * (C * b.den) := Nat.mul_le_mul h.2 k.2
    _ = B * C * (a.den * b.den) := by simp only [Nat.mul_assoc, Nat.mul_left_comm]
theorem BQ.add {D B C : Nat} {a b : Rat} (h : BQ D B a) (k : BQ D C b) : BQ D (B + C) (a + b) := by
  obtain ⟨x, hx⟩ := h.1
  obtain ⟨y, hy⟩ := k.1
  have e : a + b = mkRat (a.num * b.den + b.num * a.den) (a.den * b.den) := Rat.add_def' a b
  rw [e]
  refine mk_facts (Nat.mul_ne_zero a.den_nz b.den_nz) ?_ ?_
  · -- D times the numerator is a multiple of the denominators' product
    rw [← Nat.gcd_mul_left]
    refine Nat.dvd_gcd ?_ (Nat.dvd_mul_left _ _)
    have e2 : ((D * (a.num * b.den + b.num * a.den).natAbs : Nat) : Int) = ((D : Int) * (a.num * b.den + b.num * a.den)).natAbs := by
      rw [Int.natAbs_mul]; simp
    have e3 : D * (a.num * b.den + b.num * a.den).natAbs = ((D : Int) * (a.num * b.den + b.num * a.den)).natAbs := by omega
    rw [e3]
    have e4 : (D : Int) * (a.num * b.den + b.num * a.den) = ((a.den * b.den : Nat) : Int) * (x * a.num + y * b.num) := by
      have h1 : (D : Int) = a.den * x := by rw [hx]; simp
      have h2 : (D : Int) = b.den * y := by rw [hy]; simp
      rw [Int.mul_add, Int.mul_add, show ((a.den * b.den : Nat) : Int) = (a.den : Int) * b.den from by simp]
      congr 1
      · rw [h1]; simp only [Int.mul_assoc, Int.mul_left_comm, Int.mul_comm]
      · rw [h2]; simp only [Int.mul_assoc, Int.mul_left_comm, Int.mul_comm]
    rw [e4, Int.natAbs_mul, Int.natAbs_natCast]
    exact Nat.dvd_mul_right _ _
  · have h1 := h.2
    have h2 := k.2
    calc _ ≤ (a.num * b.den).natAbs + (b.num * a.den).natAbs := by omega
      _ = a.num.natAbs * b.den + b.num.natAbs * a.den := by rw [Int.natAbs_mul, Int.natAbs_mul, Int.natAbs_natCast, Int.natAbs_natCast]
      _ ≤ (B * a.den) * b.den + (C * b.den) * a.den := Nat.add_le_add (Nat.mul_le_mul_right _ h1) (Nat.mul_le_mul_right _ h2)
      _ = (B + C) * (a.den * b.den) := by rw [Nat.add_mul]; simp only [Nat.mul_assoc, Nat.mul_comm b.den]
theorem BQ.neg {D B : Nat} {a : Rat} (h : BQ D B a) : BQ D B (-a) := by
  refine ⟨h.1, ?_⟩
  show (-a.num).natAbs ≤ B * a.den
  rw [Int.natAbs_neg]; exact h.2
theorem BQ.int (z : Int) {D B : Nat} (h : z.natAbs ≤ B) : BQ D B (z : Rat) := ⟨⟨D, (Nat.one_mul D).symm⟩, by show z.natAbs ≤ B * 1; omega⟩
end Go.Pol
end

section
/- The engine, part X: plain data that come in, whatever their types: what they read as. -/
namespace Go.Pg
open Go Go.RowKit
set_option linter.unusedSimpArgs false
set_option linter.unusedVariables false

def aggTy (P : Program) (t : TypeId) : Bool := match P.underlying t with
  | some (.struct _) => true
  | _ => false
def wrapA (P : Program) (t : TypeId) (aS : List AV) : AV := if aggTy P t then .agg aS else aS.headD .u

/-- What the cells of a plain type read as. -/
def Shape (P : Program) (N : Nat) : Nat → TypeId → List AV → Prop
  | 0, _, _ => False
  | n + 1, t, aS => match P.underlying t with
    | some .bool => ∃ b, aS = [.v (.bool b)]
    | some (.int k) => ∃ i, aS = [.v (.int k i)] ∧ (Lit.int k i).wf = true
    | some .string => ∃ s : ByteArray, aS = [.v (.string s)] ∧ s.size ≤ N
    | some (.slice e) => ∃ es : List (List AV), aS = [.sl (P.cellsOf e) (es.map (wrapA P e))] ∧ es.length ≤ N ∧ ∀ x ∈ es, Shape P N n e x
    | some (.struct fs) => aS.length = P.cellsOf t ∧ ∀ f ∈ fs.toList, Shape P N n f.type ((aS.drop f.offset).take (P.cellsOf f.type))
    | _ => False
def contig (P : Program) (total : Nat) : Nat → List Field → Bool
  | off, [] => off == total
  | off, f :: fs => f.offset == off && contig P total (off + P.cellsOf f.type) fs
def plainTy (P : Program) : Nat → TypeId → Bool
  | 0, _ => false
  | n + 1, t => match P.underlying t with
    | some .bool | some (.int _) | some .string => P.cellsOf t == 1
    | some (.slice e) => P.cellsOf t == 1 && plainTy P n e
    | some (.struct fs) => contig P (P.cellsOf t) 0 fs.toList && fs.toList.all fun f => plainTy P n f.type
    | _ => false

mutual
/-- How many values and letters a reading holds. -/
def bulk {H : Type} : DataW H → Nat
  | .lit (.string bytes) => bytes.length + 1
  | .lit _ => 1
  | .nil => 1
  | .ptr d => bulk d + 1
  | .slice elems spare => bulkAll elems + bulkAll spare + 1
  | .agg parts => bulkAll parts + 1
  | .iface _ d => bulk d + 1
  | .map entries => bulkEntries entries + 1
  | .held _ => 1
def bulkAll {H : Type} : List (DataW H) → Nat
  | [] => 0
  | d :: r => bulk d + bulkAll r
def bulkEntries {H : Type} : List (Lit × DataW H) → Nat
  | [] => 0
  | x :: r => bulkEntry x + bulkEntries r
def bulkEntry {H : Type} : Lit × DataW H → Nat
  | (.string bytes, d) => bytes.length + bulk d + 1
  | (_, d) => bulk d + 1
end
theorem bulk_pos {H : Type} (d : DataW H) : 1 ≤ bulk d := by
  unfold bulk
  split <;> omega
theorem bulk_mem {H : Type} {d : DataW H} : ∀ {l : List (DataW H)}, d ∈ l → bulk d ≤ bulkAll l
  | e :: r, h => by
    unfold bulkAll
    rcases List.mem_cons.1 h with rfl | h
    · omega
    · have := bulk_mem h; omega
theorem bulk_len {H : Type} : ∀ (l : List (DataW H)), l.length ≤ bulkAll l
  | [] => Nat.le_refl _
  | e :: r => by
    unfold bulkAll
    have := bulk_len r
    have := bulk_pos e
    simp only [List.length_cons]
    omega
/-- Nothing in a reading is longer than N. -/
def Within {H : Type} (N : Nat) (d : DataW H) : Prop := maxLen ≤ N ∨ bulk d ≤ N

/-- Cells in hand that read so. -/
def Cs (w : World) (aS : List AV) (cs : List Value) : Prop := aS.length = cs.length ∧ ∀ (j : Nat) (a : AV) (x : Value), aS[j]? = some a → cs[j]? = some x → Rd w (imm0 w) a x
theorem Cs.nil {w : World} : Cs w [] [] := ⟨rfl, fun j a x h => by simp at h⟩
theorem Cs.one {w : World} {a : AV} {x : Value} (h : Rd w (imm0 w) a x) : Cs w [a] [x] := by
  refine ⟨rfl, fun j b y h1 h2 => ?_⟩
  cases j with
  | zero => simp at h1 h2; subst h1; subst h2; exact h
  | succ j => simp at h1
theorem Cs.append {w : World} {aS bs : List AV} {cs ds : List Value} (h : Cs w aS cs) (k : Cs w bs ds) : Cs w (aS ++ bs) (cs ++ ds) := by
  refine ⟨by simp [h.1, k.1], fun j a x h1 h2 => ?_⟩
  by_cases hj : j < aS.length
  · rw [List.getElem?_append_left hj] at h1
    rw [List.getElem?_append_left (by rw [← h.1]; exact hj)] at h2
    exact h.2 j a x h1 h2
  · rw [List.getElem?_append_right (by omega)] at h1
    rw [List.getElem?_append_right (by rw [← h.1]; omega), ← h.1] at h2
    exact k.2 _ a x h1 h2

theorem mapM_inv {α β : Type} {f : α → Option β} : ∀ {l : List α} {r : List β}, l.mapM f = some r → ∀ x ∈ l, ∃ y, f x = some y := by
  intro l r h x hx
  obtain ⟨i, hi, rfl⟩ := List.mem_iff_getElem.1 hx
  have h1 := mapM_some_get h i l[i] (List.getElem?_eq_getElem hi)
  have h2 := mapM_some_length h
  exact ⟨r[i]'(by omega), by rw [h1, List.getElem?_eq_getElem (by omega)]⟩
theorem choose_list {α : Type} {Q : Nat → α → Prop} : ∀ {n : Nat}, (∀ i, i < n → ∃ a, Q i a) → ∃ l : List α, l.length = n ∧ ∀ (i : Nat) (h : i < l.length), Q i l[i]
  | 0, _ => ⟨[], rfl, fun i h => by simp at h⟩
  | n + 1, h => by
    obtain ⟨l, hl, hq⟩ := choose_list (n := n) fun i hi => h i (by omega)
    obtain ⟨a, ha⟩ := h n (by omega)
    refine ⟨l ++ [a], by simp [hl], fun i hi => ?_⟩
    rw [List.length_append, hl] at hi
    by_cases hj : i < n
    · rw [List.getElem_append_left (by omega)]; exact hq i (by omega)
    · have : i = n := by simp at hi; omega
      subst this
      rw [List.getElem_append_right (by omega)]
      simpa [hl] using ha

theorem shape_one (P : Program) (N : Nat) : ∀ (n : Nat) (t : TypeId) (aS : List AV), plainTy P n t = true → Shape P N n t aS → aS.length = P.cellsOf t ∧ (wrapA P t aS).cells = aS ∧ (aggTy P t = false → ∃ a, aS = [a])
  | 0, _, _, h, _ => by simp [plainTy] at h
  | n + 1, t, aS, hp, hs => by
    unfold plainTy at hp
    unfold Shape at hs
    have one : ∀ a : AV, aS = [a] → P.cellsOf t = 1 → aggTy P t = false → a.cells = [a] → aS.length = P.cellsOf t ∧ (wrapA P t aS).cells = aS ∧ (aggTy P t = false → ∃ a, aS = [a]) := by
      intro a ha h1 h2 h3
      subst ha
      refine ⟨by simp [h1], ?_, fun _ => ⟨a, rfl⟩⟩
      unfold wrapA
      rw [h2]
      exact h3
    split at hs
    · rename_i hu
      rw [hu] at hp
      obtain ⟨b, rfl⟩ := hs
      exact one _ rfl (by simpa using hp) (by simp [aggTy, hu]) rfl
    · rename_i hu
      rw [hu] at hp
      obtain ⟨b, rfl, _⟩ := hs
      exact one _ rfl (by simpa using hp) (by simp [aggTy, hu]) rfl
    · rename_i hu
      rw [hu] at hp
      obtain ⟨b, rfl, _⟩ := hs
      exact one _ rfl (by simpa using hp) (by simp [aggTy, hu]) rfl
    · rename_i e hu
      rw [hu] at hp
      obtain ⟨es, rfl, _⟩ := hs
      simp only [Bool.and_eq_true, beq_iff_eq] at hp
      exact one _ rfl hp.1 (by simp [aggTy, hu]) rfl
    · rename_i fs hu
      have ha : aggTy P t = true := by simp [aggTy, hu]
      refine ⟨hs.1, ?_, fun h => by rw [ha] at h; cases h⟩
      unfold wrapA
      rw [if_pos ha]
      rfl
    · exact hs.elim

section
variable {H : Type} {enc : TypeId × Value → H} {P : Program} {w : World} {spare : Nat → Bool} {held : Bool}

theorem fields_shape {N n fuel total : Nat} {cs : List Value}
    (ih : ∀ (t : TypeId) (cs : List Value) (d : DataW H) (ps : List MemPlace), plainTy P n t = true → Within N d → DataW.trod enc P w 0 spare held fuel t cs = some (d, ps) → ∃ aS, Shape P N n t aS ∧ (∀ x ∈ aS, x.one = true) ∧ Cs w aS cs) (hcs : cs.length = total) :
    ∀ (fs : List Field) (off : Nat) (xs : List (DataW H × List MemPlace)), contig P total off fs = true → off ≤ total → (fs.all fun f => plainTy P n f.type) = true →
      (fs.mapM fun f => DataW.trod enc P w 0 spare held fuel f.type ((cs.drop f.offset).take (P.cellsOf f.type))) = some xs → (∀ x ∈ xs, Within N x.1) →
      ∃ aS, (∀ x ∈ aS, x.one = true) ∧ Cs w aS (cs.drop off) ∧ ∀ f ∈ fs, off ≤ f.offset ∧ Shape P N n f.type ((aS.drop (f.offset - off)).take (P.cellsOf f.type))
  | [], off, xs, hc, hle, hp, hm, hw => by
    unfold contig at hc
    have : off = total := by simpa using hc
    subst this
    refine ⟨[], by simp, ?_, by simp⟩
    rw [List.drop_eq_nil_of_le (by omega)]
    exact Cs.nil
  | f :: fs, off, xs, hc, hle, hp, hm, hw => by
    unfold contig at hc
    simp only [Bool.and_eq_true, beq_iff_eq] at hc
    simp only [List.all_cons, Bool.and_eq_true] at hp
    obtain ⟨ho, hc⟩ := hc
    rw [List.mapM_cons] at hm
    cases h1 : DataW.trod enc P w 0 spare held fuel f.type ((cs.drop f.offset).take (P.cellsOf f.type)) with
    | none => rw [h1] at hm; cases hm
    | some x =>
      cases h2 : (fs.mapM fun f => DataW.trod enc P w 0 spare held fuel f.type ((cs.drop f.offset).take (P.cellsOf f.type))) with
      | none => rw [h1, h2] at hm; cases hm
      | some ys =>
        have hxs : xs = x :: ys := by rw [h1, h2] at hm; simpa using hm.symm
        subst hxs
        obtain ⟨aS, hs, hone, hcs1⟩ := ih f.type _ x.1 x.2 hp.1 (hw x List.mem_cons_self) h1
        have hlen := (shape_one P N n f.type aS hp.1 hs).1
        have hl2 := hcs1.1
        rw [hlen, List.length_take, List.length_drop, ho, hcs] at hl2
        obtain ⟨bs, bone, hcs2, hbs⟩ := fields_shape ih hcs fs (off + P.cellsOf f.type) ys hc (by omega) hp.2 h2 (fun y hy => hw y (List.mem_cons_of_mem _ hy))
        refine ⟨aS ++ bs, fun x hx => (List.mem_append.1 hx).elim (hone x) (bone x), ?_, fun g hg => ?_⟩
        · have := hcs1.append hcs2
          rwa [ho, ← List.drop_drop, List.take_append_drop] at this
        · rcases List.mem_cons.1 hg with rfl | hg
          · refine ⟨by omega, ?_⟩
            rw [ho, Nat.sub_self, List.drop_zero, ← hlen, List.take_left]
            exact hs
          · obtain ⟨h3, h4⟩ := hbs g hg
            refine ⟨by omega, ?_⟩
            rw [show g.offset - off = aS.length + (g.offset - (off + P.cellsOf f.type)) by omega, ← List.drop_drop, List.drop_left]
            exact h4

theorem trod_shape {N : Nat} : ∀ (n fuel : Nat) (t : TypeId) (cs : List Value) (d : DataW H) (ps : List MemPlace), plainTy P n t = true → Within N d → DataW.trod enc P w 0 spare held fuel t cs = some (d, ps) →
    ∃ aS, Shape P N n t aS ∧ (∀ x ∈ aS, x.one = true) ∧ Cs w aS cs
  | 0, _, _, _, _, _, h, _, _ => by simp [plainTy] at h
  | n + 1, 0, _, _, _, _, _, _, h => by simp [DataW.trod] at h
  | n + 1, fuel + 1, t, cs, d, ps, hp, hN, ht => by
    unfold plainTy at hp
    unfold DataW.trod at ht
    unfold Shape
    cases hu : P.underlying t with
    | none => rw [hu] at hp; cases hp
    | some td =>
      rw [hu] at hp ht
      cases td with
      | bool =>
        rcases cs with _ | ⟨x, _ | ⟨y, r⟩⟩ <;> try (simp at ht; done)
        cases x <;> try (simp at ht; done)
        refine ⟨_, ⟨_, rfl⟩, ?_, Cs.one (.v _)⟩
        intro x hx; simp at hx; subst hx; rfl
      | int k =>
        rcases cs with _ | ⟨x, _ | ⟨y, r⟩⟩ <;> try (simp at ht; done)
        cases x <;> try (simp at ht; done)
        rename_i k' i
        simp only at ht
        split at ht
        · rename_i hk
          obtain ⟨rfl, hw⟩ := hk
          refine ⟨_, ⟨i, rfl, hw⟩, ?_, Cs.one (.v _)⟩
          intro x hx; simp at hx; subst hx; rfl
        · cases ht
      | string =>
        rcases cs with _ | ⟨x, _ | ⟨y, r⟩⟩ <;> try (simp at ht; done)
        cases x <;> try (simp at ht; done)
        rename_i s
        simp only at ht
        split at ht
        · rename_i hs
          have hz : s.size ≤ N := by
            rcases hN with h | h
            · omega
            · cases ht
              unfold bulk at h
              have : s.data.toList.length = s.size := by rw [Array.length_toList]; rfl
              omega
          refine ⟨_, ⟨s, rfl, hz⟩, ?_, Cs.one (.v _)⟩
          intro x hx; simp at hx; subst hx; rfl
        · cases ht
      | slice e =>
        simp only [Bool.and_eq_true, beq_iff_eq] at hp
        rcases cs with _ | ⟨x, _ | ⟨y, r⟩⟩ <;> try (simp at ht; done)
        cases x <;> try (simp at ht; done)
        rename_i A len cap
        cases A with
        | none =>
          have h0 : len = 0 ∧ cap = 0 := by
            simp only at ht
            split at ht <;> simp_all
          obtain ⟨rfl, rfl⟩ := h0
          refine ⟨_, ⟨[], rfl, by simp, by simp⟩, ?_, Cs.one ?_⟩
          · intro x hx; simp at hx; subst hx; rfl
          · exact .sl _ [] none 0 (fun _ => undef) (by simp) (by simp) (Nat.le_refl _) (by simp) (by simp) (by simp [flat])
        | some a =>
          simp only at ht
          split at ht
          · rename_i hc
            obtain ⟨elems, he, ht⟩ := Option.bind_eq_some_iff.1 ht
            have hel : elems.length = len := by have := mapM_some_length he; simpa using this
            have hd : ∃ rest : List (DataW H), d = .slice (elems.map (·.1)) rest := by
              obtain ⟨rest, _, hr⟩ := Option.map_eq_some_iff.1 ht
              exact ⟨rest.map (·.1), (congrArg Prod.fst hr).symm⟩
            obtain ⟨rest, rfl⟩ := hd
            have hlN : len ≤ N := by
              rcases hN with h | h
              · omega
              · unfold bulk at h
                have := bulk_len (elems.map (·.1))
                rw [List.length_map] at this
                omega
            have hsub : ∀ y ∈ elems, Within N y.1 := by
              intro y hy
              rcases hN with h | h
              · exact .inl h
              · unfold bulk at h
                have := bulk_mem (List.mem_map_of_mem (f := (·.1)) hy)
                exact .inr (by omega)
            have key : ∀ i, i < len → ∃ aS : List AV, Shape P N n e aS ∧ (∀ x ∈ aS, x.one = true) ∧ ∃ vals : List Value, Cs w aS vals ∧ vals.length = P.cellsOf e ∧ ∀ j, j < P.cellsOf e → w.cell? (a.add (i * P.cellsOf e + j)) = vals[j]? := by
              intro i hi
              obtain ⟨y, hy⟩ := mapM_inv he i (List.mem_range.2 hi)
              obtain ⟨vals, hv, ht2⟩ := Option.bind_eq_some_iff.1 hy
              have hye : y ∈ elems := by
                have h5 := mapM_some_get he i i (by rw [List.getElem?_range hi])
                rw [hy] at h5
                exact List.mem_of_getElem? h5.symm
              obtain ⟨aS, h1, h2, h3⟩ := trod_shape n fuel e vals y.1 y.2 hp.2 (hsub y hye) ht2
              unfold World.cells? at hv
              rw [if_pos (Nat.zero_le _)] at hv
              refine ⟨aS, h1, h2, vals, h3, by have := mapM_some_length hv; simpa using this, fun j hj => ?_⟩
              have := mapM_some_get hv j j (by rw [List.getElem?_range hj])
              rwa [Addr.add_add] at this
            obtain ⟨es, hes, hq⟩ := choose_list key
            have hwrap : ∀ x ∈ es, (wrapA P e x).cells.length = P.cellsOf e ∧ (wrapA P e x).cells = x ∧ (wrapA P e x).ok = true := by
              intro x hx
              obtain ⟨i, hi, rfl⟩ := List.mem_iff_getElem.1 hx
              obtain ⟨h1, h2, _⟩ := hq i hi
              obtain ⟨k1, k2, k3⟩ := shape_one P N n e es[i] hp.2 h1
              refine ⟨by rw [k2]; exact k1, k2, ?_⟩
              unfold wrapA
              split
              · show List.all es[i] AV.one = true
                rw [List.all_eq_true]; exact h2
              · rename_i hag
                obtain ⟨b, hb⟩ := k3 (by simpa using hag)
                rw [hb]
                have h4 : b.one = true := h2 b (by rw [hb]; simp)
                show b.ok = true
                cases b <;> first | exact h4 | cases h4
            have hm : ∀ x ∈ es.map (wrapA P e), x.cells.length = P.cellsOf e := by
              intro x hx
              obtain ⟨y, hy, rfl⟩ := List.mem_map.1 hx
              exact (hwrap y hy).1
            have hcell : ∀ i j, i < len → j < P.cellsOf e → ∃ v, w.cell? (a.add (i * P.cellsOf e + j)) = some v ∧ ∀ b, (flat (es.map (wrapA P e)))[i * P.cellsOf e + j]? = some b → Rd w (imm0 w) b v := by
              intro i j hi hj
              obtain ⟨h1, h2, vals, h3, h4, h5⟩ := hq i (by omega)
              refine ⟨vals[j], by rw [h5 j hj, List.getElem?_eq_getElem (by omega)], fun b hb => ?_⟩
              rw [flat_get hm i j hj (by rw [List.length_map]; omega), List.getD_eq_getElem?_getD, List.getElem?_map, List.getElem?_eq_getElem (by omega : i < es.length), Option.map_some, Option.getD_some, (hwrap _ (List.getElem_mem _)).2.1] at hb
              exact h3.2 j b _ hb (List.getElem?_eq_getElem (by omega))
            have hdm : ∀ j, j < len * P.cellsOf e → j / P.cellsOf e < len ∧ j % P.cellsOf e < P.cellsOf e ∧ j / P.cellsOf e * P.cellsOf e + j % P.cellsOf e = j := by
              intro j hj
              have h0 : 0 < P.cellsOf e := by
                rcases Nat.eq_zero_or_pos (P.cellsOf e) with h | h
                · rw [h] at hj; omega
                · exact h
              refine ⟨Nat.div_lt_of_lt_mul (by rw [Nat.mul_comm]; exact hj), Nat.mod_lt _ h0, ?_⟩
              rw [Nat.mul_comm]; exact Nat.div_add_mod _ _
            have hlen : (es.map (wrapA P e)).length = len := by rw [List.length_map, hes]
            refine ⟨_, ⟨es, rfl, by omega, fun x hx => ?_⟩, ?_, Cs.one ?_⟩
            · obtain ⟨i, hi, rfl⟩ := List.mem_iff_getElem.1 hx
              exact (hq i hi).1
            · intro x hx; simp at hx; subst hx; rfl
            · have := Rd.sl (w := w) (imm := imm0 w) (P.cellsOf e) (es.map (wrapA P e)) (some a) cap (fun j => (w.cell? (a.add j)).getD undef) hm (fun x hx => by
                  obtain ⟨y, hy, rfl⟩ := List.mem_map.1 hx
                  exact (hwrap y hy).2.2) (by rw [hlen]; exact hc.2.1) (by simp) (fun j hj => by
                  rw [hlen] at hj
                  obtain ⟨k1, k2, k3⟩ := hdm j hj
                  obtain ⟨v, hv, _⟩ := hcell _ _ k1 k2
                  rw [k3] at hv
                  exact ⟨a, rfl, imm0_cell hv, by rw [hv]; rfl⟩) (fun j b hb => by
                  have hj : j < len * P.cellsOf e := by
                    have := lt_of_get hb
                    rwa [flat_length hm, hlen] at this
                  obtain ⟨k1, k2, k3⟩ := hdm j hj
                  obtain ⟨v, hv, hr⟩ := hcell _ _ k1 k2
                  rw [k3] at hv hr
                  rw [hv]
                  exact hr b hb)
              rwa [hlen] at this
          · cases ht
      | struct fs =>
        simp only [Bool.and_eq_true] at hp ⊢
        simp only at ht
        split at ht
        · rename_i hlen
          obtain ⟨xs, hx, hxd⟩ := Option.map_eq_some_iff.1 ht
          obtain ⟨aS, h1, h2, h3⟩ := fields_shape (N := N) (fun t cs d ps a b c => trod_shape n fuel t cs d ps a b c) hlen fs.toList 0 xs hp.1 (Nat.zero_le _) hp.2 hx (fun x hx => by
            rcases hN with h | h
            · exact .inl h
            · have hd : DataW.agg (xs.map (·.1)) = d := congrArg Prod.fst hxd
              subst hd
              unfold bulk at h
              have := bulk_mem (List.mem_map_of_mem (f := (·.1)) hx)
              exact .inr (by omega))
          rw [List.drop_zero] at h2
          refine ⟨aS, ⟨by rw [h2.1, hlen], fun f hf => ?_⟩, h1, h2⟩
          have := (h3 f hf).2
          rwa [Nat.sub_zero] at this
        · cases ht
      | _ => cases hp

/-- A value that came in. -/
def ShapeV (P : Program) (N n : Nat) (t : TypeId) (a : AV) : Prop := ∃ aS, a = wrapA P t aS ∧ Shape P N n t aS
inductive ShapeL (P : Program) (N n : Nat) : List TypeId → List AV → Prop
  | nil : ShapeL P N n [] []
  | cons {t : TypeId} {a : AV} {ts : List TypeId} {aS : List AV} (h : ShapeV P N n t a) (r : ShapeL P N n ts aS) : ShapeL P N n (t :: ts) (a :: aS)

theorem trod_shapeV {N n : Nat} {t : TypeId} {v : Value} {d : DataW H} {ps : List MemPlace} (hp : plainTy P n t = true) (hN : Within N d) (h : DataW.Trod enc P w 0 spare held t v d ps) {base : Nat} (hok : Value.okWide P w .any base t v) : ∃ a, ShapeV P N n t a ∧ Rd w (imm0 w) a v := by
  obtain ⟨fuel, hf⟩ := h
  obtain ⟨aS, h1, h2, h3⟩ := trod_shape n fuel t _ d ps hp hN hf
  refine ⟨wrapA P t aS, ⟨aS, rfl, h1⟩, ?_⟩
  cases hag : aggTy P t with
  | true =>
    unfold wrapA
    rw [hag, if_pos rfl]
    obtain ⟨cs, rfl⟩ : ∃ cs, v = .agg cs := by
      unfold aggTy at hag
      split at hag
      · rename_i fs hu
        simp only [Value.okWide, hu] at hok
        obtain ⟨cs, rfl, _⟩ := hok
        exact ⟨cs, rfl⟩
      · cases hag
    refine .agg aS cs ?_ fun j a x k1 k2 => h3.2 j a x k1 ?_
    · have := h3.1; simpa [Value.cells] using this
    · simpa [Value.cells] using k2
  | false =>
    obtain ⟨a, rfl⟩ := (shape_one P N n t aS hp h1).2.2 hag
    unfold wrapA
    rw [hag, if_neg (by simp)]
    have hl := h3.1
    have hva : v.cells.toList = [v] := by
      cases v with
      | agg cs =>
        exfalso
        cases n with
        | zero => simp [plainTy] at hp
        | succ n =>
          unfold plainTy at hp
          unfold aggTy at hag
          simp only [Value.okWide, Cell.okWide, Cell.ok] at hok
          split at hp <;> simp_all
      | _ => rfl
    exact h3.2 0 a v rfl (by rw [hva]; rfl)
theorem trodAll_shape {N n base : Nat} : ∀ {ts : List TypeId} {vs : List Value} {ds : List (DataW H)} {ps : List MemPlace}, (ts.all fun t => plainTy P n t) = true → (maxLen ≤ N ∨ bulkAll ds ≤ N) → DataW.TrodAll enc P w 0 spare held ts vs ds ps →
    (∀ (j : Nat) t v, ts[j]? = some t → vs[j]? = some v → Value.okWide P w .any base t v) → ∃ aS, ShapeL P N n ts aS ∧ Rds w aS vs
  | [], [], [], ps, _, _, _, _ => ⟨[], .nil, .nil⟩
  | t :: ts, v :: vs, d :: ds, ps, hp, hN, h, hok => by
    simp only [List.all_cons, Bool.and_eq_true] at hp
    have hN1 : Within N d := by
      rcases hN with h | h
      · exact .inl h
      · unfold bulkAll at h; exact .inr (by omega)
    have hN2 : maxLen ≤ N ∨ bulkAll ds ≤ N := by
      rcases hN with h | h
      · exact .inl h
      · unfold bulkAll at h; exact .inr (by omega)
    obtain ⟨p, q, h1, h2, _⟩ := h
    obtain ⟨a, k1, k2⟩ := trod_shapeV hp.1 hN1 h1 (hok 0 t v rfl rfl)
    obtain ⟨aS, k3, k4⟩ := trodAll_shape hp.2 hN2 h2 fun j t v e1 e2 => hok (j + 1) t v (by simpa using e1) (by simpa using e2)
    exact ⟨a :: aS, .cons k1 k3, .cons k2 k4⟩
  | [], [], _ :: _, _, _, _, h, _ => h.elim
  | [], _ :: _, _, _, _, _, h, _ => h.elim
  | _ :: _, [], _, _, _, _, h, _ => h.elim
  | _ :: _, _ :: _, [], _, _, _, h, _ => h.elim
theorem trodAll_below (hl : laidOutB P = true) {W' : World} : ∀ {ts : List TypeId} {vs : List Value} {ds : List (DataW H)} {ps : List MemPlace}, (ts.all fun t => P.readableRec t && decide (t < P.types.size)) = true →
    DataW.TrodAll enc P w 0 (fun _ => true) true ts vs ds ps → Below w.heap.size w W' → DataW.TrodAll enc P W' 0 (fun b => decide (b < w.heap.size)) true ts vs ds ps
  | [], [], [], ps, _, h, _ => h
  | t :: ts, v :: vs, d :: ds, ps, hp, h, hb => by
    simp only [List.all_cons, Bool.and_eq_true, decide_eq_true_eq] at hp
    obtain ⟨p, q, h1, h2, h3⟩ := h
    have lt0 : ∀ x ∈ p, x.block < w.heap.size := by obtain ⟨m, hm⟩ := h1; exact DataW.trod_lt m _ _ _ hm
    exact ⟨p, q, Below.trod hl hp.1.1 hp.1.2 h1 hb lt0, trodAll_below hl hp.2 h2 hb, h3⟩
  | [], [], _ :: _, _, _, h, _ => h.elim
  | [], _ :: _, _, _, _, h, _ => h.elim
  | _ :: _, [], _, _, _, h, _ => h.elim
  | _ :: _, _ :: _, [], _, _, h, _ => h.elim
end
/-! ### a shape taken apart -/
section
variable {P : Program} {N n : Nat} {t e : TypeId} {aS : List AV} {k : IntKind} {fs : Array Field}
theorem shape_bool (hu : P.underlying t = some .bool) (h : Shape P N n t aS) : ∃ b, aS = [.v (.bool b)] := by
  cases n with
  | zero => exact h.elim
  | succ n => unfold Shape at h; rw [hu] at h; exact h
theorem shape_int (hu : P.underlying t = some (.int k)) (h : Shape P N n t aS) : ∃ i, aS = [.v (.int k i)] ∧ (Lit.int k i).wf = true := by
  cases n with
  | zero => exact h.elim
  | succ n => unfold Shape at h; rw [hu] at h; exact h
theorem shape_string (hu : P.underlying t = some .string) (h : Shape P N n t aS) : ∃ s : ByteArray, aS = [.v (.string s)] ∧ s.size ≤ N := by
  cases n with
  | zero => exact h.elim
  | succ n => unfold Shape at h; rw [hu] at h; exact h
theorem shape_slice (hu : P.underlying t = some (.slice e)) (h : Shape P N n t aS) : ∃ (m : Nat) (es : List (List AV)), n = m + 1 ∧ aS = [.sl (P.cellsOf e) (es.map (wrapA P e))] ∧ es.length ≤ N ∧ ∀ x ∈ es, Shape P N m e x := by
  cases n with
  | zero => exact h.elim
  | succ n => unfold Shape at h; rw [hu] at h; obtain ⟨es, h1, h2, h3⟩ := h; exact ⟨n, es, rfl, h1, h2, h3⟩
inductive ShapeF (P : Program) (N m : Nat) : List Field → List AV → Prop
  | nil : ShapeF P N m [] []
  | cons {f : Field} {fs : List Field} {x y : List AV} (h : Shape P N m f.type x) (r : ShapeF P N m fs y) : ShapeF P N m (f :: fs) (x ++ y)
theorem ShapeF.inv {m : Nat} {f : Field} {fs : List Field} {aS : List AV} (h : ShapeF P N m (f :: fs) aS) : ∃ x y, aS = x ++ y ∧ Shape P N m f.type x ∧ ShapeF P N m fs y := by
  cases h with
  | cons h r => exact ⟨_, _, rfl, h, r⟩
theorem ShapeF.inv0 {m : Nat} {aS : List AV} (h : ShapeF P N m [] aS) : aS = [] := by cases h; rfl
theorem shapeF_of {m total : Nat} : ∀ {fs : List Field} {off : Nat} {aS : List AV}, contig P total off fs = true → off ≤ total → aS.length = total → (∀ f ∈ fs, Shape P N m f.type ((aS.drop f.offset).take (P.cellsOf f.type))) → ShapeF P N m fs (aS.drop off)
  | [], off, aS, hc, _, hl, _ => by
    unfold contig at hc
    have : off = total := by simpa using hc
    rw [List.drop_eq_nil_of_le (by omega)]
    exact .nil
  | f :: fs, off, aS, hc, ho, hl, hf => by
    unfold contig at hc
    simp only [Bool.and_eq_true, beq_iff_eq] at hc
    have h1 := hf f List.mem_cons_self
    rw [hc.1] at h1
    rw [← List.take_append_drop (P.cellsOf f.type) (aS.drop off), List.drop_drop]
    refine .cons h1 ?_
    by_cases hle : off + P.cellsOf f.type ≤ total
    · exact shapeF_of hc.2 hle hl fun g hg => hf g (List.mem_cons_of_mem _ hg)
    · exfalso
      have key : ∀ (fs : List Field) (off : Nat), contig P total off fs = true → off ≤ total := by
        intro fs
        induction fs with
        | nil => intro off h; unfold contig at h; have : off = total := by simpa using h
                 omega
        | cons g gs ih => intro off h; unfold contig at h; simp only [Bool.and_eq_true, beq_iff_eq] at h; have := ih _ h.2; omega
      exact hle (key fs _ hc.2)
theorem shape_struct (hu : P.underlying t = some (.struct fs)) (hc : contig P (P.cellsOf t) 0 fs.toList = true) (h : Shape P N n t aS) : ∃ m, n = m + 1 ∧ ShapeF P N m fs.toList aS := by
  cases n with
  | zero => exact h.elim
  | succ n =>
    unfold Shape at h
    rw [hu] at h
    refine ⟨n, rfl, ?_⟩
    have := shapeF_of (N := N) (m := n) hc (Nat.zero_le _) h.1 h.2
    rwa [List.drop_zero] at this
theorem map_of {α β : Type} {g : β → α} {Q : β → Prop} : ∀ {l : List α}, (∀ x ∈ l, ∃ b, x = g b ∧ Q b) → ∃ bs : List β, l = bs.map g ∧ ∀ b ∈ bs, Q b
  | [], _ => ⟨[], rfl, by simp⟩
  | x :: l, h => by
    obtain ⟨b, hb, hq⟩ := h x List.mem_cons_self
    obtain ⟨bs, hbs, hqs⟩ := map_of (l := l) fun y hy => h y (List.mem_cons_of_mem _ hy)
    refine ⟨b :: bs, by rw [hb, hbs]; rfl, fun c hc => ?_⟩
    rcases List.mem_cons.1 hc with rfl | hc
    · exact hq
    · exact hqs c hc
theorem wrapA_agg (hu : P.underlying t = some (.struct fs)) (aS : List AV) : wrapA P t aS = .agg aS := by simp [wrapA, aggTy, hu]
theorem wrapA_one (h : aggTy P t = false) (a : AV) : wrapA P t [a] = a := by simp [wrapA, h]
/-- The slice of a type whose elements are known. -/
theorem shape_sliceOf {β : Type} {g : β → List AV} {Q : β → Prop} (hu : P.underlying t = some (.slice e)) (h : Shape P N n t aS) (hx : ∀ m x, Shape P N m e x → ∃ b, x = g b ∧ Q b) :
    ∃ bs : List β, aS = [.sl (P.cellsOf e) (bs.map fun b => wrapA P e (g b))] ∧ bs.length ≤ N ∧ ∀ b ∈ bs, Q b := by
  obtain ⟨m, es, rfl, rfl, hl, hs⟩ := shape_slice hu h
  obtain ⟨bs, rfl, hq⟩ := map_of fun x hx' => hx m x (hs x hx')
  refine ⟨bs, by rw [List.map_map]; rfl, by simpa using hl, hq⟩
theorem ShapeL.inv {N n : Nat} {t : TypeId} {ts : List TypeId} {aS : List AV} (h : ShapeL P N n (t :: ts) aS) : ∃ x bs, aS = wrapA P t x :: bs ∧ Shape P N n t x ∧ ShapeL P N n ts bs := by
  cases h with
  | cons h r => obtain ⟨x, rfl, hx⟩ := h; exact ⟨x, _, rfl, hx, r⟩
theorem ShapeL.inv0 {N n : Nat} {aS : List AV} (h : ShapeL P N n [] aS) : aS = [] := by cases h; rfl
theorem wf_u16 {i : Int} (h : (Lit.int .u16 i).wf = true) : 0 ≤ i ∧ i < 65536 := by
  have h : (decide ((0 : Int) ≤ i) && decide (i ≤ 65535)) = true := h
  simp only [Bool.and_eq_true, decide_eq_true_eq] at h
  omega
end
end Go.Pg
end

section
namespace Go.Proofs.YtbgmnobnaplmlaaGreat
open Go Go.RowKit Go.Pg
set_option linter.unusedSimpArgs false
set_option linter.unusedVariables false
set_option maxRecDepth 20000
attribute [-bool_to_prop] Bool.and_eq_decide Bool.or_eq_decide Bool.decide_beq_decide decide_eq_decide
section
variable {N n : Nat} {cs : List AV}
theorem agN16 : aggTy Tryz.prog 178 = false := by kernel_rfl
theorem cs16 : Tryz.prog.cellsOf 178 = 1 := by kernel_rfl
theorem shNat (h : Shape Tryz.prog N n 39 cs) : ∃ l : List Nat, cs = [lim l] ∧ Lm l ∧ l.length ≤ N := by
  obtain ⟨bs, rfl, hl, hq⟩ := shape_sliceOf (g := fun k : Nat => [AV.v (.int .u16 (k : Int))]) (Q := fun k => k < 65536) Tryz.underlying39 h fun m x hx => by
    obtain ⟨i, rfl, hw⟩ := shape_int Tryz.underlying178 hx
    have := wf_u16 hw
    exact ⟨i.toNat, by rw [Int.toNat_of_nonneg this.1], by omega⟩
  refine ⟨bs, ?_, hq, hl⟩
  rw [cs16]
  have : (bs.map fun b : Nat => wrapA Tryz.prog 178 [AV.v (.int .u16 (b : Int))]) = u16s bs := List.map_congr_left fun b _ => wrapA_one agN16 _
  rw [this]
theorem shInt (h : Shape Tryz.prog N n 41 cs) : ∃ (s : Bool) (l : List Nat), cs = [.v (.bool s), lim l] ∧ Lm l ∧ l.length ≤ N := by
  obtain ⟨m, rfl, hs⟩ := shape_struct Tryz.underlying41 (by kernel_rfl) h
  obtain ⟨x, y, rfl, h1, hs⟩ := hs.inv
  obtain ⟨z, y, rfl, h2, hs⟩ := hs.inv
  obtain rfl := hs.inv0
  obtain ⟨s, rfl⟩ := shape_bool Tryz.underlying4 h1
  obtain ⟨l, rfl, h3, h4⟩ := shNat h2
  exact ⟨s, l, rfl, h3, h4⟩
theorem shRat (h : Shape Tryz.prog N n 43 cs) : ∃ r : RQ, cs = [.v (.bool r.s), lim r.l, lim r.d] ∧ r.lm N := by
  obtain ⟨m, rfl, hs⟩ := shape_struct Tryz.underlying43 (by kernel_rfl) h
  obtain ⟨x, y, rfl, h1, hs⟩ := hs.inv
  obtain ⟨z, y, rfl, h2, hs⟩ := hs.inv
  obtain rfl := hs.inv0
  obtain ⟨s, l, rfl, h3, h4⟩ := shInt h1
  obtain ⟨d, rfl, h5, h6⟩ := shNat h2
  exact ⟨⟨s, l, d⟩, rfl, h3, h5, h4, h6⟩
/-- A point as it comes in. -/
structure RP where
  x : RQ
  y : RQ
abbrev RP.av (p : RP) : AV := .agg [.v (.bool p.x.s), lim p.x.l, lim p.x.d, .v (.bool p.y.s), lim p.y.l, lim p.y.d]
def RP.lm (p : RP) (k : Nat) : Prop := p.x.lm k ∧ p.y.lm k
end
end Go.Proofs.YtbgmnobnaplmlaaGreat
end

section
namespace Go.Proofs.YtbgmnobnaplmlaaGreat
open Go Go.RowKit Go.Pg Go.Pol
set_option linter.unusedSimpArgs false
set_option linter.unusedVariables false
set_option maxRecDepth 20000
attribute [-bool_to_prop] Bool.and_eq_decide Bool.or_eq_decide Bool.decide_beq_decide decide_eq_decide
/-! ### polynomials as they are kept -/
abbrev Tm := Rat × List Int
abbrev Po := List Tm
abbrev tmA (t : Tm) : AV := .agg [.v (.bool (decide (t.1.num < 0))), lim (toL t.1.num.natAbs), lim (toL t.1.den), ivs t.2]
abbrev poA (p : Po) : AV := .sl 4 (p.map tmA)
abbrev SrtM (p : Po) : Prop := Srt Can ltM p
abbrev addM (p q : Po) : Po := addP ltM p q
abbrev subM (p q : Po) : Po := subP ltM p q
abbrev mlM (p q : Po) : Po := mulR ltM mulM p q
def sclM (a : Rat) (p : Po) : Po := if a = 0 then [] else scaleP a p
/-- Coefficients of at most k limbs, monomials with exponents of at most e. -/
def PK (p : Po) (k e : Nat) : Prop := ∀ t ∈ p, Sz t.1 k ∧ t.2.length ≤ 1000 ∧ ∀ j, 0 ≤ gI t.2 j ∧ gI t.2 j ≤ (e : Int)
theorem PK.mono {p : Po} {k j e f : Nat} (h : PK p k e) (hk : k ≤ j) (he : e ≤ f) : PK p j f := fun t ht => ⟨(h t ht).1.mono hk, (h t ht).2.1, fun i => by have := (h t ht).2.2 i; omega⟩
theorem PK.sm {p : Po} {k e : Nat} (h : PK p k e) (he : e ≤ 16777216) {t : Tm} (ht : t ∈ p) : Sm t.2 := ⟨(h t ht).2.1, fun i => by have := (h t ht).2.2 i; omega⟩
theorem PK.nil {k e : Nat} : PK [] k e := fun t ht => by simp at ht
theorem PK.tail {t : Tm} {p : Po} {k e : Nat} (h : PK (t :: p) k e) : PK p k e := fun u hu => h u (.tail _ hu)
theorem PK.drop {p : Po} {k e : Nat} (h : PK p k e) (i : Nat) : PK (p.drop i) k e := fun u hu => h u (List.mem_of_mem_drop hu)
theorem PK.add {p q : Po} {j k e : Nat} (hp : PK p j e) (hq : PK q k e) : PK (addM p q) (j + k + 1) e := fun t ht => by
  rcases mem_addP' ht with h | h | ⟨s, hs, u, hu, rfl⟩
  · exact ⟨(hp t h).1.mono (by omega), (hp t h).2⟩
  · exact ⟨(hq t h).1.mono (by omega), (hq t h).2⟩
  · exact ⟨(hp s hs).1.add (hq u hu).1, (hp s hs).2⟩
theorem PK.scale {p : Po} {j k e : Nat} {a : Rat} (hp : PK p j e) (ha : Sz a k) : PK (scaleP a p) (j + k) e := fun t ht => by
  obtain ⟨s, hs, rfl⟩ := List.mem_map.1 ht
  exact ⟨(hp s hs).1.mul ha, (hp s hs).2⟩
theorem PK.times {p : Po} {t : Tm} {j k e f : Nat} (hp : PK p j e) (ht : PK [t] k f) : PK (timesP mulM p t) (j + k) (e + f) := fun u hu => by
  obtain ⟨s, hs, rfl⟩ := List.mem_map.1 hu
  have h1 := hp s hs
  have h2 := ht t (.head _)
  refine ⟨h1.1.mul h2.1, by rw [mulM_len]; have := h1.2.1; have := h2.2.1; omega, fun i => ?_⟩
  show 0 ≤ gI (mulM s.2 t.2) i ∧ gI (mulM s.2 t.2) i ≤ _
  rw [gI_zip _ rfl]
  have := h1.2.2 i
  have := h2.2.2 i
  omega
theorem lexM_cases {a b : List Int} (ha : Can a) (hb : Can b) : (ltM a b ∧ lexC a b (max a.length b.length) = -1) ∨ (¬ ltM a b ∧ ¬ ltM b a ∧ a = b ∧ lexC a b (max a.length b.length) = 0) ∨ (ltM b a ∧ ¬ ltM a b ∧ lexC a b (max a.length b.length) = 1) := by
  rcases @lexC_three a b (max a.length b.length) with ⟨h, h2⟩ | h | h
  · have e : a = b := can_ext ha hb fun j => by
      by_cases hj : j < max a.length b.length
      · exact h2 j hj
      · rw [gI_out (by omega), gI_out (by omega)]
    refine .inr (.inl ⟨?_, ?_, e, h⟩)
    · unfold ltM; rw [h]; decide
    · subst e; unfold ltM; rw [h]; decide
  · exact .inl ⟨h, h⟩
  · have h3 : ltM b a := by unfold ltM; rw [Nat.max_comm, lexC_neg, h]
    refine .inr (.inr ⟨h3, ?_, h⟩)
    unfold ltM; rw [h]; decide
theorem trim_can {l : List Int} (h : Can l) : trimI l = l := by
  unfold trimI
  rcases h.2 with h0 | h0
  · have : l = [] := List.length_eq_zero_iff.1 h0
    subst this; rfl
  · rcases Nat.eq_zero_or_pos l.length with h1 | h1
    · have : l = [] := List.length_eq_zero_iff.1 h1
      subst this; rfl
    · rw [trimN_stop h1 h0, List.take_length]
theorem can_nil : Can [] := ⟨fun j => by rw [gI_out (Nat.zero_le _)]; omega, .inl rfl⟩
theorem mulM_nil (a : List Int) : mulM a [] = a := by
  refine List.ext_getElem (by rw [mulM_len]; simp) fun j h1 h2 => ?_
  have := gI_zip (· + ·) rfl a [] j
  rw [gI_at h1, gI_at h2, gI_out (Nat.zero_le _), Int.add_zero] at this
  exact this
theorem times_unit (p : Po) (a : Rat) : timesP mulM p (a, []) = scaleP a p := by
  unfold timesP scaleP
  exact List.map_congr_left fun s _ => by rw [mulM_nil]
/-! ### variables -/
def unitM (v : Nat) : List Int := List.replicate v 0 ++ [1]
theorem unitM_len (v : Nat) : (unitM v).length = v + 1 := by simp [unitM]
theorem gI_unit (v j : Nat) : gI (unitM v) j = if j = v then 1 else 0 := by
  by_cases h : j < v + 1
  · rw [gI_at (by rw [unitM_len]; exact h)]
    unfold unitM
    rw [List.getElem_append]
    by_cases hj : j < v
    · rw [dif_pos (by simpa using hj), List.getElem_replicate, if_neg (by omega)]
    · rw [dif_neg (by simpa using hj), if_pos (by omega)]; simp
  · rw [gI_out (by rw [unitM_len]; omega), if_neg (by omega)]
theorem can_unit (v : Nat) : Can (unitM v) := by
  refine ⟨fun j => by rw [gI_unit]; split <;> omega, .inr ?_⟩
  rw [unitM_len, gI_unit, if_pos (by omega)]; omega
def varM (v : Nat) : Po := if v < 64 then [(1, unitM v)] else []
theorem varM_srt (v : Nat) : SrtM (varM v) := by
  unfold varM
  split
  · exact Srt.nil.cons (by show (1 : Rat) ≠ 0; decide) (can_unit v) (by simp)
  · exact .nil
theorem varM_pk (v : Nat) : PK (varM v) 1 1 := by
  unfold varM
  split
  · intro t ht
    rw [List.mem_singleton] at ht
    subst ht
    refine ⟨nat_sz1 1 (by omega), by show (unitM v).length ≤ 1000; rw [unitM_len]; omega, fun j => ?_⟩
    show 0 ≤ gI (unitM v) j ∧ gI (unitM v) j ≤ _
    rw [gI_unit]; split <;> omega
  · exact .nil
end Go.Proofs.YtbgmnobnaplmlaaGreat
end

section
namespace Go.Proofs.YtbgmnobnaplmlaaGreat
open Go Go.RowKit Go.Pg Go.Pol
set_option linter.unusedSimpArgs false
set_option linter.unusedVariables false
set_option maxRecDepth 20000
attribute [-bool_to_prop] Bool.and_eq_decide Bool.or_eq_decide Bool.decide_beq_decide decide_eq_decide
/-! ### figures as they come in -/
structure RS where
  k : Int
  nm : ByteArray
  ar : List Int
  r : RQ
structure RG where
  k : Int
  ar : List Int
  r : RQ
abbrev RS.av (s : RS) : AV := .agg [iv s.k, strA s.nm, ivs s.ar, .v (.bool s.r.s), lim s.r.l, lim s.r.d]
abbrev RG.av (g : RG) : AV := .agg [iv g.k, ivs g.ar, .v (.bool g.r.s), lim g.r.l, lim g.r.d]
abbrev figA (ss : List RS) (gs : List RG) : AV := .agg [.sl 6 (ss.map RS.av), .sl 5 (gs.map RG.av)]
def RQ.none (r : RQ) : Bool := !r.s && (decide (r.l.length = 0) && decide (r.d.length = 0))
/-! ### frames that grow -/
structure FS where
  cs : List (Po × Po)
  vs : List Vt
  fr : Nat
abbrev coA (c : Po × Po) : AV := .agg [poA c.1, poA c.2]
def FS.at (f : FS) (s : RS) (k : Nat) : Po × Po := f.cs.getD (gI s.ar k).toNat ([], [])
/-- The new variables of a step, and the coordinates of its point. -/
def FS.nxt (f : FS) (i : Nat) (s : RS) : List Vt × (Po × Po) :=
  let v := f.vs.length
  let a := f.at s 0
  let b := f.at s 1
  let c := f.at s 2
  if s.k = 1 then
    (if f.fr = 0 then ([], ([], []))
     else if f.fr = 1 then ([(1, (i : Int), 0)], (varM v, []))
     else ([(1, (i : Int), 0), (1, (i : Int), 1)], (varM v, varM (v + 1))))
  else if s.k = 2 then ([], (addM a.1 (sclM s.r.q (subM b.1 a.1)), addM a.2 (sclM s.r.q (subM b.2 a.2))))
  else if s.k = 3 then ([], (addM a.1 (subM c.1 b.1), addM a.2 (subM c.2 b.2)))
  else if s.k = 4 then ([], (addM a.1 (subM b.2 c.2), addM a.2 (subM c.1 b.1)))
  else if s.k = 5 then ([(1, (i : Int), 0)], (addM a.1 (mlM (subM b.1 a.1) (varM v)), addM a.2 (mlM (subM b.2 a.2) (varM v))))
  else if s.k = 6 then ([(1, (i : Int), 0), (2, (i : Int), 1), (2, (i : Int), 2)], (varM (v + 1), varM (v + 2)))
  else ([(2, (i : Int), 0), (2, (i : Int), 1)], (varM v, varM (v + 1)))
def FS.push (f : FS) (i : Nat) (s : RS) : FS := ⟨f.cs ++ [(f.nxt i s).2], f.vs ++ (f.nxt i s).1, if s.k = 1 then f.fr + 1 else f.fr⟩
def frN (ss : List RS) : Nat → FS
  | 0 => ⟨[], [], 0⟩
  | i + 1 => (frN ss i).push i (ss.getD i ⟨0, .empty, [], ⟨false, [], []⟩⟩)
/-- The i-th step makes too much. -/
def bigN (ss : List RS) (i : Nat) : Bool :=
  decide (64 < (frN ss (i + 1)).vs.length) || decide (4000 < ((frN ss i).nxt i (ss.getD i ⟨0, .empty, [], ⟨false, [], []⟩⟩)).2.1.length) || decide (4000 < ((frN ss i).nxt i (ss.getD i ⟨0, .empty, [], ⟨false, [], []⟩⟩)).2.2.length)
theorem frN_len (ss : List RS) : ∀ i, (frN ss i).cs.length = i
  | 0 => rfl
  | i + 1 => by show ((frN ss i).cs ++ [_]).length = i + 1; rw [List.length_append, frN_len ss i]; rfl
/-! ### what frames are made of -/
def BB (n : Nat) : Nat := 65536 ^ (3 * n)
theorem BB_pos (n : Nat) : 1 ≤ BB n := Nat.one_le_pow _ _ (by omega)
theorem BB_succ (n : Nat) : BB (n + 1) = BB n * 65536 ^ 3 := by unfold BB; rw [← Nat.pow_add]; rfl
/-- Good polynomials: denominators that divide D, numbers of a bounded size, at most v variables, to the first power. -/
def GP (n D v : Nat) (p : Po) : Prop := SrtM p ∧ ∀ t ∈ p, BQ D (BB n) t.1 ∧ t.2.length ≤ v ∧ ∀ j, gI t.2 j ≤ 1
theorem GP.nil {n D v : Nat} : GP n D v [] := ⟨.nil, fun t h => by simp at h⟩
theorem GP.mono {n D v m E w : Nat} {p : Po} (h : GP n D v p) (hn : n ≤ m) (hd : D ∣ E) (hv : v ≤ w) : GP m E w p :=
  ⟨h.1, fun t ht => ⟨(h.2 t ht).1.mono hd (Nat.pow_le_pow_right (by omega) (by omega)), by have := (h.2 t ht).2.1; omega, (h.2 t ht).2.2⟩⟩
theorem bq_sz {D B d b : Nat} {q : Rat} (h : BQ D B q) (h0 : D ≠ 0) (hd : D < 65536 ^ d) (hb : B < 65536 ^ b) : Sz q (d + b) := by
  have h1 : q.den ≤ D := Nat.le_of_dvd (Nat.pos_of_ne_zero h0) h.1
  refine ⟨toL_len_lt.2 ?_, Nat.le_trans (toL_len_lt.2 (Nat.lt_of_le_of_lt h1 hd)) (by omega)⟩
  have hp : 0 < q.den := q.den_pos
  calc q.num.natAbs ≤ B * q.den := h.2
    _ ≤ B * D := Nat.mul_le_mul_left _ h1
    _ < 65536 ^ b * 65536 ^ d := Nat.mul_lt_mul_of_lt_of_lt hb hd
    _ = 65536 ^ (d + b) := by rw [Nat.mul_comm, ← Nat.pow_add]
theorem GP.pk {n D v : Nat} {p : Po} (h : GP n D v p) (hv : v ≤ 1000) (h0 : D ≠ 0) (hd : D < 65536 ^ (2 * n + 1)) (hn : n ≤ 20) : PK p 110 1 := fun t ht => by
  obtain ⟨h1, h2, h3⟩ := h.2 t ht
  refine ⟨(bq_sz (b := 3 * n + 1) h1 h0 hd (by unfold BB; exact Nat.pow_lt_pow_right (by omega) (by omega))).mono (by omega), by omega, fun j => ⟨(h.1.1 t ht).2.1 j, h3 j⟩⟩
/-- The same with another bound of the numbers. -/
def GB (B D v : Nat) (p : Po) : Prop := SrtM p ∧ ∀ t ∈ p, BQ D B t.1 ∧ t.2.length ≤ v ∧ ∀ j, gI t.2 j ≤ 1
theorem GB.mono {B D v C E w : Nat} {p : Po} (h : GB B D v p) (hn : B ≤ C) (hd : D ∣ E) (hv : v ≤ w) : GB C E w p :=
  ⟨h.1, fun t ht => ⟨(h.2 t ht).1.mono hd hn, by have := (h.2 t ht).2.1; omega, (h.2 t ht).2.2⟩⟩
theorem GB.add {B C D v : Nat} {p q : Po} (h : GB B D v p) (k : GB C D v q) : GB (B + C) D v (addM p q) := by
  refine ⟨addP_srt ordM h.1 k.1, fun t ht => ?_⟩
  rcases mem_addP' ht with h1 | h1 | ⟨s, hs, u, hu, rfl⟩
  · exact ⟨(h.2 t h1).1.mono (Nat.dvd_refl _) (by omega), (h.2 t h1).2⟩
  · exact ⟨(k.2 t h1).1.mono (Nat.dvd_refl _) (by omega), (k.2 t h1).2⟩
  · exact ⟨(h.2 s hs).1.add (k.2 u hu).1, (h.2 s hs).2⟩
theorem GB.neg {B D v : Nat} {p : Po} (h : GB B D v p) : GB B D v (scaleP (-1) p) := by
  refine ⟨scale_srt h.1 neg1, fun t ht => ?_⟩
  obtain ⟨s, hs, rfl⟩ := List.mem_map.1 ht
  refine ⟨?_, (h.2 s hs).2⟩
  have e : s.1 * -1 = -s.1 := by grind
  show BQ D B (s.1 * -1)
  rw [e]; exact (h.2 s hs).1.neg
theorem GB.sub {B C D v : Nat} {p q : Po} (h : GB B D v p) (k : GB C D v q) : GB (B + C) D v (subM p q) := h.add k.neg
theorem GB.scl {B C D E v : Nat} {p : Po} {a : Rat} (h : GB B D v p) (ha : BQ E C a) : GB (B * C) (D * E) v (sclM a p) := by
  unfold sclM
  split
  · exact ⟨.nil, fun t h => by simp at h⟩
  · rename_i h0
    refine ⟨scale_srt h.1 h0, fun t ht => ?_⟩
    obtain ⟨s, hs, rfl⟩ := List.mem_map.1 ht
    exact ⟨(h.2 s hs).1.mul ha, (h.2 s hs).2⟩
theorem mul_var (p : Po) (v : Nat) : mlM p (varM v) = if v < 64 then timesP mulM p (1, unitM v) else [] := by
  unfold varM
  split
  · show addP ltM [] (timesP mulM p (1, unitM v)) = _
    simp [addP]
  · rfl
theorem GB.var {B D v : Nat} {p : Po} (h : GB B D v p) : GB B D (v + 1) (mlM p (varM v)) := by
  refine ⟨mulR_srt ordM mulK h.1 (varM_srt v), fun t ht => ?_⟩
  rw [mul_var] at ht
  split at ht
  · obtain ⟨s, hs, rfl⟩ := List.mem_map.1 ht
    obtain ⟨h1, h2, h3⟩ := h.2 s hs
    refine ⟨by show BQ D B (s.1 * 1); rw [Rat.mul_one]; exact h1, by show (mulM s.2 (unitM v)).length ≤ v + 1; rw [mulM_len, unitM_len]; omega, fun j => ?_⟩
    show gI (mulM s.2 (unitM v)) j ≤ 1
    rw [gI_zip _ rfl, gI_unit]
    split
    · rename_i hj
      rw [gI_out (by omega)]; omega
    · have := h3 j; omega
  · simp at ht
theorem GB.one {B D v w : Nat} (hB : 1 ≤ B) (h : v < w) : GB B D w (varM v) := by
  refine ⟨varM_srt v, fun t ht => ?_⟩
  unfold varM at ht
  split at ht
  · rw [List.mem_singleton] at ht
    subst ht
    refine ⟨BQ.int 1 (by simpa using hB), by show (unitM v).length ≤ w; rw [unitM_len]; omega, fun j => ?_⟩
    show gI (unitM v) j ≤ 1
    rw [gI_unit]; split <;> omega
  · simp at ht
theorem GB.nil {B D v : Nat} : GB B D v [] := ⟨.nil, fun t h => by simp at h⟩
/-- A frame in good order: n steps that are not free so far. -/
structure FI (f : FS) (n D : Nat) : Prop where
  D0 : D ≠ 0
  Dl : D < 65536 ^ (2 * n + 1)
  nv : f.vs.length ≤ 64
  cs : ∀ c ∈ f.cs, GP n D f.vs.length c.1 ∧ GP n D f.vs.length c.2
  ln : ∀ c ∈ f.cs, c.1.length ≤ 4000 ∧ c.2.length ≤ 4000
theorem FI.at {f : FS} {n D : Nat} (h : FI f n D) (s : RS) (k : Nat) : (GP n D f.vs.length (f.at s k).1 ∧ GP n D f.vs.length (f.at s k).2) ∧ (f.at s k).1.length ≤ 4000 ∧ (f.at s k).2.length ≤ 4000 := by
  unfold FS.at
  by_cases hk : (gI s.ar k).toNat < f.cs.length
  · have := getD_mem (d := (([], []) : Po × Po)) hk
    exact ⟨h.cs _ this, h.ln _ this⟩
  · rw [List.getD_eq_getElem?_getD, List.getElem?_eq_none (by omega)]
    exact ⟨⟨.nil, .nil⟩, by simp, by simp⟩
/-- The ratio of a step is small. -/
def RQ.bd (r : RQ) : Prop := r.ok = true → r.q.den < 65536 ^ 2 ∧ r.q.num.natAbs < 65536 ^ 2
theorem lm_bd {r : RQ} (h : r.lm 2) : r.bd := fun ho => by
  obtain ⟨-, h1, h2⟩ := RQ.ok_av h ho
  exact ⟨toL_len_lt.1 h2, toL_len_lt.1 h1⟩
theorem FI.nxt {f : FS} {n D : Nat} (h : FI f n D) (i : Nat) (s : RS) (hr : s.k = 2 → s.r.ok = true) (hb : s.r.bd) :
    ∃ E, E ≠ 0 ∧ D ∣ E ∧ E < 65536 ^ (2 * (n + if s.k = 1 then 0 else 1) + 1) ∧
      GP (n + if s.k = 1 then 0 else 1) E (f.vs ++ (f.nxt i s).1).length (f.nxt i s).2.1 ∧ GP (n + if s.k = 1 then 0 else 1) E (f.vs ++ (f.nxt i s).1).length (f.nxt i s).2.2 := by
  obtain ⟨⟨a1, a2⟩, -⟩ := h.at s 0
  obtain ⟨⟨b1, b2⟩, -⟩ := h.at s 1
  obtain ⟨⟨c1, c2⟩, -⟩ := h.at s 2
  have hB := BB_pos n
  have hS := BB_succ n
  unfold FS.nxt
  simp only
  have one : ∀ v w, v < w → GP n D w (varM v) := fun v w hv => GB.one hB hv
  have up : ∀ {E v : Nat} {p : Po} {C : Nat}, GB C E v p → C ≤ BB n * 65536 ^ 3 → GP (n + 1) E v p := fun h hc => GB.mono h (by rw [hS]; exact hc) (Nat.dvd_refl _) (Nat.le_refl _)
  have dl : D < 65536 ^ (2 * (n + 1) + 1) := Nat.lt_of_lt_of_le h.Dl (Nat.pow_le_pow_right (by omega) (by omega))
  have b3 : BB n + (BB n + BB n) ≤ BB n * 65536 ^ 3 := by
    have : BB n * 3 ≤ BB n * 65536 ^ 3 := Nat.mul_le_mul_left _ (by decide)
    omega
  by_cases k1 : s.k = 1
  · rw [if_pos k1, if_pos k1]
    refine ⟨D, h.D0, Nat.dvd_refl _, h.Dl, ?_⟩
    split
    · exact ⟨.nil, .nil⟩
    · split
      · exact ⟨one _ _ (by simp), .nil⟩
      · exact ⟨one _ _ (by simp), one _ _ (by simp)⟩
  · rw [if_neg k1, if_neg k1]
    by_cases k2 : s.k = 2
    · rw [if_pos k2]
      obtain ⟨h1, h2⟩ := hb (hr k2)
      refine ⟨D * s.r.q.den, Nat.mul_ne_zero h.D0 s.r.q.den_nz, Nat.dvd_mul_right _ _, ?_, ?_⟩
      · calc D * s.r.q.den < 65536 ^ (2 * n + 1) * 65536 ^ 2 := Nat.mul_lt_mul_of_lt_of_lt h.Dl h1
          _ = 65536 ^ (2 * (n + 1) + 1) := by rw [← Nat.pow_add]; congr 1
      · have hq : BQ s.r.q.den (65536 ^ 2) s.r.q := ⟨Nat.dvd_refl _, by have := s.r.q.den_pos; have := Nat.le_mul_of_pos_right (65536 ^ 2) this; omega⟩
        have bd : BB n + (BB n + BB n) * 65536 ^ 2 ≤ BB n * 65536 ^ 3 := by
          have e1 : (BB n + BB n) * 65536 ^ 2 = BB n * (2 * 65536 ^ 2) := by rw [← Nat.mul_two, Nat.mul_assoc]
          rw [e1]
          have : BB n * (1 + 2 * 65536 ^ 2) ≤ BB n * 65536 ^ 3 := Nat.mul_le_mul_left _ (by decide)
          omega
        rw [List.append_nil]
        exact ⟨up ((GB.mono a1 (Nat.le_refl _) (Nat.dvd_mul_right _ _) (Nat.le_refl _)).add ((GB.sub b1 a1).scl hq)) bd, up ((GB.mono a2 (Nat.le_refl _) (Nat.dvd_mul_right _ _) (Nat.le_refl _)).add ((GB.sub b2 a2).scl hq)) bd⟩
    · rw [if_neg k2]
      refine ⟨D, h.D0, Nat.dvd_refl _, dl, ?_⟩
      have one' : ∀ v w, v < w → GP (n + 1) D w (varM v) := fun v w hv => GB.one (BB_pos _) hv
      by_cases k3 : s.k = 3
      · rw [if_pos k3, List.append_nil]
        exact ⟨up (GB.add a1 (GB.sub c1 b1)) b3, up (GB.add a2 (GB.sub c2 b2)) b3⟩
      · rw [if_neg k3]
        by_cases k4 : s.k = 4
        · rw [if_pos k4, List.append_nil]
          exact ⟨up (GB.add a1 (GB.sub b2 c2)) b3, up (GB.add a2 (GB.sub c1 b1)) b3⟩
        · rw [if_neg k4]
          by_cases k5 : s.k = 5
          · rw [if_pos k5]
            have e : (f.vs ++ [(1, (i : Int), 0)]).length = f.vs.length + 1 := by simp
            rw [e]
            exact ⟨up (GB.add (GB.mono a1 (Nat.le_refl _) (Nat.dvd_refl _) (by omega)) (GB.sub b1 a1).var) b3, up (GB.add (GB.mono a2 (Nat.le_refl _) (Nat.dvd_refl _) (by omega)) (GB.sub b2 a2).var) b3⟩
          · rw [if_neg k5]
            by_cases k6 : s.k = 6
            · rw [if_pos k6]
              exact ⟨one' _ _ (by simp), one' _ _ (by simp)⟩
            · rw [if_neg k6]
              exact ⟨one' _ _ (by simp), one' _ _ (by simp)⟩
/-- How many of the first steps are not free. -/
def nfN (ss : List RS) : Nat → Nat
  | 0 => 0
  | i + 1 => nfN ss i + if (ss.getD i ⟨0, .empty, [], ⟨false, [], []⟩⟩).k = 1 then 0 else 1
theorem frN_ok (ss : List RS) (hr : ∀ s ∈ ss, s.k = 2 → s.r.ok = true) (hb : ∀ s ∈ ss, s.r.bd) : ∀ i, i ≤ ss.length → (∀ j, j < i → bigN ss j = false) → ∃ D, FI (frN ss i) (nfN ss i) D
  | 0, _, _ => ⟨1, by omega, by show 1 < 65536 ^ (2 * 0 + 1); decide, Nat.zero_le _, fun c h => by simp [frN] at h, fun c h => by simp [frN] at h⟩
  | i + 1, hi, hj => by
    obtain ⟨D, hD⟩ := frN_ok ss hr hb i (by omega) fun j h => hj j (by omega)
    have hbig := hj i (by omega)
    unfold bigN at hbig
    simp only [Bool.or_eq_false_iff, decide_eq_false_iff_not, Nat.not_lt] at hbig
    have hm : ss.getD i ⟨0, .empty, [], ⟨false, [], []⟩⟩ ∈ ss := getD_mem (by omega)
    have hs1 := hr _ hm
    have hs2 := hb _ hm
    unfold nfN
    show ∃ D, FI ((frN ss i).push i (ss.getD i ⟨0, .empty, [], ⟨false, [], []⟩⟩)) _ D
    have hv := hbig.1.1
    unfold frN at hv
    generalize ss.getD i ⟨0, .empty, [], ⟨false, [], []⟩⟩ = s at *
    obtain ⟨E, e0, e1, e2, g1, g2⟩ := hD.nxt i s hs1 hs2
    refine ⟨E, e0, e2, hv, fun c hc => ?_, fun c hc => ?_⟩
    · rcases List.mem_append.1 hc with h1 | h1
      · obtain ⟨k1, k2⟩ := hD.cs c h1
        have hl : (frN ss i).vs.length ≤ ((frN ss i).push i s).vs.length := by show _ ≤ ((frN ss i).vs ++ ((frN ss i).nxt i s).1).length; rw [List.length_append]; omega
        exact ⟨k1.mono (by omega) e1 hl, k2.mono (by omega) e1 hl⟩
      · rw [List.mem_singleton] at h1
        subst h1
        exact ⟨g1, g2⟩
    · rcases List.mem_append.1 hc with h1 | h1
      · exact hD.ln c h1
      · rw [List.mem_singleton] at h1
        subst h1
        exact ⟨hbig.1.2, hbig.2⟩
end Go.Proofs.YtbgmnobnaplmlaaGreat
end

section
/- The engine, part Z: a caller's memory as its callee sees it, its names moved everywhere; boxes that hold a nil slice. -/
namespace Go.Pg
open Go Go.RowKit
set_option linter.unusedSimpArgs false
set_option linter.unusedVariables false
mutual
def AV.sh : AV → AV
  | .agg cs => .agg (AV.shL cs)
  | .tup cs => .tup (AV.shL cs)
  | .fn f cs => .fn f (AV.shL cs)
  | .ifc t x => .ifc t (AV.sh x)
  | .own k sv => .own (k + 1000) sv
  | .prow k sv m i off => .prow (k + 1000) sv m i off
  | .pbox k g off => .pbox (k + 1000) g off
  | .view k sv m i len => .view (k + 1000) sv m i len
  | .v x => .v x
  | .sl m es => .sl m es
  | .pimm cs => .pimm cs
  | .u => .u
def AV.shL : List AV → List AV
  | [] => []
  | a :: r => AV.sh a :: AV.shL r
end
theorem AV.shL_len : ∀ (l : List AV), (AV.shL l).length = l.length
  | [] => rfl
  | a :: r => by simp only [AV.shL, List.length_cons, AV.shL_len r]
theorem AV.shL_at : ∀ (l : List AV) (j : Nat), (AV.shL l)[j]? = (l[j]?).map AV.sh
  | [], j => by simp [AV.shL]
  | a :: r, 0 => by simp [AV.shL]
  | a :: r, j + 1 => by simp only [AV.shL, List.getElem?_cons_succ]; exact AV.shL_at r j
theorem AV.sh_one (a : AV) : a.sh.one = a.one := by cases a <;> simp only [AV.sh] <;> rfl
theorem Sub.agg (aS bs : List AV) (hl : aS.length = bs.length) (h : ∀ (j : Nat) (a b : AV), aS[j]? = some a → bs[j]? = some b → Sub a b) : Sub (.agg aS) (.agg bs) := fun w imm x hx => by
  obtain ⟨vs, rfl, h1, h2⟩ := hx.agg_inv
  refine .agg _ _ (by omega) fun j b y hb hy => ?_
  have hj : j < aS.length := by rw [hl]; exact (List.getElem?_eq_some_iff.1 hb).1
  exact h j aS[j] b (List.getElem?_eq_getElem hj) hb w imm y (h2 j aS[j] y (List.getElem?_eq_getElem hj) hy)
theorem Sub.fn (f : FuncId) (aS bs : List AV) (hl : aS.length = bs.length) (h : ∀ (j : Nat) (a b : AV), aS[j]? = some a → bs[j]? = some b → Sub a b) : Sub (.fn f aS) (.fn f bs) := fun w imm x hx => by
  obtain ⟨vs, rfl, h1, h2⟩ := hx.fn_inv
  refine .fn _ _ _ (by omega) fun j b y hb hy => ?_
  have hj : j < aS.length := by rw [hl]; exact (List.getElem?_eq_some_iff.1 hb).1
  exact h j aS[j] b (List.getElem?_eq_getElem hj) hb w imm y (h2 j aS[j] y (List.getElem?_eq_getElem hj) hy)
theorem Sub.ifc (t : TypeId) {a b : AV} (h : Sub a b) : Sub (.ifc t a) (.ifc t b) := fun w imm x hx => by
  obtain ⟨y, rfl, h1⟩ := hx.ifc_inv
  exact .ifc _ _ _ (h w imm y h1)
mutual
theorem AV.sub_sh : ∀ (a : AV), Sub a a.sh ∧ Sub a.sh a
  | .agg cs => by
    have h := AV.subL_sh cs
    refine ⟨Sub.agg _ _ (AV.shL_len cs).symm fun j a b h1 h2 => ?_, Sub.agg _ _ (AV.shL_len cs) fun j a b h1 h2 => ?_⟩
    · rw [AV.shL_at, h1] at h2; cases h2; exact (h a (List.mem_of_getElem? h1)).1
    · rw [AV.shL_at, h2] at h1; cases h1; exact (h b (List.mem_of_getElem? h2)).2
  | .tup cs => by
    have h := AV.subL_sh cs
    refine ⟨Sub.tup _ _ (AV.shL_len cs).symm fun j a b h1 h2 => ?_, Sub.tup _ _ (AV.shL_len cs) fun j a b h1 h2 => ?_⟩
    · rw [AV.shL_at, h1] at h2; cases h2; exact (h a (List.mem_of_getElem? h1)).1
    · rw [AV.shL_at, h2] at h1; cases h1; exact (h b (List.mem_of_getElem? h2)).2
  | .fn f cs => by
    have h := AV.subL_sh cs
    refine ⟨Sub.fn _ _ _ (AV.shL_len cs).symm fun j a b h1 h2 => ?_, Sub.fn _ _ _ (AV.shL_len cs) fun j a b h1 h2 => ?_⟩
    · rw [AV.shL_at, h1] at h2; cases h2; exact (h a (List.mem_of_getElem? h1)).1
    · rw [AV.shL_at, h2] at h1; cases h1; exact (h b (List.mem_of_getElem? h2)).2
  | .ifc t x => ⟨Sub.ifc t (AV.sub_sh x).1, Sub.ifc t (AV.sub_sh x).2⟩
  | .own k sv => ⟨Sub.own _ _ _, Sub.own _ _ _⟩
  | .prow k sv m i off => ⟨Sub.prow _ _ _ _ _ _, Sub.prow _ _ _ _ _ _⟩
  | .pbox k g off => ⟨Sub.pbox _ _ _ _, Sub.pbox _ _ _ _⟩
  | .view k sv m i len => ⟨Sub.view _ _ _ _ _ _, Sub.view _ _ _ _ _ _⟩
  | .v x => ⟨Sub.refl _, Sub.refl _⟩
  | .sl m es => ⟨Sub.refl _, Sub.refl _⟩
  | .pimm cs => ⟨Sub.refl _, Sub.refl _⟩
  | .u => ⟨Sub.refl _, Sub.refl _⟩
theorem AV.subL_sh : ∀ (l : List AV) (a : AV), a ∈ l → Sub a a.sh ∧ Sub a.sh a
  | [], a, h => by simp at h
  | b :: r, a, h => by
    by_cases e : a = b
    · rw [e]; exact AV.sub_sh b
    · exact AV.subL_sh r a ((List.mem_cons.1 h).resolve_left e)
end
def Ent.sh : Ent → Ent
  | .row sv e m es pub => .row sv e m es pub
  | .box g e cs pub => .box g e (AV.shL cs) pub
theorem Ent.sh_blk (e : Ent) : e.sh.blk = e.blk := by cases e <;> rfl
theorem Ent.sh_ok {B : Nat} {w : World} {imm : Imm} {e : Ent} (h : EntOk B w imm e) : EntOk B w imm e.sh := by
  cases e with
  | row => exact h
  | box g e cs pub =>
    obtain ⟨cur, h1, h2, h3, h4, h5, h6, h7⟩ := h
    refine ⟨cur, h1, h2, by rw [AV.shL_len]; exact h3, fun x hx => ?_, fun j a x ha hx => ?_, h6, fun hp off ho => h7 hp off (by rw [AV.shL_len] at ho; exact ho)⟩
    · obtain ⟨j, hj⟩ := List.mem_iff_getElem?.1 hx
      rw [AV.shL_at] at hj
      obtain ⟨y, hy, rfl⟩ := Option.map_eq_some_iff.1 hj
      rw [AV.sh_one]; exact h4 y (List.mem_of_getElem? hy)
    · rw [AV.shL_at] at ha
      obtain ⟨y, hy, rfl⟩ := Option.map_eq_some_iff.1 ha
      exact (AV.sub_sh y).1 w imm x (h5 j y x hy hx)
theorem Ent.of_sh {B : Nat} {w : World} {imm : Imm} {e : Ent} (h : EntOk B w imm e.sh) : EntOk B w imm e := by
  cases e with
  | row => exact h
  | box g e cs pub =>
    obtain ⟨cur, h1, h2, h3, h4, h5, h6, h7⟩ := h
    refine ⟨cur, h1, h2, by rw [AV.shL_len] at h3; exact h3, fun x hx => ?_, fun j a x ha hx => ?_, h6, fun hp off ho => h7 hp off (by rw [AV.shL_len]; exact ho)⟩
    · obtain ⟨j, hj⟩ := List.mem_iff_getElem?.1 hx
      have h8 := h4 x.sh (List.mem_of_getElem? (i := j) (by rw [AV.shL_at, hj]; rfl))
      rw [AV.sh_one] at h8; exact h8
    · exact (AV.sub_sh a).2 w imm x (h5 j a.sh x (by rw [AV.shL_at, ha]; rfl) hx)
/-- A caller's memory, its names moved out of the way of the callee's own, in what it holds too. -/
def lents (σ : Mem) : Mem := fun k => if k < 1000 then none else (σ (k - 1000)).map Ent.sh
theorem lents_at {σ : Mem} {k : Nat} {e : Ent} (h : σ k = some e) : lents σ (k + 1000) = some e.sh := by
  unfold lents
  rw [if_neg (by omega), Nat.add_sub_cancel, h]; rfl
theorem lents_lt {σ : Mem} {k : Nat} (h : k < 1000) : lents σ k = none := by unfold lents; rw [if_pos h]
/-- A callee's memory holds its caller's, moved. -/
def Agr (m σ : Mem) : Prop := ∀ k, m (k + 1000) = (σ k).map Ent.sh
theorem Agr.start (σ : Mem) : Agr (lents σ) σ := fun k => by unfold lents; rw [if_neg (by omega), Nat.add_sub_cancel]
theorem Agr.own {m σ : Mem} (h : Agr m σ) {t : Nat} {x : Option Ent} (ht : t < 1000) : Agr (upd m t x) σ := fun k => by
  rw [upd_at, if_neg (by omega)]; exact h k
theorem Agr.mark {m σ : Mem} (h : Agr m σ) {t : Nat} (ht : t < 1000) : Agr (mark m t) σ := h.own ht
theorem Agr.put {m σ : Mem} (h : Agr m σ) {t k : Nat} {e e' : Ent} (ht : t = k + 1000) (he : e' = e.sh) : Agr (upd m t (some e')) (upd σ k (some e)) := fun j => by
  subst ht; subst he
  rw [upd_at, upd_at]
  by_cases hj : j = k
  · subst hj; rw [if_pos rfl, if_pos rfl]; rfl
  · rw [if_neg (by omega), if_neg hj]; exact h j
theorem upd_over {α : Type} (f : Nat → α) (k : Nat) (a b : α) : upd (upd f k a) k b = upd f k b := by
  funext j
  simp only [upd_at]
  split <;> rfl
theorem Agr.same {m σ : Mem} (h : Agr m σ) {t k : Nat} {e e' : Ent} (ht : t = k + 1000) (hk : σ k = some e) (he : e' = e.sh) : Agr (upd m t (some e')) σ := by
  have := h.put (k := k) (e := e) ht he
  rwa [show upd σ k (some e) = σ from by funext j; rw [upd_at]; split; (subst_vars; exact hk.symm); rfl] at this
/-- What a callee leaves, told in its caller's names. -/
def BackS (R : AV → Mem → Prop) (b : AV) (m : Mem) : Prop := ∃ (r : AV) (σ' : Mem), Sub b r ∧ R r σ' ∧ Agr m σ'
theorem backS {R : AV → Mem → Prop} {b r : AV} {m σ' : Mem} (h : Sub b r) (hR : R r σ') (ha : Agr m σ') : BackS R b m := ⟨r, σ', h, hR, ha⟩
theorem acall_lents {P : Program} {f n : Nat} {fn : Func} {code : Code} {rs : List ResultVar} {args : List AV} {σ : Mem} {R : AV → Mem → Prop} (hf : P.funcs[f]? = some fn) (hb : fn.body = some code) (hn : fn.ntmps = n) (hrs : fn.results = rs.toArray)
    (hc : ∀ (vs : Array Value) (w : World), (callFunc f vs).run P w = .ok (.enter f vs) w) (hfit : codeFits n code = true) (hal : args.length ≤ n)
    (h : aCode P 0 n code (Done P rs fun st b => BackS R b st.mem) ⟨fun t => (AV.shL args).getD t .u, lents σ⟩) : ACall P f args σ R := by
  have key := acall_inline (σ := lents σ) (R := BackS R) hf hb hn hrs hc hfit (by rw [AV.shL_len]; exact hal) h
  refine ⟨hc, fun c w imm vs hm hl hr => ?_⟩
  have hm' : Mx c (lents σ) w imm := by
    refine ⟨⟨fun k e hk => ?_, fun k k' e e' b h1 h2 h3 h4 => ?_, hm.ok.lt, hm.ok.spot⟩, hm.below, hm.lt, hm.old, hm.new, hm.cells⟩
    · unfold lents at hk
      split at hk
      · cases hk
      · obtain ⟨e0, h0, rfl⟩ := Option.map_eq_some_iff.1 hk
        exact Ent.sh_ok (hm.ok.ent _ _ h0)
    · unfold lents at h1 h2
      split at h1
      · cases h1
      · split at h2
        · cases h2
        · obtain ⟨e0, k0, rfl⟩ := Option.map_eq_some_iff.1 h1
          obtain ⟨e1, k1, rfl⟩ := Option.map_eq_some_iff.1 h2
          rw [Ent.sh_blk] at h3 h4
          have := hm.ok.apart _ _ _ _ b k0 k1 h3 h4
          omega
  refine (key.2 c w imm vs hm' (by rw [AV.shL_len]; exact hl) fun j a x h1 h2 => ?_).mono fun e w' he => ?_
  · rw [AV.shL_at] at h1
    obtain ⟨y, hy, rfl⟩ := Option.map_eq_some_iff.1 h1
    exact (AV.sub_sh y).1 w imm x (hr j y x hy h2)
  · obtain ⟨b, m, imm', x, rfl, ⟨r, σ', h1, h2, h3⟩, h5, h6, h7⟩ := he
    refine ⟨r, σ', imm', x, rfl, h2, h1 _ _ _ h5, ⟨⟨fun k e hk => ?_, fun k k' e e' b h1 h2 k3 k4 => ?_, h6.ok.lt, h6.ok.spot⟩, h6.below, h6.lt, h6.old, h6.new, h6.cells⟩, h7⟩
    · have := h3 k
      rw [hk] at this
      exact Ent.of_sh (h6.ok.ent _ _ this)
    · have e1 := h3 k
      have e2 := h3 k'
      rw [h1] at e1
      rw [h2] at e2
      have := h6.ok.apart _ _ _ _ b e1 e2 (by rw [Ent.sh_blk]; exact k3) (by rw [Ent.sh_blk]; exact k4)
      omega
/-- A nil slice in a box is an own row of no elements, under a name of one's choice. -/
theorem Frz.nilBox {n : Nat} {e : Nat → AV} {m : Mem} {k g : Nat} {bt : TypeId} {cs : List AV} (j t mm : Nat) (ty : TypeId) (hm : m k = some (.box g bt cs false)) (hj : cs[j]? = some (.v (.slice none 0 0))) (ht : t ≠ k) :
    Frz n ⟨e, m⟩ ⟨e, upd (upd m k (some (.box g bt (cs.set j (.own t (.slice none 0 0))) false))) t (some (.row (.slice none 0 0) ty mm [] 0))⟩ := by
  intro c a w imm h
  have h1 : Mx c (upd m k (some (.box g bt (cs.set j (.own t (.slice none 0 0))) false))) w imm := by
    have hk := h.mem.ok.ent k _ hm
    obtain ⟨cur, k1, k2, k3, k4, k5, k6, k7⟩ := hk
    refine (mem_put h.mem (World.grownBy.refl w none) (by simp) (fun _ _ => rfl) k (.box g bt (cs.set j (.own t (.slice none 0 0))) false) ⟨cur, k1, k2, by simpa using k3, fun x hx => ?_, fun i a x ha hx => ?_, k6, fun hp => by cases hp⟩ fun j2 e2 b h1 h2 h3 => ⟨by simp, ?_⟩).1
    · rcases List.mem_or_eq_of_mem_set hx with h1 | h1
      · exact k4 x h1
      · subst h1; rfl
    · rw [List.getElem?_set] at ha
      split at ha
      · rename_i hij
        subst hij
        split at ha
        · simp only [Option.some.injEq] at ha
          subst ha
          have := (k5 j _ x hj hx).v_inv
          subst this
          exact .own _ _ rfl
        · cases ha
      · exact k5 i a x ha hx
    · show some g ≠ some b
      intro hb
      exact h1 (h.mem.ok.apart j2 k e2 _ b h2 hm h3 hb)
  refine ⟨imm, h.env, h.size, h.defers, ?_⟩
  exact (mem_put h1 (World.grownBy.refl w none) (by simp) (fun _ _ => rfl) t (.row (.slice none 0 0) ty mm [] 0) ⟨[], World.ownsRow_nil w c.B ty mm, by simp, by simp, by simp [flat], by simp, fun ad _ h2 => by simp [Value.ownBlock] at h2, fun g off h1 _ => by simp [Value.ownBlock] at h1⟩ fun j e2 b _ _ _ => ⟨by simp, by simp [Ent.blk, Value.ownBlock]⟩).1
attribute [go_sem] AV.sh AV.shL Ent.sh
end Go.Pg
end

section
/- The engine, part Z1: a loop over a string's letters, in a function that has no memory of its own there. -/
namespace Go.Pg
open Go Go.RowKit Go.Lib
set_option linter.unusedSimpArgs false
set_option linter.unusedVariables false
section
variable {P : Program} {n : Nat}
/-- What stands behind a round. -/
structure ItS (c : Cx) (n : Nat) (s : ByteArray) (tI : Nat) (J : Nat → (Nat → AV) → Prop) (pos : Nat) (a : Act) (w : World) : Prop where
  h : ∃ e imm g, Rel c n ⟨e, noMem⟩ a w imm ∧ w.heap[g]? = some (.stringIter s pos) ∧ c.B ≤ g ∧ (∀ ad, imm ad → ad.block ≠ g) ∧ e tI = .v (.pointer (some ⟨g, 0, none⟩)) ∧ J pos e
end
end Go.Pg
end

section
namespace Go.Proofs.YtbgmnobnaplmlaaGreat
open Go Go.RowKit Go.Pg
set_option linter.unusedSimpArgs false
set_option linter.unusedVariables false
set_option maxRecDepth 20000
attribute [local go_sem] Tryz.underlying3 Tryz.underlying4 Tryz.underlying5 Tryz.underlying9 Tryz.underlying93 sz3 by3 z3 szStr byStr zStr
attribute [-bool_to_prop] Bool.and_eq_decide Bool.or_eq_decide Bool.decide_beq_decide decide_eq_decide
/-! ### names -/
def kwL : List ByteArray := [
  ⟨#[97, 110, 103, 108, 101]⟩,
  ⟨#[97, 112, 101, 120]⟩,
  ⟨#[98, 105, 115, 101, 99, 116, 111, 114]⟩,
  ⟨#[99, 101, 110, 116, 101, 114]⟩,
  ⟨#[99, 105, 114, 99, 108, 101]⟩,
  ⟨#[99, 105, 114, 99, 117, 109]⟩,
  ⟨#[99, 111, 108, 108, 105, 110, 101, 97, 114]⟩,
  ⟨#[99, 111, 109, 109, 111, 110]⟩,
  ⟨#[99, 111, 110, 99, 121, 99, 108, 105, 99]⟩,
  ⟨#[99, 111, 110, 103, 114, 117, 101, 110, 116]⟩,
  ⟨#[99, 114, 111, 115, 115]⟩,
  ⟨#[99, 117, 116]⟩,
  ⟨#[100, 105, 118, 105, 100, 101]⟩,
  ⟨#[102, 111, 111, 116]⟩,
  ⟨#[108, 105, 110, 101]⟩,
  ⟨#[109, 101, 101, 116]⟩,
  ⟨#[109, 105, 100, 112, 111, 105, 110, 116]⟩,
  ⟨#[109, 105, 114, 114, 111, 114]⟩,
  ⟨#[111, 110]⟩,
  ⟨#[111, 116, 104, 101, 114]⟩,
  ⟨#[112, 97, 114, 97, 108, 108, 101, 108]⟩,
  ⟨#[112, 101, 114, 112, 101, 110, 100, 105, 99, 117, 108, 97, 114]⟩,
  ⟨#[112, 111, 105, 110, 116, 115]⟩,
  ⟨#[112, 114, 111, 118, 101]⟩,
  ⟨#[114, 97, 116, 105, 111]⟩,
  ⟨#[114, 101, 102, 108, 101, 99, 116]⟩,
  ⟨#[115, 97, 109, 101]⟩,
  ⟨#[115, 104, 105, 102, 116]⟩,
  ⟨#[116, 117, 114, 110]⟩]
def letB (c : Nat) : Bool := decide (97 ≤ c ∧ c ≤ 122) || decide (65 ≤ c ∧ c ≤ 90)
def digB (c : Nat) : Bool := decide (48 ≤ c ∧ c ≤ 57)
/-- The k-th byte. -/
def gB (s : ByteArray) (k : Nat) : Nat := (s.data.toList.getD k 0).toNat
theorem gB_lt (s : ByteArray) (k : Nat) : gB s k < 256 := UInt8.toNat_lt _
def namB (s : ByteArray) : Bool := decide (0 < s.size ∧ s.size ≤ 20) && (letB (gB s 0) && ((List.range s.size).all (fun k => letB (gB s k) || digB (gB s k)) && !(kwL.any fun w => w.toList == s.toList)))
theorem str_nil (s : ByteArray) : (s.toList == (⟨#[]⟩ : ByteArray).toList) = decide (s.size = 0) := by
  rw [ByteArray.toList_eq, ByteArray.toList_eq, Bool.eq_iff_iff, beq_iff_eq, decide_eq_true_eq]
  constructor
  · intro h
    have := congrArg List.length h
    exact this
  · intro h
    exact List.length_eq_zero_iff.1 h
/-- A byte as it is read. -/
theorem gB_at (s : ByteArray) (k : Nat) : ((s.data.toList.getD k 0).toNat : Int) = (gB s k : Int) := rfl
def kinB (c : Nat) : Int := if c = 32 ∨ c = 9 ∨ c = 13 ∨ c = 10 then 1 else if letB c = true then 2 else if digB c = true then 3 else if c = 40 ∨ c = 41 ∨ c = 44 ∨ c = 59 ∨ c = 47 ∨ c = 45 then 4 else if c = 58 then 5 else if c = 35 then 6 else 0
theorem kinB_let (c : Nat) : kinB c = 2 ↔ letB c = true := by
  unfold kinB letB
  simp only [Bool.or_eq_true, decide_eq_true_eq]
  repeat' split
  all_goals omega
theorem kinB_dig (c : Nat) : kinB c = 3 ↔ digB c = true := by
  unfold kinB letB digB
  simp only [Bool.or_eq_true, decide_eq_true_eq]
  repeat' split
  all_goals omega
set_option maxHeartbeats 4000000 in
theorem nmKind (c : Nat) (hc : c < 256) : Pure Tryz.prog 218 [.v (.int .u8 (c : Int))] (iv (kinB c)) := by
  unfold kinB letB digB
  simp only [Bool.or_eq_true, decide_eq_true_eq]
  refine pure_intro (tok := 0) Tryz.func218 rfl Tryz.ntmps218 Tryz.results218 Tryz.call218 (by rfl) (by simp) ?_
  (focus (refine wklp w_t w_t w_t (w_r 0) ?_; (repeat' first | exact w_t | apply w_l); all_goals intros))
  all_goals (congr 2; repeat' split)
  all_goals (first | rfl | omega)
theorem exists_end (s : ByteArray) : ∀ n, n ≤ s.size → ∃ k, k ≤ n ∧ (∀ j, j < k → (letB (gB s j) || digB (gB s j)) = true) ∧ (k < n → (letB (gB s k) || digB (gB s k)) = false)
  | 0, _ => ⟨0, by omega, fun j h => by omega, fun h => by omega⟩
  | n + 1, h => by
    obtain ⟨k, h1, h2, h3⟩ := exists_end s n (by omega)
    by_cases hk : k < n
    · exact ⟨k, by omega, h2, fun _ => h3 hk⟩
    · have : k = n := by omega
      subst this
      cases hb : (letB (gB s k) || digB (gB s k)) with
      | true => exact ⟨k + 1, by omega, fun j hj => by by_cases e : j = k; rw [e]; exact hb; exact h2 j (by omega), fun h => by omega⟩
      | false => exact ⟨k, by omega, h2, fun _ => hb⟩
set_option maxHeartbeats 4000000 in
theorem nmEnd (s : ByteArray) (hs : s.size ≤ 1000000000) : ∃ n : Nat, Pure Tryz.prog 219 [strA s, iv 0, .v (.bool true)] (iv n) ∧ n ≤ s.size ∧ (n = s.size ↔ (List.range s.size).all (fun k => letB (gB s k) || digB (gB s k)) = true) := by
  obtain ⟨n, h1, h2, h3⟩ := exists_end s s.size (Nat.le_refl _)
  refine ⟨n, ?_, h1, ?_⟩
  · refine pure_intro (tok := 0) Tryz.func219 rfl Tryz.ntmps219 Tryz.results219 Tryz.call219 (by rfl) (by simp) ?_
    (focus (refine wkap w_t w_t (w_r 0) ?_; (repeat' first | exact w_t | apply w_l); all_goals intros))
    refine r_loopE (ι := Nat) (fun i e m => i ≤ n ∧ e 0 = strA s ∧ e 1 = iv i ∧ e 2 = .v (.bool true)) (fun i => n - i) 0 (by rfl) ?_ ?_
    · rintro i e m ⟨hi, e0, e1, e2⟩
      have hk := nmKind (gB s i) (gB_lt s i)
      have kl := kinB_let (gB s i)
      have kd := kinB_dig (gB s i)
      by_cases hlt : i < n
      · have hb := h2 i hlt
        rw [Bool.or_eq_true, ← kl, ← kd] at hb
        clear kl kd
        have hg := gB_at s i
        generalize kinB (gB s i) = x at *
        rcases hb with hb | hb
        · subst hb
          (focus (refine wkap (w_a e0 (w_a e1 (w_a e2 (w_a hg w_t)))) (w_a hk w_t) (w_r 0) ?_; (repeat' first | exact w_t | apply w_l); all_goals intros))
          exact ⟨i + 1, ⟨by omega, by exact gW e0, by exact gS, by exact gW e2⟩, by omega⟩
        · subst hb
          (focus (refine wkap (w_a e0 (w_a e1 (w_a e2 (w_a hg w_t)))) (w_a hk w_t) (w_r 0) ?_; (repeat' first | exact w_t | apply w_l); all_goals intros))
          exact ⟨i + 1, ⟨by omega, by exact gW e0, by exact gS, by exact gW e2⟩, by omega⟩
      · have hin : i = n := by omega
        subst hin
        by_cases hsz : i < s.size
        · have hb := h3 hsz
          rw [Bool.or_eq_false_iff] at hb
          have b1 : kinB (gB s i) ≠ 2 := fun h => by rw [kl.1 h] at hb; exact absurd hb.1 (by decide)
          have b2 : kinB (gB s i) ≠ 3 := fun h => by rw [kd.1 h] at hb; exact absurd hb.2 (by decide)
          clear kl kd
          have hg := gB_at s i
          generalize kinB (gB s i) = x at *
          (focus (refine wklp (w_a e0 (w_a e1 (w_a e2 (w_a hg w_t)))) (w_a hk w_t) w_t (w_r 0) ?_; (repeat' first | exact w_t | apply w_l); all_goals intros))
        · (focus (refine wklp (w_a e0 (w_a e1 (w_a e2 w_t))) w_t w_t (w_r 0) ?_; (repeat' first | exact w_t | apply w_l); all_goals intros))
    · exact ⟨Nat.zero_le _, by exact gC, by exact gC, by exact gC⟩
  · rw [List.all_eq_true]
    constructor
    · intro h x hx
      exact h2 x (by rw [h]; exact List.mem_range.1 hx)
    · intro h
      rcases Nat.lt_or_ge n s.size with h4 | h4
      · have := h n (List.mem_range.2 h4)
        rw [h3 h4] at this; cases this
      · omega
set_option maxHeartbeats 4000000 in
theorem nmKeys : Pure Tryz.prog 220 [] (.sl 1 (kwL.map strA)) := by
  unfold kwL
  refine pure_intro (tok := 0) Tryz.func220 rfl Tryz.ntmps220 Tryz.results220 Tryz.call220 (by rfl) (by simp) ?_
  (focus (refine wklp w_t w_t w_t (w_r 0) ?_; (repeat' first | exact w_t | apply w_l); all_goals intros))
end Go.Proofs.YtbgmnobnaplmlaaGreat
end

section
namespace Go.Proofs.YtbgmnobnaplmlaaGreat
open Go Go.RowKit Go.Pg Go.Pol
set_option linter.unusedSimpArgs false
set_option linter.unusedVariables false
set_option maxRecDepth 20000
attribute [-bool_to_prop] Bool.and_eq_decide Bool.or_eq_decide Bool.decide_beq_decide decide_eq_decide
/-! ### errors -/
def arS (k : Int) : Int :=
  if k = 1 then 0 else if k = 2 ∨ k = 5 ∨ k = 6 ∨ k = 14 then 2 else if k = 3 ∨ k = 4 ∨ k = 7 ∨ k = 8 ∨ k = 10 ∨ k = 11 then 3 else if k = 9 ∨ k = 12 ∨ k = 13 then 4 else -1
def arG (k : Int) : Int :=
  if k = 8 then 2 else if k = 1 ∨ k = 5 then 3 else if k = 2 ∨ k = 3 ∨ k = 4 ∨ k = 6 ∨ k = 9 then 4 else if k = 7 then 8 else 0
def outB (n : Int) (l : List Int) : Bool := l.any fun a => decide (a < 0) || decide (n ≤ a)
abbrev RS.zero : RS := ⟨0, .empty, [], ⟨false, [], []⟩⟩
def errS (ss : List RS) (i : Nat) : Int :=
  let s := ss.getD i RS.zero
  if arS s.k < 0 then 8
  else if (s.ar.length : Int) ≠ arS s.k then 1
  else if outB (i : Int) s.ar = true then 2
  else if (s.k = 2 ∧ s.r.ok = false) ∨ (s.k ≠ 2 ∧ s.r.none = false) then 1
  else if s.nm.size = 0 then 0
  else if namB s.nm = false then 6
  else if (ss.take i).any (fun t => t.nm.toList == s.nm.toList) = true then 7
  else 0
def errG (g : RG) (n : Nat) : Int :=
  if arG g.k = 0 then 8
  else if (g.ar.length : Int) ≠ arG g.k then 1
  else if outB (n : Int) g.ar = true then 2
  else if (g.k = 9 ∧ g.r.ok = false) ∨ (g.k ≠ 9 ∧ g.r.none = false) then 1
  else 0
/-- The first that is not 0. -/
def fstE (f : Nat → Int) : Nat → Int
  | 0 => 0
  | n + 1 => if fstE f n ≠ 0 then fstE f n else f n
theorem fstE_zero {f : Nat → Int} : ∀ {n : Nat}, (∀ j, j < n → f j = 0) → fstE f n = 0
  | 0, _ => rfl
  | n + 1, h => by
    unfold fstE
    rw [if_neg (by rw [fstE_zero fun j hj => h j (by omega)]; simp)]
    exact h n (by omega)
theorem fstE_at {f : Nat → Int} {i : Nat} (h : ∀ j, j < i → f j = 0) (hi : f i ≠ 0) : ∀ {n : Nat}, i < n → fstE f n = f i
  | 0, hn => by omega
  | n + 1, hn => by
    unfold fstE
    by_cases e : i = n
    · subst e
      rw [if_neg (by rw [fstE_zero h]; simp)]
    · have := fstE_at h hi (n := n) (by omega)
      rw [this, if_pos hi]
theorem fstE_all {f : Nat → Int} : ∀ {n : Nat}, fstE f n = 0 → ∀ j, j < n → f j = 0
  | 0, _, j, hj => by omega
  | n + 1, h, j, hj => by
    unfold fstE at h
    split at h
    · rename_i h1; exact absurd h h1
    · rename_i h1
      by_cases e : j = n
      · subst e; exact h
      · exact fstE_all (n := n) (by rcases Decidable.em (fstE f n = 0) with h2 | h2; exact h2; exact absurd h2 h1) j (by omega)
def figE (ss : List RS) (gs : List RG) : Int :=
  if 40 < ss.length ∨ 8 < gs.length then 4
  else if fstE (errS ss) ss.length ≠ 0 then fstE (errS ss) ss.length
  else fstE (fun i => errG (gs.getD i ⟨0, [], ⟨false, [], []⟩⟩) ss.length) gs.length
/-- The frame of a figure, or its error. -/
def frame (ss : List RS) (gs : List RG) : List (Po × Po) × List Vt × Int :=
  if figE ss gs ≠ 0 then ([], [], figE ss gs)
  else if (List.range ss.length).any (bigN ss) = true then ([], [], 4)
  else ((frN ss ss.length).cs, (frN ss ss.length).vs, 0)
theorem outB_in {n : Int} {l : List Int} (h : outB n l = false) {k : Nat} (hk : k < l.length) : 0 ≤ gI l k ∧ gI l k < n := by
  unfold outB at h
  rw [List.any_eq_false] at h
  have := h (gI l k) (by rw [gI_at hk]; exact List.getElem_mem hk)
  simp only [Bool.or_eq_true, decide_eq_true_eq] at this
  omega
/-- What a step in order is like. -/
theorem errS_ok {ss : List RS} {i : Nat} (hi : i < ss.length) (h : errS ss i = 0) : 0 ≤ arS ss[i].k ∧ (ss[i].ar.length : Int) = arS ss[i].k ∧ (∀ k, k < ss[i].ar.length → 0 ≤ gI ss[i].ar k ∧ gI ss[i].ar k < (i : Int)) ∧ (ss[i].k = 2 → ss[i].r.ok = true) := by
  unfold errS at h
  rw [show ss.getD i RS.zero = ss[i] from by rw [List.getD_eq_getElem?_getD, List.getElem?_eq_getElem hi]; rfl] at h
  generalize ss[i] = s at *
  simp only at h
  split at h
  · omega
  · split at h
    · omega
    · split at h
      · omega
      · split at h
        · omega
        · rename_i h1 h2 h3 h4
          refine ⟨by omega, by omega, fun k hk => outB_in (by simpa using h3) hk, fun h5 => ?_⟩
          cases h6 : s.r.ok with
          | true => rfl
          | false => exact absurd (.inl ⟨h5, h6⟩) h4
end Go.Proofs.YtbgmnobnaplmlaaGreat
end

section
namespace Go.Proofs.YtbgmnobnaplmlaaGreat
open Go Go.RowKit Go.Pg Go.Pol
set_option linter.unusedSimpArgs false
set_option linter.unusedVariables false
set_option maxRecDepth 20000
attribute [local go_sem] Tryz.underlying3 Tryz.underlying4 Tryz.underlying43 Tryz.underlying41 Tryz.underlying39 Tryz.underlying63 Tryz.underlying69 Tryz.underlying61 Tryz.underlying70 Tryz.underlying78 sz3 by3 z3 szRat zRat szInt zInt szNat zNat szTerm byTerm zTerm szMono byMono zMono szPoly byPoly zPoly
attribute [-bool_to_prop] Bool.and_eq_decide Bool.or_eq_decide Bool.decide_beq_decide decide_eq_decide
theorem sgn_ne {q : Rat} : (q.num.sign = 0) = (q = 0) := by rw [Int.sign_eq_zero_iff_zero, Rat.num_eq_zero]
theorem poLex (s t : Tm) (hs : Sm s.2) (ht : Sm t.2) : Pure Tryz.prog 181 [tmA s, tmA t] (iv (lexC s.2 t.2 (max s.2.length t.2.length))) := by
  have c : Pure Tryz.prog 222 [ivs s.2, ivs t.2, iv 0] (iv (cmpI s.2 t.2 0)) := monCmp s.2 t.2 0 hs ht
  have e : cmpI s.2 t.2 0 = lexC s.2 t.2 (max s.2.length t.2.length) := by unfold cmpI; rw [if_neg (by omega)]
  rw [e] at c
  obtain ⟨q, a⟩ := s
  obtain ⟨r, b⟩ := t
  simp only at *
  generalize lexC a b (max a.length b.length) = x at *
  refine pure_intro (tok := 0) Tryz.func181 rfl Tryz.ntmps181 Tryz.results181 Tryz.call181 (by rfl) (by simp) ?_
  (focus (refine wklp w_t (w_a c w_t) w_t (w_r 0) ?_; (repeat' first | exact w_t | apply w_l); all_goals intros))
set_option maxHeartbeats 1000000 in
theorem poAdded (s t : Tm) {j k : Nat} (hs : Sz s.1 j) (ht : Sz t.1 k) (hj : j ≤ 1000000) (hk : k ≤ 1000000) : Pure Tryz.prog 182 [tmA s, tmA t] (.tup [tmA (s.1 + t.1, s.2), .v (.bool (!decide ((s.1 + t.1).num.sign = 0)))]) := by
  have c := ratAdd s.1 t.1 hs ht (by omega) (by omega)
  have cs := ratSign (s.1 + t.1) (hs.add ht) (by omega)
  obtain ⟨q, a⟩ := s
  obtain ⟨r, b⟩ := t
  simp only at *
  generalize q + r = x at *
  refine pure_intro (tok := 0) Tryz.func182 rfl Tryz.ntmps182 Tryz.results182 Tryz.call182 (by rfl) (by simp) ?_
  (repeat' (first | (with_reducible first | refine stp ?_ | apply gx1 | apply gx2 | apply gx3 | apply gx4 | apply gx5 | apply gx6 | apply gx7 | apply gy8 | apply gz2 | apply gz3 | refine gw0 (c) ?_ ?_ | refine gw3 (c) ?_ ?_ ?_ | refine gw0 (cs) ?_ ?_ | refine gw3 (cs) ?_ ?_ ?_) | (with_reducible refine all_v ?_; intro _) | ((with_reducible refine gE ?_); (try simp (disch := omega) only [go_sem]) <;> first | rfl | omega) | with_reducible refine t_in_other (by decide) ?_ | ((with_reducible apply gy1); iterate 3 focus rfl) | ((with_reducible apply gy2); iterate 3 focus rfl) | ((with_reducible apply gy3); iterate 2 focus rfl) | ((with_reducible apply gy4); iterate 1 focus rfl) | ((with_reducible apply gy5); iterate 4 focus rfl) | ((with_reducible apply gy6); iterate 4 focus rfl) | ((with_reducible apply d_bar); iterate 3 focus rfl) | ((with_reducible apply q_pub); iterate 1 focus rfl) | ((with_reducible apply gy7); iterate 1 focus rfl) | ((with_reducible apply gy9); (focus ((with_reducible refine gE ?_); (try simp (disch := omega) only [go_sem]) <;> rfl))) | ((with_reducible apply gz1); (focus first | rfl | (simp (disch := omega) only [go_sem]; done))) | ((with_reducible apply r_drawD (pickR [(5, .v (.int .i64 x.num.sign))]) [] [4]); (focus kernel_rfl); (focus rfl); (focus kernel_rfl); (focus (simp only [List.length_cons, List.length_nil, Nat.reduceAdd]; rfl)))))
  (all_goals (try simp (disch := omega) only [go_sem, decide_eq_true, decide_eq_false, if_pos, if_neg, Int.reduceAdd, Int.reduceSub, Int.reduceToNat, Int.zero_add])); (all_goals first | done | rfl | (congr 2; first | done | omega | (rw [Bool.eq_iff_iff]; simp only [bool_to_prop, Bool.false_eq_true, iff_true, true_iff, iff_false, false_iff]; omega)) | skip)
theorem addM_step {p q : Po} {i k : Nat} (hi : i < p.length) (hk : k < q.length) : addM (p.drop i) (q.drop k) =
    if ltM q[k].2 p[i].2 then p[i] :: addM (p.drop (i + 1)) (q.drop k) else if ltM p[i].2 q[k].2 then q[k] :: addM (p.drop i) (q.drop (k + 1))
    else if p[i].1 + q[k].1 = 0 then addM (p.drop (i + 1)) (q.drop (k + 1)) else (p[i].1 + q[k].1, p[i].2) :: addM (p.drop (i + 1)) (q.drop (k + 1)) := by
  rw [List.drop_eq_getElem_cons hi, List.drop_eq_getElem_cons hk]
  rw [show addM (p[i] :: p.drop (i + 1)) (q[k] :: q.drop (k + 1)) = _ from by unfold addM; rw [addP]]
theorem addM_end {p q : Po} {i k : Nat} (h : p.length ≤ i ∨ q.length ≤ k) : addM (p.drop i) (q.drop k) = p.drop i ++ q.drop k := by
  rcases h with h | h
  · rw [List.drop_eq_nil_of_le h]; simp [addM, addP]
  · rw [List.drop_eq_nil_of_le h, List.append_nil]; exact addP_nil _
set_option maxHeartbeats 4000000 in
theorem poMerge (p q : Po) {j k e : Nat} (hp : PK p j e) (hq : PK q k e) (sp : SrtM p) (sq : SrtM q) (lp : p.length ≤ 1000000) (lq : q.length ≤ 1000000) (hj : j ≤ 1000000) (hk : k ≤ 1000000) (he : e ≤ 16777216) :
    Pure Tryz.prog 180 [poA p, poA q, .fn 181 [], .fn 182 []] (poA (addM p q)) := by
  refine pure_intro (tok := 0) Tryz.func180 rfl Tryz.ntmps180 Tryz.results180 Tryz.call180 (by rfl) (by simp) ?_
  (focus (refine wkad (w_a @l_map w_t) w_t w_t ?_; (repeat' first | exact w_t | apply w_l); all_goals intros))
  rename_i sv0
  refine r_loopE (ι := Nat × Nat) (fun x e m => x.1 ≤ p.length ∧ x.2 ≤ q.length ∧ e 0 = poA p ∧ e 1 = poA q ∧ e 2 = .fn 181 [] ∧ e 3 = .fn 182 [] ∧ e 10 = iv x.1 ∧ e 11 = iv x.2 ∧ ∃ sv out, e 9 = .own 20 sv ∧ m 20 = some (.row sv 63 4 (out.map tmA) 0) ∧ out.length ≤ x.1 + x.2 ∧ addM p q = out ++ addM (p.drop x.1) (q.drop x.2)) (fun x => p.length + q.length - (x.1 + x.2)) (0, 0) (by rfl) ?_ ?_
  · rintro ⟨i, l⟩ e m ⟨hi, hl, e0, e1, e2, e3, e10, e11, sv, out, e9, em, ho, hs⟩
    simp only at hi hl e10 e11 ho hs
    by_cases hil : i < p.length ∧ l < q.length
    · obtain ⟨hi2, hl2⟩ := hil
      have hg := map_atB tmA hi2
      have hh := map_atB tmA hl2
      have st := addM_step hi2 hl2
      have ms := hp _ (List.getElem_mem hi2)
      have mt := hq _ (List.getElem_mem hl2)
      have m1 := hp.sm he (List.getElem_mem hi2)
      have m2 := hq.sm he (List.getElem_mem hl2)
      have d1 := sp.dom _ (List.getElem_mem hi2)
      have d2 := sq.dom _ (List.getElem_mem hl2)
      generalize p[i] = s at *
      generalize q[l] = t at *
      have cl := poLex s t m1 m2
      have ca := poAdded s t ms.1 mt.1 hj hk
      have hlen : (out.map tmA).length = out.length := List.length_map ..
      rw [st] at hs
      rcases lexM_cases d1 d2 with ⟨h1, h2⟩ | ⟨h1, h1', h2, h3⟩ | ⟨h1, h1', h2⟩
      · have h3 : ¬ ltM t.2 s.2 := fun h => ordM.irr _ (ordM.tr _ _ _ h h1)
        rw [if_neg h3, if_pos h1] at hs
        rw [h2] at cl
        clear st ms mt m1 m2 d1 d2 ca
        (focus (refine wkad (w_a e0 (w_a e1 (w_a e2 (w_a e3 (w_a e9 (w_a e10 (w_a e11 (w_a em (w_a hg (w_a hh (w_a @l_map w_t))))))))))) (w_a cl w_t) (w_a (w_d 4 [(9, iv (-1))] [] []) w_t) ?_; (repeat' first | exact w_t | apply w_l); all_goals intros))
        refine ⟨(i, l + 1), ⟨by simp only; omega, by simp only; omega, by exact gW e0, by exact gW e1, by exact gW e2, by exact gW e3, by exact gW e10, by exact gS, _, out ++ [t], by exact gC, by (simp (disch := omega) only [go_sem, List.map_append] <;> repeat' first | rfl | refine ⟨?_, ?_⟩), by simp only [List.length_append, List.length_cons, List.length_nil]; omega, by rw [hs, List.append_assoc]; rfl⟩, by simp only; omega⟩
      · rw [if_neg h1', if_neg h1] at hs
        rw [h3] at cl
        by_cases hz : s.1 + t.1 = 0
        · rw [if_pos hz] at hs
          rw [decide_eq_true (show (s.1 + t.1).num.sign = 0 by rw [sgn_ne]; exact hz)] at ca
          clear st ms mt m1 m2 d1 d2
          generalize (s.1 + t.1) = z at *
          (focus (refine wkad (w_a e0 (w_a e1 (w_a e2 (w_a e3 (w_a e9 (w_a e10 (w_a e11 (w_a em (w_a hg (w_a hh (w_a @l_map (w_a @Bool.not_true w_t)))))))))))) (w_a cl (w_a ca w_t)) (w_a (w_d 4 [(9, iv 0)] [] []) (w_a (w_d 5 [(9, .tup [tmA (z, s.2), .v (.bool false)])] [] [13]) w_t)) ?_; (repeat' first | exact w_t | apply w_l); all_goals intros))
          refine ⟨(i + 1, l + 1), ⟨by simp only; omega, by simp only; omega, by exact gW e0, by exact gW e1, by exact gW e2, by exact gW e3, by exact gS, by exact gS, _, out, by exact gW e9, by exact gW em, by simp only; omega, hs⟩, by simp only; omega⟩
        · rw [if_neg hz] at hs
          rw [decide_eq_false (show ¬ (s.1 + t.1).num.sign = 0 by rw [sgn_ne]; exact hz)] at ca
          clear st ms mt m1 m2 d1 d2
          generalize (s.1 + t.1) = z at *
          (focus (refine wkad (w_a e0 (w_a e1 (w_a e2 (w_a e3 (w_a e9 (w_a e10 (w_a e11 (w_a em (w_a hg (w_a hh (w_a @l_map (w_a @Bool.not_false w_t)))))))))))) (w_a cl (w_a ca w_t)) (w_a (w_d 4 [(9, iv 0)] [] []) (w_a (w_d 5 [(9, .tup [tmA (z, s.2), .v (.bool true)])] [] [13]) w_t)) ?_; (repeat' first | exact w_t | apply w_l); all_goals intros))
          refine ⟨(i + 1, l + 1), ⟨by simp only; omega, by simp only; omega, by exact gW e0, by exact gW e1, by exact gW e2, by exact gW e3, by exact gS, by exact gS, _, out ++ [(z, s.2)], by exact gC, by (simp (disch := omega) only [go_sem, List.map_append] <;> repeat' first | rfl | refine ⟨?_, ?_⟩), by simp only [List.length_append, List.length_cons, List.length_nil]; omega, by rw [hs, List.append_assoc]; rfl⟩, by simp only; omega⟩
      · rw [if_pos h1] at hs
        rw [h2] at cl
        clear st ms mt m1 m2 d1 d2 ca
        (focus (refine wkad (w_a e0 (w_a e1 (w_a e2 (w_a e3 (w_a e9 (w_a e10 (w_a e11 (w_a em (w_a hg (w_a hh (w_a @l_map w_t))))))))))) (w_a cl w_t) (w_a (w_d 4 [(9, iv 1)] [] []) w_t) ?_; (repeat' first | exact w_t | apply w_l); all_goals intros))
        refine ⟨(i + 1, l), ⟨by simp only; omega, by simp only; omega, by exact gW e0, by exact gW e1, by exact gW e2, by exact gW e3, by exact gS, by exact gW e11, _, out ++ [s], by exact gC, by (simp (disch := omega) only [go_sem, List.map_append] <;> repeat' first | rfl | refine ⟨?_, ?_⟩), by simp only [List.length_append, List.length_cons, List.length_nil]; omega, by rw [hs, List.append_assoc]; rfl⟩, by simp only; omega⟩
    · rw [addM_end (by omega)] at hs
      rw [hs]
      clear hs
      have tp : (p.map tmA).take p.length = p.map tmA := by rw [← List.length_map (f := tmA), List.take_length]
      have tq : (q.map tmA).take q.length = q.map tmA := by rw [← List.length_map (f := tmA), List.take_length]
      by_cases hi2 : i < p.length
      · have hl2 : l = q.length := by omega
        subst hl2
        (focus (refine wkad (w_a e0 (w_a e1 (w_a e2 (w_a e3 (w_a e9 (w_a e10 (w_a e11 (w_a em (w_a @l_map (w_a @l_drop (w_a @l_app (w_a @l_take (w_a @Nat.min_self (w_a tp (w_a tq w_t))))))))))))))) w_t w_t ?_; (repeat' first | exact w_t | apply w_l); all_goals intros))
        (all_goals (try simp (disch := omega) only [go_sem, List.append_assoc, tp, tq, decide_eq_true, decide_eq_false, if_pos, if_neg, Int.reduceAdd, Int.reduceSub, Int.reduceToNat, Int.zero_add])); (all_goals first | done | rfl | (congr 2; first | done | omega | (rw [Bool.eq_iff_iff]; simp only [bool_to_prop, Bool.false_eq_true, iff_true, true_iff, iff_false, false_iff]; omega)) | skip)
        all_goals exact congrArg (AV.sl 4) (by simp only [List.map_append, List.map_drop])
      · (focus (refine wkad (w_a e0 (w_a e1 (w_a e2 (w_a e3 (w_a e9 (w_a e10 (w_a e11 (w_a em (w_a @l_map (w_a @l_drop (w_a @l_app (w_a @l_take (w_a @Nat.min_self (w_a tp (w_a tq w_t))))))))))))))) w_t w_t ?_; (repeat' first | exact w_t | apply w_l); all_goals intros))
        (all_goals (try simp (disch := omega) only [go_sem, List.append_assoc, tp, tq, decide_eq_true, decide_eq_false, if_pos, if_neg, Int.reduceAdd, Int.reduceSub, Int.reduceToNat, Int.zero_add])); (all_goals first | done | rfl | (congr 2; first | done | omega | (rw [Bool.eq_iff_iff]; simp only [bool_to_prop, Bool.false_eq_true, iff_true, true_iff, iff_false, false_iff]; omega)) | skip)
        all_goals exact congrArg (AV.sl 4) (by simp only [List.map_append, List.map_drop])
  · exact ⟨Nat.zero_le _, Nat.zero_le _, by exact gC, by exact gC, by exact gC, by exact gC, by exact gC, by exact gC, _, [], by exact gC, by (simp (disch := omega) only [go_sem, List.map_nil, List.replicate_zero] <;> repeat' first | rfl | refine ⟨?_, ?_⟩), by simp, by simp⟩
end Go.Proofs.YtbgmnobnaplmlaaGreat
end

section
namespace Go.Proofs.YtbgmnobnaplmlaaGreat
open Go Go.RowKit Go.Pg Go.Pol
set_option linter.unusedSimpArgs false
set_option linter.unusedVariables false
set_option maxRecDepth 20000
attribute [local go_sem] Tryz.underlying3 Tryz.underlying4 Tryz.underlying43 Tryz.underlying41 Tryz.underlying39 Tryz.underlying63 Tryz.underlying69 Tryz.underlying61 Tryz.underlying70 Tryz.underlying78 sz3 by3 z3 szRat zRat szInt zInt szNat zNat szTerm byTerm zTerm szMono byMono zMono szPoly byPoly zPoly
attribute [-bool_to_prop] Bool.and_eq_decide Bool.or_eq_decide Bool.decide_beq_decide decide_eq_decide
theorem poAdd (p q : Po) {j k e : Nat} (hp : PK p j e) (hq : PK q k e) (sp : SrtM p) (sq : SrtM q) (lp : p.length ≤ 1000000) (lq : q.length ≤ 1000000) (hj : j ≤ 1000000) (hk : k ≤ 1000000) (he : e ≤ 16777216) :
    Pure Tryz.prog 106 [poA p, poA q] (poA (addM p q)) := by
  have c := poMerge p q hp hq sp sq lp lq hj hk he
  generalize addM p q = r at *
  refine pure_intro (tok := 0) Tryz.func106 rfl Tryz.ntmps106 Tryz.results106 Tryz.call106 (by rfl) (by simp) ?_
  (focus (refine wklp w_t (w_a c w_t) w_t (w_r 0) ?_; (repeat' first | exact w_t | apply w_l); all_goals intros))
theorem poTimes1 {p : Po} {t : Tm} {i : Nat} (hi : i < p.length) : timesP mulM (p.take (i + 1)) t = timesP mulM (p.take i) t ++ [(p[i].1 * t.1, mulM p[i].2 t.2)] := by
  unfold timesP
  rw [List.take_succ_eq_append_getElem hi, List.map_append]; rfl
theorem timesP_len (p : Po) (t : Tm) : (timesP mulM p t).length = p.length := by unfold timesP; simp
set_option maxHeartbeats 4000000 in
theorem poTimes (p : Po) (t : Tm) {j k e f : Nat} (hp : PK p j e) (ht : PK [t] k f) (sp : SrtM p) (h0 : t.1 ≠ 0) (hd : Can t.2) (lp : p.length ≤ 1000000) (hj : j ≤ 1000000) (hk : k ≤ 1000000) (he : e ≤ 16777216) (hf : f ≤ 16777216) :
    Pure Tryz.prog 149 [poA p, .agg [.v (.bool (decide (t.1.num < 0))), lim (toL t.1.num.natAbs), lim (toL t.1.den), ivs t.2]] (poA (timesP mulM p t)) := by
  refine pure_intro (tok := 0) Tryz.func149 rfl Tryz.ntmps149 Tryz.results149 Tryz.call149 (by rfl) (by simp) ?_
  (focus (refine wkad (w_a @l_map w_t) w_t w_t ?_; (repeat' first | exact w_t | apply w_l); all_goals intros))
  rename_i g3 sv0
  refine r_loopE (ι := Nat) (fun i e m => i ≤ p.length ∧ e 3 = .pbox 3 g3 0 ∧ m 3 = some (.box g3 63 [.v (.bool (decide (t.1.num < 0))), lim (toL t.1.num.natAbs), lim (toL t.1.den), ivs t.2] false) ∧ e 12 = poA p ∧ e 13 = iv p.length ∧ e 14 = iv i ∧ ∃ sv, e 5 = .own 11 sv ∧ m 11 = some (.row sv 63 4 ((timesP mulM (p.take i) t).map tmA) 0)) (fun i => p.length - i) 0 (by rfl) ?_ ?_
  · rintro i e m ⟨hi, e3, m3, e12, e13, e14, sv, e5, m11⟩
    by_cases hlt : i < p.length
    · have hg := map_atB tmA hlt
      have hs := poTimes1 (t := t) hlt
      have ms := hp _ (List.getElem_mem hlt)
      have m1 := hp.sm he (List.getElem_mem hlt)
      have m2 := ht.sm hf (.head _)
      have d1 := sp.dom _ (List.getElem_mem hlt)
      have n1 := (sp.1 _ (List.getElem_mem hlt)).1
      have mt := (ht t (.head _)).1
      have hl : (timesP mulM (p.take i) t).length ≤ 1000000 := by rw [timesP_len, List.length_take]; omega
      generalize p[i] = s at *
      have c1 := ratMul s.1 t.1 ms.1 mt (by omega) (by omega)
      have c2 := ratSign (s.1 * t.1) (ms.1.mul mt) (by omega)
      have c3 : Pure Tryz.prog 208 [ivs s.2, ivs t.2] (ivs (trimI (mulM s.2 t.2))) := monMul s.2 t.2 m1.wd m2.wd
      rw [trim_can (mulK.dom _ _ d1 hd)] at c3
      have nz : ¬ (s.1 * t.1).num.sign = 0 := by
        rw [sgn_ne]; intro h
        rcases Rat.mul_eq_zero.1 h with h | h
        · exact n1 h
        · exact h0 h
      have nz2 : (!decide ((s.1 * t.1).num.sign = 0)) = true := by rw [decide_eq_false nz]; rfl
      obtain ⟨s1, s2⟩ := s
      simp only at *
      clear ms m1 m2 d1 n1 mt
      generalize s1 * t.1 = z at *
      generalize mulM s2 t.2 = w at *
      generalize timesP mulM (p.take i) t = out at *
      (focus (refine wkad (w_a e3 (w_a m3 (w_a e12 (w_a e13 (w_a e14 (w_a e5 (w_a m11 (w_a hg (w_a @l_map (w_a nz2 w_t)))))))))) (w_a c1 (w_a c2 (w_a c3 w_t))) (w_a (w_d 7 [(6, ivs w)] [9, 1009] [11, 34]) w_t) ?_; (repeat' first | exact w_t | apply w_l); all_goals intros))
      exact ⟨i + 1, ⟨by omega, by exact gW e3, by exact gW m3, by exact gW e12, by exact gW e13, by exact gS, _, by exact gC, by rw [hs, List.map_append]; exact gC⟩, by omega⟩
    · have hi2 : i = p.length := by omega
      subst hi2
      rw [List.take_length] at m11
      (focus (refine wkld (w_a e3 (w_a m3 (w_a e12 (w_a e13 (w_a e14 (w_a e5 (w_a m11 (w_a @l_map w_t)))))))) w_t (w_a m11 w_t) w_t ?_; (repeat' first | exact w_t | apply w_l); all_goals intros))
  · exact ⟨Nat.zero_le _, by exact gC, by exact gC, by exact gC, by (simp (disch := omega) only [go_sem, List.length_map] <;> repeat' first | rfl | refine ⟨?_, ?_⟩), by exact gC, _, by exact gC, by (simp (disch := omega) only [go_sem, List.take_zero, timesP, List.map_nil, List.replicate_zero] <;> repeat' first | rfl | refine ⟨?_, ?_⟩)⟩
set_option maxHeartbeats 4000000 in
theorem poTimesN (p : Po) (t : Tm) (hn : t.2 = []) {j k e f : Nat} (hp : PK p j e) (ht : PK [t] k f) (sp : SrtM p) (h0 : t.1 ≠ 0) (hd : Can t.2) (lp : p.length ≤ 1000000) (hj : j ≤ 1000000) (hk : k ≤ 1000000) (he : e ≤ 16777216) (hf : f ≤ 16777216) :
    Pure Tryz.prog 149 [poA p, .agg [.v (.bool (decide (t.1.num < 0))), lim (toL t.1.num.natAbs), lim (toL t.1.den), .v (.slice none 0 0)]] (poA (timesP mulM p t)) := by
  refine pure_intro (tok := 0) Tryz.func149 rfl Tryz.ntmps149 Tryz.results149 Tryz.call149 (by rfl) (by simp) ?_
  (focus (refine wkad (w_a @l_map w_t) w_t w_t ?_; (repeat' first | exact w_t | apply w_l); all_goals intros))
  rename_i g3 sv0
  refine r_loopE (ι := Nat) (fun i e m => i ≤ p.length ∧ e 3 = .pbox 3 g3 0 ∧ m 3 = some (.box g3 63 [.v (.bool (decide (t.1.num < 0))), lim (toL t.1.num.natAbs), lim (toL t.1.den), .v (.slice none 0 0)] false) ∧ e 12 = poA p ∧ e 13 = iv p.length ∧ e 14 = iv i ∧ ∃ sv, e 5 = .own 11 sv ∧ m 11 = some (.row sv 63 4 ((timesP mulM (p.take i) t).map tmA) 0)) (fun i => p.length - i) 0 (by rfl) ?_ ?_
  · rintro i e m ⟨hi, e3, m3, e12, e13, e14, sv, e5, m11⟩
    by_cases hlt : i < p.length
    · have hg := map_atB tmA hlt
      have hs := poTimes1 (t := t) hlt
      have ms := hp _ (List.getElem_mem hlt)
      have m1 := hp.sm he (List.getElem_mem hlt)
      have m2 := ht.sm hf (.head _)
      have d1 := sp.dom _ (List.getElem_mem hlt)
      have n1 := (sp.1 _ (List.getElem_mem hlt)).1
      have mt := (ht t (.head _)).1
      have hl : (timesP mulM (p.take i) t).length ≤ 1000000 := by rw [timesP_len, List.length_take]; omega
      generalize p[i] = s at *
      have c1 := ratMul s.1 t.1 ms.1 mt (by omega) (by omega)
      have c2 := ratSign (s.1 * t.1) (ms.1.mul mt) (by omega)
      have c3 : Pure Tryz.prog 208 [ivs s.2, ivs t.2] (ivs (trimI (mulM s.2 t.2))) := monMul s.2 t.2 m1.wd m2.wd
      rw [trim_can (mulK.dom _ _ d1 hd)] at c3
      have nz : ¬ (s.1 * t.1).num.sign = 0 := by
        rw [sgn_ne]; intro h
        rcases Rat.mul_eq_zero.1 h with h | h
        · exact n1 h
        · exact h0 h
      have nz2 : (!decide ((s.1 * t.1).num.sign = 0)) = true := by rw [decide_eq_false nz]; rfl
      have c3 : Pure Tryz.prog 208 [ivs s.2, .v (.slice none 0 0)] (ivs (mulM s.2 t.2)) := by
        rw [hn] at c3 ⊢
        exact pure_vkA c3 (.cons (.refl _) (.cons (.nil 1) .nil))
      obtain ⟨s1, s2⟩ := s
      simp only at *
      clear ms m1 m2 d1 n1 mt
      generalize s1 * t.1 = z at *
      generalize mulM s2 t.2 = w at *
      generalize timesP mulM (p.take i) t = out at *
      (focus (refine wkad (w_a e3 (w_a m3 (w_a e12 (w_a e13 (w_a e14 (w_a e5 (w_a m11 (w_a hg (w_a @l_map (w_a nz2 w_t)))))))))) (w_a c1 (w_a c2 (w_a c3 w_t))) (w_a (w_d 7 [(6, ivs w)] [9, 1009] [11, 34]) w_t) ?_; (repeat' first | exact w_t | apply w_l); all_goals intros))
      exact ⟨i + 1, ⟨by omega, by exact gW e3, by exact gW m3, by exact gW e12, by exact gW e13, by exact gS, _, by exact gC, by rw [hs, List.map_append]; exact gC⟩, by omega⟩
    · have hi2 : i = p.length := by omega
      subst hi2
      rw [List.take_length] at m11
      (focus (refine wkld (w_a e3 (w_a m3 (w_a e12 (w_a e13 (w_a e14 (w_a e5 (w_a m11 (w_a @l_map w_t)))))))) w_t (w_a m11 w_t) w_t ?_; (repeat' first | exact w_t | apply w_l); all_goals intros))
  · exact ⟨Nat.zero_le _, by exact gC, by exact gC, by exact gC, by (simp (disch := omega) only [go_sem, List.length_map] <;> repeat' first | rfl | refine ⟨?_, ?_⟩), by exact gC, _, by exact gC, by (simp (disch := omega) only [go_sem, List.take_zero, timesP, List.map_nil, List.replicate_zero] <;> repeat' first | rfl | refine ⟨?_, ?_⟩)⟩
end Go.Proofs.YtbgmnobnaplmlaaGreat
end

section
namespace Go.Proofs.YtbgmnobnaplmlaaGreat
open Go Go.RowKit Go.Pg Go.Pol
set_option linter.unusedSimpArgs false
set_option linter.unusedVariables false
set_option maxRecDepth 20000
attribute [local go_sem] Tryz.underlying3 Tryz.underlying4 Tryz.underlying43 Tryz.underlying41 Tryz.underlying39 Tryz.underlying63 Tryz.underlying69 Tryz.underlying61 Tryz.underlying70 Tryz.underlying78 sz3 by3 z3 szRat zRat szInt zInt szNat zNat szTerm byTerm zTerm szMono byMono zMono szPoly byPoly zPoly
attribute [-bool_to_prop] Bool.and_eq_decide Bool.or_eq_decide Bool.decide_beq_decide decide_eq_decide
/-- All sums of neighbours are of a moderate size. -/
def SumOk (l : List Po) (K e : Nat) : Prop := ∀ a b, PK (sumH ltM ((l.drop a).take b)) K e ∧ (sumH ltM ((l.drop a).take b)).length ≤ 1000000
theorem SumOk.take {l : List Po} {K e : Nat} (h : SumOk l K e) (k : Nat) : SumOk (l.take k) K e := fun a b => by
  rw [List.drop_take, List.take_take]; exact h a _
theorem SumOk.drop {l : List Po} {K e : Nat} (h : SumOk l K e) (k : Nat) : SumOk (l.drop k) K e := fun a b => by
  rw [List.drop_drop]; exact h _ b
theorem SumOk.all {l : List Po} {K e : Nat} (h : SumOk l K e) : PK (sumH ltM l) K e ∧ (sumH ltM l).length ≤ 1000000 := by
  have := h 0 l.length
  rwa [List.drop_zero, List.take_length] at this
set_option maxHeartbeats 4000000 in
theorem poSumN : ∀ (n : Nat) (l : List Po) {K e : Nat}, l.length = n → (∀ p ∈ l, SrtM p) → SumOk l K e → l.length ≤ 1000000 → K ≤ 1000000 → e ≤ 16777216 → Pure Tryz.prog 150 [.sl 1 (l.map poA)] (poA (sumH ltM l)) := by
  intro n
  induction n using Nat.strongRecOn with
  | _ n ih =>
    intro l K e hn hs ho hl hK he
    match l, hn, hs, ho, hl with
    | [], hn, hs, ho, hl =>
      rw [show sumH ltM [] = [] from by simp [sumH]]
      refine pure_vkR (r := .v (.slice none 0 0)) ?_ (.nil 4)
      refine pure_intro (tok := 0) Tryz.func150 rfl Tryz.ntmps150 Tryz.results150 Tryz.call150 (by rfl) (by simp) ?_
      (focus (refine wkld w_t w_t w_t w_t ?_; (repeat' first | exact w_t | apply w_l); all_goals intros))
    | [p], hn, hs, ho, hl =>
      rw [show sumH ltM [p] = p from by simp [sumH]]
      refine pure_intro (tok := 0) Tryz.func150 rfl Tryz.ntmps150 Tryz.results150 Tryz.call150 (by rfl) (by simp) ?_
      (focus (refine wkld w_t w_t w_t w_t ?_; (repeat' first | exact w_t | apply w_l); all_goals intros))
    | p :: q :: r, hn, hs, ho, hl =>
      obtain ⟨L, hL⟩ : ∃ L, L = p :: q :: r := ⟨_, rfl⟩
      have h2 : 2 ≤ L.length := by rw [hL]; simp
      have e1 : sumH ltM (p :: q :: r) = addM (sumH ltM (L.take (L.length / 2))) (sumH ltM (L.drop (L.length / 2))) := by rw [sumH, ← hL]
      rw [e1]
      rw [← hL] at hn hs ho hl ⊢
      clear e1 hL
      have s1 : ∀ u ∈ L.take (L.length / 2), SrtM u := fun u hu => hs u (List.mem_of_mem_take hu)
      have s2 : ∀ u ∈ L.drop (L.length / 2), SrtM u := fun u hu => hs u (List.mem_of_mem_drop hu)
      have o1 := (ho.take (L.length / 2)).all
      have o2 := (ho.drop (L.length / 2)).all
      have c1 := ih (L.take (L.length / 2)).length (by rw [List.length_take]; omega) (L.take (L.length / 2)) rfl s1 (ho.take _) (by rw [List.length_take]; omega) hK he
      have c2 := ih (L.drop (L.length / 2)).length (by rw [List.length_drop]; omega) (L.drop (L.length / 2)) rfl s2 (ho.drop _) (by rw [List.length_drop]; omega) hK he
      have c3 := poAdd (sumH ltM (L.take (L.length / 2))) (sumH ltM (L.drop (L.length / 2))) o1.1 o2.1 (sumH_srt ordM _ s1) (sumH_srt ordM _ s2) o1.2 o2.2 hK hK he
      clear ih s1 s2 o1 o2 ho hs
      have hd : (L.length : Int).tdiv 2 = ((L.length / 2 : Nat) : Int) := quo_nat _ 2
      have hh : L.length / 2 ≤ L.length := by omega
      rw [List.map_take] at c1
      rw [List.map_drop] at c2
      have hlm : (L.map poA).length = L.length := List.length_map ..
      have htk : (L.map poA).take L.length = L.map poA := by rw [← hlm, List.take_length]
      generalize sumH ltM (L.take (L.length / 2)) = x at *
      generalize sumH ltM (L.drop (L.length / 2)) = y at *
      generalize addM x y = z at *
      generalize L.length / 2 = h at *
      generalize L.map poA = M at *
      generalize L.length = len at *
      refine pure_intro (tok := 0) Tryz.func150 rfl Tryz.ntmps150 Tryz.results150 Tryz.call150 (by rfl) (by simp) ?_
      (focus (refine wkld (w_a hlm (w_a hd (w_a htk (w_a @l_drop0 w_t)))) (w_a c1 (w_a c2 (w_a c3 w_t))) w_t (w_a (w_d 7 [(3, poA x), (7, poA y), (8, poA z)] [] []) w_t) ?_; (repeat' first | exact w_t | apply w_l); all_goals intros))
theorem poSum (l : List Po) {K e : Nat} (hs : ∀ p ∈ l, SrtM p) (ho : SumOk l K e) (hl : l.length ≤ 1000000) (hK : K ≤ 1000000) (he : e ≤ 16777216) : Pure Tryz.prog 150 [.sl 1 (l.map poA)] (poA (sumH ltM l)) := poSumN _ l rfl hs ho hl hK he
set_option maxHeartbeats 4000000 in
theorem poMul0 (p q : Po) (a b : Po) (hab : (q.length < p.length ∧ a = q ∧ b = p) ∨ (¬ q.length < p.length ∧ a = p ∧ b = q)) {j k e f K E : Nat} (hp : PK a j e) (hq : PK b k f) (sp : SrtM a) (sq : SrtM b) (lp : a.length ≤ 1000000) (lq : b.length ≤ 1000000) (hj : j ≤ 1000000) (hk : k ≤ 1000000) (he : e ≤ 16777216) (hf : f ≤ 16777216)
    (ho : SumOk (a.map fun t => timesP mulM b t) K E) (hK : K ≤ 1000000) (hE : E ≤ 16777216) :
    Pure Tryz.prog 78 [poA p, poA q] (poA (mlM b a)) := by
  have hs : ∀ u ∈ a.map (fun t => timesP mulM b t), SrtM u := fun u hu => by
    obtain ⟨t, ht, rfl⟩ := List.mem_map.1 hu
    exact times_srt mulK sq (sp.1 t ht).1 (sp.1 t ht).2
  have cs := poSum _ hs ho (by rw [List.length_map]; exact lp) hK hE
  rw [show sumH ltM (a.map fun t => timesP mulM b t) = mlM b a from mulH_eq ordM mulK sp sq] at cs
  clear ho hs
  have loop : ∀ (e1 : Nat → AV) (m1 : Mem) (Q : AE → St → Prop), True → True := fun _ _ _ _ => trivial
  rcases hab with ⟨hlt, rfl, rfl⟩ | ⟨hlt, rfl, rfl⟩
  all_goals
    refine pure_intro (tok := 0) Tryz.func78 rfl Tryz.ntmps78 Tryz.results78 Tryz.call78 (by rfl) (by simp) ?_
    (focus (refine wkap (w_a @l_map w_t) w_t (w_r 0) ?_; (repeat' first | exact w_t | apply w_l); all_goals intros))
    rename_i sv0
    refine r_loopE (ι := Nat) (fun i e' m => i ≤ a.length ∧ e' 1 = poA b ∧ e' 18 = poA a ∧ e' 19 = iv a.length ∧ e' 20 = iv i ∧ ∃ sv, e' 5 = .own 17 sv ∧ m 17 = some (.row sv 70 1 (((a.take i).map fun t => timesP mulM b t).map poA) 0)) (fun i => a.length - i) 0 (by rfl) ?_ ?_
    · rintro i e' m ⟨hi, e1, e18, e19, e20, sv, e5, m17⟩
      by_cases hlt : i < a.length
      · have hg := map_atB tmA hlt
        have ht : PK [a[i]] j e := fun u hu => by rw [List.mem_singleton] at hu; subst hu; exact hp _ (List.getElem_mem hlt)
        have c1 := poTimes b a[i] hq ht sq (sp.1 _ (List.getElem_mem hlt)).1 (sp.1 _ (List.getElem_mem hlt)).2 lq hk hj hf he
        have hsn : ((a.take (i + 1)).map fun t => timesP mulM b t).map poA = ((a.take i).map fun t => timesP mulM b t).map poA ++ [poA (timesP mulM b a[i])] := by
          rw [List.take_succ_eq_append_getElem hlt, List.map_append, List.map_append]; rfl
        have hl : (((a.take i).map fun t => timesP mulM b t).map poA).length = i := by rw [List.length_map, List.length_map, List.length_take]; omega
        generalize a[i] = t at *
        generalize ((a.take i).map fun t => timesP mulM b t).map poA = out at *
        generalize timesP mulM b t = tm at *
        (focus (refine wkap (w_a e1 (w_a e18 (w_a e19 (w_a e20 (w_a e5 (w_a m17 (w_a hg (w_a hl (w_a @l_map w_t))))))))) (w_a c1 w_t) (w_r 0) ?_; (repeat' first | exact w_t | apply w_l); all_goals intros))
        exact ⟨i + 1, ⟨by omega, by exact gW e1, by exact gW e18, by exact gW e19, by exact gS, _, by exact gC, by rw [hsn]; exact gC⟩, by omega⟩
      · have hi2 : i = a.length := by omega
        subst hi2
        rw [List.take_length] at m17
        generalize (a.map fun t => timesP mulM b t).map poA = out at *
        (focus (refine wkax (w_a e1 (w_a e18 (w_a e19 (w_a e20 (w_a e5 (w_a m17 (w_a @l_map w_t))))))) w_t w_t (w_a cs w_t) w_t w_t (w_r 0) ?_; (repeat' first | exact w_t | apply w_l); all_goals intros))
        (all_goals (try simp (disch := omega) only [go_sem, decide_eq_true, decide_eq_false, if_pos, if_neg, Int.reduceAdd, Int.reduceSub, Int.reduceToNat, Int.zero_add])); (all_goals first | done | rfl | (congr 2; first | done | omega | (rw [Bool.eq_iff_iff]; simp only [bool_to_prop, Bool.false_eq_true, iff_true, true_iff, iff_false, false_iff]; omega)) | skip)
    · exact ⟨Nat.zero_le _, by exact gC, by exact gC, by (simp (disch := omega) only [go_sem, List.length_map] <;> repeat' first | rfl | refine ⟨?_, ?_⟩), by exact gC, _, by exact gC, by (simp (disch := omega) only [go_sem, List.take_zero, List.map_nil, List.replicate_zero] <;> repeat' first | rfl | refine ⟨?_, ?_⟩)⟩
/-- The product's parts, as the program lays them. -/
def partsM (p q : Po) : List Po := if q.length < p.length then q.map fun t => timesP mulM p t else p.map fun t => timesP mulM q t
theorem poMul (p q : Po) {j k e f K E : Nat} (hp : PK p j e) (hq : PK q k f) (sp : SrtM p) (sq : SrtM q) (lp : p.length ≤ 1000000) (lq : q.length ≤ 1000000) (hj : j ≤ 1000000) (hk : k ≤ 1000000) (he : e ≤ 16777216) (hf : f ≤ 16777216)
    (ho : SumOk (partsM p q) K E) (hK : K ≤ 1000000) (hE : E ≤ 16777216) :
    Pure Tryz.prog 78 [poA p, poA q] (poA (mlM p q)) := by
  unfold partsM at ho
  by_cases h : q.length < p.length
  · rw [if_pos h] at ho
    exact poMul0 p q q p (.inl ⟨h, rfl, rfl⟩) hq hp sq sp lq lp hk hj hf he ho hK hE
  · rw [if_neg h] at ho
    have := poMul0 p q p q (.inr ⟨h, rfl, rfl⟩) hp hq sp sq lp lq hj hk he hf ho hK hE
    rwa [show mlM q p = mlM p q from mulR_comm ordM mulK sq sp] at this
/-- A list of at most one has no sums but itself. -/
theorem SumOk.one {l : List Po} {K e : Nat} (hl : l.length ≤ 1) (h : ∀ p ∈ l, PK p K e ∧ p.length ≤ 1000000) : SumOk l K e := fun a b => by
  have h0 : PK (sumH ltM []) K e ∧ (sumH ltM []).length ≤ 1000000 := by rw [show sumH ltM [] = [] from by simp [sumH]]; exact ⟨.nil, by simp⟩
  match l, hl, h with
  | [], _, _ => simpa using h0
  | [p], _, h =>
    match a, b with
    | 0, 0 => simpa using h0
    | 0, b + 1 => simp only [List.drop_zero, List.take_succ_cons, List.take_nil]; rw [show sumH ltM [p] = p from by simp [sumH]]; exact h p (.head _)
    | a + 1, b => simpa using h0
theorem poMulVar (p : Po) (v : Nat) {j e : Nat} (hp : PK p j e) (sp : SrtM p) (lp : p.length ≤ 1000000) (hj : j ≤ 999999) (he : e ≤ 16777215) : Pure Tryz.prog 78 [poA p, poA (varM v)] (poA (mlM p (varM v))) := by
  have hv : (varM v).length ≤ 1 := by unfold varM; split <;> simp
  refine poMul p (varM v) hp (varM_pk v) sp (varM_srt v) lp (by omega) (by omega) (by omega) (by omega) (by omega) (K := j + 1) (E := e + 1) ?_ (by omega) (by omega)
  unfold partsM
  split
  · refine SumOk.one (by rw [List.length_map]; exact hv) fun u hu => ?_
    obtain ⟨t, ht, rfl⟩ := List.mem_map.1 hu
    exact ⟨hp.times (fun w hw => by rw [List.mem_singleton] at hw; subst hw; exact varM_pk v _ ht), by rw [timesP_len]; exact lp⟩
  · rename_i h
    refine SumOk.one (by rw [List.length_map]; omega) fun u hu => ?_
    obtain ⟨t, ht, rfl⟩ := List.mem_map.1 hu
    refine ⟨((varM_pk v).times (fun w hw => by rw [List.mem_singleton] at hw; subst hw; exact hp _ ht)).mono (by omega) (by omega), by rw [timesP_len]; omega⟩
theorem poScale (p : Po) (a : Rat) {j k e : Nat} (hp : PK p j e) (ha : Sz a k) (sp : SrtM p) (lp : p.length ≤ 1000000) (hj : j ≤ 1000000) (hk : k ≤ 1000000) (he : e ≤ 16777216) : Pure Tryz.prog 109 [poA p, ratQ a] (poA (sclM a p)) := by
  have cs := ratSign a ha (by omega)
  unfold sclM
  by_cases h : a = 0
  · rw [if_pos h]
    have hz : a.num.sign = 0 := by rw [sgn_ne]; exact h
    refine pure_vkR (r := .v (.slice none 0 0)) ?_ (.nil 4)
    refine pure_intro (tok := 0) Tryz.func109 rfl Tryz.ntmps109 Tryz.results109 Tryz.call109 (by rfl) (by simp) ?_
    (focus (refine wklp (w_a hz w_t) (w_a cs w_t) w_t (w_r 0) ?_; (repeat' first | exact w_t | apply w_l); all_goals intros))
  · rw [if_neg h]
    have hz : ¬ a.num.sign = 0 := by rw [sgn_ne]; exact h
    have ct := poTimesN p (a, []) rfl (j := j) (k := k) (e := e) (f := 0) hp (fun u hu => by rw [List.mem_singleton] at hu; subst hu; exact ⟨ha, by simp, fun i => by show 0 ≤ gI [] i ∧ gI [] i ≤ _; rw [gI_out (Nat.zero_le _)]; omega⟩) sp h can_nil lp hj hk he (by omega)
    rw [times_unit] at ct
    simp only at ct
    generalize scaleP a p = r at *
    generalize a.num.sign = z at *
    refine pure_intro (tok := 0) Tryz.func109 rfl Tryz.ntmps109 Tryz.results109 Tryz.call109 (by rfl) (by simp) ?_
    (focus (refine wklp w_t (w_a cs (w_a ct w_t)) w_t (w_r 0) ?_; (repeat' first | exact w_t | apply w_l); all_goals intros))
theorem poNeg (p : Po) {j e : Nat} (hp : PK p j e) (sp : SrtM p) (lp : p.length ≤ 1000000) (hj : j ≤ 1000000) (he : e ≤ 16777216) : Pure Tryz.prog 110 [poA p] (poA (scaleP (-1) p)) := by
  have c := poScale p (-1) hp ((nat_sz1 1 (by omega)).neg) sp lp hj (by omega) he
  have co := ratOfM
  rw [show sclM (-1) p = scaleP (-1) p from if_neg neg1] at c
  generalize scaleP (-1) p = r at *
  generalize (-1 : Rat) = q at *
  refine pure_intro (tok := 0) Tryz.func110 rfl Tryz.ntmps110 Tryz.results110 Tryz.call110 (by rfl) (by simp) ?_
  (focus (refine wklp w_t (w_a co (w_a c w_t)) w_t (w_r 0) ?_; (repeat' first | exact w_t | apply w_l); all_goals intros))
theorem PK.neg {q : Po} {k e : Nat} (hq : PK q k e) : PK (scaleP (-1) q) k e := fun t ht => by
  obtain ⟨s, hs, rfl⟩ := List.mem_map.1 ht
  refine ⟨?_, (hq s hs).2⟩
  show Sz (s.1 * -1) k
  rw [show s.1 * -1 = -s.1 by grind]
  exact (hq s hs).1.neg
theorem scale_len (a : Rat) (p : Po) : (scaleP a p).length = p.length := by unfold scaleP; simp
theorem poSub (p q : Po) {j k e : Nat} (hp : PK p j e) (hq : PK q k e) (sp : SrtM p) (sq : SrtM q) (lp : p.length ≤ 1000000) (lq : q.length ≤ 1000000) (hj : j ≤ 1000000) (hk : k ≤ 1000000) (he : e ≤ 16777216) :
    Pure Tryz.prog 77 [poA p, poA q] (poA (subM p q)) := by
  have c1 := poNeg q hq sq lq hk he
  have c2 := poAdd p (scaleP (-1) q) hp hq.neg sp (scale_srt sq neg1) lp (by rw [scale_len]; exact lq) hj hk he
  show Pure _ _ _ (poA (addM p (scaleP (-1) q)))
  generalize scaleP (-1) q = n at *
  generalize addM p n = r at *
  refine pure_intro (tok := 0) Tryz.func77 rfl Tryz.ntmps77 Tryz.results77 Tryz.call77 (by rfl) (by simp) ?_
  (focus (refine wklp w_t (w_a c1 (w_a c2 w_t)) w_t (w_r 0) ?_; (repeat' first | exact w_t | apply w_l); all_goals intros))
theorem unit_set (v : Nat) : ((List.replicate (v + 1) (iv 0)).set v (iv 1)) = (unitM v).map iv := by
  unfold unitM
  rw [List.map_append, List.map_replicate, List.replicate_succ', List.set_append_right _ _ (by simp)]
  simp
theorem poSingle (c : Rat) (m : List Int) (h : c ≠ 0) {k : Nat} (hc : Sz c k) (hk : k ≤ 1000000) : Pure Tryz.prog 210 [ratQ c, ivs m] (poA [(c, m)]) := by
  have cs := ratSign c hc (by omega)
  have hz : ¬ c.num.sign = 0 := by rw [sgn_ne]; exact h
  generalize c.num.sign = z at *
  refine pure_intro (tok := 0) Tryz.func210 rfl Tryz.ntmps210 Tryz.results210 Tryz.call210 (by rfl) (by simp) ?_
  (focus (refine wklp w_t (w_a cs w_t) w_t (w_r 0) ?_; (repeat' first | exact w_t | apply w_l); all_goals intros))
theorem poVar (v : Nat) (hv : v < 1000) : Pure Tryz.prog 157 [iv v] (poA (varM v)) := by
  unfold varM
  by_cases h : v < 64
  · rw [if_pos h]
    have c1 := ratOf 1 (by omega)
    rw [show ((1 : Nat) : Rat) = 1 from rfl] at c1
    have c2 := poSingle 1 (unitM v) (by decide) (nat_sz1 1 (by omega)) (by omega)
    have hu : (iv 0 :: List.replicate v (iv 0)).set v (iv 1) = (unitM v).map iv := by rw [← List.replicate_succ]; exact unit_set v
    generalize (1 : Rat) = q at *
    have hl : (List.replicate (v + 1) (iv 0)).length = v + 1 := by simp
    refine pure_intro (tok := 0) Tryz.func157 rfl Tryz.ntmps157 Tryz.results157 Tryz.call157 (by rfl) (by simp) ?_
    (focus (refine wkax (w_a hl (w_a hu w_t)) (w_a c1 w_t) w_t (w_a c2 w_t) w_t w_t (w_r 0) ?_; (repeat' first | exact w_t | apply w_l); all_goals intros))
    (all_goals (try simp (disch := omega) only [go_sem, decide_eq_true, decide_eq_false, if_pos, if_neg, Int.reduceAdd, Int.reduceSub, Int.reduceToNat, Int.zero_add])); (all_goals first | done | rfl | (congr 2; first | done | omega | (rw [Bool.eq_iff_iff]; simp only [bool_to_prop, Bool.false_eq_true, iff_true, true_iff, iff_false, false_iff]; omega)) | skip)
  · rw [if_neg h]
    refine pure_vkR (r := .v (.slice none 0 0)) ?_ (.nil 4)
    refine pure_intro (tok := 0) Tryz.func157 rfl Tryz.ntmps157 Tryz.results157 Tryz.call157 (by rfl) (by simp) ?_
    (focus (refine wklp w_t w_t w_t (w_r 0) ?_; (repeat' first | exact w_t | apply w_l); all_goals intros))
end Go.Proofs.YtbgmnobnaplmlaaGreat
end

section
namespace Go.Proofs.YtbgmnobnaplmlaaGreat
open Go Go.RowKit Go.Pg Go.Pol
set_option linter.unusedSimpArgs false
set_option linter.unusedVariables false
set_option maxRecDepth 20000
attribute [local go_sem] Tryz.underlying3 Tryz.underlying4 Tryz.underlying43 Tryz.underlying41 Tryz.underlying39 Tryz.underlying63 Tryz.underlying69 Tryz.underlying61 Tryz.underlying70 Tryz.underlying78 sz3 by3 z3 szRat zRat szInt zInt szNat zNat szTerm byTerm zTerm szMono byMono zMono szPoly byPoly zPoly
attribute [-bool_to_prop] Bool.and_eq_decide Bool.or_eq_decide Bool.decide_beq_decide decide_eq_decide
def cmpT (s t : Tm) : Int := if lexC s.2 t.2 (max s.2.length t.2.length) ≠ 0 then lexC s.2 t.2 (max s.2.length t.2.length) else cmpQ s.1 t.1
def cmpPo : Po → Po → Int
  | [], [] => 0
  | [], _ :: _ => -1
  | _ :: _, [] => 1
  | s :: p, t :: q => if cmpT s t ≠ 0 then cmpT s t else cmpPo p q
end Go.Proofs.YtbgmnobnaplmlaaGreat
end

section
namespace Go.Proofs.YtbgmnobnaplmlaaGreat
open Go Go.RowKit Go.Pg Go.Pol
set_option linter.unusedSimpArgs false
set_option linter.unusedVariables false
set_option maxRecDepth 20000
attribute [local go_sem] Tryz.underlying3 Tryz.underlying115 Tryz.underlying4 Tryz.underlying178 Tryz.underlying31 Tryz.underlying43 Tryz.underlying41 Tryz.underlying39 Tryz.underlying52 Tryz.underlying36 Tryz.underlying61 Tryz.underlying63 Tryz.underlying70 sz3 by3 z3 szErr zErr szRat zRat szNat zNat szInt zInt szB zB szPt byPt zPt szMono szTerm byTerm zTerm szPoly byPoly zPoly
attribute [-bool_to_prop] Bool.and_eq_decide Bool.or_eq_decide Bool.decide_beq_decide decide_eq_decide
/-! ### values of polynomials -/
theorem pow_sz {a : Rat} {s : Nat} (h : Sz a s) : ∀ n : Nat, Sz (a ^ n) (n * s + 1)
  | 0 => by rw [Rat.pow_zero]; exact (nat_sz1 1 (by omega)).mono (by omega)
  | n + 1 => by rw [Rat.pow_succ]; exact ((pow_sz h n).mul h).mono (by rw [Nat.succ_mul]; omega)
theorem pow_sq (a : Rat) : ∀ n : Nat, (a * a) ^ n = a ^ (2 * n)
  | 0 => by rw [Nat.mul_zero, Rat.pow_zero, Rat.pow_zero]
  | n + 1 => by rw [Rat.pow_succ, pow_sq a n, Nat.mul_succ, Rat.pow_succ, Rat.pow_succ, Rat.mul_assoc]
abbrev evP (x : Nat → Rat) (p : Po) : Rat := evl (mv x) p
theorem evP_add (x : Nat → Rat) {p q : Po} (hp : SrtM p) (hq : SrtM q) : evP x (addM p q) = evP x p + evP x q := evl_addP ordM _ (fun t ht => (hp.1 t ht).2) (fun t ht => (hq.1 t ht).2)
theorem evP_sub (x : Nat → Rat) {p q : Po} (hp : SrtM p) (hq : SrtM q) : evP x (subM p q) = evP x p - evP x q := by
  have h := evP_add x hp (scale_srt hq neg1)
  rw [show evP x (scaleP (-1) q) = evP x q * -1 from evl_scale _ _ _] at h
  show evP x (addM p (scaleP (-1) q)) = _
  rw [h]; grind
theorem evP_scl (x : Nat → Rat) (a : Rat) (p : Po) : evP x (sclM a p) = a * evP x p := by
  unfold sclM
  split
  · rename_i h; rw [h, Rat.zero_mul]; rfl
  · rw [show evP x (scaleP a p) = evP x p * a from evl_scale _ _ _, Rat.mul_comm]
theorem evP_mul (x : Nat → Rat) {p q : Po} (hp : SrtM p) (hq : SrtM q) : evP x (mlM p q) = evP x p * evP x q := evl_mulR ordM mulK (fun a b ha hb => mv_mul x ha hb) hp hq
theorem mvN_unit (x : Nat → Rat) (v : Nat) : ∀ n, mvN x (unitM v) n = if v < n then x v else 1
  | 0 => rfl
  | n + 1 => by
    show mvN x (unitM v) n * x n ^ (gI (unitM v) n).toNat = _
    rw [mvN_unit x v n, gI_unit]
    by_cases h : n = v
    · subst h
      rw [if_neg (by omega), if_pos rfl, if_pos (by omega)]
      rw [show (1 : Int).toNat = 1 from rfl, Rat.pow_succ, Rat.pow_zero, Rat.one_mul, Rat.one_mul]
    · rw [if_neg h]
      rw [show (0 : Int).toNat = 0 from rfl, Rat.pow_zero, Rat.mul_one]
      by_cases h2 : v < n
      · rw [if_pos h2, if_pos (by omega)]
      · rw [if_neg h2, if_neg (by omega)]
theorem evP_var (x : Nat → Rat) {v : Nat} (hv : v < 64) : evP x (varM v) = x v := by
  unfold varM
  rw [if_pos hv]
  show 1 * mvN x (unitM v) (unitM v).length + 0 = x v
  rw [mvN_unit, unitM_len, if_pos (by omega)]
  grind
set_option maxHeartbeats 4000000 in
theorem rpPow : ∀ (f n : Nat), n ≤ f → n ≤ 1000000 → ∀ (a : Rat) (s : Nat), Sz a s → n * s ≤ 1000000 → Pure Tryz.prog 130 [ratQ a, iv n] (ratQ (a ^ n))
  | f, 0, _, _, a, s, _, _ => by
    have c1 : Pure Tryz.prog 18 [iv 1] (ratQ 1) := qOf 1 (by omega)
    rw [Rat.pow_zero]
    refine pure_intro (tok := 0) Tryz.func130 rfl Tryz.ntmps130 Tryz.results130 Tryz.call130 (by rfl) (by simp) ?_
    (focus (refine wklp w_t (w_a c1 w_t) w_t (w_r 0) ?_; (repeat' first | exact w_t | apply w_l); all_goals intros))
  | 0, n + 1, h, _, _, _, _, _ => by omega
  | f + 1, n + 1, hf, hn, a, s, hs, hb => by
    have hs2 : s ≤ 1000000 := by rw [Nat.succ_mul] at hb; omega
    have hd : (n + 1) / 2 * (s + s) ≤ 1000000 := by
      refine Nat.le_trans ?_ hb
      rw [← Nat.two_mul, ← Nat.mul_assoc]
      exact Nat.mul_le_mul_right _ (by omega)
    have c1 := qMul a a hs hs (by omega) (by omega)
    have c2 := rpPow f ((n + 1) / 2) (by omega) (by omega) (a * a) (s + s) (hs.mul hs) hd
    have c3 := qMul ((a * a) ^ ((n + 1) / 2)) a (pow_sz (hs.mul hs) _) hs (by omega) (by omega)
    have hq : ((n + 1 : Nat) : Int).tdiv 2 = (((n + 1) / 2 : Nat) : Int) := quo_nat (n + 1) 2
    have hr : ((n + 1 : Nat) : Int).tmod 2 = (((n + 1) % 2 : Nat) : Int) := rem_nat (n + 1) 2
    have e : a ^ (n + 1) = if (n + 1) % 2 = 1 then (a * a) ^ ((n + 1) / 2) * a else (a * a) ^ ((n + 1) / 2) := by
      rw [pow_sq]
      split
      · rw [← Rat.pow_succ]
        congr 1; omega
      · congr 1; omega
    rw [e]
    have h2 : (n + 1) % 2 = 0 ∨ (n + 1) % 2 = 1 := by omega
    have h0 : ((n + 1 : Nat) : Int) ≠ 0 := by omega
    have hkb : (n + 1) / 2 ≤ 1000000 := by omega
    generalize (n + 1) / 2 = k at *
    generalize (n + 1) % 2 = z at *
    generalize ((n + 1 : Nat) : Int) = N at *
    generalize (a * a) ^ k * a = u at *
    generalize (a * a) ^ k = w at *
    generalize a * a = b at *
    clear e hs hb hd
    rcases h2 with rfl | rfl
    · rw [if_neg (by omega)]
      refine pure_intro (tok := 0) Tryz.func130 rfl Tryz.ntmps130 Tryz.results130 Tryz.call130 (by rfl) (by simp) ?_
      (focus (refine wkax (w_a hq (w_a hr (w_a h0 (w_a hkb w_t)))) w_t w_t w_t (w_a c1 (w_a c2 w_t)) w_t (w_r 0) ?_; (repeat' first | exact w_t | apply w_l); all_goals intros))
      (all_goals (try simp (disch := omega) only [go_sem, decide_eq_true, decide_eq_false, if_pos, if_neg, Int.reduceAdd, Int.reduceSub, Int.reduceToNat, Int.zero_add])); (all_goals first | done | rfl | (congr 2; first | done | omega | (rw [Bool.eq_iff_iff]; simp only [bool_to_prop, Bool.false_eq_true, iff_true, true_iff, iff_false, false_iff]; omega)) | skip)
    · rw [if_pos rfl]
      refine pure_intro (tok := 0) Tryz.func130 rfl Tryz.ntmps130 Tryz.results130 Tryz.call130 (by rfl) (by simp) ?_
      (focus (refine wkax (w_a hq (w_a hr (w_a h0 (w_a hkb w_t)))) w_t w_t w_t (w_a c1 (w_a c2 (w_a c3 w_t))) w_t (w_r 0) ?_; (repeat' first | exact w_t | apply w_l); all_goals intros))
      (all_goals (try simp (disch := omega) only [go_sem, decide_eq_true, decide_eq_false, if_pos, if_neg, Int.reduceAdd, Int.reduceSub, Int.reduceToNat, Int.zero_add])); (all_goals first | done | rfl | (congr 2; first | done | omega | (rw [Bool.eq_iff_iff]; simp only [bool_to_prop, Bool.false_eq_true, iff_true, true_iff, iff_false, false_iff]; omega)) | skip)
end Go.Proofs.YtbgmnobnaplmlaaGreat
end

section
namespace Go.Proofs.YtbgmnobnaplmlaaGreat
open Go Go.RowKit Go.Pg Go.Pol
set_option linter.unusedSimpArgs false
set_option linter.unusedVariables false
set_option maxRecDepth 20000
attribute [local go_sem] Tryz.underlying3 Tryz.underlying115 Tryz.underlying4 Tryz.underlying178 Tryz.underlying31 Tryz.underlying43 Tryz.underlying41 Tryz.underlying39 Tryz.underlying52 Tryz.underlying36 Tryz.underlying45 Tryz.underlying72 Tryz.underlying27 Tryz.underlying56 Tryz.underlying28 Tryz.underlying30 Tryz.underlying61 Tryz.underlying63 Tryz.underlying70 sz3 by3 z3 szErr zErr szRat zRat szNat zNat szInt zInt szB zB szPt byPt zPt szMono szTerm byTerm zTerm szPoly byPoly zPoly szCoord byCoord zCoord szSlC zSlC szFrame zFrame szVar byVar zVar szSlV zSlV
attribute [-bool_to_prop] Bool.and_eq_decide Bool.or_eq_decide Bool.decide_beq_decide decide_eq_decide
/-! ### values of polynomials: the reference's evaluation -/
abbrev rqC (q : Rat) : List AV := [.v (.bool (decide (q.num < 0))), lim (toL q.num.natAbs), lim (toL q.den)]
theorem szZ (z : Int) (h : z.natAbs < 65536) : Sz (z : Rat) 1 := Sz.int (toL_len_lt.2 (by omega)) (by omega)
theorem zOfN (n : Nat) (hn : n < 60000) : Pure Tryz.prog 56 [iv (-((n : Int) + 1))] (.agg [.v (.bool true), lim (toL (n + 1))]) := by
  have c1 := refOf n (by omega)
  have c2 := refOf 1 (by omega)
  have lg1 : ∀ m, m ≤ 60001 → (toL m).length ≤ 1 := fun m hm => toL_len_lt.2 (by omega)
  have c3 := rAdd n 1 (by have := lg1 n (by omega); omega) (by have := lg1 1 (by omega); omega)
  have c4 := zOf' true (n + 1) (by have := lg1 (n + 1) (by omega); omega)
  rw [show intZ (zI true (n + 1)) = .agg [.v (.bool true), lim (toL (n + 1))] from by
    have h1 : zI true (n + 1) = -((n : Int) + 1) := by simp [zI]
    rw [h1]
    show AV.agg [.v (.bool (decide (-((n : Int) + 1) < 0))), lim (toL (-((n : Int) + 1)).natAbs)] = _
    rw [decide_eq_true (by omega), show (-((n : Int) + 1)).natAbs = n + 1 by omega]] at c4
  have e1 : -((n : Int) + 1) + 1 = -(n : Int) := by omega
  have e2 : (0 : Int) - -(n : Int) = (n : Int) := by omega
  have h0 : -((n : Int) + 1) < 0 := by omega
  generalize hz : -((n : Int) + 1) = z at *
  generalize toL n = A at *
  generalize toL 1 = B at *
  generalize toL (n + 1) = C at *
  refine pure_intro (tok := 0) Tryz.func56 rfl Tryz.ntmps56 Tryz.results56 Tryz.call56 (by rfl) (by simp) ?_
  (focus (refine wkax (w_a h0 (w_a e1 (w_a e2 (w_a hn w_t)))) (w_a c3 (w_a c4 w_t)) w_t w_t (w_a c1 (w_a c2 w_t)) w_t (w_r 0) ?_; (repeat' first | exact w_t | apply w_l); all_goals intros))
  (all_goals (try simp (disch := omega) only [go_sem, decide_eq_true, decide_eq_false, if_pos, if_neg, Int.reduceAdd, Int.reduceSub, Int.reduceToNat, Int.zero_add])); (all_goals first | done | rfl | (congr 2; first | done | omega | (rw [Bool.eq_iff_iff]; simp only [bool_to_prop, Bool.false_eq_true, iff_true, true_iff, iff_false, false_iff]; omega)) | skip)
theorem qOfZ (z : Int) (hz : z.natAbs < 60000) : Pure Tryz.prog 18 [iv z] (ratQ (z : Rat)) := by
  by_cases h : 0 ≤ z
  · obtain ⟨n, rfl⟩ : ∃ n : Nat, z = n := ⟨z.toNat, by omega⟩
    exact qOf n (by omega)
  · obtain ⟨n, rfl⟩ : ∃ n : Nat, z = -((n : Int) + 1) := ⟨z.natAbs - 1, by omega⟩
    have c1 := zOfN n (by omega)
    have c2 := refOf 1 (by omega)
    have lg1 : ∀ m, m ≤ 60001 → (toL m).length ≤ 1 := fun m hm => toL_len_lt.2 (by omega)
    have c3 := qOver true (n + 1) 1 (by have := lg1 (n + 1) (by omega); omega) (by have := lg1 1 (by omega); omega) (by omega)
    rw [show mkRat (zI true (n + 1)) 1 = ((-((n : Int) + 1) : Int) : Rat) from by rw [show zI true (n + 1) = -((n : Int) + 1) from by simp [zI]]; exact Rat.mkRat_one _] at c3
    have c3 : Pure Tryz.prog 55 [.agg [.v (.bool true), lim (toL (n + 1))], lim (toL 1)] (ratQ ((-((n : Int) + 1) : Int) : Rat)) := c3
    generalize ((-((n : Int) + 1) : Int) : Rat) = r at *
    generalize -((n : Int) + 1) = z at *
    generalize toL (n + 1) = A at *
    generalize toL 1 = B at *
    refine pure_intro (tok := 0) Tryz.func18 rfl Tryz.ntmps18 Tryz.results18 Tryz.call18 (by rfl) (by simp) ?_
    (focus (refine wklp w_t (w_a c1 (w_a c2 (w_a c3 w_t))) w_t (w_r 0) ?_; (repeat' first | exact w_t | apply w_l); all_goals intros))
set_option maxHeartbeats 8000000 in
/-- The value of a polynomial. -/
theorem rpEval (p : Po) (xs : List Rat) {k x0 s K : Nat} (hp : PK p k x0) (hx : ∀ j, j < xs.length → Sz (xs.getD j 0) s) (he : x0 * s ≤ 1000000) (he2 : x0 ≤ 1000000) (hk : k ≤ 1000000) (hs : 1 ≤ s) (lp : p.length ≤ 1000000) (lx : xs.length ≤ 1000000)
    (hl : ∀ t ∈ p, t.2.length ≤ xs.length) (hm : ∀ t ∈ p, ∀ n, n ≤ t.2.length → Sz (t.1 * mvN (fun j => xs.getD j 0) t.2 n) K)
    (hsum : ∀ i, i ≤ p.length → Sz (evP (fun j => xs.getD j 0) (p.take i)) K) (hK : K ≤ 900000) :
    Pure Tryz.prog 58 [poA p, .sl 3 (xs.map ratQ)] (.tup [ratQ (evP (fun j => xs.getD j 0) p), iv 0]) := by
  have hlp : (p.map tmA).length = p.length := List.length_map ..
  have hlx : (xs.map ratQ).length = xs.length := List.length_map ..
  have hgp : ∀ i (h : i < p.length), (p.map tmA).getD i .u = tmA p[i] := fun i h => map_atB tmA h
  have hgx : ∀ i, i < xs.length → (xs.map ratQ).getD i .u = ratQ (xs.getD i 0) := fun i h => by rw [map_atB ratQ h, List.getD_eq_getElem?_getD, List.getElem?_eq_getElem h]; rfl
  have c0 : Pure Tryz.prog 18 [iv 0] (ratQ 0) := qOf 0 (by omega)
  have hsz : ∀ i (h : i < p.length), Sz p[i].1 k := fun i h => (hp _ (List.getElem_mem h)).1
  have htk : ∀ i (h : i < p.length), evP (fun j => xs.getD j 0) (p.take (i + 1)) = evP (fun j => xs.getD j 0) (p.take i) + p[i].1 * mv (fun j => xs.getD j 0) p[i].2 := fun i h => by
    rw [List.take_succ_eq_append_getElem h, show evP (fun j => xs.getD j 0) (p.take i ++ [p[i]]) = _ from evl_app _ _ _]
    congr 1
    show p[i].1 * _ + 0 = _
    rw [Rat.add_zero]
  have hev : evP (fun j => xs.getD j 0) p = evP (fun j => xs.getD j 0) (p.take p.length) := by rw [List.take_length]
  rw [hev]
  generalize hS : (fun i => evP (fun j => xs.getD j 0) (p.take i)) = S at *
  have hS0 : S 0 = 0 := by rw [← hS]; rfl
  have hSi : ∀ i, evP (fun j => xs.getD j 0) (p.take i) = S i := fun i => by rw [← hS]
  simp only [hSi] at htk hsum ⊢
  clear hev
  show Pure _ _ [.sl 4 (p.map tmA), .sl 3 (xs.map ratQ)] _
  generalize p.map tmA = L at *
  generalize hX : xs.map ratQ = X at *
  refine pure_intro (tok := 0) Tryz.func58 rfl Tryz.ntmps58 Tryz.results58 Tryz.call58 (by rfl) (by simp) ?_
  (focus (refine wkad w_t (w_a c0 w_t) w_t ?_; (repeat' first | exact w_t | apply w_l); all_goals intros))
  rename_i g4 g6
  refine r_loopE (ι := Nat) (fun i e m => i ≤ p.length ∧ e 0 = .sl 4 L ∧ e 1 = .sl 3 X ∧ e 4 = .pbox 4 g4 0 ∧ e 6 = .pbox 6 g6 0 ∧ m 6 = some (.box g6 43 (rqC 0) false) ∧ (∃ c4, m 4 = some (.box g4 43 c4 false) ∧ c4.length = 3) ∧ e 7 = iv i) (fun i => p.length - i) 0 (by rfl) ?_ ?_
  · rintro i e m ⟨hi, e0, e1, e4, e6, m6, ⟨c4, m4, hc4⟩, e7⟩
    by_cases hlt : i < p.length
    · have hg := hgp i hlt
      have hle := hl _ (List.getElem_mem hlt)
      have hlm : (p[i].2.map iv).length = p[i].2.length := List.length_map ..
      generalize p[i] = t at *
      obtain ⟨q, mn⟩ := t
      simp only at hle hlm
      have hg : L.getD i .u = .agg [.v (.bool (decide (q.num < 0))), lim (toL q.num.natAbs), lim (toL q.den), .sl 1 (mn.map iv)] := hg
      generalize mn.map iv = MN at *
      (focus (refine wkad (w_a e0 (w_a e1 (w_a e4 (w_a e6 (w_a e7 (w_a m6 (w_a m4 (w_a hlp (w_a hlx (w_a hg (w_a hlm (w_a hle w_t)))))))))))) w_t w_t ?_; (repeat' first | exact w_t | apply w_l); all_goals intros))
      exact ⟨i + 1, ⟨by omega, by exact gW e0, by exact gW e1, by exact gW e4, by exact gW e6, by exact gW m6, ⟨c4, by exact gW m4, hc4⟩, by exact gS⟩, by omega⟩
    · (focus (refine wkad (w_a e0 (w_a e1 (w_a e4 (w_a e6 (w_a e7 (w_a m6 (w_a m4 (w_a hlp (w_a hlx w_t))))))))) w_t w_t ?_; (repeat' first | exact w_t | apply w_l); all_goals intros))
      refine r_loopE (ι := Nat) (fun i e m => i ≤ p.length ∧ e 0 = .sl 4 L ∧ e 1 = .sl 3 X ∧ e 4 = .pbox 4 g4 0 ∧ e 6 = .pbox 6 g6 0 ∧ m 6 = some (.box g6 43 (rqC (S i)) false) ∧ (∃ c4, m 4 = some (.box g4 43 c4 false) ∧ c4.length = 3) ∧ e 8 = iv i) (fun i => p.length - i) 0 (by rfl) ?_ ?_
      · rintro i e m ⟨hi, e0, e1, e4, e6, m6, ⟨c4, m4, hc4⟩, e8⟩
        by_cases hlt : i < p.length
        · have hg := hgp i hlt
          have hle := hl _ (List.getElem_mem hlt)
          have hlm : (p[i].2.map iv).length = p[i].2.length := List.length_map ..
          have hgm : ∀ j (h : j < p[i].2.length), (p[i].2.map iv).getD j .u = iv p[i].2[j] := fun j h => map_atB iv h
          have hmi := hm _ (List.getElem_mem hlt)
          have hpi := hp _ (List.getElem_mem hlt)
          have cA := qAdd (S i) (p[i].1 * mv (fun j => xs.getD j 0) p[i].2) (hsum i (by omega)) (hmi _ (Nat.le_refl _)) (by omega) (by omega)
          rw [← htk i hlt] at cA
          generalize p[i] = t at *
          obtain ⟨q, mn⟩ := t
          simp only at hle hlm hgm hmi hpi cA
          have hg : L.getD i .u = .agg [.v (.bool (decide (q.num < 0))), lim (toL q.num.natAbs), lim (toL q.den), .sl 1 (mn.map iv)] := hg
          unfold mv at cA
          generalize hMN : mn.map iv = MN at *
          (focus (refine wkad (w_a e0 (w_a e1 (w_a e4 (w_a e6 (w_a e8 (w_a m6 (w_a m4 (w_a hlp (w_a hlx (w_a hg (w_a hlm (w_a hle w_t)))))))))))) w_t w_t ?_; (repeat' first | exact w_t | apply w_l); all_goals intros))
          rename_i g9
          refine r_loopE (ι := Nat) (fun v e m => v ≤ mn.length ∧ e 0 = .sl 4 L ∧ e 1 = .sl 3 X ∧ e 4 = .pbox 4 g4 0 ∧ e 6 = .pbox 6 g6 0 ∧ m 6 = some (.box g6 43 (rqC (S i)) false) ∧ m 4 = some (.box g4 43 c4 false) ∧ e 8 = iv i ∧ e 9 = .pbox 9 g9 0 ∧ m 9 = some (.box g9 43 (rqC (q * mvN (fun j => xs.getD j 0) mn v)) false) ∧ e 10 = iv v) (fun v => mn.length - v) 0 (by rfl) ?_ ?_
          · rintro v e m ⟨hv, e0, e1, e4, e6, m6, m4, e8, e9, m9, e10⟩
            by_cases hvl : v < mn.length
            · have hgx2 := hgx v (by omega)
              have hgm2 := hgm v hvl
              have hex := hpi.2.2 v
              rw [gI_at hvl] at hex
              have hxs := hx v (by omega)
              have hms := hmi v hv
              have hstep : q * mvN (fun j => xs.getD j 0) mn (v + 1) = q * mvN (fun j => xs.getD j 0) mn v * xs.getD v 0 ^ (mn[v]).toNat := by
                show q * (mvN (fun j => xs.getD j 0) mn v * xs.getD v 0 ^ (gI mn v).toNat) = _
                rw [gI_at hvl, Rat.mul_assoc]
              generalize xs.getD v 0 = x at *
              generalize mn[v] = z at *
              obtain ⟨n, rfl⟩ : ∃ n : Nat, z = n := ⟨z.toNat, by omega⟩
              have hns : n * s ≤ x0 * s := Nat.mul_le_mul_right _ (by omega)
              have cP := rpPow n n (Nat.le_refl _) (by omega) x s hxs (by omega)
              have cM := qMul (q * mvN (fun j => xs.getD j 0) mn v) (x ^ n) hms (pow_sz hxs n) (by omega) (by omega)
              rw [Int.toNat_natCast] at hstep
              generalize q * mvN (fun j => xs.getD j 0) mn v * x ^ n = b at *
              generalize q * mvN (fun j => xs.getD j 0) mn v = a at *
              generalize x ^ n = w at *
              (focus (refine wkad (w_a e0 (w_a e1 (w_a e4 (w_a e6 (w_a e8 (w_a e9 (w_a e10 (w_a m6 (w_a m4 (w_a m9 (w_a hlp (w_a hlx (w_a hg (w_a hlm (w_a hgx2 (w_a hgm2 w_t)))))))))))))))) (w_a cP (w_a cM w_t)) (w_a (w_d 14 [(13, ratQ w), (14, ratQ b)] [15] []) w_t) ?_; (repeat' first | exact w_t | apply w_l); all_goals intros))
              exact ⟨v + 1, ⟨by omega, by exact gW e0, by exact gW e1, by exact gW e4, by exact gW e6, by exact gW m6, by exact gW m4, by exact gW e8, by exact gW e9, by (rw [hstep]; exact gC), by exact gS⟩, by omega⟩
            · have hvv : v = mn.length := by omega
              subst hvv
              (focus (refine wkad (w_a e0 (w_a e1 (w_a e4 (w_a e6 (w_a e8 (w_a e9 (w_a e10 (w_a m6 (w_a m4 (w_a m9 (w_a hlp (w_a hlx (w_a hg (w_a hlm w_t)))))))))))))) (w_a cA w_t) w_t ?_; (repeat' first | exact w_t | apply w_l); all_goals intros))
              exact ⟨i + 1, ⟨by omega, by exact gW e0, by exact gW e1, by exact gW e4, by exact gW e6, by exact gC, ⟨c4, by exact gW m4, hc4⟩, by exact gS⟩, by omega⟩
          · exact ⟨Nat.zero_le _, by exact gW e0, by exact gW e1, by exact gW e4, by exact gW e6, by exact gW m6, by exact gW m4, by exact gW e8, by exact gC, by (rw [show q * mvN (fun j => xs.getD j 0) mn 0 = q from Rat.mul_one _]; exact gC), by exact gC⟩
        · obtain rfl : i = p.length := by omega
          obtain ⟨a1, a2, a3, rfl⟩ : ∃ a1 a2 a3, c4 = [a1, a2, a3] := by
            match c4, hc4 with
            | [a1, a2, a3], _ => exact ⟨a1, a2, a3, rfl⟩
          (focus (refine wkld (w_a e0 (w_a e1 (w_a e4 (w_a e6 (w_a e8 (w_a m6 (w_a m4 (w_a hlp (w_a hlx w_t))))))))) w_t (w_a e4 w_t) w_t ?_; (repeat' first | exact w_t | apply w_l); all_goals intros))
      · exact ⟨Nat.zero_le _, by exact gW e0, by exact gW e1, by exact gW e4, by exact gW e6, by (rw [hS0]; exact gW m6), ⟨c4, by exact gW m4, hc4⟩, by exact gC⟩
  · exact ⟨Nat.zero_le _, by exact gC, by exact gC, by exact gC, by exact gC, by exact gC, ⟨_, by exact gC, rfl⟩, by exact gC⟩
end Go.Proofs.YtbgmnobnaplmlaaGreat
end

section
namespace Go.Proofs.YtbgmnobnaplmlaaGreat
open Go Go.RowKit Go.Pg
set_option linter.unusedSimpArgs false
set_option linter.unusedVariables false
set_option maxRecDepth 20000
attribute [local go_sem] Tryz.underlying3 Tryz.underlying4 Tryz.underlying5 Tryz.underlying9 Tryz.underlying93 sz3 by3 z3 szStr byStr zStr
attribute [-bool_to_prop] Bool.and_eq_decide Bool.or_eq_decide Bool.decide_beq_decide decide_eq_decide
theorem kwL_len : kwL.length = 29 := rfl
set_option maxHeartbeats 4000000 in
theorem nmName (s : ByteArray) (hs : s.size ≤ 1000000000) : Pure Tryz.prog 175 [strA s] (.v (.bool (namB s))) := by
  have he := str_nil s
  unfold namB
  by_cases h0 : 0 < s.size ∧ s.size ≤ 20
  · rw [decide_eq_true h0, Bool.true_and]
    have h00 : (decide (s.size = 0)) = false := decide_eq_false (by omega)
    rw [h00] at he
    have hk := nmKind (gB s 0) (gB_lt s 0)
    have hg := gB_at s 0
    have kl := kinB_let (gB s 0)
    cases hl : letB (gB s 0) with
    | false =>
      have hx : kinB (gB s 0) ≠ 2 := fun h => by rw [kl.1 h] at hl; cases hl
      clear kl
      rw [Bool.false_and]
      generalize kinB (gB s 0) = x at *
      refine pure_intro (tok := 0) Tryz.func175 rfl Tryz.ntmps175 Tryz.results175 Tryz.call175 (by rfl) (by simp) ?_
      (focus (refine wklp (w_a he (w_a hg w_t)) (w_a hk w_t) w_t (w_r 0) ?_; (repeat' first | exact w_t | apply w_l); all_goals intros))
    | true =>
      have hx : kinB (gB s 0) = 2 := kl.2 hl
      rw [hx] at hk
      rw [Bool.true_and]
      obtain ⟨n, ce, hn, hall⟩ := nmEnd s hs
      cases ha : (List.range s.size).all (fun k => letB (gB s k) || digB (gB s k)) with
      | false =>
        have hlt : n < s.size := by
          rcases Nat.lt_or_ge n s.size with h | h
          · exact h
          · rw [hall.1 (by omega)] at ha; cases ha
        rw [Bool.false_and]
        clear hall ha
        refine pure_intro (tok := 0) Tryz.func175 rfl Tryz.ntmps175 Tryz.results175 Tryz.call175 (by rfl) (by simp) ?_
        (focus (refine wklp (w_a he (w_a hg w_t)) (w_a hk (w_a ce w_t)) w_t (w_r 0) ?_; (repeat' first | exact w_t | apply w_l); all_goals intros))
      | true =>
        have hnn : n = s.size := hall.2 ha
        subst hnn
        rw [Bool.true_and]
        clear hall ha hl hx kl
        have ck := nmKeys
        refine pure_intro (tok := 0) Tryz.func175 rfl Tryz.ntmps175 Tryz.results175 Tryz.call175 (by rfl) (by simp) ?_
        (focus (refine wkap (w_a he (w_a hg (w_a @l_map (w_a @kwL_len w_t)))) (w_a hk (w_a ce (w_a ck w_t))) (w_r 0) ?_; (repeat' first | exact w_t | apply w_l); all_goals intros))
        refine r_loopE (ι := Nat) (fun i e m => i ≤ 29 ∧ e 0 = strA s ∧ e 25 = .sl 1 (kwL.map strA) ∧ e 26 = iv 29 ∧ e 27 = iv i ∧ (kwL.take i).any (fun w => w.toList == s.toList) = false) (fun i => 29 - i) 0 (by rfl) ?_ ?_
        · rintro i e m ⟨hi, e0, e25, e26, e27, hno⟩
          by_cases hlt : i < 29
          · have hlt' : i < kwL.length := by rw [kwL_len]; exact hlt
            have hgk := map_atB strA hlt'
            have hsn : kwL.take (i + 1) = kwL.take i ++ [kwL[i]] := List.take_succ_eq_append_getElem hlt'
            have hmem : kwL[i] ∈ kwL := List.getElem_mem hlt'
            generalize kwL[i] = w at *
            cases hw : (w.toList == s.toList) with
            | true =>
              have : kwL.any (fun w => w.toList == s.toList) = true := List.any_eq_true.2 ⟨w, hmem, hw⟩
              rw [this]
              (focus (refine wklp (w_a e0 (w_a e25 (w_a e26 (w_a e27 (w_a hgk (w_a hw (w_a @l_map (w_a @kwL_len w_t)))))))) w_t (w_a @Bool.not_true w_t) (w_r 0) ?_; (repeat' first | exact w_t | apply w_l); all_goals intros))
            | false =>
              (focus (refine wkap (w_a e0 (w_a e25 (w_a e26 (w_a e27 (w_a hgk (w_a hw (w_a @l_map (w_a @kwL_len w_t)))))))) w_t (w_r 0) ?_; (repeat' first | exact w_t | apply w_l); all_goals intros))
              exact ⟨i + 1, ⟨by omega, by exact gW e0, by exact gW e25, by exact gW e26, by exact gS, by rw [hsn, List.any_append, hno]; simp [hw]⟩, by omega⟩
          · have hi2 : i = 29 := by omega
            subst hi2
            rw [show kwL.take 29 = kwL from by rw [← kwL_len, List.take_length]] at hno
            rw [hno]
            (focus (refine wklp (w_a e0 (w_a e25 (w_a e26 (w_a e27 w_t)))) w_t (w_a @Bool.not_false w_t) (w_r 0) ?_; (repeat' first | exact w_t | apply w_l); all_goals intros))
        · exact ⟨Nat.zero_le _, by exact gC, by exact gC, by (simp (disch := omega) only [go_sem, List.length_map, kwL_len] <;> repeat' first | rfl | refine ⟨?_, ?_⟩), by exact gC, by simp⟩
  · rw [decide_eq_false h0, Bool.false_and]
    by_cases h1 : s.size = 0
    · rw [decide_eq_true h1] at he
      refine pure_intro (tok := 0) Tryz.func175 rfl Tryz.ntmps175 Tryz.results175 Tryz.call175 (by rfl) (by simp) ?_
      (focus (refine wklp (w_a he w_t) w_t w_t (w_r 0) ?_; (repeat' first | exact w_t | apply w_l); all_goals intros))
    · rw [decide_eq_false h1] at he
      refine pure_intro (tok := 0) Tryz.func175 rfl Tryz.ntmps175 Tryz.results175 Tryz.call175 (by rfl) (by simp) ?_
      (focus (refine wklp (w_a he w_t) w_t w_t (w_r 0) ?_; (repeat' first | exact w_t | apply w_l); all_goals intros))
end Go.Proofs.YtbgmnobnaplmlaaGreat
end

section
namespace Go.Proofs.YtbgmnobnaplmlaaGreat
open Go Go.RowKit Go.Pg Go.Pol
set_option linter.unusedSimpArgs false
set_option linter.unusedVariables false
set_option maxRecDepth 20000
attribute [local go_sem] Tryz.underlying3 Tryz.underlying4 Tryz.underlying178 Tryz.underlying9 Tryz.underlying48 Tryz.underlying31 Tryz.underlying43 Tryz.underlying41 Tryz.underlying39 Tryz.underlying50 Tryz.underlying22 Tryz.underlying124 Tryz.underlying23 Tryz.underlying25 sz3 by3 z3 szB zB szL byL zL szErr zErr szStr byStr zStr szRat zRat szInt zInt szNat zNat szStep byStep zStep szFact byFact zFact szFig zFig szSlI zSlI szSlS zSlS szSlF zSlF
attribute [-bool_to_prop] Bool.and_eq_decide Bool.or_eq_decide Bool.decide_beq_decide decide_eq_decide
theorem irRaw (s : Bool) (l : List Nat) (hl : Lm l) (hs : l.length ≤ 100000000) : Pure Tryz.prog 201 [.agg [.v (.bool s), lim l]] (.v (.bool (RQ.zok s l))) := by
  unfold RQ.zok valL
  by_cases h : l.length = 0
  · rw [decide_eq_true h, Bool.true_or, Bool.true_and, Bool.and_true]
    cases s
    · refine pure_intro (tok := 0) Tryz.func201 rfl Tryz.ntmps201 Tryz.results201 Tryz.call201 (by rfl) (by simp) ?_
      (focus (refine wklp (w_a @u16s_len w_t) w_t w_t (w_r 0) ?_; (repeat' first | exact w_t | apply w_l); all_goals intros))
    · refine pure_intro (tok := 0) Tryz.func201 rfl Tryz.ntmps201 Tryz.results201 Tryz.call201 (by rfl) (by simp) ?_
      (focus (refine wklp (w_a @u16s_len w_t) w_t w_t (w_r 0) ?_; (repeat' first | exact w_t | apply w_l); all_goals intros))
  · rw [decide_eq_false h, Bool.false_or, Bool.and_false, Bool.not_false, Bool.and_true]
    have ei : (l.length : Int) - 1 = ((l.length - 1 : Nat) : Int) := by omega
    have hlm := gN_lt hl (l.length - 1)
    by_cases hg : gN l (l.length - 1) = 0
    · rw [decide_eq_true hg]
      cases s
      · refine pure_intro (tok := 0) Tryz.func201 rfl Tryz.ntmps201 Tryz.results201 Tryz.call201 (by rfl) (by simp) ?_
        (focus (refine wklp (w_a ei (w_a @u16s_len w_t)) w_t (w_a @Bool.not_true w_t) (w_r 0) ?_; (repeat' first | exact w_t | apply w_l); all_goals intros))
      · refine pure_intro (tok := 0) Tryz.func201 rfl Tryz.ntmps201 Tryz.results201 Tryz.call201 (by rfl) (by simp) ?_
        (focus (refine wklp (w_a ei (w_a @u16s_len w_t)) w_t (w_a @Bool.not_true w_t) (w_r 0) ?_; (repeat' first | exact w_t | apply w_l); all_goals intros))
    · rw [decide_eq_false hg]
      cases s
      · refine pure_intro (tok := 0) Tryz.func201 rfl Tryz.ntmps201 Tryz.results201 Tryz.call201 (by rfl) (by simp) ?_
        (focus (refine wklp (w_a ei (w_a @u16s_len w_t)) w_t (w_a @Bool.not_false w_t) (w_r 0) ?_; (repeat' first | exact w_t | apply w_l); all_goals intros))
      · refine pure_intro (tok := 0) Tryz.func201 rfl Tryz.ntmps201 Tryz.results201 Tryz.call201 (by rfl) (by simp) ?_
        (focus (refine wklp (w_a ei (w_a @u16s_len w_t)) w_t (w_a @Bool.not_false w_t) (w_r 0) ?_; (repeat' first | exact w_t | apply w_l); all_goals intros))
theorem rtRight (r : RQ) (h : r.lm 100000000) : Pure Tryz.prog 143 [r.av] (.v (.bool r.ok)) := by
  obtain ⟨s, l, d⟩ := r
  obtain ⟨h1, h2, h3, h4⟩ := h
  simp only at h1 h2 h3 h4
  have c1 := irRaw s l h1 h3
  unfold RQ.ok
  simp only
  generalize RQ.zok s l = z at *
  by_cases hd : d.length = 0
  · have : decide (0 < d.length) = false := decide_eq_false (by omega)
    rw [this, Bool.and_false]
    cases z
    · refine pure_intro (tok := 0) Tryz.func143 rfl Tryz.ntmps143 Tryz.results143 Tryz.call143 (by rfl) (by simp) ?_
      (focus (refine wklp (w_a @u16s_len w_t) (w_a c1 w_t) w_t (w_r 0) ?_; (repeat' first | exact w_t | apply w_l); all_goals intros))
    · refine pure_intro (tok := 0) Tryz.func143 rfl Tryz.ntmps143 Tryz.results143 Tryz.call143 (by rfl) (by simp) ?_
      (focus (refine wklp (w_a @u16s_len w_t) (w_a c1 w_t) w_t (w_r 0) ?_; (repeat' first | exact w_t | apply w_l); all_goals intros))
  · have : decide (0 < d.length) = true := decide_eq_true (by omega)
    rw [this, Bool.and_true]
    have ei : (d.length : Int) - 1 = ((d.length - 1 : Nat) : Int) := by omega
    have hlm := gN_lt h2 (d.length - 1)
    cases z with
    | false =>
      rw [Bool.false_and, Bool.false_and]
      refine pure_intro (tok := 0) Tryz.func143 rfl Tryz.ntmps143 Tryz.results143 Tryz.call143 (by rfl) (by simp) ?_
      (focus (refine wklp (w_a @u16s_len w_t) (w_a c1 w_t) w_t (w_r 0) ?_; (repeat' first | exact w_t | apply w_l); all_goals intros))
    | true =>
      rw [Bool.true_and]
      by_cases hg : gN d (d.length - 1) = 0
      · have : valL d = false := by unfold valL; rw [decide_eq_false hd, decide_eq_true hg]; rfl
        rw [this, Bool.false_and]
        refine pure_intro (tok := 0) Tryz.func143 rfl Tryz.ntmps143 Tryz.results143 Tryz.call143 (by rfl) (by simp) ?_
        (focus (refine wklp (w_a ei (w_a @u16s_len w_t)) (w_a c1 w_t) w_t (w_r 0) ?_; (repeat' first | exact w_t | apply w_l); all_goals intros))
      · have hv : valL d = true := by unfold valL; rw [decide_eq_false hd, decide_eq_false hg]; rfl
        rw [hv, Bool.true_and]
        have hdt := (valL_iff h2).1 hv
        have l4 : (toL (nv d)).length ≤ 100000000 := by rw [← hdt]; exact h4
        have c2 := ratOne (nv d) l4
        have c3 := natGcd l d (by omega) (by omega) h1 h2
        have n0 : nv d ≠ 0 := by
          intro h0
          rw [h0, toL_zero] at hdt
          rw [hdt] at hd; exact hd rfl
        have gl : (toL (Nat.gcd (nv l) (nv d))).length ≤ 100000000 := Nat.le_trans (lg_mono (Nat.gcd_le_right _ (by omega))) l4
        have c4 := ratOne (Nat.gcd (nv l) (nv d)) gl
        rw [← hdt] at c2
        have hb : (Nat.gcd (nv l) (nv d) == 1) = decide (Nat.gcd (nv l) (nv d) = 1) := by rw [Bool.eq_iff_iff, beq_iff_eq, decide_eq_true_eq]
        rw [hb]
        by_cases h1d : nv d = 1
        · rw [decide_eq_true h1d] at c2
          rw [decide_eq_true (show Nat.gcd (nv l) (nv d) = 1 by rw [h1d, Nat.gcd_one_right])]
          clear c3 c4 hdt
          refine pure_intro (tok := 0) Tryz.func143 rfl Tryz.ntmps143 Tryz.results143 Tryz.call143 (by rfl) (by simp) ?_
          (focus (refine wklp (w_a ei (w_a @u16s_len w_t)) (w_a c1 (w_a c2 w_t)) (w_a @decide_true w_t) (w_r 0) ?_; (repeat' first | exact w_t | apply w_l); all_goals intros))
        · rw [decide_eq_false h1d] at c2
          clear hdt hb gl
          generalize decide (Nat.gcd (nv l) (nv d) = 1) = v at *
          generalize toL (Nat.gcd (nv l) (nv d)) = lg' at *
          refine pure_intro (tok := 0) Tryz.func143 rfl Tryz.ntmps143 Tryz.results143 Tryz.call143 (by rfl) (by simp) ?_
          (focus (refine wklp (w_a ei (w_a @u16s_len w_t)) (w_a c1 (w_a c2 (w_a c3 (w_a c4 w_t)))) w_t (w_r 0) ?_; (repeat' first | exact w_t | apply w_l); all_goals intros))
set_option maxHeartbeats 4000000 in
theorem lwAr (k : Int) : Pure Tryz.prog 171 [iv k] (iv (arS k)) := by
  unfold arS
  refine pure_intro (tok := 0) Tryz.func171 rfl Tryz.ntmps171 Tryz.results171 Tryz.call171 (by rfl) (by simp) ?_
  (focus (refine wklp w_t w_t w_t (w_r 0) ?_; (repeat' first | exact w_t | apply w_l); all_goals intros))
  all_goals (congr 2; repeat' split)
  all_goals (first | rfl | omega)
theorem lwNone (r : RQ) : Pure Tryz.prog 174 [r.av] (.v (.bool r.none)) := by
  obtain ⟨s, l, d⟩ := r
  unfold RQ.none
  simp only
  cases s
  · refine pure_intro (tok := 0) Tryz.func174 rfl Tryz.ntmps174 Tryz.results174 Tryz.call174 (by rfl) (by simp) ?_
    (focus (refine wklp (w_a @u16s_len w_t) w_t w_t (w_r 0) ?_; (repeat' first | exact w_t | apply w_l); all_goals intros))
  · refine pure_intro (tok := 0) Tryz.func174 rfl Tryz.ntmps174 Tryz.results174 Tryz.call174 (by rfl) (by simp) ?_
    (focus (refine wklp (w_a @u16s_len w_t) w_t w_t (w_r 0) ?_; (repeat' first | exact w_t | apply w_l); all_goals intros))
set_option maxHeartbeats 4000000 in
theorem prAr (k : Int) : Pure Tryz.prog 178 [iv k] (iv (arG k)) := by
  unfold arG
  refine pure_intro (tok := 0) Tryz.func178 rfl Tryz.ntmps178 Tryz.results178 Tryz.call178 (by rfl) (by simp) ?_
  (focus (refine wklp w_t w_t w_t (w_r 0) ?_; (repeat' first | exact w_t | apply w_l); all_goals intros))
  all_goals (congr 2; repeat' split)
  all_goals (first | rfl | omega)
theorem prNone (r : RQ) : Pure Tryz.prog 179 [r.av] (.v (.bool r.none)) := by
  obtain ⟨s, l, d⟩ := r
  unfold RQ.none
  simp only
  cases s
  · refine pure_intro (tok := 0) Tryz.func179 rfl Tryz.ntmps179 Tryz.results179 Tryz.call179 (by rfl) (by simp) ?_
    (focus (refine wklp (w_a @u16s_len w_t) w_t w_t (w_r 0) ?_; (repeat' first | exact w_t | apply w_l); all_goals intros))
  · refine pure_intro (tok := 0) Tryz.func179 rfl Tryz.ntmps179 Tryz.results179 Tryz.call179 (by rfl) (by simp) ?_
    (focus (refine wklp (w_a @u16s_len w_t) w_t w_t (w_r 0) ?_; (repeat' first | exact w_t | apply w_l); all_goals intros))
/-- The first element of a kind. -/
theorem exists_fst {α : Type} (F : α → Bool) (l : List α) : ∃ n, n ≤ l.length ∧ (∀ j (h : j < l.length), j < n → F l[j] = false) ∧ (∀ h : n < l.length, F l[n] = true) ∧ l.any F = decide (n < l.length) := by
  induction l with
  | nil => exact ⟨0, by simp, by simp, by simp, by simp⟩
  | cons a l ih =>
    obtain ⟨n, h1, h2, h3, h4⟩ := ih
    cases ha : F a with
    | true => exact ⟨0, by simp, fun j h h' => by omega, fun _ => ha, by simp [ha]⟩
    | false =>
      refine ⟨n + 1, by simpa using h1, fun j h h' => ?_, fun h => h3 (by simpa using h), by simp [ha, h4]⟩
      cases j with
      | zero => exact ha
      | succ j => exact h2 j (by simpa using h) (by omega)
theorem ck1 (a i : Int) : Pure Tryz.prog 173 [iv a, .pimm [iv i]] (.v (.bool (decide (a < 0) || decide (i ≤ a)))) := by
  refine pure_intro (tok := 0) Tryz.func173 rfl Tryz.ntmps173 Tryz.results173 Tryz.call173 (by rfl) (by simp) ?_
  (focus (refine wklp w_t w_t w_t (w_r 0) ?_; (repeat' first | exact w_t | apply w_l); all_goals intros))
theorem slIdx1 (l : List Int) (i : Int) (hl : l.length ≤ 1000000000) : ∃ z : Int, Pure Tryz.prog 217 [ivs l, .fn 173 [.pimm [iv i]]] (iv z) ∧ decide (0 ≤ z) = outB i l := by
  obtain ⟨n, h1, h2, h3, h4⟩ := exists_fst (fun a => decide (a < 0) || decide (i ≤ a)) l
  refine ⟨if n < l.length then (n : Int) else -1, ?_, ?_⟩
  · refine pure_intro (tok := 0) Tryz.func217 rfl Tryz.ntmps217 Tryz.results217 Tryz.call217 (by rfl) (by simp) ?_
    (focus (refine wkap (w_a @l_map w_t) w_t (w_r 0) ?_; (repeat' first | exact w_t | apply w_l); all_goals intros))
    refine r_loopE (ι := Nat) (fun k e m => k ≤ n ∧ e 0 = ivs l ∧ e 1 = .fn 173 [.pimm [iv i]] ∧ e 7 = iv l.length ∧ e 8 = iv k) (fun k => n - k) 0 (by rfl) ?_ ?_
    · rintro k e m ⟨hk, e0, e1, e7, e8⟩
      by_cases hlt : k < l.length
      · have hg := map_atB iv hlt
        by_cases hkn : k < n
        · have hb := h2 k hlt hkn
          have c := ck1 l[k] i
          rw [hb] at c
          clear hb
          generalize l[k] = a at *
          (focus (refine wkap (w_a e0 (w_a e1 (w_a e7 (w_a e8 (w_a hg (w_a @l_map w_t)))))) (w_a c w_t) (w_r 0) ?_; (repeat' first | exact w_t | apply w_l); all_goals intros))
          exact ⟨k + 1, ⟨by omega, by exact gW e0, by exact gW e1, by exact gW e7, by exact gS⟩, by omega⟩
        · have hkn : k = n := by omega
          subst hkn
          have hb := h3 hlt
          have c := ck1 l[k] i
          rw [hb] at c
          rw [if_pos hlt]
          clear hb
          generalize l[k] = a at *
          (focus (refine wklp (w_a e0 (w_a e1 (w_a e7 (w_a e8 (w_a hg (w_a @l_map w_t)))))) (w_a c w_t) w_t (w_r 0) ?_; (repeat' first | exact w_t | apply w_l); all_goals intros))
      · rw [if_neg (by omega)]
        (focus (refine wklp (w_a e0 (w_a e1 (w_a e7 (w_a e8 (w_a @l_map w_t))))) w_t w_t (w_r 0) ?_; (repeat' first | exact w_t | apply w_l); all_goals intros))
    · exact ⟨Nat.zero_le _, by exact gC, by exact gC, by (simp (disch := omega) only [go_sem, List.length_map] <;> repeat' first | rfl | refine ⟨?_, ?_⟩), by exact gC⟩
  · unfold outB
    rw [h4, Bool.eq_iff_iff, decide_eq_true_eq, decide_eq_true_eq]
    split <;> omega
theorem slCon1 (l : List Int) (i : Int) (hl : l.length ≤ 1000000000) : Pure Tryz.prog 172 [ivs l, .fn 173 [.pimm [iv i]]] (.v (.bool (outB i l))) := by
  obtain ⟨z, c, hz⟩ := slIdx1 l i hl
  rw [← hz]
  refine pure_intro (tok := 0) Tryz.func172 rfl Tryz.ntmps172 Tryz.results172 Tryz.call172 (by rfl) (by simp) ?_
  (focus (refine wklp w_t (w_a c w_t) w_t (w_r 0) ?_; (repeat' first | exact w_t | apply w_l); all_goals intros))
theorem ck2 (t s : RS) : Pure Tryz.prog 177 [t.av, .pimm [iv s.k, strA s.nm, ivs s.ar, .v (.bool s.r.s), lim s.r.l, lim s.r.d]] (.v (.bool (t.nm.toList == s.nm.toList))) := by
  obtain ⟨a, b, c, d⟩ := t
  obtain ⟨a', b', c', d'⟩ := s
  refine pure_intro (tok := 0) Tryz.func177 rfl Tryz.ntmps177 Tryz.results177 Tryz.call177 (by rfl) (by simp) ?_
  (focus (refine wklp w_t w_t w_t (w_r 0) ?_; (repeat' first | exact w_t | apply w_l); all_goals intros))
theorem slIdx2 (l : List RS) (s : RS) (hl : l.length ≤ 1000000000) : ∃ z : Int, Pure Tryz.prog 221 [.sl 6 (l.map RS.av), .fn 177 [.pimm [iv s.k, strA s.nm, ivs s.ar, .v (.bool s.r.s), lim s.r.l, lim s.r.d]]] (iv z) ∧ decide (0 ≤ z) = l.any (fun t => t.nm.toList == s.nm.toList) := by
  obtain ⟨n, h1, h2, h3, h4⟩ := exists_fst (fun t : RS => t.nm.toList == s.nm.toList) l
  refine ⟨if n < l.length then (n : Int) else -1, ?_, ?_⟩
  · refine pure_intro (tok := 0) Tryz.func221 rfl Tryz.ntmps221 Tryz.results221 Tryz.call221 (by rfl) (by simp) ?_
    (focus (refine wkap (w_a @l_map w_t) w_t (w_r 0) ?_; (repeat' first | exact w_t | apply w_l); all_goals intros))
    refine r_loopE (ι := Nat) (fun k e m => k ≤ n ∧ e 0 = .sl 6 (l.map RS.av) ∧ e 1 = .fn 177 [.pimm [iv s.k, strA s.nm, ivs s.ar, .v (.bool s.r.s), lim s.r.l, lim s.r.d]] ∧ e 7 = iv l.length ∧ e 8 = iv k) (fun k => n - k) 0 (by rfl) ?_ ?_
    · rintro k e m ⟨hk, e0, e1, e7, e8⟩
      by_cases hlt : k < l.length
      · have hg := map_atB RS.av hlt
        by_cases hkn : k < n
        · have hb := h2 k hlt hkn
          have c := ck2 l[k] s
          rw [hb] at c
          clear hb
          generalize l[k] = a at *
          obtain ⟨a1, a2, a3, a4⟩ := a
          (focus (refine wkap (w_a e0 (w_a e1 (w_a e7 (w_a e8 (w_a hg (w_a @l_map w_t)))))) (w_a c w_t) (w_r 0) ?_; (repeat' first | exact w_t | apply w_l); all_goals intros))
          exact ⟨k + 1, ⟨by omega, by exact gW e0, by exact gW e1, by exact gW e7, by exact gS⟩, by omega⟩
        · have hkn : k = n := by omega
          subst hkn
          have hb := h3 hlt
          have c := ck2 l[k] s
          rw [hb] at c
          rw [if_pos hlt]
          clear hb
          generalize l[k] = a at *
          obtain ⟨a1, a2, a3, a4⟩ := a
          (focus (refine wklp (w_a e0 (w_a e1 (w_a e7 (w_a e8 (w_a hg (w_a @l_map w_t)))))) (w_a c w_t) w_t (w_r 0) ?_; (repeat' first | exact w_t | apply w_l); all_goals intros))
      · rw [if_neg (by omega)]
        (focus (refine wklp (w_a e0 (w_a e1 (w_a e7 (w_a e8 (w_a @l_map w_t))))) w_t w_t (w_r 0) ?_; (repeat' first | exact w_t | apply w_l); all_goals intros))
    · exact ⟨Nat.zero_le _, by exact gC, by exact gC, by (simp (disch := omega) only [go_sem, List.length_map] <;> repeat' first | rfl | refine ⟨?_, ?_⟩), by exact gC⟩
  · rw [h4, Bool.eq_iff_iff, decide_eq_true_eq, decide_eq_true_eq]
    split <;> omega
theorem slCon2 (l : List RS) (s : RS) (hl : l.length ≤ 1000000000) : Pure Tryz.prog 176 [.sl 6 (l.map RS.av), .fn 177 [.pimm [iv s.k, strA s.nm, ivs s.ar, .v (.bool s.r.s), lim s.r.l, lim s.r.d]]] (.v (.bool (l.any (fun t => t.nm.toList == s.nm.toList)))) := by
  obtain ⟨z, c, hz⟩ := slIdx2 l s hl
  rw [← hz]
  refine pure_intro (tok := 0) Tryz.func176 rfl Tryz.ntmps176 Tryz.results176 Tryz.call176 (by rfl) (by simp) ?_
  (focus (refine wklp w_t (w_a c w_t) w_t (w_r 0) ?_; (repeat' first | exact w_t | apply w_l); all_goals intros))
end Go.Proofs.YtbgmnobnaplmlaaGreat
end

section
namespace Go.Proofs.YtbgmnobnaplmlaaGreat
open Go Go.RowKit Go.Pg Go.Pol
set_option linter.unusedSimpArgs false
set_option linter.unusedVariables false
set_option maxRecDepth 20000
attribute [local go_sem] Tryz.underlying3 Tryz.underlying4 Tryz.underlying178 Tryz.underlying9 Tryz.underlying48 Tryz.underlying31 Tryz.underlying43 Tryz.underlying41 Tryz.underlying39 Tryz.underlying50 Tryz.underlying22 Tryz.underlying124 Tryz.underlying23 Tryz.underlying25 sz3 by3 z3 szB zB szL byL zL szErr zErr szStr byStr zStr szRat zRat szInt zInt szNat zNat szStep byStep zStep szFact byFact zFact szFig zFig szSlI zSlI szSlS zSlS szSlF zSlF
attribute [-bool_to_prop] Bool.and_eq_decide Bool.or_eq_decide Bool.decide_beq_decide decide_eq_decide
/-- Sizes that machines hold. -/
def RS.sm (s : RS) : Prop := s.r.lm 100000000 ∧ s.nm.size ≤ 1000000000 ∧ s.ar.length ≤ 1000000000
def RG.sm (g : RG) : Prop := g.r.lm 100000000 ∧ g.ar.length ≤ 1000000000
set_option maxHeartbeats 8000000 in
theorem lwCheck (ss : List RS) (i : Nat) (hi : i < ss.length) (hl : ss.length ≤ 1000000000) (hs : ∀ s ∈ ss, s.sm) : Pure Tryz.prog 99 [.sl 6 (ss.map RS.av), iv i] (iv (errS ss i)) := by
  have hg := map_atB RS.av hi
  have hsm := hs _ (List.getElem_mem hi)
  have e0 : errS ss i = errS ss i := rfl
  unfold errS at e0 ⊢
  rw [show ss.getD i RS.zero = ss[i] from by rw [List.getD_eq_getElem?_getD, List.getElem?_eq_getElem hi]; rfl]
  clear e0
  have htk : (ss.map RS.av).take i = (ss.take i).map RS.av := (List.map_take ..).symm
  have c2 := slCon2 (ss.take i) ss[i] (by rw [List.length_take]; omega)
  rw [← htk] at c2
  have hlm : (ss.map RS.av).length = ss.length := List.length_map ..
  generalize ss.map RS.av = M at *
  generalize ss[i] = s at *
  clear htk
  clear hs
  obtain ⟨h1, h2, h3⟩ := hsm
  have ca := lwAr s.k
  have cr := rtRight s.r h1
  have cn := lwNone s.r
  have cm := nmName s.nm h2
  have c1 := slCon1 s.ar i h3
  have hst := str_nil s.nm
  have hla : (s.ar.map iv).length = s.ar.length := List.length_map ..
  obtain ⟨k, nm, ar, r, rl, rd⟩ := s
  simp only at *
  generalize (ss.take i).any (fun t => t.nm.toList == nm.toList) = any at *
  generalize arS k = a at *
  generalize outB (i : Int) ar = o at *
  generalize RQ.ok ⟨r, rl, rd⟩ = ok at *
  generalize RQ.none ⟨r, rl, rd⟩ = no at *
  generalize namB nm = nb at *
  by_cases w1 : a < 0
  · rw [if_pos w1]
    refine pure_intro (tok := 0) Tryz.func99 rfl Tryz.ntmps99 Tryz.results99 Tryz.call99 (by rfl) (by simp) ?_
    (focus (refine wklp (w_a hg (w_a hlm (w_a hla w_t))) (w_a ca w_t) w_t (w_r 0) ?_; (repeat' first | exact w_t | apply w_l); all_goals intros))
  · rw [if_neg w1]
    by_cases w2 : (ar.length : Int) ≠ a
    · rw [if_pos w2]
      refine pure_intro (tok := 0) Tryz.func99 rfl Tryz.ntmps99 Tryz.results99 Tryz.call99 (by rfl) (by simp) ?_
      (focus (refine wklp (w_a hg (w_a hlm (w_a hla w_t))) (w_a ca w_t) w_t (w_r 0) ?_; (repeat' first | exact w_t | apply w_l); all_goals intros))
    · rw [if_neg w2]
      cases o with
      | true =>
        rw [if_pos rfl]
        refine pure_intro (tok := 0) Tryz.func99 rfl Tryz.ntmps99 Tryz.results99 Tryz.call99 (by rfl) (by simp) ?_
        (focus (refine wkax (w_a hg (w_a hlm (w_a hla w_t))) (w_a ca w_t) w_t (w_a c1 w_t) w_t w_t (w_r 0) ?_; (repeat' first | exact w_t | apply w_l); all_goals intros))
        (all_goals (try simp (disch := omega) only [go_sem, decide_eq_true, decide_eq_false, if_pos, if_neg, Int.reduceAdd, Int.reduceSub, Int.reduceToNat, Int.zero_add])); (all_goals first | done | rfl | (congr 2; first | done | omega | (rw [Bool.eq_iff_iff]; simp only [bool_to_prop, Bool.false_eq_true, iff_true, true_iff, iff_false, false_iff]; omega)) | skip)
      | false =>
        rw [if_neg (by decide)]
        by_cases w3 : (k = 2 ∧ ok = false) ∨ (k ≠ 2 ∧ no = false)
        · rw [if_pos w3]
          rcases w3 with ⟨hk, rfl⟩ | ⟨hk, rfl⟩
          · subst hk
            refine pure_intro (tok := 0) Tryz.func99 rfl Tryz.ntmps99 Tryz.results99 Tryz.call99 (by rfl) (by simp) ?_
            (focus (refine wkax (w_a hg (w_a hlm (w_a hla w_t))) (w_a ca (w_a cr w_t)) w_t (w_a c1 w_t) w_t w_t (w_r 0) ?_; (repeat' first | exact w_t | apply w_l); all_goals intros))
            (all_goals (try simp (disch := omega) only [go_sem, decide_eq_true, decide_eq_false, if_pos, if_neg, Int.reduceAdd, Int.reduceSub, Int.reduceToNat, Int.zero_add])); (all_goals first | done | rfl | (congr 2; first | done | omega | (rw [Bool.eq_iff_iff]; simp only [bool_to_prop, Bool.false_eq_true, iff_true, true_iff, iff_false, false_iff]; omega)) | skip)
          · refine pure_intro (tok := 0) Tryz.func99 rfl Tryz.ntmps99 Tryz.results99 Tryz.call99 (by rfl) (by simp) ?_
            (focus (refine wkax (w_a hg (w_a hlm (w_a hla w_t))) (w_a ca (w_a cn w_t)) w_t (w_a c1 w_t) w_t w_t (w_r 0) ?_; (repeat' first | exact w_t | apply w_l); all_goals intros))
            (all_goals (try simp (disch := omega) only [go_sem, decide_eq_true, decide_eq_false, if_pos, if_neg, Int.reduceAdd, Int.reduceSub, Int.reduceToNat, Int.zero_add])); (all_goals first | done | rfl | (congr 2; first | done | omega | (rw [Bool.eq_iff_iff]; simp only [bool_to_prop, Bool.false_eq_true, iff_true, true_iff, iff_false, false_iff]; omega)) | skip)
        · rw [if_neg w3]
          have w4 : (k = 2 ∧ ok = true) ∨ (k ≠ 2 ∧ no = true) := by
            by_cases hk : k = 2
            · cases ok
              · exact absurd (.inl ⟨hk, rfl⟩) w3
              · exact .inl ⟨hk, rfl⟩
            · cases no
              · exact absurd (.inr ⟨hk, rfl⟩) w3
              · exact .inr ⟨hk, rfl⟩
          clear w3
          by_cases w5 : nm.size = 0
          · rw [if_pos w5]
            rw [decide_eq_true w5] at hst
            rcases w4 with ⟨hk, rfl⟩ | ⟨hk, rfl⟩
            · subst hk
              refine pure_intro (tok := 0) Tryz.func99 rfl Tryz.ntmps99 Tryz.results99 Tryz.call99 (by rfl) (by simp) ?_
              (focus (refine wkax (w_a hg (w_a hlm (w_a hla (w_a hst w_t)))) (w_a ca (w_a cr w_t)) w_t (w_a c1 w_t) w_t w_t (w_r 0) ?_; (repeat' first | exact w_t | apply w_l); all_goals intros))
              (all_goals (try simp (disch := omega) only [go_sem, decide_eq_true, decide_eq_false, if_pos, if_neg, Int.reduceAdd, Int.reduceSub, Int.reduceToNat, Int.zero_add])); (all_goals first | done | rfl | (congr 2; first | done | omega | (rw [Bool.eq_iff_iff]; simp only [bool_to_prop, Bool.false_eq_true, iff_true, true_iff, iff_false, false_iff]; omega)) | skip)
            · refine pure_intro (tok := 0) Tryz.func99 rfl Tryz.ntmps99 Tryz.results99 Tryz.call99 (by rfl) (by simp) ?_
              (focus (refine wkax (w_a hg (w_a hlm (w_a hla (w_a hst w_t)))) (w_a ca (w_a cn w_t)) w_t (w_a c1 w_t) w_t w_t (w_r 0) ?_; (repeat' first | exact w_t | apply w_l); all_goals intros))
              (all_goals (try simp (disch := omega) only [go_sem, decide_eq_true, decide_eq_false, if_pos, if_neg, Int.reduceAdd, Int.reduceSub, Int.reduceToNat, Int.zero_add])); (all_goals first | done | rfl | (congr 2; first | done | omega | (rw [Bool.eq_iff_iff]; simp only [bool_to_prop, Bool.false_eq_true, iff_true, true_iff, iff_false, false_iff]; omega)) | skip)
          · rw [if_neg w5]
            rw [decide_eq_false w5] at hst
            cases nb with
            | false =>
              rw [if_pos rfl]
              rcases w4 with ⟨hk, rfl⟩ | ⟨hk, rfl⟩
              · subst hk
                refine pure_intro (tok := 0) Tryz.func99 rfl Tryz.ntmps99 Tryz.results99 Tryz.call99 (by rfl) (by simp) ?_
                (focus (refine wkax (w_a hg (w_a hlm (w_a hla (w_a hst w_t)))) (w_a ca (w_a cr (w_a cm w_t))) w_t (w_a c1 w_t) w_t w_t (w_r 0) ?_; (repeat' first | exact w_t | apply w_l); all_goals intros))
                (all_goals (try simp (disch := omega) only [go_sem, decide_eq_true, decide_eq_false, if_pos, if_neg, Int.reduceAdd, Int.reduceSub, Int.reduceToNat, Int.zero_add])); (all_goals first | done | rfl | (congr 2; first | done | omega | (rw [Bool.eq_iff_iff]; simp only [bool_to_prop, Bool.false_eq_true, iff_true, true_iff, iff_false, false_iff]; omega)) | skip)
              · refine pure_intro (tok := 0) Tryz.func99 rfl Tryz.ntmps99 Tryz.results99 Tryz.call99 (by rfl) (by simp) ?_
                (focus (refine wkax (w_a hg (w_a hlm (w_a hla (w_a hst w_t)))) (w_a ca (w_a cn (w_a cm w_t))) w_t (w_a c1 w_t) w_t w_t (w_r 0) ?_; (repeat' first | exact w_t | apply w_l); all_goals intros))
                (all_goals (try simp (disch := omega) only [go_sem, decide_eq_true, decide_eq_false, if_pos, if_neg, Int.reduceAdd, Int.reduceSub, Int.reduceToNat, Int.zero_add])); (all_goals first | done | rfl | (congr 2; first | done | omega | (rw [Bool.eq_iff_iff]; simp only [bool_to_prop, Bool.false_eq_true, iff_true, true_iff, iff_false, false_iff]; omega)) | skip)
            | true =>
              rw [if_neg (by decide)]
              rcases w4 with ⟨hk, rfl⟩ | ⟨hk, rfl⟩
              · subst hk
                cases any
                · refine pure_intro (tok := 0) Tryz.func99 rfl Tryz.ntmps99 Tryz.results99 Tryz.call99 (by rfl) (by simp) ?_
                  (focus (refine wkax (w_a hg (w_a hlm (w_a hla (w_a hst (w_a @l_drop0 w_t))))) (w_a ca (w_a cr (w_a cm w_t))) w_t (w_a c1 (w_a c2 w_t)) w_t w_t (w_r 0) ?_; (repeat' first | exact w_t | apply w_l); all_goals intros))
                  (all_goals (try simp (disch := omega) only [go_sem, decide_eq_true, decide_eq_false, if_pos, if_neg, Int.reduceAdd, Int.reduceSub, Int.reduceToNat, Int.zero_add])); (all_goals first | done | rfl | (congr 2; first | done | omega | (rw [Bool.eq_iff_iff]; simp only [bool_to_prop, Bool.false_eq_true, iff_true, true_iff, iff_false, false_iff]; omega)) | skip)
                · refine pure_intro (tok := 0) Tryz.func99 rfl Tryz.ntmps99 Tryz.results99 Tryz.call99 (by rfl) (by simp) ?_
                  (focus (refine wkax (w_a hg (w_a hlm (w_a hla (w_a hst (w_a @l_drop0 w_t))))) (w_a ca (w_a cr (w_a cm w_t))) w_t (w_a c1 (w_a c2 w_t)) w_t w_t (w_r 0) ?_; (repeat' first | exact w_t | apply w_l); all_goals intros))
                  (all_goals (try simp (disch := omega) only [go_sem, decide_eq_true, decide_eq_false, if_pos, if_neg, Int.reduceAdd, Int.reduceSub, Int.reduceToNat, Int.zero_add])); (all_goals first | done | rfl | (congr 2; first | done | omega | (rw [Bool.eq_iff_iff]; simp only [bool_to_prop, Bool.false_eq_true, iff_true, true_iff, iff_false, false_iff]; omega)) | skip)
              · cases any
                · refine pure_intro (tok := 0) Tryz.func99 rfl Tryz.ntmps99 Tryz.results99 Tryz.call99 (by rfl) (by simp) ?_
                  (focus (refine wkax (w_a hg (w_a hlm (w_a hla (w_a hst (w_a @l_drop0 w_t))))) (w_a ca (w_a cn (w_a cm w_t))) w_t (w_a c1 (w_a c2 w_t)) w_t w_t (w_r 0) ?_; (repeat' first | exact w_t | apply w_l); all_goals intros))
                  (all_goals (try simp (disch := omega) only [go_sem, decide_eq_true, decide_eq_false, if_pos, if_neg, Int.reduceAdd, Int.reduceSub, Int.reduceToNat, Int.zero_add])); (all_goals first | done | rfl | (congr 2; first | done | omega | (rw [Bool.eq_iff_iff]; simp only [bool_to_prop, Bool.false_eq_true, iff_true, true_iff, iff_false, false_iff]; omega)) | skip)
                · refine pure_intro (tok := 0) Tryz.func99 rfl Tryz.ntmps99 Tryz.results99 Tryz.call99 (by rfl) (by simp) ?_
                  (focus (refine wkax (w_a hg (w_a hlm (w_a hla (w_a hst (w_a @l_drop0 w_t))))) (w_a ca (w_a cn (w_a cm w_t))) w_t (w_a c1 (w_a c2 w_t)) w_t w_t (w_r 0) ?_; (repeat' first | exact w_t | apply w_l); all_goals intros))
                  (all_goals (try simp (disch := omega) only [go_sem, decide_eq_true, decide_eq_false, if_pos, if_neg, Int.reduceAdd, Int.reduceSub, Int.reduceToNat, Int.zero_add])); (all_goals first | done | rfl | (congr 2; first | done | omega | (rw [Bool.eq_iff_iff]; simp only [bool_to_prop, Bool.false_eq_true, iff_true, true_iff, iff_false, false_iff]; omega)) | skip)
theorem outB_take {n : Int} {l : List Int} {k : Nat} (hk : k < l.length) : outB n (l.take (k + 1)) = (outB n (l.take k) || (decide (l[k] < 0) || decide (n ≤ l[k]))) := by
  unfold outB
  rw [List.take_succ_eq_append_getElem hk, List.any_append, List.any_cons, List.any_nil, Bool.or_false]
theorem outB_at {n : Int} {l : List Int} {k : Nat} (hk : k < l.length) (h : (decide (l[k] < 0) || decide (n ≤ l[k])) = true) : outB n l = true := List.any_eq_true.2 ⟨l[k], List.getElem_mem hk, h⟩
set_option maxHeartbeats 8000000 in
theorem prRight (g : RG) (n : Nat) (hn : n ≤ 1000000000) (hs : g.sm) : Pure Tryz.prog 100 [g.av, iv n] (iv (errG g n)) := by
  obtain ⟨h1, h3⟩ := hs
  unfold errG
  have ca := prAr g.k
  have cr : Pure Tryz.prog 143 [g.r.av] (.v (.bool g.r.ok)) := rtRight g.r h1
  have cn := prNone g.r
  have hla : (g.ar.map iv).length = g.ar.length := List.length_map ..
  obtain ⟨k, ar, r, rl, rd⟩ := g
  simp only at *
  generalize arG k = a at *
  generalize RQ.ok ⟨r, rl, rd⟩ = ok at *
  generalize RQ.none ⟨r, rl, rd⟩ = no at *
  by_cases w1 : a = 0
  · rw [if_pos w1]
    subst w1
    refine pure_intro (tok := 0) Tryz.func100 rfl Tryz.ntmps100 Tryz.results100 Tryz.call100 (by rfl) (by simp) ?_
    (focus (refine wklp (w_a hla w_t) (w_a ca w_t) w_t (w_r 0) ?_; (repeat' first | exact w_t | apply w_l); all_goals intros))
  · rw [if_neg w1]
    by_cases w2 : (ar.length : Int) ≠ a
    · rw [if_pos w2]
      refine pure_intro (tok := 0) Tryz.func100 rfl Tryz.ntmps100 Tryz.results100 Tryz.call100 (by rfl) (by simp) ?_
      (focus (refine wklp (w_a hla w_t) (w_a ca w_t) w_t (w_r 0) ?_; (repeat' first | exact w_t | apply w_l); all_goals intros))
    · rw [if_neg w2]
      refine pure_intro (tok := 0) Tryz.func100 rfl Tryz.ntmps100 Tryz.results100 Tryz.call100 (by rfl) (by simp) ?_
      (focus (refine wkap (w_a hla w_t) (w_a ca w_t) (w_r 0) ?_; (repeat' first | exact w_t | apply w_l); all_goals intros))
      rename_i g2
      refine r_loopE (ι := Nat) (fun i e m => i ≤ ar.length ∧ e 1 = iv n ∧ e 2 = .pbox 2 g2 0 ∧ m 2 = some (.box g2 124 [iv k, ivs ar, .v (.bool r), lim rl, lim rd] false) ∧ e 19 = ivs ar ∧ e 20 = iv ar.length ∧ e 21 = iv i ∧ outB n (ar.take i) = false) (fun i => ar.length - i) 0 (by rfl) ?_ ?_
      · rintro i e m ⟨hi, e1, e2, m2, ea, en, ei, hno⟩
        by_cases hlt : i < ar.length
        · have hg := map_atB iv hlt
          have hst := outB_take (n := n) hlt
          have hat := outB_at (n := n) hlt
          rw [hno, Bool.false_or] at hst
          generalize ar[i] = x at *
          by_cases hx : x < 0 ∨ (n : Int) ≤ x
          · have hb : (decide (x < 0) || decide ((n : Int) ≤ x)) = true := by simpa using hx
            rw [if_pos (hat hb)]
            clear hat hst hb
            rcases hx with hx | hx
            · (focus (refine wklp (w_a e1 (w_a e2 (w_a m2 (w_a ea (w_a en (w_a ei (w_a hg (w_a hla w_t)))))))) w_t w_t (w_r 0) ?_; (repeat' first | exact w_t | apply w_l); all_goals intros))
            · (focus (refine wklp (w_a e1 (w_a e2 (w_a m2 (w_a ea (w_a en (w_a ei (w_a hg (w_a hla w_t)))))))) w_t w_t (w_r 0) ?_; (repeat' first | exact w_t | apply w_l); all_goals intros))
          · have hb : (decide (x < 0) || decide ((n : Int) ≤ x)) = false := by simpa using hx
            rw [hb] at hst
            clear hat hb
            (focus (refine wkap (w_a e1 (w_a e2 (w_a m2 (w_a ea (w_a en (w_a ei (w_a hg (w_a hla w_t)))))))) w_t (w_r 0) ?_; (repeat' first | exact w_t | apply w_l); all_goals intros))
            exact ⟨i + 1, ⟨by omega, by exact gW e1, by exact gW e2, by exact gW m2, by exact gW ea, by exact gW en, by exact gS, hst⟩, by omega⟩
        · have hi2 : i = ar.length := by omega
          subst hi2
          rw [List.take_length] at hno
          rw [hno, if_neg (by decide)]
          by_cases hk : k = 9
          · subst hk
            cases ok
            · rw [if_pos (by simp)]
              (focus (refine wklp (w_a e1 (w_a e2 (w_a m2 (w_a ea (w_a en (w_a ei (w_a hla w_t))))))) (w_a cr (w_a cn w_t)) w_t (w_r 0) ?_; (repeat' first | exact w_t | apply w_l); all_goals intros))
            · rw [if_neg (by simp)]
              (focus (refine wklp (w_a e1 (w_a e2 (w_a m2 (w_a ea (w_a en (w_a ei (w_a hla w_t))))))) (w_a cr (w_a cn w_t)) w_t (w_r 0) ?_; (repeat' first | exact w_t | apply w_l); all_goals intros))
          · cases no
            · rw [if_pos (by simp [hk])]
              (focus (refine wklp (w_a e1 (w_a e2 (w_a m2 (w_a ea (w_a en (w_a ei (w_a hla w_t))))))) (w_a cr (w_a cn w_t)) w_t (w_r 0) ?_; (repeat' first | exact w_t | apply w_l); all_goals intros))
            · rw [if_neg (by simp [hk])]
              (focus (refine wklp (w_a e1 (w_a e2 (w_a m2 (w_a ea (w_a en (w_a ei (w_a hla w_t))))))) (w_a cr (w_a cn w_t)) w_t (w_r 0) ?_; (repeat' first | exact w_t | apply w_l); all_goals intros))
      · exact ⟨Nat.zero_le _, by exact gC, by exact gC, by exact gC, by exact gC, by exact gW hla, by exact gC, by simp [outB]⟩
set_option maxHeartbeats 8000000 in
theorem lwRight (ss : List RS) (gs : List RG) (h1 : ss.length ≤ 1000000000) (h2 : gs.length ≤ 1000000000) (hs : ∀ s ∈ ss, s.sm) (hg : ∀ g ∈ gs, g.sm) : Pure Tryz.prog 51 [figA ss gs] (iv (figE ss gs)) := by
  have hls : (ss.map RS.av).length = ss.length := List.length_map ..
  have hlg : (gs.map RG.av).length = gs.length := List.length_map ..
  have eg : ∀ i (h : i < gs.length), (gs.map RG.av).getD i .u = gs[i].av := fun i h => map_atB RG.av h
  have eg2 : ∀ i (h : i < gs.length), gs.getD i ⟨0, [], ⟨false, [], []⟩⟩ = gs[i] := fun i h => by rw [List.getD_eq_getElem?_getD, List.getElem?_eq_getElem h]; rfl
  have cc : ∀ i, i < ss.length → Pure Tryz.prog 99 [.sl 6 (ss.map RS.av), iv i] (iv (errS ss i)) := fun i hi => lwCheck ss i hi h1 hs
  have cg : ∀ i (h : i < gs.length), Pure Tryz.prog 100 [gs[i].av, iv ss.length] (iv (errG gs[i] ss.length)) := fun i h => prRight gs[i] ss.length h1 (hg _ (List.getElem_mem h))
  unfold figE
  show Pure _ _ [.agg [.sl 6 (ss.map RS.av), .sl 5 (gs.map RG.av)]] _
  generalize ss.map RS.av = M at *
  generalize gs.map RG.av = N at *
  by_cases hb : 40 < ss.length ∨ 8 < gs.length
  · rw [if_pos hb]
    refine pure_intro (tok := 0) Tryz.func51 rfl Tryz.ntmps51 Tryz.results51 Tryz.call51 (by rfl) (by simp) ?_
    (focus (refine wklp (w_a hls (w_a hlg w_t)) w_t w_t (w_r 0) ?_; (repeat' first | exact w_t | apply w_l); all_goals intros))
  · rw [if_neg hb]
    refine pure_intro (tok := 0) Tryz.func51 rfl Tryz.ntmps51 Tryz.results51 Tryz.call51 (by rfl) (by simp) ?_
    (focus (refine wkap (w_a hls (w_a hlg w_t)) w_t (w_r 0) ?_; (repeat' first | exact w_t | apply w_l); all_goals intros))
    rename_i g1
    refine r_loopE (ι := Nat) (fun i e m => i ≤ ss.length ∧ e 1 = .pbox 1 g1 0 ∧ m 1 = some (.box g1 25 [.sl 6 M, .sl 5 N] false) ∧ e 20 = iv ss.length ∧ e 21 = iv i ∧ ∀ j, j < i → errS ss j = 0) (fun i => ss.length - i) 0 (by rfl) ?_ ?_
    · rintro i e m ⟨hi, e1, m1, e20, e21, hz⟩
      by_cases hlt : i < ss.length
      · have c := cc i hlt
        by_cases he : errS ss i = 0
        · rw [he] at c
          (focus (refine wkap (w_a e1 (w_a m1 (w_a e20 (w_a e21 (w_a hls (w_a hlg w_t)))))) (w_a c w_t) (w_r 0) ?_; (repeat' first | exact w_t | apply w_l); all_goals intros))
          exact ⟨i + 1, ⟨by omega, by exact gW e1, by exact gW m1, by exact gW e20, by exact gS, fun j hj => by by_cases e : j = i; rw [e]; exact he; exact hz j (by omega)⟩, by omega⟩
        · rw [fstE_at hz he hlt, if_pos he]
          generalize errS ss i = z at *
          (focus (refine wklp (w_a e1 (w_a m1 (w_a e20 (w_a e21 (w_a hls (w_a hlg w_t)))))) (w_a c w_t) w_t (w_r 0) ?_; (repeat' first | exact w_t | apply w_l); all_goals intros))
      · have hi2 : i = ss.length := by omega
        subst hi2
        rw [fstE_zero hz, if_neg (by simp)]
        (focus (refine wkap (w_a e1 (w_a m1 (w_a e20 (w_a e21 (w_a hls (w_a hlg w_t)))))) w_t (w_r 0) ?_; (repeat' first | exact w_t | apply w_l); all_goals intros))
        refine r_loopE (ι := Nat) (fun i e m => i ≤ gs.length ∧ e 1 = .pbox 1 g1 0 ∧ m 1 = some (.box g1 25 [.sl 6 M, .sl 5 N] false) ∧ e 33 = .sl 5 N ∧ e 34 = iv gs.length ∧ e 35 = iv i ∧ ∀ j, j < i → errG (gs.getD j ⟨0, [], ⟨false, [], []⟩⟩) ss.length = 0) (fun i => gs.length - i) 0 (by rfl) ?_ ?_
        · rintro i e m ⟨hi, e1, m1, e33, e34, e35, hz⟩
          by_cases hlt : i < gs.length
          · have c := cg i hlt
            have hgi := eg i hlt
            have hgj := eg2 i hlt
            have hfa := @fstE_at (fun i => errG (gs.getD i ⟨0, [], ⟨false, [], []⟩⟩) ss.length) i hz
            simp only [hgj] at hfa
            generalize gs[i] = G at *
            by_cases he : errG G ss.length = 0
            · rw [he] at c
              clear hfa
              obtain ⟨k, ar, r, rl, rd⟩ := G
              (focus (refine wkap (w_a e1 (w_a m1 (w_a e33 (w_a e34 (w_a e35 (w_a hls (w_a hlg (w_a hgi w_t)))))))) (w_a c w_t) (w_r 0) ?_; (repeat' first | exact w_t | apply w_l); all_goals intros))
              exact ⟨i + 1, ⟨by omega, by exact gW e1, by exact gW m1, by exact gW e33, by exact gW e34, by exact gS, fun j hj => by by_cases e : j = i; rw [e, hgj]; exact he; exact hz j (by omega)⟩, by omega⟩
            · rw [hfa he hlt]
              clear hfa
              generalize errG G ss.length = z at *
              obtain ⟨k, ar, r, rl, rd⟩ := G
              (focus (refine wklp (w_a e1 (w_a m1 (w_a e33 (w_a e34 (w_a e35 (w_a hls (w_a hlg (w_a hgi w_t)))))))) (w_a c w_t) w_t (w_r 0) ?_; (repeat' first | exact w_t | apply w_l); all_goals intros))
          · have hi2 : i = gs.length := by omega
            subst hi2
            rw [fstE_zero hz]
            (focus (refine wklp (w_a e1 (w_a m1 (w_a e33 (w_a e34 (w_a e35 (w_a hls (w_a hlg w_t))))))) w_t w_t (w_r 0) ?_; (repeat' first | exact w_t | apply w_l); all_goals intros))
        · exact ⟨Nat.zero_le _, by exact gW e1, by exact gW m1, by exact gC, by exact gW hlg, by exact gC, fun j hj => by omega⟩
    · exact ⟨Nat.zero_le _, by exact gC, by exact gC, by exact gW hls, by exact gC, fun j hj => by omega⟩
end Go.Proofs.YtbgmnobnaplmlaaGreat
end

section
namespace Go.Proofs.YtbgmnobnaplmlaaGreat
open Go Go.RowKit Go.Pg
set_option linter.unusedSimpArgs false
set_option linter.unusedVariables false
set_option maxRecDepth 20000
attribute [-bool_to_prop] Bool.and_eq_decide Bool.or_eq_decide Bool.decide_beq_decide decide_eq_decide
theorem szPtrB : szOf Tryz.prog 103 = some 1 := by kernel_rfl
theorem zPtrB : zeroOf Tryz.prog 103 = some (.pointer none) := by kernel_rfl
theorem szFnC : szOf Tryz.prog 154 = some 1 := by kernel_rfl
theorem zFnC : zeroOf Tryz.prog 154 = some (.nilFunc) := by kernel_rfl
end Go.Proofs.YtbgmnobnaplmlaaGreat
end

section
namespace Go.Proofs.YtbgmnobnaplmlaaGreat
open Go Go.RowKit Go.Pg Go.Pol
set_option linter.unusedSimpArgs false
set_option linter.unusedVariables false
set_option maxRecDepth 20000
attribute [local go_sem] Tryz.underlying3 Tryz.underlying4 Tryz.underlying178 Tryz.underlying9 Tryz.underlying48 Tryz.underlying31 Tryz.underlying43 Tryz.underlying41 Tryz.underlying39 Tryz.underlying50 Tryz.underlying22 Tryz.underlying25 Tryz.underlying56 Tryz.underlying28 Tryz.underlying72 Tryz.underlying27 Tryz.underlying30 Tryz.underlying105 Tryz.underlying107 Tryz.underlying70 Tryz.underlying63 Tryz.underlying103 Tryz.underlying154 sz3 by3 z3 szB zB szErr zErr szStr byStr zStr szRat zRat szInt zInt szNat zNat szStep byStep zStep szFig zFig szSlI zSlI szSlS zSlS szVar byVar zVar szSlV zSlV szCoord byCoord zCoord szSlC zSlC szFrame zFrame szCBld byCBld zCBld szCVec byCVec zCVec szPoly byPoly zPoly szTerm zTerm szPtrB zPtrB szFnC zFnC
attribute [-bool_to_prop] Bool.and_eq_decide Bool.or_eq_decide Bool.decide_beq_decide decide_eq_decide
theorem Sub.nil (m : Nat) : Sub (.v (.slice none 0 0)) (.sl m []) := fun w imm x h => by
  rw [h.v_inv]
  exact .pure ((Wk.nil m).rd (.v _))
set_option maxHeartbeats 2000000 in
theorem cbVariable (σ : Mem) (KB KC KV g : Nat) (svC svV : Value) (vs : List Vt) (fr : Nat) (kind step number : Int) (hB : σ KB = some (.box g 105 [.own KC svC, .own KV svV, iv fr] false)) (hV : σ KV = some (.row svV 56 3 (vs.map Vt.av) 0)) (hl : vs.length ≤ 200) (hBV : KB ≠ KV) :
    ACall Tryz.prog 111 [.pbox KB g 0, iv kind, iv step, iv number] σ fun r σ' => ∃ sv, r = poA (varM vs.length) ∧ σ' = upd (upd σ KV (some (.row sv 56 3 ((vs ++ [(kind, step, number)]).map Vt.av) 0))) KB (some (.box g 105 [.own KC svC, .own KV sv, iv fr] false)) := by
  have mB := lents_at hB
  have mV := lents_at hV
  have cv := poVar vs.length (by omega)
  have hln : (vs.map Vt.av).length = vs.length := List.length_map ..
  have hm1 : ((vs.length + 1 : Nat) : Int) - 1 = (vs.length : Int) := by omega
  simp only [Ent.sh, AV.shL, AV.sh] at mB mV
  simp only [List.map_append, List.map_cons, List.map_nil]
  refine acall_lents Tryz.func111 rfl Tryz.ntmps111 Tryz.results111 Tryz.call111 (by rfl) (by simp) ?_
  (focus (refine wkap (w_a mB (w_a mV (w_a hln (w_a hm1 (w_a @l_app w_t))))) (w_a cv w_t) (w_r 0) ?_; (repeat' first | exact w_t | apply w_l); all_goals intros))
  simp (disch := omega) only [go_sem]
  rename_i sv0 sv1
  refine backS (Sub.refl _) ⟨sv1, rfl, rfl⟩ ?_
  (repeat' (first | exact Agr.start _ | (refine Agr.own ?_ (by omega)) | (refine Agr.put ?_ rfl rfl) | (refine Agr.mark ?_ (by omega)) | (rw [List.map_append]; rfl)))
theorem Sub.agg2 {a b a' b' : AV} (h : Sub a a') (k : Sub b b') : Sub (.agg [a, b]) (.agg [a', b']) := Sub.agg _ _ rfl fun j x y h1 h2 => by
  match j with
  | 0 => simp at h1 h2; subst h1; subst h2; exact h
  | 1 => simp at h1 h2; subst h1; subst h2; exact k
  | j + 2 => simp at h1
theorem upd_same' {σ : Mem} {k : Nat} {e : Ent} (h : σ k = some e) : upd σ k (some e) = σ := by
  funext j; rw [upd_at]; split
  · subst_vars; exact h.symm
  · rfl
set_option maxHeartbeats 4000000 in
theorem cbPoint (σ : Mem) (KB KC KV g : Nat) (svC svV : Value) (vs : List Vt) (fr : Nat) (i : Nat) (hB : σ KB = some (.box g 105 [.own KC svC, .own KV svV, iv fr] false)) (hV : σ KV = some (.row svV 56 3 (vs.map Vt.av) 0)) (hl : vs.length ≤ 100) (hBV : KB ≠ KV) (hf : fr ≤ 1000) :
    ACall Tryz.prog 107 [.pbox KB g 0, iv i] σ fun r σ' => ∃ sv, r = coA (if fr = 0 then ([], []) else if fr = 1 then (varM vs.length, []) else (varM vs.length, varM (vs.length + 1))) ∧
      σ' = upd (upd σ KV (some (.row sv 56 3 ((vs ++ (if fr = 0 then [] else if fr = 1 then [(1, (i : Int), 0)] else [(1, (i : Int), 0), (1, (i : Int), 1)])).map Vt.av) 0))) KB (some (.box g 105 [.own KC svC, .own KV sv, iv (fr + 1 : Nat)] false)) := by
  have mB := lents_at hB
  have mV := lents_at hV
  simp only [Ent.sh, AV.shL, AV.sh] at mB mV
  by_cases h0 : fr = 0
  · subst h0
    simp only [if_true, List.append_nil]
    refine acall_lents Tryz.func107 rfl Tryz.ntmps107 Tryz.results107 Tryz.call107 (by rfl) (by simp) ?_
    (focus (refine wkap (w_a mB (w_a mV w_t)) w_t (w_r 0) ?_; (repeat' first | exact w_t | apply w_l); all_goals intros))
    simp (disch := omega) only [go_sem]
    refine backS (Sub.agg2 (Sub.nil 4) (Sub.nil 4)) ⟨svV, rfl, rfl⟩ ?_
    rw [upd_same' hV]
    (repeat' (first | exact Agr.start _ | (refine Agr.own ?_ (by omega)) | (refine Agr.put ?_ rfl rfl) | (refine Agr.mark ?_ (by omega)) | (rw [List.map_append]; rfl)))
  · by_cases h1 : fr = 1
    · subst h1
      simp only [if_neg h0, if_true]
      refine acall_lents Tryz.func107 rfl Tryz.ntmps107 Tryz.results107 Tryz.call107 (by rfl) (by simp) ?_
      (focus (refine wkap (w_a mB (w_a mV w_t)) w_t (w_r 0) ?_; (repeat' first | exact w_t | apply w_l); all_goals intros))
      refine o_fresh (cbVariable _ (KB + 1000) (KC + 1000) (KV + 1000) g svC svV vs 2 1 (i : Int) 0 (by (simp (disch := omega) only [go_sem, mB, mV, if_neg, if_pos] <;> repeat' first | rfl | refine ⟨?_, ?_⟩)) (by (simp (disch := omega) only [go_sem, mB, mV, if_neg, if_pos, List.map_append, List.map_cons, List.map_nil] <;> repeat' first | rfl | refine ⟨?_, ?_⟩)) (by first | omega | (simp; omega)) (by omega)) ?_
      intro sv1
      (focus (refine wkap (w_a mB (w_a mV w_t)) w_t (w_r 0) ?_; (repeat' first | exact w_t | apply w_l); all_goals intros))
      simp (disch := omega) only [go_sem]
      refine backS (Sub.agg2 (Sub.refl _) (Sub.nil 4)) ⟨sv1, rfl, rfl⟩ ?_
      simp only [List.map_append, List.map_cons, List.map_nil]
      intro k
      by_cases hk1 : k = KB
      · rw [hk1]
        simp (disch := omega) only [upd_at, if_pos, if_neg, Option.map_some, Ent.sh, AV.shL, AV.sh]
        try rfl
      · by_cases hk2 : k = KV
        · rw [hk2]
          simp (disch := omega) only [upd_at, if_pos, if_neg, Option.map_some, Ent.sh, AV.shL, AV.sh]
          try rfl
        · simp (disch := omega) only [upd_at, if_neg]
          exact Agr.start σ k
    · simp only [if_neg h0, if_neg h1]
      have hl1 : (vs ++ [((1 : Int), (i : Int), (0 : Int))]).length = vs.length + 1 := by simp
      refine acall_lents Tryz.func107 rfl Tryz.ntmps107 Tryz.results107 Tryz.call107 (by rfl) (by simp) ?_
      (focus (refine wkap (w_a mB (w_a mV (w_a @cast_succ w_t))) w_t (w_r 0) ?_; (repeat' first | exact w_t | apply w_l); all_goals intros))
      refine o_fresh (cbVariable _ (KB + 1000) (KC + 1000) (KV + 1000) g svC svV vs (fr + 1) 1 (i : Int) 0 (by (simp (disch := omega) only [go_sem, mB, mV, if_neg, if_pos] <;> repeat' first | rfl | refine ⟨?_, ?_⟩)) (by (simp (disch := omega) only [go_sem, mB, mV, if_neg, if_pos, List.map_append, List.map_cons, List.map_nil] <;> repeat' first | rfl | refine ⟨?_, ?_⟩)) (by first | omega | (simp; omega)) (by omega)) ?_
      intro sv1
      (focus (refine wkap (w_a mB (w_a mV (w_a @cast_succ w_t))) w_t (w_r 0) ?_; (repeat' first | exact w_t | apply w_l); all_goals intros))
      refine o_fresh (cbVariable _ (KB + 1000) (KC + 1000) (KV + 1000) g svC sv1 (vs ++ [(1, (i : Int), 0)]) (fr + 1) 1 (i : Int) 1 (by (simp (disch := omega) only [go_sem, mB, mV, if_neg, if_pos] <;> repeat' first | rfl | refine ⟨?_, ?_⟩)) (by (simp (disch := omega) only [go_sem, mB, mV, if_neg, if_pos, List.map_append, List.map_cons, List.map_nil] <;> repeat' first | rfl | refine ⟨?_, ?_⟩)) (by first | omega | (simp; omega)) (by omega)) ?_
      intro sv2
      (focus (refine wkap (w_a mB (w_a mV (w_a hl1 w_t))) w_t (w_r 0) ?_; (repeat' first | exact w_t | apply w_l); all_goals intros))
      simp (disch := omega) only [go_sem, hl1]
      refine backS (Sub.refl _) ⟨sv2, rfl, rfl⟩ ?_
      simp only [List.append_assoc, List.cons_append, List.nil_append]
      intro k
      by_cases hk1 : k = KB
      · rw [hk1]
        simp (disch := omega) only [upd_at, if_pos, if_neg, Option.map_some, Ent.sh, AV.shL, AV.sh]
        try rfl
      · by_cases hk2 : k = KV
        · rw [hk2]
          simp (disch := omega) only [upd_at, if_pos, if_neg, Option.map_some, Ent.sh, AV.shL, AV.sh]
          try rfl
        · simp (disch := omega) only [upd_at, if_neg]
          exact Agr.start σ k
set_option maxHeartbeats 4000000 in
theorem cbDep (σ : Mem) (KB KC KV g : Nat) (svC svV : Value) (vs : List Vt) (fr : Nat) (i : Nat) (num : Int) (hB : σ KB = some (.box g 105 [.own KC svC, .own KV svV, iv fr] false)) (hV : σ KV = some (.row svV 56 3 (vs.map Vt.av) 0)) (hl : vs.length ≤ 100) (hBV : KB ≠ KV) (hn : 0 ≤ num ∧ num ≤ 10) :
    ACall Tryz.prog 113 [.pbox KB g 0, iv i, iv num] σ fun r σ' => ∃ sv, r = coA (varM vs.length, varM (vs.length + 1)) ∧
      σ' = upd (upd σ KV (some (.row sv 56 3 ((vs ++ [(2, (i : Int), num), (2, (i : Int), num + 1)]).map Vt.av) 0))) KB (some (.box g 105 [.own KC svC, .own KV sv, iv fr] false)) := by
  have mB := lents_at hB
  have mV := lents_at hV
  simp only [Ent.sh, AV.shL, AV.sh] at mB mV
  have hl1 : (vs ++ [((2 : Int), (i : Int), num)]).length = vs.length + 1 := by simp
  refine acall_lents Tryz.func113 rfl Tryz.ntmps113 Tryz.results113 Tryz.call113 (by rfl) (by simp) ?_
  (focus (refine wkap (w_a mB (w_a mV w_t)) w_t (w_r 0) ?_; (repeat' first | exact w_t | apply w_l); all_goals intros))
  refine o_fresh (cbVariable _ (KB + 1000) (KC + 1000) (KV + 1000) g svC svV vs fr 2 (i : Int) num (by (simp (disch := omega) only [go_sem, mB, mV, if_neg, if_pos] <;> repeat' first | rfl | refine ⟨?_, ?_⟩)) (by (simp (disch := omega) only [go_sem, mB, mV, if_neg, if_pos, List.map_append, List.map_cons, List.map_nil] <;> repeat' first | rfl | refine ⟨?_, ?_⟩)) (by first | omega | (simp; omega)) (by omega)) ?_
  intro sv1
  (focus (refine wkap (w_a mB (w_a mV w_t)) w_t (w_r 0) ?_; (repeat' first | exact w_t | apply w_l); all_goals intros))
  refine o_fresh (cbVariable _ (KB + 1000) (KC + 1000) (KV + 1000) g svC sv1 (vs ++ [(2, (i : Int), num)]) fr 2 (i : Int) (num + 1) (by (simp (disch := omega) only [go_sem, mB, mV, if_neg, if_pos] <;> repeat' first | rfl | refine ⟨?_, ?_⟩)) (by (simp (disch := omega) only [go_sem, mB, mV, if_neg, if_pos, List.map_append, List.map_cons, List.map_nil] <;> repeat' first | rfl | refine ⟨?_, ?_⟩)) (by first | omega | (simp; omega)) (by omega)) ?_
  intro sv2
  (focus (refine wkap (w_a mB (w_a mV (w_a hl1 w_t))) w_t (w_r 0) ?_; (repeat' first | exact w_t | apply w_l); all_goals intros))
  simp (disch := omega) only [go_sem, hl1]
  refine backS (Sub.refl _) ⟨sv2, rfl, rfl⟩ ?_
  simp only [List.append_assoc, List.cons_append, List.nil_append]
  intro k
  by_cases hk1 : k = KB
  · rw [hk1]
    simp (disch := omega) only [upd_at, if_pos, if_neg, Option.map_some, Ent.sh, AV.shL, AV.sh]
    try rfl
  · by_cases hk2 : k = KV
    · rw [hk2]
      simp (disch := omega) only [upd_at, if_pos, if_neg, Option.map_some, Ent.sh, AV.shL, AV.sh]
      try rfl
    · simp (disch := omega) only [upd_at, if_neg]
      exact Agr.start σ k
end Go.Proofs.YtbgmnobnaplmlaaGreat
end

section
namespace Go.Proofs.YtbgmnobnaplmlaaGreat
open Go Go.RowKit Go.Pg Go.Pol
set_option linter.unusedSimpArgs false
set_option linter.unusedVariables false
set_option maxRecDepth 20000
attribute [local go_sem] Tryz.underlying3 Tryz.underlying4 Tryz.underlying178 Tryz.underlying9 Tryz.underlying48 Tryz.underlying31 Tryz.underlying43 Tryz.underlying41 Tryz.underlying39 Tryz.underlying50 Tryz.underlying22 Tryz.underlying25 Tryz.underlying56 Tryz.underlying28 Tryz.underlying72 Tryz.underlying27 Tryz.underlying30 Tryz.underlying105 Tryz.underlying107 Tryz.underlying70 Tryz.underlying63 Tryz.underlying103 Tryz.underlying154 sz3 by3 z3 szB zB szErr zErr szStr byStr zStr szRat zRat szInt zInt szNat zNat szStep byStep zStep szFig zFig szSlI zSlI szSlS zSlS szVar byVar zVar szSlV zSlV szCoord byCoord zCoord szSlC zSlC szFrame zFrame szCBld byCBld zCBld szCVec byCVec zCVec szPoly byPoly zPoly szTerm zTerm szPtrB zPtrB szFnC zFnC
attribute [-bool_to_prop] Bool.and_eq_decide Bool.or_eq_decide Bool.decide_beq_decide decide_eq_decide
theorem lents_beq {K c : Nat} (h : c < 1000) : (K + 1000 == c) = false := by rw [beq_eq_false_iff_ne]; omega
theorem u16s_inj {a b : List Nat} (h : u16s a = u16s b) : a = b := by
  induction a generalizing b with
  | nil => cases b with
    | nil => rfl
    | cons y b => simp [u16s] at h
  | cons x a ih => cases b with
    | nil => simp [u16s] at h
    | cons y b =>
      rw [u16s_c, u16s_c] at h
      simp only [List.cons.injEq, AV.v.injEq, Value.int.injEq, true_and] at h
      rw [ih h.2, show x = y by omega]
theorem RQ.ok_eq {r : RQ} {k : Nat} (hl : r.lm k) (h : r.ok = true) : r = ⟨decide (r.q.num < 0), toL r.q.num.natAbs, toL r.q.den⟩ := by
  have h1 := (RQ.ok_av hl h).1
  simp only [RQ.av, ratQ, AV.agg.injEq, List.cons.injEq, AV.v.injEq, Value.bool.injEq, lim, AV.sl.injEq, true_and, and_true] at h1
  obtain ⟨s, l, d⟩ := r
  simp only at h1
  rw [RQ.mk.injEq]
  exact ⟨h1.1, u16s_inj h1.2.1, u16s_inj h1.2.2⟩
theorem coOf (c : Po × Po) : Pure Tryz.prog 105 [coA c] (coA c) := by
  obtain ⟨p, q⟩ := c
  refine pure_intro (tok := 0) Tryz.func105 rfl Tryz.ntmps105 Tryz.results105 Tryz.call105 (by rfl) (by simp) ?_
  (focus (refine wklp w_t w_t w_t (w_r 0) ?_; (repeat' first | exact w_t | apply w_l); all_goals intros))
theorem coCombine (f : Nat) (a b r : Po × Po) (c1 : Pure Tryz.prog f [poA a.1, poA b.1] (poA r.1)) (c2 : Pure Tryz.prog f [poA a.2, poA b.2] (poA r.2)) : Pure Tryz.prog 104 [coA a, coA b, .fn f []] (coA r) := by
  obtain ⟨a1, a2⟩ := a
  obtain ⟨b1, b2⟩ := b
  obtain ⟨r1, r2⟩ := r
  simp only at c1 c2
  refine pure_intro (tok := 0) Tryz.func104 rfl Tryz.ntmps104 Tryz.results104 Tryz.call104 (by rfl) (by simp) ?_
  (focus (refine wkld w_t (w_a c1 (w_a c2 w_t)) w_t (w_a (w_d 1 [(5, poA r1), (11, poA r2)] [] [6]) w_t) ?_; (repeat' first | exact w_t | apply w_l); all_goals intros))
theorem coBetween (a b : Po × Po) (h1 : Pure Tryz.prog 77 [poA b.1, poA a.1] (poA (subM b.1 a.1))) (h2 : Pure Tryz.prog 77 [poA b.2, poA a.2] (poA (subM b.2 a.2))) : Pure Tryz.prog 103 [coA a, coA b] (coA (subM b.1 a.1, subM b.2 a.2)) := by
  have c := coCombine 77 b a (subM b.1 a.1, subM b.2 a.2) h1 h2
  have oa := coOf a
  have ob := coOf b
  obtain ⟨a1, a2⟩ := a
  obtain ⟨b1, b2⟩ := b
  simp only at *
  generalize subM b1 a1 = x at *
  generalize subM b2 a2 = y at *
  refine pure_intro (tok := 0) Tryz.func103 rfl Tryz.ntmps103 Tryz.results103 Tryz.call103 (by rfl) (by simp) ?_
  (focus (refine wkld w_t (w_a oa (w_a ob (w_a c w_t))) w_t (w_a (w_d 1 [(1, coA (b1, b2)), (3, coA (a1, a2)), (4, coA (x, y))] [] [4]) w_t) ?_; (repeat' first | exact w_t | apply w_l); all_goals intros))
theorem cbScale (K4 g4 : Nat) (k : Int) (nm : ByteArray) (ar : List Int) (q : Rat) (p r : Po) (c : Pure Tryz.prog 109 [poA p, ratQ q] (poA r)) :
    RdC Tryz.prog [(K4, .box g4 50 [iv k, strA nm, ivs ar, .v (.bool (decide (q.num < 0))), lim (toL q.num.natAbs), lim (toL q.den)] false)] 108 [poA p, .pbox K4 g4 0] (poA r) := by
  intro σ hL
  have m4 := lents_at hL.1
  simp only [Ent.sh, AV.shL, AV.sh] at m4
  refine acall_lents Tryz.func108 rfl Tryz.ntmps108 Tryz.results108 Tryz.call108 (by rfl) (by simp) ?_
  (focus (refine wkap (w_a m4 w_t) (w_a c w_t) (w_r 0) ?_; (repeat' first | exact w_t | apply w_l); all_goals intros))
  simp (disch := omega) only [go_sem]
  exact backS (Sub.refl _) ⟨rfl, rfl⟩ (Agr.start σ)
theorem cbMulV (K g : Nat) (t p r : Po) (c : Pure Tryz.prog 78 [poA p, poA t] (poA r)) :
    RdC Tryz.prog [(K, .box g 70 [poA t] false)] 112 [poA p, .pbox K g 0] (poA r) := by
  intro σ hL
  have m4 := lents_at hL.1
  simp only [Ent.sh, AV.shL, AV.sh] at m4
  refine acall_lents Tryz.func112 rfl Tryz.ntmps112 Tryz.results112 Tryz.call112 (by rfl) (by simp) ?_
  (focus (refine wkap (w_a m4 w_t) (w_a c w_t) (w_r 0) ?_; (repeat' first | exact w_t | apply w_l); all_goals intros))
  simp (disch := omega) only [go_sem]
  exact backS (Sub.refl _) ⟨rfl, rfl⟩ (Agr.start σ)
/-- What a step's closures read: the builder's pointer, the step, the builder, its points. -/
def atL (K3 K4 KB KC KV g3 g4 gB : Nat) (svC svV : Value) (z : AV) (sc : List AV) (cs : List (Po × Po)) : List (Nat × Ent) :=
  [(K3, .box g3 103 [.pbox KB gB 0] false), (K4, .box g4 50 sc false), (KB, .box gB 105 [.own KC svC, .own KV svV, z] false), (KC, .row svC 72 2 (cs.map coA) 0)]
theorem atL_def (K3 K4 KB KC KV g3 g4 gB : Nat) (svC svV : Value) (z : AV) (sc : List AV) (cs : List (Po × Po)) : atL K3 K4 KB KC KV g3 g4 gB svC svV z sc cs =
  [(K3, .box g3 103 [.pbox KB gB 0] false), (K4, .box g4 50 sc false), (KB, .box gB 105 [.own KC svC, .own KV svV, z] false), (KC, .row svC 72 2 (cs.map coA) 0)] := rfl
set_option maxHeartbeats 4000000 in
theorem cbAt (K3 K4 KB KC KV g3 g4 gB : Nat) (svC svV : Value) (fr : Nat) (k0 : Int) (nm : ByteArray) (ar : List Int) (x y w : AV) (cs : List (Po × Po)) (k : Nat) (hx : x.sh = x ∧ y.sh = y ∧ w.sh = w) (hk : k < ar.length) (h0 : 0 ≤ gI ar k ∧ gI ar k < (cs.length : Int)) :
    RdC Tryz.prog (atL K3 K4 KB KC KV g3 g4 gB svC svV (iv fr) [iv k0, strA nm, ivs ar, x, y, w] cs) 101 [iv k, .pbox K3 g3 0, .pbox K4 g4 0] (coA (cs.getD (gI ar k).toNat ([], []))) := by
  intro σ hL
  simp only [atL, hasAll_cons, hasAll_nil] at hL
  obtain ⟨h3, h4, hB, hC, -⟩ := hL
  have m3 := lents_at h3
  have m4 := lents_at h4
  have mB := lents_at hB
  have mC := lents_at hC
  simp only [Ent.sh, AV.shL, AV.sh, hx.1, hx.2.1, hx.2.2] at m3 m4 mB mC
  have hga : (ar.map iv).getD k .u = iv (gI ar k) := by rw [map_atB iv hk, gI_at hk]
  have hgc : (cs.map coA).getD (gI ar k).toNat .u = coA (cs.getD (gI ar k).toNat ([], [])) := getD_mapA (by omega)
  have hll : (ar.map iv).length = ar.length := List.length_map ..
  have hcl : (cs.map coA).length = cs.length := List.length_map ..
  generalize cs.getD (gI ar k).toNat ([], []) = c at *
  generalize gI ar k = a at *
  obtain ⟨c1, c2⟩ := c
  refine acall_lents Tryz.func101 rfl Tryz.ntmps101 Tryz.results101 Tryz.call101 (by rfl) (by simp) ?_
  (focus (refine wkad (w_a m3 (w_a m4 (w_a mB (w_a mC (w_a hga (w_a hgc (w_a hll (w_a hcl (w_a @lents_lt (w_a @lents_beq w_t)))))))))) w_t (w_a (w_d 1 [] [] [4]) w_t) ?_; (repeat' first | exact w_t | apply w_l); all_goals intros))
  simp (disch := omega) only [go_sem]
  refine backS (Sub.refl _) ⟨rfl, rfl⟩ ?_
  exact ((Agr.start σ).own (by omega)).own (by omega)
end Go.Proofs.YtbgmnobnaplmlaaGreat
end

section
namespace Go.Proofs.YtbgmnobnaplmlaaGreat
open Go Go.RowKit Go.Pg Go.Pol
set_option linter.unusedSimpArgs false
set_option linter.unusedVariables false
set_option maxRecDepth 20000
attribute [local go_sem] Tryz.underlying3 Tryz.underlying4 Tryz.underlying178 Tryz.underlying9 Tryz.underlying48 Tryz.underlying31 Tryz.underlying43 Tryz.underlying41 Tryz.underlying39 Tryz.underlying50 Tryz.underlying22 Tryz.underlying25 Tryz.underlying56 Tryz.underlying28 Tryz.underlying72 Tryz.underlying27 Tryz.underlying30 Tryz.underlying105 Tryz.underlying107 Tryz.underlying70 Tryz.underlying63 Tryz.underlying103 Tryz.underlying154 sz3 by3 z3 szB zB szErr zErr szStr byStr zStr szRat zRat szInt zInt szNat zNat szStep byStep zStep szFig zFig szSlI zSlI szSlS zSlS szVar byVar zVar szSlV zSlV szCoord byCoord zCoord szSlC zSlC szFrame zFrame szCBld byCBld zCBld szCVec byCVec zCVec szPoly byPoly zPoly szTerm zTerm szPtrB zPtrB szFnC zFnC
attribute [-bool_to_prop] Bool.and_eq_decide Bool.or_eq_decide Bool.decide_beq_decide decide_eq_decide
set_option maxHeartbeats 8000000 in
theorem cbAlongS (K3 K4 K7 KB KC KV g3 g4 g7 gB : Nat) (svC svV : Value) (fr : Nat) (k0 : Int) (nm : ByteArray) (ar : List Int) (q : Rat) (cs : List (Po × Po)) (a b x r : Po × Po) (hk : 2 ≤ ar.length) (h0 : 0 ≤ gI ar 0 ∧ gI ar 0 < (cs.length : Int)) (h1 : 0 ≤ gI ar 1 ∧ gI ar 1 < (cs.length : Int)) (ha : cs.getD (gI ar 0).toNat ([], []) = a) (hb : cs.getD (gI ar 1).toNat ([], []) = b)
    (s1 : Pure Tryz.prog 77 [poA b.1, poA a.1] (poA (subM b.1 a.1))) (s2 : Pure Tryz.prog 77 [poA b.2, poA a.2] (poA (subM b.2 a.2)))
    (c1 : Pure Tryz.prog 109 [poA (subM b.1 a.1), ratQ q] (poA x.1)) (c2 : Pure Tryz.prog 109 [poA (subM b.2 a.2), ratQ q] (poA x.2))
    (a1 : Pure Tryz.prog 106 [poA a.1, poA x.1] (poA r.1)) (a2 : Pure Tryz.prog 106 [poA a.2, poA x.2] (poA r.2)) :
    RdC Tryz.prog ((K7, .box g7 154 [.fn 101 [.pbox K3 g3 0, .pbox K4 g4 0]] false) :: atL K3 K4 KB KC KV g3 g4 gB svC svV (iv fr) [iv k0, strA nm, ivs ar, .v (.bool (decide (q.num < 0))), lim (toL q.num.natAbs), lim (toL q.den)] cs) 102 [.fn 108 [.pbox K4 g4 0], .pbox K7 g7 0] (coA r) := by
  intro σ hL
  have t0 := cbAt (K3 + 1000) (K4 + 1000) (KB + 1000) (KC + 1000) (KV + 1000) g3 g4 gB svC svV fr k0 nm ar (.v (.bool (decide (q.num < 0)))) (lim (toL q.num.natAbs)) (lim (toL q.den)) cs 0 ⟨rfl, rfl, rfl⟩ (by omega) h0
  have t1 := cbAt (K3 + 1000) (K4 + 1000) (KB + 1000) (KC + 1000) (KV + 1000) g3 g4 gB svC svV fr k0 nm ar (.v (.bool (decide (q.num < 0)))) (lim (toL q.num.natAbs)) (lim (toL q.den)) cs 1 ⟨rfl, rfl, rfl⟩ (by omega) h1
  rw [ha] at t0
  rw [hb] at t1
  have cB := coBetween a b s1 s2
  have oa := coOf a
  have cC := coCombine 106 a x r a1 a2
  have p1 := cbScale (K4 + 1000) g4 k0 nm ar q (subM b.1 a.1) x.1 c1
  have p2 := cbScale (K4 + 1000) g4 k0 nm ar q (subM b.2 a.2) x.2 c2
  simp only [atL, hasAll_cons, hasAll_nil] at hL
  obtain ⟨h7, h3, h4, hB, hC, -⟩ := hL
  have m3 := lents_at h3
  have m4 := lents_at h4
  have m7 := lents_at h7
  have mB := lents_at hB
  have mC := lents_at hC
  skip
  simp only [Ent.sh, AV.shL, AV.sh] at m3 m4 m7 mB mC
  clear a1 a2 s1 s2 ha hb h0 h1
  obtain ⟨aa, ab⟩ := a
  obtain ⟨ba, bb⟩ := b
  obtain ⟨xa, xb⟩ := x
  obtain ⟨ra, rb⟩ := r
  simp only at *
  generalize subM ba aa = da at *
  generalize subM bb ab = db at *
  refine acall_lents Tryz.func102 rfl Tryz.ntmps102 Tryz.results102 Tryz.call102 (by rfl) (by simp) ?_
  (focus (refine wkax (w_a m3 (w_a m4 (w_a m7 (w_a mB (w_a mC (w_a @lents_lt (w_a @lents_beq (w_a @atL_def w_t)))))))) (w_a cB (w_a oa (w_a cC w_t))) (w_a (w_d 1 [(1, coA (aa, ab)), (3, coA (ba, bb)), (4, coA (da, db))] [] []) (w_a (w_d 2 [(1, coA (aa, ab)), (2, coA (aa, ab)), (6, poA xa), (10, poA xb), (12, coA (ra, rb))] [] [3]) w_t)) w_t w_t (w_a t0 (w_a t1 (w_a p1 (w_a p2 w_t)))) (w_r 0) ?_; (repeat' first | exact w_t | apply w_l); all_goals intros))
  simp (disch := omega) only [go_sem]
  refine backS (Sub.refl _) ⟨rfl, rfl⟩ ?_
  (repeat' (first | exact Agr.start _ | (refine Agr.own ?_ (by omega))))
set_option maxHeartbeats 8000000 in
theorem cbAlongM (K3 K4 K7 KB KC KV g3 g4 g7 gB : Nat) (svC svV : Value) (fr : Nat) (k0 : Int) (nm : ByteArray) (ar : List Int) (rs : Bool) (rl rd : List Nat) (K10 g10 : Nat) (t : Po) (cs : List (Po × Po)) (a b x r : Po × Po) (hk : 2 ≤ ar.length) (h0 : 0 ≤ gI ar 0 ∧ gI ar 0 < (cs.length : Int)) (h1 : 0 ≤ gI ar 1 ∧ gI ar 1 < (cs.length : Int)) (ha : cs.getD (gI ar 0).toNat ([], []) = a) (hb : cs.getD (gI ar 1).toNat ([], []) = b)
    (s1 : Pure Tryz.prog 77 [poA b.1, poA a.1] (poA (subM b.1 a.1))) (s2 : Pure Tryz.prog 77 [poA b.2, poA a.2] (poA (subM b.2 a.2)))
    (c1 : Pure Tryz.prog 78 [poA (subM b.1 a.1), poA t] (poA x.1)) (c2 : Pure Tryz.prog 78 [poA (subM b.2 a.2), poA t] (poA x.2))
    (a1 : Pure Tryz.prog 106 [poA a.1, poA x.1] (poA r.1)) (a2 : Pure Tryz.prog 106 [poA a.2, poA x.2] (poA r.2)) :
    RdC Tryz.prog ((K10, .box g10 70 [poA t] false) :: (K7, .box g7 154 [.fn 101 [.pbox K3 g3 0, .pbox K4 g4 0]] false) :: atL K3 K4 KB KC KV g3 g4 gB svC svV (iv fr) [iv k0, strA nm, ivs ar, .v (.bool rs), lim rl, lim rd] cs) 102 [.fn 112 [.pbox K10 g10 0], .pbox K7 g7 0] (coA r) := by
  intro σ hL
  have t0 := cbAt (K3 + 1000) (K4 + 1000) (KB + 1000) (KC + 1000) (KV + 1000) g3 g4 gB svC svV fr k0 nm ar (.v (.bool rs)) (lim rl) (lim rd) cs 0 ⟨rfl, rfl, rfl⟩ (by omega) h0
  have t1 := cbAt (K3 + 1000) (K4 + 1000) (KB + 1000) (KC + 1000) (KV + 1000) g3 g4 gB svC svV fr k0 nm ar (.v (.bool rs)) (lim rl) (lim rd) cs 1 ⟨rfl, rfl, rfl⟩ (by omega) h1
  rw [ha] at t0
  rw [hb] at t1
  have cB := coBetween a b s1 s2
  have oa := coOf a
  have cC := coCombine 106 a x r a1 a2
  have p1 := cbMulV (K10 + 1000) g10 t (subM b.1 a.1) x.1 c1
  have p2 := cbMulV (K10 + 1000) g10 t (subM b.2 a.2) x.2 c2
  simp only [atL, hasAll_cons, hasAll_nil] at hL
  obtain ⟨h10, h7, h3, h4, hB, hC, -⟩ := hL
  have m3 := lents_at h3
  have m4 := lents_at h4
  have m7 := lents_at h7
  have mB := lents_at hB
  have mC := lents_at hC
  have m10 := lents_at h10
  simp only [Ent.sh, AV.shL, AV.sh] at m3 m4 m7 mB mC m10
  clear a1 a2 s1 s2 ha hb h0 h1
  obtain ⟨aa, ab⟩ := a
  obtain ⟨ba, bb⟩ := b
  obtain ⟨xa, xb⟩ := x
  obtain ⟨ra, rb⟩ := r
  simp only at *
  generalize subM ba aa = da at *
  generalize subM bb ab = db at *
  refine acall_lents Tryz.func102 rfl Tryz.ntmps102 Tryz.results102 Tryz.call102 (by rfl) (by simp) ?_
  (focus (refine wkax (w_a m3 (w_a m4 (w_a m7 (w_a mB (w_a mC (w_a m10 (w_a @lents_lt (w_a @lents_beq (w_a @atL_def w_t))))))))) (w_a cB (w_a oa (w_a cC w_t))) (w_a (w_d 1 [(1, coA (aa, ab)), (3, coA (ba, bb)), (4, coA (da, db))] [] []) (w_a (w_d 2 [(1, coA (aa, ab)), (2, coA (aa, ab)), (6, poA xa), (10, poA xb), (12, coA (ra, rb))] [] [3]) w_t)) w_t w_t (w_a t0 (w_a t1 (w_a p1 (w_a p2 w_t)))) (w_r 0) ?_; (repeat' first | exact w_t | apply w_l); all_goals intros))
  simp (disch := omega) only [go_sem]
  refine backS (Sub.refl _) ⟨rfl, rfl⟩ ?_
  (repeat' (first | exact Agr.start _ | (refine Agr.own ?_ (by omega))))
end Go.Proofs.YtbgmnobnaplmlaaGreat
end

section
namespace Go.Proofs.YtbgmnobnaplmlaaGreat
open Go Go.RowKit Go.Pg Go.Pol
set_option linter.unusedSimpArgs false
set_option linter.unusedVariables false
set_option maxRecDepth 20000
attribute [local go_sem] Tryz.underlying3 Tryz.underlying4 Tryz.underlying178 Tryz.underlying9 Tryz.underlying48 Tryz.underlying31 Tryz.underlying43 Tryz.underlying41 Tryz.underlying39 Tryz.underlying50 Tryz.underlying22 Tryz.underlying25 Tryz.underlying56 Tryz.underlying28 Tryz.underlying72 Tryz.underlying27 Tryz.underlying30 Tryz.underlying105 Tryz.underlying107 Tryz.underlying70 Tryz.underlying63 Tryz.underlying103 Tryz.underlying154 sz3 by3 z3 szB zB szErr zErr szStr byStr zStr szRat zRat szInt zInt szNat zNat szStep byStep zStep szFig zFig szSlI zSlI szSlS zSlS szVar byVar zVar szSlV zSlV szCoord byCoord zCoord szSlC zSlC szFrame zFrame szCBld byCBld zCBld szCVec byCVec zCVec szPoly byPoly zPoly szTerm zTerm szPtrB zPtrB szFnC zFnC
attribute [-bool_to_prop] Bool.and_eq_decide Bool.or_eq_decide Bool.decide_beq_decide decide_eq_decide
/-! ### sizes of what a step computes -/
theorem PK.sub {p q : Po} {j k e : Nat} (hp : PK p j e) (hq : PK q k e) : PK (subM p q) (j + k + 1) e := hp.add hq.neg
theorem PK.scl {p : Po} {j k e : Nat} {a : Rat} (hp : PK p j e) (ha : Sz a k) : PK (sclM a p) (j + k) e := by
  unfold sclM; split
  · exact .nil
  · exact hp.scale ha
theorem PK.mulV {p : Po} {j e v : Nat} (hp : PK p j e) : PK (mlM p (varM v)) (j + 1) (e + 1) := by
  rw [mul_var]; split
  · refine hp.times (t := (1, unitM v)) fun u hu => ?_
    rw [List.mem_singleton] at hu
    subst hu
    have h := varM_pk v (1, unitM v) (by unfold varM; rw [if_pos (by assumption)]; exact .head _)
    exact h
  · exact .nil
theorem scl_srt {a : Rat} {p : Po} (h : SrtM p) : SrtM (sclM a p) := by
  unfold sclM; split
  · exact .nil
  · exact scale_srt h ‹_›
theorem scl_len (a : Rat) (p : Po) : (sclM a p).length ≤ p.length := by
  unfold sclM; split
  · simp
  · rw [scale_len]; exact Nat.le_refl _
theorem mulV_len (p : Po) (v : Nat) : (mlM p (varM v)).length ≤ p.length := by
  rw [mul_var]; split
  · rw [timesP_len]; exact Nat.le_refl _
  · simp
theorem sub_len (p q : Po) : (subM p q).length ≤ p.length + q.length := by
  have := addP_len (lt := ltM) p (scaleP (-1) q)
  rw [scale_len] at this; exact this
/-- A coordinate of a frame in order. -/
structure Co (p : Po) : Prop where
  pk : PK p 110 1
  st : SrtM p
  ln : p.length ≤ 4000
/-- A step in order. -/
structure StOk (cs : List (Po × Po)) (s : RS) : Prop where
  k0 : 0 ≤ arS s.k
  al : (s.ar.length : Int) = arS s.k
  ai : ∀ k, k < s.ar.length → 0 ≤ gI s.ar k ∧ gI s.ar k < (cs.length : Int)
  r2 : s.k = 2 → s.r.ok = true
  rl : s.r.lm 2
set_option maxHeartbeats 8000000 in
theorem cbStep1 (σ : Mem) (KB KC KV g : Nat) (svC svV : Value) (cs : List (Po × Po)) (vs : List Vt) (fr : Nat) (i : Nat) (s : RS) (hB : σ KB = some (.box g 105 [.own KC svC, .own KV svV, iv fr] false)) (hV : σ KV = some (.row svV 56 3 (vs.map Vt.av) 0)) (hC : σ KC = some (.row svC 72 2 (cs.map coA) 0)) (hBV : KB ≠ KV) (hBC : KB ≠ KC) (hVC : KV ≠ KC) (hl : vs.length ≤ 64) (hf : fr ≤ 100) (hk : s.k = 1) : ACall Tryz.prog 52 [.pbox KB g 0, s.av, iv i] σ fun r σ' => ∃ sv, r = coA (FS.nxt ⟨cs, vs, fr⟩ i s).2 ∧
      σ' = upd (upd σ KV (some (.row sv 56 3 ((vs ++ (FS.nxt ⟨cs, vs, fr⟩ i s).1).map Vt.av) 0))) KB (some (.box g 105 [.own KC svC, .own KV sv, iv (if s.k = 1 then fr + 1 else fr : Nat)] false)) := by
  have mB := lents_at hB
  have mV := lents_at hV
  have mC := lents_at hC
  simp only [Ent.sh, AV.shL, AV.sh] at mB mV mC
  have en : FS.nxt ⟨cs, vs, fr⟩ i s = ((if fr = 0 then [] else if fr = 1 then [(1, (i : Int), 0)] else [(1, (i : Int), 0), (1, (i : Int), 1)]), (if fr = 0 then ([], []) else if fr = 1 then (varM vs.length, []) else (varM vs.length, varM (vs.length + 1)))) := by
    unfold FS.nxt; simp only; rw [if_pos hk]; split
    · rfl
    · split <;> rfl
  rw [en]
  simp only [if_pos hk]
  generalize hnv : (if fr = 0 then [] else if fr = 1 then [((1 : Int), (i : Int), (0 : Int))] else [(1, (i : Int), 0), (1, (i : Int), 1)]) = nv at *
  generalize hnc : (if fr = 0 then (([] : Po), ([] : Po)) else if fr = 1 then (varM vs.length, []) else (varM vs.length, varM (vs.length + 1))) = nc at *
  obtain ⟨k, nm, ar, r, rl, rd⟩ := s
  simp only at hk
  subst hk
  refine acall_lents Tryz.func52 rfl Tryz.ntmps52 Tryz.results52 Tryz.call52 (by rfl) (by simp) ?_
  (focus (refine wkad (w_a mB (w_a mV (w_a mC (w_a @lents_lt w_t)))) w_t w_t ?_; (repeat' first | exact w_t | apply w_l); all_goals intros))
  refine o_fresh ((cbPoint _ (KB + 1000) (KC + 1000) (KV + 1000) g svC svV vs fr i (by (simp (disch := omega) only [go_sem, mB, mV, if_neg, if_pos] <;> repeat' first | rfl | refine ⟨?_, ?_⟩)) (by (simp (disch := omega) only [go_sem, mB, mV, if_neg, if_pos] <;> repeat' first | rfl | refine ⟨?_, ?_⟩)) (by omega) (by omega) (by omega))) ?_
  rw [hnv, hnc]
  intro sv1
  obtain ⟨n1, n2⟩ := nc
  (focus (refine wkad (w_a mB (w_a mV (w_a mC (w_a @lents_lt w_t)))) w_t w_t ?_; (repeat' first | exact w_t | apply w_l); all_goals intros))
  simp (disch := omega) only [go_sem]
  refine backS (Sub.refl _) ⟨sv1, rfl, rfl⟩ ?_
  intro k
  by_cases hk1 : k = KB
  · rw [hk1]
    simp (disch := omega) only [upd_at, if_pos, if_neg, Option.map_some, Ent.sh, AV.shL, AV.sh]
    try rfl
  · by_cases hk2 : k = KV
    · rw [hk2]
      simp (disch := omega) only [upd_at, if_pos, if_neg, Option.map_some, Ent.sh, AV.shL, AV.sh]
      try rfl
    · simp (disch := omega) only [upd_at, if_neg]
      exact Agr.start σ k

set_option maxHeartbeats 8000000 in
theorem cbStep6 (σ : Mem) (KB KC KV g : Nat) (svC svV : Value) (cs : List (Po × Po)) (vs : List Vt) (fr : Nat) (i : Nat) (s : RS) (hB : σ KB = some (.box g 105 [.own KC svC, .own KV svV, iv fr] false)) (hV : σ KV = some (.row svV 56 3 (vs.map Vt.av) 0)) (hC : σ KC = some (.row svC 72 2 (cs.map coA) 0)) (hBV : KB ≠ KV) (hBC : KB ≠ KC) (hVC : KV ≠ KC) (hl : vs.length ≤ 64) (hf : fr ≤ 100) (hk : s.k = 6) : ACall Tryz.prog 52 [.pbox KB g 0, s.av, iv i] σ fun r σ' => ∃ sv, r = coA (FS.nxt ⟨cs, vs, fr⟩ i s).2 ∧
      σ' = upd (upd σ KV (some (.row sv 56 3 ((vs ++ (FS.nxt ⟨cs, vs, fr⟩ i s).1).map Vt.av) 0))) KB (some (.box g 105 [.own KC svC, .own KV sv, iv (if s.k = 1 then fr + 1 else fr : Nat)] false)) := by
  have mB := lents_at hB
  have mV := lents_at hV
  have mC := lents_at hC
  simp only [Ent.sh, AV.shL, AV.sh] at mB mV mC
  have en : FS.nxt ⟨cs, vs, fr⟩ i s = ([(1, (i : Int), 0), (2, (i : Int), 1), (2, (i : Int), 2)], (varM (vs.length + 1), varM (vs.length + 2))) := by
    unfold FS.nxt; simp only [hk]; rfl
  rw [en]
  simp only [if_neg (show ¬ s.k = 1 by omega)]
  have hl1 : (vs ++ [((1 : Int), (i : Int), (0 : Int))]).length = vs.length + 1 := by simp
  obtain ⟨k, nm, ar, r, rl, rd⟩ := s
  simp only at hk
  subst hk
  refine acall_lents Tryz.func52 rfl Tryz.ntmps52 Tryz.results52 Tryz.call52 (by rfl) (by simp) ?_
  (focus (refine wkad (w_a mB (w_a mV (w_a mC (w_a @lents_lt w_t)))) w_t w_t ?_; (repeat' first | exact w_t | apply w_l); all_goals intros))
  refine o_fresh ((cbVariable _ (KB + 1000) (KC + 1000) (KV + 1000) g svC svV vs fr 1 (i : Int) 0 (by (simp (disch := omega) only [go_sem, mB, mV, if_neg, if_pos] <;> repeat' first | rfl | refine ⟨?_, ?_⟩)) (by (simp (disch := omega) only [go_sem, mB, mV, if_neg, if_pos] <;> repeat' first | rfl | refine ⟨?_, ?_⟩)) (by omega) (by omega))) ?_
  intro sv1
  (focus (refine wkad (w_a mB (w_a mV (w_a mC (w_a @lents_lt w_t)))) w_t w_t ?_; (repeat' first | exact w_t | apply w_l); all_goals intros))
  refine o_fresh ((cbDep _ (KB + 1000) (KC + 1000) (KV + 1000) g svC sv1 (vs ++ [(1, (i : Int), 0)]) fr i 1 (by (simp (disch := omega) only [go_sem, mB, mV, if_neg, if_pos] <;> repeat' first | rfl | refine ⟨?_, ?_⟩)) (by (simp (disch := omega) only [go_sem, mB, mV, if_neg, if_pos, List.map_append, List.map_cons, List.map_nil] <;> repeat' first | rfl | refine ⟨?_, ?_⟩)) (by rw [hl1]; omega) (by omega) (by omega))) ?_
  intro sv2
  rw [hl1]
  (focus (refine wkad (w_a mB (w_a mV (w_a mC (w_a @lents_lt w_t)))) w_t w_t ?_; (repeat' first | exact w_t | apply w_l); all_goals intros))
  simp (disch := omega) only [go_sem]
  refine backS (Sub.refl _) ⟨sv2, rfl, rfl⟩ ?_
  simp only [List.append_assoc, List.cons_append, List.nil_append]
  intro k
  by_cases hk1 : k = KB
  · rw [hk1]
    simp (disch := omega) only [upd_at, if_pos, if_neg, Option.map_some, Ent.sh, AV.shL, AV.sh]
    try rfl
  · by_cases hk2 : k = KV
    · rw [hk2]
      simp (disch := omega) only [upd_at, if_pos, if_neg, Option.map_some, Ent.sh, AV.shL, AV.sh]
      try rfl
    · simp (disch := omega) only [upd_at, if_neg]
      exact Agr.start σ k

set_option maxHeartbeats 8000000 in
theorem cbStep7 (σ : Mem) (KB KC KV g : Nat) (svC svV : Value) (cs : List (Po × Po)) (vs : List Vt) (fr : Nat) (i : Nat) (s : RS) (hB : σ KB = some (.box g 105 [.own KC svC, .own KV svV, iv fr] false)) (hV : σ KV = some (.row svV 56 3 (vs.map Vt.av) 0)) (hC : σ KC = some (.row svC 72 2 (cs.map coA) 0)) (hBV : KB ≠ KV) (hBC : KB ≠ KC) (hVC : KV ≠ KC) (hl : vs.length ≤ 64) (hf : fr ≤ 100) (hk : s.k ≠ 1 ∧ s.k ≠ 2 ∧ s.k ≠ 3 ∧ s.k ≠ 4 ∧ s.k ≠ 5 ∧ s.k ≠ 6) : ACall Tryz.prog 52 [.pbox KB g 0, s.av, iv i] σ fun r σ' => ∃ sv, r = coA (FS.nxt ⟨cs, vs, fr⟩ i s).2 ∧
      σ' = upd (upd σ KV (some (.row sv 56 3 ((vs ++ (FS.nxt ⟨cs, vs, fr⟩ i s).1).map Vt.av) 0))) KB (some (.box g 105 [.own KC svC, .own KV sv, iv (if s.k = 1 then fr + 1 else fr : Nat)] false)) := by
  have mB := lents_at hB
  have mV := lents_at hV
  have mC := lents_at hC
  simp only [Ent.sh, AV.shL, AV.sh] at mB mV mC
  have en : FS.nxt ⟨cs, vs, fr⟩ i s = ([(2, (i : Int), 0), (2, (i : Int), 1)], (varM vs.length, varM (vs.length + 1))) := by
    unfold FS.nxt; simp only; rw [if_neg hk.1, if_neg hk.2.1, if_neg hk.2.2.1, if_neg hk.2.2.2.1, if_neg hk.2.2.2.2.1, if_neg hk.2.2.2.2.2]
  rw [en]
  simp only [if_neg hk.1]
  obtain ⟨k, nm, ar, r, rl, rd⟩ := s
  simp only at hk
  obtain ⟨k1, k2, k3, k4, k5, k6⟩ := hk
  refine acall_lents Tryz.func52 rfl Tryz.ntmps52 Tryz.results52 Tryz.call52 (by rfl) (by simp) ?_
  (focus (refine wkad (w_a mB (w_a mV (w_a mC (w_a @lents_lt w_t)))) w_t w_t ?_; (repeat' first | exact w_t | apply w_l); all_goals intros))
  refine o_fresh ((cbDep _ (KB + 1000) (KC + 1000) (KV + 1000) g svC svV vs fr i 0 (by (simp (disch := omega) only [go_sem, mB, mV, if_neg, if_pos] <;> repeat' first | rfl | refine ⟨?_, ?_⟩)) (by (simp (disch := omega) only [go_sem, mB, mV, if_neg, if_pos] <;> repeat' first | rfl | refine ⟨?_, ?_⟩)) (by omega) (by omega) (by omega))) ?_
  intro sv2
  (focus (refine wkad (w_a mB (w_a mV (w_a mC (w_a @lents_lt w_t)))) w_t w_t ?_; (repeat' first | exact w_t | apply w_l); all_goals intros))
  simp (disch := omega) only [go_sem]
  refine backS (Sub.refl _) ⟨sv2, rfl, rfl⟩ ?_
  simp only [Int.zero_add]
  intro k
  by_cases hk1 : k = KB
  · rw [hk1]
    simp (disch := omega) only [upd_at, if_pos, if_neg, Option.map_some, Ent.sh, AV.shL, AV.sh]
    try rfl
  · by_cases hk2 : k = KV
    · rw [hk2]
      simp (disch := omega) only [upd_at, if_pos, if_neg, Option.map_some, Ent.sh, AV.shL, AV.sh]
      try rfl
    · simp (disch := omega) only [upd_at, if_neg]
      exact Agr.start σ k

end Go.Proofs.YtbgmnobnaplmlaaGreat
end

section
namespace Go.Proofs.YtbgmnobnaplmlaaGreat
open Go Go.RowKit Go.Pg Go.Pol
set_option linter.unusedSimpArgs false
set_option linter.unusedVariables false
set_option maxRecDepth 20000
attribute [local go_sem] Tryz.underlying3 Tryz.underlying4 Tryz.underlying178 Tryz.underlying9 Tryz.underlying48 Tryz.underlying31 Tryz.underlying43 Tryz.underlying41 Tryz.underlying39 Tryz.underlying50 Tryz.underlying22 Tryz.underlying25 Tryz.underlying56 Tryz.underlying28 Tryz.underlying72 Tryz.underlying27 Tryz.underlying30 Tryz.underlying105 Tryz.underlying107 Tryz.underlying70 Tryz.underlying63 Tryz.underlying103 Tryz.underlying154 sz3 by3 z3 szB zB szErr zErr szStr byStr zStr szRat zRat szInt zInt szNat zNat szStep byStep zStep szFig zFig szSlI zSlI szSlS zSlS szVar byVar zVar szSlV zSlV szCoord byCoord zCoord szSlC zSlC szFrame zFrame szCBld byCBld zCBld szCVec byCVec zCVec szPoly byPoly zPoly szTerm zTerm szPtrB zPtrB szFnC zFnC
attribute [-bool_to_prop] Bool.and_eq_decide Bool.or_eq_decide Bool.decide_beq_decide decide_eq_decide
set_option maxHeartbeats 8000000 in
theorem cbStep2 (σ : Mem) (KB KC KV g : Nat) (svC svV : Value) (cs : List (Po × Po)) (vs : List Vt) (fr : Nat) (i : Nat) (s : RS) (hB : σ KB = some (.box g 105 [.own KC svC, .own KV svV, iv fr] false)) (hV : σ KV = some (.row svV 56 3 (vs.map Vt.av) 0)) (hC : σ KC = some (.row svC 72 2 (cs.map coA) 0)) (hBV : KB ≠ KV) (hBC : KB ≠ KC) (hVC : KV ≠ KC) (hl : vs.length ≤ 64) (hf : fr ≤ 100) (hok : StOk cs s) (hco : ∀ c ∈ cs, Co c.1 ∧ Co c.2) (hk : s.k = 2) : ACall Tryz.prog 52 [.pbox KB g 0, s.av, iv i] σ fun r σ' => ∃ sv, r = coA (FS.nxt ⟨cs, vs, fr⟩ i s).2 ∧
      σ' = upd (upd σ KV (some (.row sv 56 3 ((vs ++ (FS.nxt ⟨cs, vs, fr⟩ i s).1).map Vt.av) 0))) KB (some (.box g 105 [.own KC svC, .own KV sv, iv (if s.k = 1 then fr + 1 else fr : Nat)] false)) := by
  have mB := lents_at hB
  have mV := lents_at hV
  have mC := lents_at hC
  simp only [Ent.sh, AV.shL, AV.sh] at mB mV mC
  have har : arS s.k = 2 := by rw [hk]; rfl
  have hal := hok.al
  have h0 := hok.ai 0 (by omega)
  obtain ⟨a1, a2⟩ : Co (cs.getD (gI s.ar 0).toNat ([], [])).1 ∧ Co (cs.getD (gI s.ar 0).toNat ([], [])).2 := hco _ (getD_mem (by omega))
  have h1 := hok.ai 1 (by omega)
  obtain ⟨b1, b2⟩ : Co (cs.getD (gI s.ar 1).toNat ([], [])).1 ∧ Co (cs.getD (gI s.ar 1).toNat ([], [])).2 := hco _ (getD_mem (by omega))
  have en : FS.nxt ⟨cs, vs, fr⟩ i s = ([], (addM (cs.getD (gI s.ar 0).toNat ([], [])).1 (sclM s.r.q (subM (cs.getD (gI s.ar 1).toNat ([], [])).1 (cs.getD (gI s.ar 0).toNat ([], [])).1)), addM (cs.getD (gI s.ar 0).toNat ([], [])).2 (sclM s.r.q (subM (cs.getD (gI s.ar 1).toNat ([], [])).2 (cs.getD (gI s.ar 0).toNat ([], [])).2)))) := by
    unfold FS.nxt; simp only [hk]; rfl
  rw [en]
  simp only [if_neg (show ¬ s.k = 1 by omega)]
  clear en
  generalize ha : cs.getD (gI s.ar 0).toNat ([], []) = a at *
  generalize hb : cs.getD (gI s.ar 1).toNat ([], []) = b at *
  have ro := hok.r2 hk
  have zr := (RQ.ok_av hok.rl ro).2
  have s1 := poSub b.1 a.1 b1.pk a1.pk b1.st a1.st (by have := b1.ln; omega) (by have := a1.ln; omega) (by omega) (by omega) (by omega)
  have s2 := poSub b.2 a.2 b2.pk a2.pk b2.st a2.st (by have := b2.ln; omega) (by have := a2.ln; omega) (by omega) (by omega) (by omega)
  have d1 := b1.pk.sub a1.pk
  have d2 := b2.pk.sub a2.pk
  have t1 := sub_srt ordM b1.st a1.st
  have t2 := sub_srt ordM b2.st a2.st
  have l1 := sub_len b.1 a.1
  have l2 := sub_len b.2 a.2
  have n1 := a1.ln
  have n2 := a2.ln
  have n3 := b1.ln
  have n4 := b2.ln
  have c1 := poScale (subM b.1 a.1) s.r.q d1 zr t1 (by omega) (by omega) (by omega) (by omega)
  have c2 := poScale (subM b.2 a.2) s.r.q d2 zr t2 (by omega) (by omega) (by omega) (by omega)
  have e1 := poAdd a.1 (sclM s.r.q (subM b.1 a.1)) a1.pk (d1.scl zr) a1.st (scl_srt t1) (by omega) (by have := scl_len s.r.q (subM b.1 a.1); omega) (by omega) (by omega) (by omega)
  have e2 := poAdd a.2 (sclM s.r.q (subM b.2 a.2)) a2.pk (d2.scl zr) a2.st (scl_srt t2) (by omega) (by have := scl_len s.r.q (subM b.2 a.2); omega) (by omega) (by omega) (by omega)
  have re := RQ.ok_eq hok.rl ro
  obtain ⟨k, nm, ar, r⟩ := s
  simp only at *
  subst hk
  generalize hq : r.q = q at *
  rw [re]
  have al := fun g3 g4 g7 => cbAlongS 3 4 7 (KB + 1000) (KC + 1000) (KV + 1000) g3 g4 g7 g svC svV fr 2 nm ar q cs a b (sclM q (subM b.1 a.1), sclM q (subM b.2 a.2)) (addM a.1 (sclM q (subM b.1 a.1)), addM a.2 (sclM q (subM b.2 a.2))) (by omega) h0 h1 ha hb s1 s2 c1 c2 e1 e2
  clear s1 s2 c1 c2 e1 e2 d1 d2 t1 t2 l1 l2 a1 a2 b1 b2 hco hok re ro zr hq n1 n2 n3 n4
  generalize addM a.1 (sclM q (subM b.1 a.1)) = x1 at *
  generalize addM a.2 (sclM q (subM b.2 a.2)) = x2 at *
  refine acall_lents Tryz.func52 rfl Tryz.ntmps52 Tryz.results52 Tryz.call52 (by rfl) (by simp) ?_
  (focus (refine wkad (w_a mB (w_a mV (w_a mC (w_a @lents_lt w_t)))) w_t w_t ?_; (repeat' first | exact w_t | apply w_l); all_goals intros))
  rename_i g3 g4 g6 g7
  have al := al g3 g4 g7
  (focus (refine wkax (w_a mB (w_a mV (w_a mC (w_a @lents_lt (w_a @atL_def w_t))))) w_t w_t w_t w_t (w_a al w_t) (w_r 0) ?_; (repeat' first | exact w_t | apply w_l); all_goals intros))
  simp (disch := omega) only [go_sem]
  refine backS (Sub.refl _) ⟨svV, rfl, rfl⟩ ?_
  rw [upd_same' hV, upd_same' hB]
  (repeat' (first | exact Agr.start _ | (refine Agr.own ?_ (by omega))))
set_option maxHeartbeats 8000000 in
theorem cbStep3 (σ : Mem) (KB KC KV g : Nat) (svC svV : Value) (cs : List (Po × Po)) (vs : List Vt) (fr : Nat) (i : Nat) (s : RS) (hB : σ KB = some (.box g 105 [.own KC svC, .own KV svV, iv fr] false)) (hV : σ KV = some (.row svV 56 3 (vs.map Vt.av) 0)) (hC : σ KC = some (.row svC 72 2 (cs.map coA) 0)) (hBV : KB ≠ KV) (hBC : KB ≠ KC) (hVC : KV ≠ KC) (hl : vs.length ≤ 64) (hf : fr ≤ 100) (hok : StOk cs s) (hco : ∀ c ∈ cs, Co c.1 ∧ Co c.2) (hk : s.k = 3) : ACall Tryz.prog 52 [.pbox KB g 0, s.av, iv i] σ fun r σ' => ∃ sv, r = coA (FS.nxt ⟨cs, vs, fr⟩ i s).2 ∧
      σ' = upd (upd σ KV (some (.row sv 56 3 ((vs ++ (FS.nxt ⟨cs, vs, fr⟩ i s).1).map Vt.av) 0))) KB (some (.box g 105 [.own KC svC, .own KV sv, iv (if s.k = 1 then fr + 1 else fr : Nat)] false)) := by
  have mB := lents_at hB
  have mV := lents_at hV
  have mC := lents_at hC
  simp only [Ent.sh, AV.shL, AV.sh] at mB mV mC
  have har : arS s.k = 3 := by rw [hk]; rfl
  have hal := hok.al
  have h0 := hok.ai 0 (by omega)
  obtain ⟨a1, a2⟩ : Co (cs.getD (gI s.ar 0).toNat ([], [])).1 ∧ Co (cs.getD (gI s.ar 0).toNat ([], [])).2 := hco _ (getD_mem (by omega))
  have h1 := hok.ai 1 (by omega)
  obtain ⟨b1, b2⟩ : Co (cs.getD (gI s.ar 1).toNat ([], [])).1 ∧ Co (cs.getD (gI s.ar 1).toNat ([], [])).2 := hco _ (getD_mem (by omega))
  have h2 := hok.ai 2 (by omega)
  obtain ⟨c1, c2⟩ : Co (cs.getD (gI s.ar 2).toNat ([], [])).1 ∧ Co (cs.getD (gI s.ar 2).toNat ([], [])).2 := hco _ (getD_mem (by omega))
  have en : FS.nxt ⟨cs, vs, fr⟩ i s = ([], (addM (cs.getD (gI s.ar 0).toNat ([], [])).1 (subM (cs.getD (gI s.ar 2).toNat ([], [])).1 (cs.getD (gI s.ar 1).toNat ([], [])).1), addM (cs.getD (gI s.ar 0).toNat ([], [])).2 (subM (cs.getD (gI s.ar 2).toNat ([], [])).2 (cs.getD (gI s.ar 1).toNat ([], [])).2))) := by
    unfold FS.nxt; simp only [hk]; rfl
  rw [en]
  simp only [if_neg (show ¬ s.k = 1 by omega)]
  clear en
  generalize ha : cs.getD (gI s.ar 0).toNat ([], []) = a at *
  generalize hb : cs.getD (gI s.ar 1).toNat ([], []) = b at *
  generalize hc : cs.getD (gI s.ar 2).toNat ([], []) = c at *
  have n1 := a1.ln
  have n2 := a2.ln
  have n3 := b1.ln
  have n4 := b2.ln
  have n5 := c1.ln
  have n6 := c2.ln
  have s1 := poSub c.1 b.1 c1.pk b1.pk c1.st b1.st (by omega) (by omega) (by omega) (by omega) (by omega)
  have s2 := poSub c.2 b.2 c2.pk b2.pk c2.st b2.st (by omega) (by omega) (by omega) (by omega) (by omega)
  have l1 := sub_len c.1 b.1
  have l2 := sub_len c.2 b.2
  have e1 := poAdd a.1 (subM c.1 b.1) a1.pk (c1.pk.sub b1.pk) a1.st (sub_srt ordM c1.st b1.st) (by omega) (by omega) (by omega) (by omega) (by omega)
  have e2 := poAdd a.2 (subM c.2 b.2) a2.pk (c2.pk.sub b2.pk) a2.st (sub_srt ordM c2.st b2.st) (by omega) (by omega) (by omega) (by omega) (by omega)
  have cB := coBetween b c s1 s2
  have oa := coOf a
  have cC := coCombine 106 a (subM c.1 b.1, subM c.2 b.2) (addM a.1 (subM c.1 b.1), addM a.2 (subM c.2 b.2)) e1 e2
  obtain ⟨k, nm, ar, ⟨rs, rl, rd⟩⟩ := s
  simp only at *
  subst hk
  have t0 := fun g3 g4 => cbAt 3 4 (KB + 1000) (KC + 1000) (KV + 1000) g3 g4 g svC svV fr 3 nm ar (.v (.bool rs)) (lim rl) (lim rd) cs 0 ⟨rfl, rfl, rfl⟩ (by omega) h0
  have t1 := fun g3 g4 => cbAt 3 4 (KB + 1000) (KC + 1000) (KV + 1000) g3 g4 g svC svV fr 3 nm ar (.v (.bool rs)) (lim rl) (lim rd) cs 1 ⟨rfl, rfl, rfl⟩ (by omega) h1
  have t2 := fun g3 g4 => cbAt 3 4 (KB + 1000) (KC + 1000) (KV + 1000) g3 g4 g svC svV fr 3 nm ar (.v (.bool rs)) (lim rl) (lim rd) cs 2 ⟨rfl, rfl, rfl⟩ (by omega) h2
  rw [ha] at t0
  rw [hb] at t1
  rw [hc] at t2
  clear s1 s2 e1 e2 l1 l2 a1 a2 b1 b2 c1 c2 hco hok n1 n2 n3 n4 n5 n6 ha hb hc
  generalize addM a.1 (subM c.1 b.1) = x1 at *
  generalize addM a.2 (subM c.2 b.2) = x2 at *
  generalize subM c.1 b.1 = y1 at *
  generalize subM c.2 b.2 = y2 at *
  obtain ⟨aa, ab⟩ := a
  obtain ⟨ba, bb⟩ := b
  obtain ⟨ca, cb⟩ := c
  refine acall_lents Tryz.func52 rfl Tryz.ntmps52 Tryz.results52 Tryz.call52 (by rfl) (by simp) ?_
  (repeat' (first | (with_reducible first | refine stp ?_ | apply gx1 | apply gx2 | apply gx3 | apply gx4 | apply gx5 | apply gx6 | apply gx7 | apply gy8 | apply gz2 | apply gz3 | refine gwr (t0 _ _) ?_ ?_ | refine gwr (t1 _ _) ?_ ?_ | refine gwr (t2 _ _) ?_ ?_ | refine gw0 (oa) ?_ ?_ | refine gw3 (oa) ?_ ?_ ?_ | refine gw0 (cB) ?_ ?_ | refine gw3 (cB) ?_ ?_ ?_ | refine gw0 (cC) ?_ ?_ | refine gw3 (cC) ?_ ?_ ?_) | ((with_reducible apply gyr (t2 _ _)); (focus rfl); (focus rfl); iterate 3 focus ((with_reducible refine gE ?_); (try simp (disch := omega) only [go_sem, mB, mV, mC, lents_lt, lents_beq, atL_def, decide_eq_true, decide_eq_false, if_pos, if_neg, Int.reduceAdd, Int.reduceSub, Int.reduceToNat, Int.zero_add]) <;> first | rfl | done)) | ((with_reducible apply gyr (t1 _ _)); (focus rfl); (focus rfl); iterate 3 focus ((with_reducible refine gE ?_); (try simp (disch := omega) only [go_sem, mB, mV, mC, lents_lt, lents_beq, atL_def, decide_eq_true, decide_eq_false, if_pos, if_neg, Int.reduceAdd, Int.reduceSub, Int.reduceToNat, Int.zero_add]) <;> first | rfl | done)) | ((with_reducible apply gyr (t0 _ _)); (focus rfl); (focus rfl); iterate 3 focus ((with_reducible refine gE ?_); (try simp (disch := omega) only [go_sem, mB, mV, mC, lents_lt, lents_beq, atL_def, decide_eq_true, decide_eq_false, if_pos, if_neg, Int.reduceAdd, Int.reduceSub, Int.reduceToNat, Int.zero_add]) <;> first | rfl | done)) | (with_reducible refine all_v ?_; intro _) | ((with_reducible refine gE ?_); (try simp (disch := omega) only [go_sem, mB, mV, mC, lents_lt, lents_beq, atL_def, decide_eq_true, decide_eq_false, if_pos, if_neg, Int.reduceAdd, Int.reduceSub, Int.reduceToNat, Int.zero_add]) <;> first | rfl | omega) | with_reducible refine t_in_other (by decide) ?_ | ((with_reducible apply gy1); iterate 3 focus rfl) | ((with_reducible apply gy2); iterate 3 focus rfl) | ((with_reducible apply gy3); iterate 2 focus rfl) | ((with_reducible apply gy4); iterate 1 focus rfl) | ((with_reducible apply gy5); iterate 4 focus rfl) | ((with_reducible apply gy6); iterate 4 focus rfl) | ((with_reducible apply d_bar); iterate 3 focus rfl) | ((with_reducible apply q_pub); iterate 1 focus rfl) | ((with_reducible apply gy7); iterate 1 focus rfl) | ((with_reducible apply gy9); (focus ((with_reducible refine gE ?_); (try simp (disch := omega) only [go_sem, mB, mV, mC, lents_lt, lents_beq, atL_def, decide_eq_true, decide_eq_false, if_pos, if_neg, Int.reduceAdd, Int.reduceSub, Int.reduceToNat, Int.zero_add]) <;> rfl))) | ((with_reducible apply gz1); (focus first | rfl | (simp (disch := omega) only [go_sem, mB, mV, mC, lents_lt, lents_beq, atL_def, decide_eq_true, decide_eq_false, if_pos, if_neg, Int.reduceAdd, Int.reduceSub, Int.reduceToNat, Int.zero_add]; done))) | ((with_reducible apply r_drawD (id := 9) (pickR [(1, coA (aa, ab)), (2, coA (aa, ab)), (4, coA (ba, bb)), (6, coA (ca, cb)), (7, coA (y1, y2)), (8, coA (x1, x2))]) [] [6]); (focus kernel_rfl); (focus rfl); (focus kernel_rfl); (focus (simp only [List.length_cons, List.length_nil, Nat.reduceAdd]; rfl))) | ((with_reducible first | apply og_split | apply dg_split | apply cg_split); all_goals (intro hc; (try simp only [bool_to_prop] at hc); try (exfalso; omega)))))
  simp (disch := omega) only [go_sem]
  refine backS (Sub.refl _) ⟨svV, rfl, rfl⟩ ?_
  rw [upd_same' hV, upd_same' hB]
  (repeat' (first | exact Agr.start _ | (refine Agr.own ?_ (by omega))))
set_option maxHeartbeats 8000000 in
theorem cbStep4 (σ : Mem) (KB KC KV g : Nat) (svC svV : Value) (cs : List (Po × Po)) (vs : List Vt) (fr : Nat) (i : Nat) (s : RS) (hB : σ KB = some (.box g 105 [.own KC svC, .own KV svV, iv fr] false)) (hV : σ KV = some (.row svV 56 3 (vs.map Vt.av) 0)) (hC : σ KC = some (.row svC 72 2 (cs.map coA) 0)) (hBV : KB ≠ KV) (hBC : KB ≠ KC) (hVC : KV ≠ KC) (hl : vs.length ≤ 64) (hf : fr ≤ 100) (hok : StOk cs s) (hco : ∀ c ∈ cs, Co c.1 ∧ Co c.2) (hk : s.k = 4) : ACall Tryz.prog 52 [.pbox KB g 0, s.av, iv i] σ fun r σ' => ∃ sv, r = coA (FS.nxt ⟨cs, vs, fr⟩ i s).2 ∧
      σ' = upd (upd σ KV (some (.row sv 56 3 ((vs ++ (FS.nxt ⟨cs, vs, fr⟩ i s).1).map Vt.av) 0))) KB (some (.box g 105 [.own KC svC, .own KV sv, iv (if s.k = 1 then fr + 1 else fr : Nat)] false)) := by
  have mB := lents_at hB
  have mV := lents_at hV
  have mC := lents_at hC
  simp only [Ent.sh, AV.shL, AV.sh] at mB mV mC
  have har : arS s.k = 3 := by rw [hk]; rfl
  have hal := hok.al
  have h0 := hok.ai 0 (by omega)
  obtain ⟨a1, a2⟩ : Co (cs.getD (gI s.ar 0).toNat ([], [])).1 ∧ Co (cs.getD (gI s.ar 0).toNat ([], [])).2 := hco _ (getD_mem (by omega))
  have h1 := hok.ai 1 (by omega)
  obtain ⟨b1, b2⟩ : Co (cs.getD (gI s.ar 1).toNat ([], [])).1 ∧ Co (cs.getD (gI s.ar 1).toNat ([], [])).2 := hco _ (getD_mem (by omega))
  have h2 := hok.ai 2 (by omega)
  obtain ⟨c1, c2⟩ : Co (cs.getD (gI s.ar 2).toNat ([], [])).1 ∧ Co (cs.getD (gI s.ar 2).toNat ([], [])).2 := hco _ (getD_mem (by omega))
  have en : FS.nxt ⟨cs, vs, fr⟩ i s = ([], (addM (cs.getD (gI s.ar 0).toNat ([], [])).1 (subM (cs.getD (gI s.ar 1).toNat ([], [])).2 (cs.getD (gI s.ar 2).toNat ([], [])).2), addM (cs.getD (gI s.ar 0).toNat ([], [])).2 (subM (cs.getD (gI s.ar 2).toNat ([], [])).1 (cs.getD (gI s.ar 1).toNat ([], [])).1))) := by
    unfold FS.nxt; simp only [hk]; rfl
  rw [en]
  simp only [if_neg (show ¬ s.k = 1 by omega)]
  clear en
  generalize ha : cs.getD (gI s.ar 0).toNat ([], []) = a at *
  generalize hb : cs.getD (gI s.ar 1).toNat ([], []) = b at *
  generalize hc : cs.getD (gI s.ar 2).toNat ([], []) = c at *
  have n1 := a1.ln
  have n2 := a2.ln
  have n3 := b1.ln
  have n4 := b2.ln
  have n5 := c1.ln
  have n6 := c2.ln
  have s1 := poSub c.1 b.1 c1.pk b1.pk c1.st b1.st (by omega) (by omega) (by omega) (by omega) (by omega)
  have s2 := poSub c.2 b.2 c2.pk b2.pk c2.st b2.st (by omega) (by omega) (by omega) (by omega) (by omega)
  have l1 := sub_len c.1 b.1
  have l2 := sub_len c.2 b.2
  have l3 := sub_len b.2 c.2
  have hn := poNeg (subM c.2 b.2) (c2.pk.sub b2.pk) (sub_srt ordM c2.st b2.st) (by omega) (by omega) (by omega)
  rw [show scaleP (-1) (subM c.2 b.2) = subM b.2 c.2 from neg_sub ordM c2.st b2.st] at hn
  have e1 := poAdd a.1 (subM b.2 c.2) a1.pk (b2.pk.sub c2.pk) a1.st (sub_srt ordM b2.st c2.st) (by omega) (by omega) (by omega) (by omega) (by omega)
  have e2 := poAdd a.2 (subM c.1 b.1) a2.pk (c1.pk.sub b1.pk) a2.st (sub_srt ordM c1.st b1.st) (by omega) (by omega) (by omega) (by omega) (by omega)
  have cB := coBetween b c s1 s2
  have oa := coOf a
  have cC := coCombine 106 a (subM b.2 c.2, subM c.1 b.1) (addM a.1 (subM b.2 c.2), addM a.2 (subM c.1 b.1)) e1 e2
  obtain ⟨k, nm, ar, ⟨rs, rl, rd⟩⟩ := s
  simp only at *
  subst hk
  have t0 := fun g3 g4 => cbAt 3 4 (KB + 1000) (KC + 1000) (KV + 1000) g3 g4 g svC svV fr 4 nm ar (.v (.bool rs)) (lim rl) (lim rd) cs 0 ⟨rfl, rfl, rfl⟩ (by omega) h0
  have t1 := fun g3 g4 => cbAt 3 4 (KB + 1000) (KC + 1000) (KV + 1000) g3 g4 g svC svV fr 4 nm ar (.v (.bool rs)) (lim rl) (lim rd) cs 1 ⟨rfl, rfl, rfl⟩ (by omega) h1
  have t2 := fun g3 g4 => cbAt 3 4 (KB + 1000) (KC + 1000) (KV + 1000) g3 g4 g svC svV fr 4 nm ar (.v (.bool rs)) (lim rl) (lim rd) cs 2 ⟨rfl, rfl, rfl⟩ (by omega) h2
  rw [ha] at t0
  rw [hb] at t1
  rw [hc] at t2
  clear s1 s2 e1 e2 l1 l2 l3 a1 a2 b1 b2 c1 c2 hco hok n1 n2 n3 n4 n5 n6 ha hb hc
  generalize addM a.1 (subM b.2 c.2) = x1 at *
  generalize addM a.2 (subM c.1 b.1) = x2 at *
  generalize subM c.1 b.1 = y1 at *
  generalize subM c.2 b.2 = y2 at *
  generalize subM b.2 c.2 = y3 at *
  obtain ⟨aa, ab⟩ := a
  obtain ⟨ba, bb⟩ := b
  obtain ⟨ca, cb⟩ := c
  refine acall_lents Tryz.func52 rfl Tryz.ntmps52 Tryz.results52 Tryz.call52 (by rfl) (by simp) ?_
  (repeat' (first | (with_reducible first | refine stp ?_ | apply gx1 | apply gx2 | apply gx3 | apply gx4 | apply gx5 | apply gx6 | apply gx7 | apply gy8 | apply gz2 | apply gz3 | refine gwr (t0 _ _) ?_ ?_ | refine gwr (t1 _ _) ?_ ?_ | refine gwr (t2 _ _) ?_ ?_ | refine gw0 (oa) ?_ ?_ | refine gw3 (oa) ?_ ?_ ?_ | refine gw0 (cB) ?_ ?_ | refine gw3 (cB) ?_ ?_ ?_ | refine gw0 (cC) ?_ ?_ | refine gw3 (cC) ?_ ?_ ?_ | refine gw0 (hn) ?_ ?_ | refine gw3 (hn) ?_ ?_ ?_) | ((with_reducible apply gyr (t2 _ _)); (focus rfl); (focus rfl); iterate 3 focus ((with_reducible refine gE ?_); (try simp (disch := omega) only [go_sem, mB, mV, mC, lents_lt, lents_beq, atL_def, decide_eq_true, decide_eq_false, if_pos, if_neg, Int.reduceAdd, Int.reduceSub, Int.reduceToNat, Int.zero_add]) <;> first | rfl | done)) | ((with_reducible apply gyr (t1 _ _)); (focus rfl); (focus rfl); iterate 3 focus ((with_reducible refine gE ?_); (try simp (disch := omega) only [go_sem, mB, mV, mC, lents_lt, lents_beq, atL_def, decide_eq_true, decide_eq_false, if_pos, if_neg, Int.reduceAdd, Int.reduceSub, Int.reduceToNat, Int.zero_add]) <;> first | rfl | done)) | ((with_reducible apply gyr (t0 _ _)); (focus rfl); (focus rfl); iterate 3 focus ((with_reducible refine gE ?_); (try simp (disch := omega) only [go_sem, mB, mV, mC, lents_lt, lents_beq, atL_def, decide_eq_true, decide_eq_false, if_pos, if_neg, Int.reduceAdd, Int.reduceSub, Int.reduceToNat, Int.zero_add]) <;> first | rfl | done)) | (with_reducible refine all_v ?_; intro _) | ((with_reducible refine gE ?_); (try simp (disch := omega) only [go_sem, mB, mV, mC, lents_lt, lents_beq, atL_def, decide_eq_true, decide_eq_false, if_pos, if_neg, Int.reduceAdd, Int.reduceSub, Int.reduceToNat, Int.zero_add]) <;> first | rfl | omega) | with_reducible refine t_in_other (by decide) ?_ | ((with_reducible apply gy1); iterate 3 focus rfl) | ((with_reducible apply gy2); iterate 3 focus rfl) | ((with_reducible apply gy3); iterate 2 focus rfl) | ((with_reducible apply gy4); iterate 1 focus rfl) | ((with_reducible apply gy5); iterate 4 focus rfl) | ((with_reducible apply gy6); iterate 4 focus rfl) | ((with_reducible apply d_bar); iterate 3 focus rfl) | ((with_reducible apply q_pub); iterate 1 focus rfl) | ((with_reducible apply gy7); iterate 1 focus rfl) | ((with_reducible apply gy9); (focus ((with_reducible refine gE ?_); (try simp (disch := omega) only [go_sem, mB, mV, mC, lents_lt, lents_beq, atL_def, decide_eq_true, decide_eq_false, if_pos, if_neg, Int.reduceAdd, Int.reduceSub, Int.reduceToNat, Int.zero_add]) <;> rfl))) | ((with_reducible apply gz1); (focus first | rfl | (simp (disch := omega) only [go_sem, mB, mV, mC, lents_lt, lents_beq, atL_def, decide_eq_true, decide_eq_false, if_pos, if_neg, Int.reduceAdd, Int.reduceSub, Int.reduceToNat, Int.zero_add]; done))) | ((with_reducible apply r_drawD (id := 11) (pickR [(1, coA (ba, bb)), (3, coA (ca, cb)), (4, coA (y1, y2))]) [] []); (focus kernel_rfl); (focus rfl); (focus kernel_rfl); (focus (simp only [List.length_cons, List.length_nil, Nat.reduceAdd]; rfl))) | ((with_reducible apply r_drawD (id := 12) (pickR [(1, coA (aa, ab)), (2, coA (aa, ab)), (5, poA y3), (9, coA (x1, x2))]) [] [6]); (focus kernel_rfl); (focus rfl); (focus kernel_rfl); (focus (simp only [List.length_cons, List.length_nil, Nat.reduceAdd]; rfl))) | ((with_reducible first | apply og_split | apply dg_split | apply cg_split); all_goals (intro hc; (try simp only [bool_to_prop] at hc); try (exfalso; omega)))))
  simp (disch := omega) only [go_sem]
  refine backS (Sub.refl _) ⟨svV, rfl, rfl⟩ ?_
  rw [upd_same' hV, upd_same' hB]
  (repeat' (first | exact Agr.start _ | (refine Agr.own ?_ (by omega))))
set_option maxHeartbeats 8000000 in
theorem cbStep5 (σ : Mem) (KB KC KV g : Nat) (svC svV : Value) (cs : List (Po × Po)) (vs : List Vt) (fr : Nat) (i : Nat) (s : RS) (hB : σ KB = some (.box g 105 [.own KC svC, .own KV svV, iv fr] false)) (hV : σ KV = some (.row svV 56 3 (vs.map Vt.av) 0)) (hC : σ KC = some (.row svC 72 2 (cs.map coA) 0)) (hBV : KB ≠ KV) (hBC : KB ≠ KC) (hVC : KV ≠ KC) (hl : vs.length ≤ 64) (hf : fr ≤ 100) (hok : StOk cs s) (hco : ∀ c ∈ cs, Co c.1 ∧ Co c.2) (hk : s.k = 5) : ACall Tryz.prog 52 [.pbox KB g 0, s.av, iv i] σ fun r σ' => ∃ sv, r = coA (FS.nxt ⟨cs, vs, fr⟩ i s).2 ∧
      σ' = upd (upd σ KV (some (.row sv 56 3 ((vs ++ (FS.nxt ⟨cs, vs, fr⟩ i s).1).map Vt.av) 0))) KB (some (.box g 105 [.own KC svC, .own KV sv, iv (if s.k = 1 then fr + 1 else fr : Nat)] false)) := by
  have mB := lents_at hB
  have mV := lents_at hV
  have mC := lents_at hC
  simp only [Ent.sh, AV.shL, AV.sh] at mB mV mC
  have har : arS s.k = 2 := by rw [hk]; rfl
  have hal := hok.al
  have h0 := hok.ai 0 (by omega)
  obtain ⟨a1, a2⟩ : Co (cs.getD (gI s.ar 0).toNat ([], [])).1 ∧ Co (cs.getD (gI s.ar 0).toNat ([], [])).2 := hco _ (getD_mem (by omega))
  have h1 := hok.ai 1 (by omega)
  obtain ⟨b1, b2⟩ : Co (cs.getD (gI s.ar 1).toNat ([], [])).1 ∧ Co (cs.getD (gI s.ar 1).toNat ([], [])).2 := hco _ (getD_mem (by omega))
  have en : FS.nxt ⟨cs, vs, fr⟩ i s = ([(1, (i : Int), 0)], (addM (cs.getD (gI s.ar 0).toNat ([], [])).1 (mlM (subM (cs.getD (gI s.ar 1).toNat ([], [])).1 (cs.getD (gI s.ar 0).toNat ([], [])).1) (varM vs.length)), addM (cs.getD (gI s.ar 0).toNat ([], [])).2 (mlM (subM (cs.getD (gI s.ar 1).toNat ([], [])).2 (cs.getD (gI s.ar 0).toNat ([], [])).2) (varM vs.length)))) := by
    unfold FS.nxt; simp only [hk]; rfl
  rw [en]
  simp only [if_neg (show ¬ s.k = 1 by omega)]
  clear en
  generalize ha : cs.getD (gI s.ar 0).toNat ([], []) = a at *
  generalize hb : cs.getD (gI s.ar 1).toNat ([], []) = b at *
  have s1 := poSub b.1 a.1 b1.pk a1.pk b1.st a1.st (by have := b1.ln; omega) (by have := a1.ln; omega) (by omega) (by omega) (by omega)
  have s2 := poSub b.2 a.2 b2.pk a2.pk b2.st a2.st (by have := b2.ln; omega) (by have := a2.ln; omega) (by omega) (by omega) (by omega)
  have d1 := b1.pk.sub a1.pk
  have d2 := b2.pk.sub a2.pk
  have t1 := sub_srt ordM b1.st a1.st
  have t2 := sub_srt ordM b2.st a2.st
  have l1 := sub_len b.1 a.1
  have l2 := sub_len b.2 a.2
  have n1 := a1.ln
  have n2 := a2.ln
  have n3 := b1.ln
  have n4 := b2.ln
  have c1 := poMulVar (subM b.1 a.1) vs.length d1 t1 (by omega) (by omega) (by omega)
  have c2 := poMulVar (subM b.2 a.2) vs.length d2 t2 (by omega) (by omega) (by omega)
  have e1 := poAdd a.1 (mlM (subM b.1 a.1) (varM vs.length)) (a1.pk.mono (Nat.le_refl _) (show 1 ≤ 2 by omega)) d1.mulV a1.st (mulR_srt ordM mulK t1 (varM_srt _)) (by omega) (by have := mulV_len (subM b.1 a.1) vs.length; omega) (by omega) (by omega) (by omega)
  have e2 := poAdd a.2 (mlM (subM b.2 a.2) (varM vs.length)) (a2.pk.mono (Nat.le_refl _) (show 1 ≤ 2 by omega)) d2.mulV a2.st (mulR_srt ordM mulK t2 (varM_srt _)) (by omega) (by have := mulV_len (subM b.2 a.2) vs.length; omega) (by omega) (by omega) (by omega)
  obtain ⟨k, nm, ar, ⟨rs, rl, rd⟩⟩ := s
  simp only at *
  subst hk
  have al := fun sv1 g3 g4 g7 g10 => cbAlongM 3 4 7 (KB + 1000) (KC + 1000) (KV + 1000) g3 g4 g7 g svC sv1 fr 5 nm ar rs rl rd 10 g10 (varM vs.length) cs a b (mlM (subM b.1 a.1) (varM vs.length), mlM (subM b.2 a.2) (varM vs.length)) (addM a.1 (mlM (subM b.1 a.1) (varM vs.length)), addM a.2 (mlM (subM b.2 a.2) (varM vs.length))) (by omega) h0 h1 ha hb s1 s2 c1 c2 e1 e2
  clear s1 s2 c1 c2 e1 e2 d1 d2 t1 t2 l1 l2 a1 a2 b1 b2 hco hok n1 n2 n3 n4
  generalize addM a.1 (mlM (subM b.1 a.1) (varM vs.length)) = x1 at *
  generalize addM a.2 (mlM (subM b.2 a.2) (varM vs.length)) = x2 at *
  refine acall_lents Tryz.func52 rfl Tryz.ntmps52 Tryz.results52 Tryz.call52 (by rfl) (by simp) ?_
  (focus (refine wkad (w_a mB (w_a mV (w_a mC (w_a @lents_lt w_t)))) w_t w_t ?_; (repeat' first | exact w_t | apply w_l); all_goals intros))
  refine o_fresh ((cbVariable _ (KB + 1000) (KC + 1000) (KV + 1000) g svC svV vs fr 1 (i : Int) 0 (by (simp (disch := omega) only [go_sem, mB, mV, if_neg, if_pos] <;> repeat' first | rfl | refine ⟨?_, ?_⟩)) (by (simp (disch := omega) only [go_sem, mB, mV, if_neg, if_pos] <;> repeat' first | rfl | refine ⟨?_, ?_⟩)) (by omega) (by omega))) ?_
  intro sv1
  generalize varM vs.length = t at *
  (focus (refine wkad (w_a mB (w_a mV (w_a mC (w_a @lents_lt w_t)))) w_t w_t ?_; (repeat' first | exact w_t | apply w_l); all_goals intros))
  rename_i g3 g4 g6 g7 g10
  have al := al sv1 g3 g4 g7 g10
  (focus (refine wkax (w_a mB (w_a mV (w_a mC (w_a @lents_lt (w_a @atL_def w_t))))) w_t w_t w_t w_t (w_a al w_t) (w_r 0) ?_; (repeat' first | exact w_t | apply w_l); all_goals intros))
  simp (disch := omega) only [go_sem]
  refine backS (Sub.refl _) ⟨sv1, rfl, rfl⟩ ?_
  intro k
  by_cases hk1 : k = KB
  · rw [hk1]
    simp (disch := omega) only [upd_at, if_pos, if_neg, Option.map_some, Ent.sh, AV.shL, AV.sh]
    try rfl
  · by_cases hk2 : k = KV
    · rw [hk2]
      simp (disch := omega) only [upd_at, if_pos, if_neg, Option.map_some, Ent.sh, AV.shL, AV.sh]
      try rfl
    · simp (disch := omega) only [upd_at, if_neg]
      exact Agr.start σ k

theorem cbStep (σ : Mem) (KB KC KV g : Nat) (svC svV : Value) (cs : List (Po × Po)) (vs : List Vt) (fr : Nat) (i : Nat) (s : RS) (hB : σ KB = some (.box g 105 [.own KC svC, .own KV svV, iv fr] false)) (hV : σ KV = some (.row svV 56 3 (vs.map Vt.av) 0)) (hC : σ KC = some (.row svC 72 2 (cs.map coA) 0)) (hBV : KB ≠ KV) (hBC : KB ≠ KC) (hVC : KV ≠ KC) (hl : vs.length ≤ 64) (hf : fr ≤ 100) (hok : StOk cs s) (hco : ∀ c ∈ cs, Co c.1 ∧ Co c.2) : ACall Tryz.prog 52 [.pbox KB g 0, s.av, iv i] σ fun r σ' => ∃ sv, r = coA (FS.nxt ⟨cs, vs, fr⟩ i s).2 ∧
      σ' = upd (upd σ KV (some (.row sv 56 3 ((vs ++ (FS.nxt ⟨cs, vs, fr⟩ i s).1).map Vt.av) 0))) KB (some (.box g 105 [.own KC svC, .own KV sv, iv (if s.k = 1 then fr + 1 else fr : Nat)] false)) := by
  by_cases k1 : s.k = 1
  · exact cbStep1 σ KB KC KV g svC svV cs vs fr i s hB hV hC hBV hBC hVC hl hf k1
  · by_cases k2 : s.k = 2
    · exact cbStep2 σ KB KC KV g svC svV cs vs fr i s hB hV hC hBV hBC hVC hl hf hok hco k2
    · by_cases k3 : s.k = 3
      · exact cbStep3 σ KB KC KV g svC svV cs vs fr i s hB hV hC hBV hBC hVC hl hf hok hco k3
      · by_cases k4 : s.k = 4
        · exact cbStep4 σ KB KC KV g svC svV cs vs fr i s hB hV hC hBV hBC hVC hl hf hok hco k4
        · by_cases k5 : s.k = 5
          · exact cbStep5 σ KB KC KV g svC svV cs vs fr i s hB hV hC hBV hBC hVC hl hf hok hco k5
          · by_cases k6 : s.k = 6
            · exact cbStep6 σ KB KC KV g svC svV cs vs fr i s hB hV hC hBV hBC hVC hl hf k6
            · exact cbStep7 σ KB KC KV g svC svV cs vs fr i s hB hV hC hBV hBC hVC hl hf ⟨k1, k2, k3, k4, k5, k6⟩
end Go.Proofs.YtbgmnobnaplmlaaGreat
end

section
namespace Go.Pg
open Go Go.RowKit
set_option linter.unusedSimpArgs false
set_option linter.unusedVariables false
section
variable {P : Program} {all rest : List Oper} {K : St → Prop} {e : Nat → AV} {m : Mem} {dst : Option Nat} {d t j : Nat} {op : Op} {ty : TypeId} {pos : String} {af : Array Edge} {r : Res} {rs : Nat → AV} {bar : List Nat} {fu k : Nat} {σs : Mem}
/-- An append that steps that look at no memory may pass. -/
theorem gy5d (hb : bar.contains k = true) (hs : bar.contains (k + 1000) = false) (h2 : bar.contains (k + 2000) = true) (ho : all[k]? = some ⟨some d, op, ty, pos, af, none⟩) (h : Ev (opRes P ⟨e, m⟩ op = r)) (hkp : Ev (resKeep noMem r)) (hk : aRes P d (some d) r (dList P 0 all rs bar noMem fu (k + 1) K) ⟨e, m⟩) : dList P 0 all rs bar σs (fu + 1) k K ⟨e, m⟩ := by
  rw [dList_succ]
  unfold xStep
  rw [ho]
  simp only [nextS, hb, hs, h2, if_true, Bool.false_eq_true, if_false]
  have h : opRes P ⟨e, m⟩ op = r := h
  refine ⟨?_, fun _ => ⟨rfl, by rw [h]; exact hkp⟩⟩
  unfold fStep
  rw [aList_none, h, Option.getD_some, Nat.zero_add]
  exact hk
end
end Go.Pg
end

section
namespace Go.Proofs.YtbgmnobnaplmlaaGreat
open Go Go.RowKit Go.Pg Go.Pol
set_option linter.unusedSimpArgs false
set_option linter.unusedVariables false
set_option maxRecDepth 20000
attribute [local go_sem] Tryz.underlying3 Tryz.underlying4 Tryz.underlying178 Tryz.underlying9 Tryz.underlying48 Tryz.underlying31 Tryz.underlying43 Tryz.underlying41 Tryz.underlying39 Tryz.underlying50 Tryz.underlying22 Tryz.underlying25 Tryz.underlying56 Tryz.underlying28 Tryz.underlying72 Tryz.underlying27 Tryz.underlying30 Tryz.underlying105 Tryz.underlying107 Tryz.underlying70 Tryz.underlying63 Tryz.underlying103 Tryz.underlying154 sz3 by3 z3 szErr zErr szStr byStr zStr szStep byStep zStep szFig zFig szSlI zSlI szSlS zSlS szVar byVar zVar szSlV zSlV szCoord byCoord zCoord szSlC zSlC szFrame zFrame szCBld byCBld zCBld szCVec byCVec zCVec szPoly byPoly zPoly szTerm zTerm
attribute [-bool_to_prop] Bool.and_eq_decide Bool.or_eq_decide Bool.decide_beq_decide decide_eq_decide
/-! ### the parameters of a frame -/
abbrev frmA (cs : List (Po × Po)) (vs : List Vt) : AV := .agg [.sl 2 (cs.map coA), .sl 3 (vs.map Vt.av)]
def parsN (l : List Vt) (i : Nat) : List Int := ((List.range i).filter fun j => decide ((l.getD j (0, 0, 0)).1 = 1)).map fun n : Nat => (n : Int)
/-! ### how many there are -/
def cnt1 (l : List Vt) : Nat := (l.filter fun v => decide (v.1 = 1)).length
def cF (ss : List RS) : Nat → Nat
  | 0 => 0
  | i + 1 => cF ss i + if (ss.getD i RS.zero).k = 1 then 1 else 0
def cP (ss : List RS) : Nat → Nat
  | 0 => 0
  | i + 1 => cP ss i + if (ss.getD i RS.zero).k = 5 ∨ (ss.getD i RS.zero).k = 6 then 1 else 0
def cD (ss : List RS) : Nat → Nat
  | 0 => 0
  | i + 1 => cD ss i + if (ss.getD i RS.zero).k = 1 ∨ (ss.getD i RS.zero).k = 2 ∨ (ss.getD i RS.zero).k = 3 ∨ (ss.getD i RS.zero).k = 4 ∨ (ss.getD i RS.zero).k = 5 then 0 else 2
end Go.Proofs.YtbgmnobnaplmlaaGreat
end

section
namespace Go.Proofs.YtbgmnobnaplmlaaGreat
open Go Go.RowKit Go.Pg Go.Pol
set_option linter.unusedSimpArgs false
set_option linter.unusedVariables false
set_option maxRecDepth 20000
attribute [local go_sem] Tryz.underlying3 Tryz.underlying4 Tryz.underlying178 Tryz.underlying9 Tryz.underlying48 Tryz.underlying31 Tryz.underlying43 Tryz.underlying41 Tryz.underlying39 Tryz.underlying50 Tryz.underlying22 Tryz.underlying25 Tryz.underlying56 Tryz.underlying28 Tryz.underlying72 Tryz.underlying27 Tryz.underlying30 Tryz.underlying105 Tryz.underlying107 Tryz.underlying70 Tryz.underlying63 Tryz.underlying103 Tryz.underlying154 sz3 by3 z3 szB zB szErr zErr szStr byStr zStr szRat zRat szInt zInt szNat zNat szStep byStep zStep szFig zFig szSlI zSlI szSlS zSlS szVar byVar zVar szSlV zSlV szCoord byCoord zCoord szSlC zSlC szFrame zFrame szCBld byCBld zCBld szCVec byCVec zCVec szPoly byPoly zPoly szTerm zTerm szPtrB zPtrB szFnC zFnC
attribute [-bool_to_prop] Bool.and_eq_decide Bool.or_eq_decide Bool.decide_beq_decide decide_eq_decide
theorem frN_fr (ss : List RS) : ∀ i, (frN ss i).fr ≤ i
  | 0 => Nat.le_refl _
  | i + 1 => by
    have := frN_fr ss i
    unfold frN
    simp only [FS.push]
    split <;> omega
theorem nfN_mono (ss : List RS) : ∀ i k, nfN ss i ≤ nfN ss (i + k)
  | i, 0 => Nat.le_refl _
  | i, k + 1 => Nat.le_trans (nfN_mono ss i k) (by show _ ≤ nfN ss (i + k) + _; omega)
/-- What is known of a figure in order. -/
structure FigOk (ss : List RS) : Prop where
  len : ss.length ≤ 40
  er : ∀ i, i < ss.length → errS ss i = 0
  lm : ∀ s ∈ ss, s.r.lm 2
  nf : nfN ss ss.length ≤ 20
theorem FigOk.fi {ss : List RS} (h : FigOk ss) {i : Nat} (hi : i ≤ ss.length) (hj : ∀ j, j < i → bigN ss j = false) : ∃ D, FI (frN ss i) (nfN ss i) D ∧ nfN ss i ≤ 20 := by
  have hr : ∀ s ∈ ss, s.k = 2 → s.r.ok = true := fun s hs => by
    obtain ⟨j, hj, rfl⟩ := List.mem_iff_getElem.1 hs
    exact (errS_ok hj (h.er j hj)).2.2.2
  obtain ⟨D, hD⟩ := frN_ok ss hr (fun s hs => lm_bd (h.lm s hs)) i hi hj
  refine ⟨D, hD, Nat.le_trans ?_ h.nf⟩
  have := nfN_mono ss i (ss.length - i)
  rwa [show i + (ss.length - i) = ss.length by omega] at this
theorem FI.co {f : FS} {n D : Nat} (h : FI f n D) (hn : n ≤ 20) : ∀ c ∈ f.cs, Co c.1 ∧ Co c.2 := fun c hc => by
  obtain ⟨h1, h2⟩ := h.cs c hc
  obtain ⟨l1, l2⟩ := h.ln c hc
  have hv := h.nv
  exact ⟨⟨h1.pk (by omega) h.D0 h.Dl hn, h1.1, l1⟩, ⟨h2.pk (by omega) h.D0 h.Dl hn, h2.1, l2⟩⟩
theorem FigOk.st {ss : List RS} (h : FigOk ss) {i : Nat} (hi : i < ss.length) : StOk (frN ss i).cs ss[i] := by
  obtain ⟨h1, h2, h3, h4⟩ := errS_ok hi (h.er i hi)
  exact ⟨h1, h2, fun k hk => by rw [frN_len]; exact h3 k hk, h4, h.lm _ (List.getElem_mem hi)⟩
/-- What the next frame is. -/
theorem frN_succ {ss : List RS} {i : Nat} (hi : i < ss.length) : frN ss (i + 1) = ⟨(frN ss i).cs ++ [((frN ss i).nxt i ss[i]).2], (frN ss i).vs ++ ((frN ss i).nxt i ss[i]).1, if ss[i].k = 1 then (frN ss i).fr + 1 else (frN ss i).fr⟩ := by
  show (frN ss i).push i (ss.getD i RS.zero) = _
  rw [show ss.getD i RS.zero = ss[i] from by rw [List.getD_eq_getElem?_getD, List.getElem?_eq_getElem hi]; rfl]; rfl
theorem bigN_at {ss : List RS} {i : Nat} (hi : i < ss.length) : bigN ss i = (decide (64 < ((frN ss i).vs ++ ((frN ss i).nxt i ss[i]).1).length) || decide (4000 < ((frN ss i).nxt i ss[i]).2.1.length) || decide (4000 < ((frN ss i).nxt i ss[i]).2.2.length)) := by
  unfold bigN
  rw [frN_succ hi, show ss.getD i ⟨0, .empty, [], ⟨false, [], []⟩⟩ = ss[i] from by rw [List.getD_eq_getElem?_getD, List.getElem?_eq_getElem hi]; rfl]
theorem nxt_vars (f : FS) (i : Nat) (s : RS) : (f.nxt i s).1.length ≤ 3 := by
  unfold FS.nxt; simp only
  repeat' split
  all_goals simp
set_option maxHeartbeats 8000000 in
theorem coFrame0 (ss : List RS) (gs : List RG) (cR : Pure Tryz.prog 51 [figA ss gs] (iv (figE ss gs))) (h : figE ss gs ≠ 0) : Pure Tryz.prog 15 [figA ss gs] (.tup [frmA [] [], iv (figE ss gs)]) := by
  refine pure_vkR (r := .tup [.agg [.v (.slice none 0 0), .v (.slice none 0 0)], iv (figE ss gs)]) ?_ (Vk.tupL (.cons (Vk.aggL (.cons (.nil 2) (.cons (.nil 3) .nil))) (.cons (.refl _) .nil)))
  have cR : Pure Tryz.prog 51 [.agg [.sl 6 (ss.map RS.av), .sl 5 (gs.map RG.av)]] (iv (figE ss gs)) := cR
  show Pure _ _ [.agg [.sl 6 (ss.map RS.av), .sl 5 (gs.map RG.av)]] _
  generalize figE ss gs = z at *
  generalize ss.map RS.av = M at *
  generalize gs.map RG.av = N at *
  refine pure_intro (tok := 0) Tryz.func15 rfl Tryz.ntmps15 Tryz.results15 Tryz.call15 (by rfl) (by simp) ?_
  (focus (refine wkld w_t (w_a cR w_t) w_t w_t ?_; (repeat' first | exact w_t | apply w_l); all_goals intros))
set_option maxHeartbeats 8000000 in
theorem coFrame1 (ss : List RS) (gs : List RG) (cR : Pure Tryz.prog 51 [figA ss gs] (iv 0)) (ho : FigOk ss) :
    Pure Tryz.prog 15 [figA ss gs] (if (List.range ss.length).any (bigN ss) = true then .tup [.agg [.v (.slice none 0 0), .v (.slice none 0 0)], iv 4] else .tup [frmA (frN ss ss.length).cs (frN ss ss.length).vs, iv 0]) := by
  have cR : Pure Tryz.prog 51 [.agg [.sl 6 (ss.map RS.av), .sl 5 (gs.map RG.av)]] (iv 0) := cR
  show Pure _ _ [.agg [.sl 6 (ss.map RS.av), .sl 5 (gs.map RG.av)]] _
  have hg : ∀ i (h : i < ss.length), (ss.map RS.av).getD i .u = ss[i].av := fun i h => map_atB RS.av h
  have hls : (ss.map RS.av).length = ss.length := List.length_map ..
  have hlen := ho.len
  generalize ss.map RS.av = M at *
  generalize gs.map RG.av = N at *
  refine pure_intro (tok := 0) Tryz.func15 rfl Tryz.ntmps15 Tryz.results15 Tryz.call15 (by rfl) (by simp) ?_
  (focus (refine wkad (w_a hls w_t) (w_a cR w_t) w_t ?_; (repeat' first | exact w_t | apply w_l); all_goals intros))
  rename_i g1 g2 gb
  refine r_frz (Frz.nilBox (k := 16) 0 20 2 72 (by exact gC) rfl (by omega)) ?_
  refine r_frz (Frz.nilBox (k := 16) 1 21 3 56 (by exact gC) rfl (by omega)) ?_
  refine r_loopE (ι := Nat) (fun i e m => i ≤ ss.length ∧ e 2 = .pbox 2 g2 0 ∧ m 2 = some (.box g2 30 [.v (.slice none 0 0), .v (.slice none 0 0)] false) ∧ e 5 = .pbox 16 gb 0 ∧ e 18 = .sl 6 M ∧ e 19 = iv ss.length ∧ e 20 = iv i ∧ (∃ svC svV, m 16 = some (.box gb 105 [.own 20 svC, .own 21 svV, iv (frN ss i).fr] false) ∧ m 20 = some (.row svC 72 2 ((frN ss i).cs.map coA) 0) ∧ m 21 = some (.row svV 56 3 ((frN ss i).vs.map Vt.av) 0)) ∧ ∀ j, j < i → bigN ss j = false) (fun i => ss.length - i) 0 (by rfl) ?_ ?_
  · rintro i e m ⟨hi, e2, m2, e5, e18, e19, e20, ⟨svC, svV, m16, m20, m21⟩, hbig⟩
    by_cases hlt : i < ss.length
    · have hgi := hg i hlt
      obtain ⟨D, hD, hn⟩ := ho.fi hi hbig
      have hco := hD.co hn
      have hst := ho.st hlt
      have hfr := frN_fr ss i
      have hnv := hD.nv
      have hb := bigN_at hlt
      have hsu := frN_succ hlt
      have hn3 := nxt_vars (frN ss i) i ss[i]
      have hcl := frN_len ss i
      have hst2 := fun m' hB hV hC => cbStep m' 16 20 21 gb svC svV (frN ss i).cs (frN ss i).vs (frN ss i).fr i ss[i] hB hV hC (by omega) (by omega) (by omega) hnv (by omega) hst hco
      rw [show (FS.mk (frN ss i).cs (frN ss i).vs (frN ss i).fr) = frN ss i from rfl] at hst2
      clear hD hco hst
      generalize hs : ss[i] = s at *
      generalize hf : frN ss i = f at *
      generalize hx : f.nxt i s = nx at *
      obtain ⟨nv, c1, c2⟩ := nx
      obtain ⟨k, nm, ar, ⟨rs, rl, rd⟩⟩ := s
      obtain ⟨cs, vs, fr⟩ := f
      simp only at *
      (focus (refine wkad (w_a e2 (w_a m2 (w_a e5 (w_a e18 (w_a e19 (w_a e20 (w_a m16 (w_a m20 (w_a m21 (w_a hgi (w_a hls w_t))))))))))) w_t w_t ?_; (repeat' first | exact w_t | apply w_l); all_goals intros))
      refine o_fresh (hst2 _ (by exact gW m16) (by exact gW m21) (by exact gW m20)) ?_
      intro sv
      generalize hfr2 : (if k = 1 then fr + 1 else fr) = fr2 at *
      have hvl : ((vs ++ nv).map Vt.av).length = (vs ++ nv).length := List.length_map ..
      have hvl2 : (vs ++ nv).length ≤ 67 := by rw [List.length_append]; omega
      have hnx : ∀ j, j < i + 1 → bigN ss i = false → bigN ss j = false := fun j hj h => by
        by_cases e : j = i
        · rw [e]; exact h
        · exact hbig j (by omega)
      have hany : bigN ss i = true → (List.range ss.length).any (bigN ss) = true := fun h => List.any_eq_true.2 ⟨i, List.mem_range.2 hlt, h⟩
      generalize vs ++ nv = vs2 at *
      have hc1 : (c1.map tmA).length = c1.length := List.length_map ..
      have hc2 : (c2.map tmA).length = c2.length := List.length_map ..
      have hcsl : (cs.map coA).length = cs.length := List.length_map ..
      by_cases b1 : 64 < vs2.length
      · rw [if_pos (hany (by rw [hb]; simp [b1]))]
        (focus (refine wkld (w_a e2 (w_a m2 (w_a e5 (w_a e18 (w_a e19 (w_a e20 (w_a hvl (w_a hls w_t)))))))) w_t (w_a e2 w_t) w_t ?_; (repeat' first | exact w_t | apply w_l); all_goals intros))
      · by_cases b2 : 4000 < c1.length
        · rw [if_pos (hany (by rw [hb]; simp [b2]))]
          (focus (refine wkld (w_a e2 (w_a m2 (w_a e5 (w_a e18 (w_a e19 (w_a e20 (w_a hvl (w_a hc1 (w_a hls w_t))))))))) w_t (w_a e2 w_t) w_t ?_; (repeat' first | exact w_t | apply w_l); all_goals intros))
        · by_cases b3 : 4000 < c2.length
          · rw [if_pos (hany (by rw [hb]; simp [b3]))]
            (focus (refine wkld (w_a e2 (w_a m2 (w_a e5 (w_a e18 (w_a e19 (w_a e20 (w_a hvl (w_a hc1 (w_a hc2 (w_a hls w_t)))))))))) w_t (w_a e2 w_t) w_t ?_; (repeat' first | exact w_t | apply w_l); all_goals intros))
          · have hbf : bigN ss i = false := by rw [hb]; simp [b1, b2, b3]
            clear hany
            (repeat' (first | ((with_reducible apply gy5d); iterate 4 focus rfl) | (with_reducible first | refine stp ?_ | apply gx1 | apply gx2 | apply gx3 | apply gx4 | apply gx5 | apply gx6 | apply gx7 | apply gy8 | apply gz2 | apply gz3) | (with_reducible refine all_v ?_; intro _) | ((with_reducible refine gE ?_); (try simp (disch := omega) only [go_sem, e2, m2, e5, e18, e19, e20, m20, hvl, hc1, hc2, hcsl, hls, decide_eq_true, decide_eq_false, if_pos, if_neg, Int.reduceAdd, Int.reduceSub, Int.reduceToNat, Int.zero_add]) <;> first | rfl | omega) | with_reducible refine t_in_other (by decide) ?_ | ((with_reducible apply gy1); iterate 3 focus rfl) | ((with_reducible apply gy2); iterate 3 focus rfl) | ((with_reducible apply gy3); iterate 2 focus rfl) | ((with_reducible apply gy4); iterate 1 focus rfl) | ((with_reducible apply gy5); iterate 4 focus rfl) | ((with_reducible apply gy6); iterate 4 focus rfl) | ((with_reducible apply d_bar); iterate 3 focus rfl) | ((with_reducible apply q_pub); iterate 1 focus rfl) | ((with_reducible apply gy7); iterate 1 focus rfl) | ((with_reducible apply gy9); (focus ((with_reducible refine gE ?_); (try simp (disch := omega) only [go_sem, e2, m2, e5, e18, e19, e20, m20, hvl, hc1, hc2, hcsl, hls, decide_eq_true, decide_eq_false, if_pos, if_neg, Int.reduceAdd, Int.reduceSub, Int.reduceToNat, Int.zero_add]) <;> rfl))) | ((with_reducible apply gz1); (focus first | rfl | (simp (disch := omega) only [go_sem, e2, m2, e5, e18, e19, e20, m20, hvl, hc1, hc2, hcsl, hls, decide_eq_true, decide_eq_false, if_pos, if_neg, Int.reduceAdd, Int.reduceSub, Int.reduceToNat, Int.zero_add]; done))) | ((with_reducible apply r_drawD (id := 11) (pickR []) [12, 2012, 16] [20, 60]); (focus kernel_rfl); (focus rfl); (focus kernel_rfl); (focus (simp only [List.length_cons, List.length_nil, Nat.reduceAdd]; rfl))) | ((with_reducible first | apply og_split | apply dg_split | apply cg_split); all_goals (intro hc; (try simp only [bool_to_prop] at hc); try (exfalso; omega)))))
            rename_i svC2
            refine ⟨i + 1, ⟨by omega, by exact gW e2, by exact gW m2, by exact gW e5, by exact gW e18, by exact gW e19, by exact gS, ⟨svC2, sv, ?_, ?_, ?_⟩, fun j hj => hnx j hj hbf⟩, by omega⟩
            · rw [hsu]; exact gW hfr2
            · rw [hsu, List.map_append]; exact gC
            · rw [hsu]; exact gC
    · have hin : i = ss.length := by omega
      subst hin
      have hno : ¬ (List.range ss.length).any (bigN ss) = true := by
        rw [List.any_eq_true]
        rintro ⟨j, hj, hb⟩
        rw [hbig j (List.mem_range.1 hj)] at hb
        cases hb
      rw [if_neg hno]
      generalize (frN ss ss.length).fr = fr at *
      generalize (frN ss ss.length).cs = cs at *
      generalize (frN ss ss.length).vs = vs at *
      (focus (refine wkld (w_a e2 (w_a m2 (w_a e5 (w_a e18 (w_a e19 (w_a e20 (w_a m16 (w_a m20 (w_a m21 (w_a hls w_t)))))))))) w_t (w_a e2 (w_a m2 (w_a m16 (w_a m20 (w_a m21 w_t))))) w_t ?_; (repeat' first | exact w_t | apply w_l); all_goals intros))
  · exact ⟨Nat.zero_le _, by exact gC, by exact gC, by exact gC, by exact gC, by exact gW hls, by exact gC, ⟨_, _, by (simp (disch := omega) only [go_sem, List.set_cons_zero, List.set_cons_succ, frN] <;> repeat' first | rfl | refine ⟨?_, ?_⟩), by (simp (disch := omega) only [go_sem, frN, List.map_nil] <;> repeat' first | rfl | refine ⟨?_, ?_⟩), by (simp (disch := omega) only [go_sem, frN, List.map_nil] <;> repeat' first | rfl | refine ⟨?_, ?_⟩)⟩, fun j hj => by omega⟩
end Go.Proofs.YtbgmnobnaplmlaaGreat
end
