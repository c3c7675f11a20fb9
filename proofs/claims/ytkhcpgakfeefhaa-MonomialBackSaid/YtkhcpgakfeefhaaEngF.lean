/- The engine, part F: what each operation comes to. -/
import Derived.Test.YtkhcpgakfeefhaaEngE
namespace Go.Pg
open Go Go.RowKit
set_option linter.unusedSimpArgs false
set_option linter.unusedVariables false

def splice (cs : List AV) (off : Nat) (new : List AV) : List AV := cs.take off ++ new ++ cs.drop (off + new.length)

def headRes : List AV → Res
  | x :: _ => .val x []
  | [] => .bad
def takeRes (P : Program) (t : TypeId) (cs : List AV) : Res :=
  match szOf P t with
  | some n => .need (n ≤ cs.length) (.val (.agg (cs.take n)) [])
  | none => .bad
def isAggD : TypeDesc → Bool
  | .struct _ | .array _ _ => true
  | _ => false
def loadOf (P : Program) (t : TypeId) (cs : List AV) : Res :=
  match P.underlying t with
  | some d => if isAggD d then takeRes P t cs else headRes cs
  | none => .bad

def takeRes' (P : Program) (t : TypeId) (cs : List AV) (off : Nat) : Res :=
  match szOf P t with
  | some n => .val (.agg ((cs.drop off).take n)) []
  | none => .bad
/-- A part of an aggregate in hand. -/
def partOf (P : Program) (t : TypeId) (cs : List AV) (off : Nat) : Res :=
  match P.underlying t with
  | some d => if isAggD d then takeRes' P t cs off else headRes (cs.drop off)
  | none => .bad

def intRes (op : BinOp) (k : IntKind) (a b : Int) : Res :=
  match op with
  | .add => .val (.v (.int k (k.wrap (a + b)))) []
  | .sub => .val (.v (.int k (k.wrap (a - b)))) []
  | .mul => .val (.v (.int k (k.wrap (a * b)))) []
  | .quo => .need (b ≠ 0) (.val (.v (.int k (k.wrap (a.tdiv b)))) [])
  | .rem => .need (b ≠ 0) (.val (.v (.int k (a.tmod b))) [])
  | .and => .val (.v (.int k (k.wrap ((BitVec.ofInt k.bits a &&& BitVec.ofInt k.bits b).toNat)))) []
  | .or => .val (.v (.int k (k.wrap ((BitVec.ofInt k.bits a ||| BitVec.ofInt k.bits b).toNat)))) []
  | .xor => .val (.v (.int k (k.wrap ((BitVec.ofInt k.bits a ^^^ BitVec.ofInt k.bits b).toNat)))) []
  | .eql => .val (.v (.bool (a == b))) []
  | .neq => .val (.v (.bool (a != b))) []
  | .lss => .val (.v (.bool (decide (a < b)))) []
  | .leq => .val (.v (.bool (decide (a ≤ b)))) []
  | .gtr => .val (.v (.bool (decide (b < a)))) []
  | .geq => .val (.v (.bool (decide (b ≤ a)))) []
  | _ => .bad

def strRes (op : BinOp) (a b : ByteArray) : Res :=
  match op with
  | .add => .need (((a.size + b.size : Nat) : Int) ≤ 9223372036854775807) (.val (.v (.string (a ++ b))) [])
  | .eql => .val (.v (.bool (a.toList == b.toList))) []
  | .neq => .val (.v (.bool (!(a.toList == b.toList)))) []
  | .lss => .val (.v (.bool (Op.bytesLess a.toList b.toList))) []
  | .leq => .val (.v (.bool (Op.bytesLess a.toList b.toList || a.toList == b.toList))) []
  | .gtr => .val (.v (.bool (!(Op.bytesLess a.toList b.toList || a.toList == b.toList)))) []
  | .geq => .val (.v (.bool (!Op.bytesLess a.toList b.toList))) []
  | _ => .bad

def binRes (P : Program) (op : BinOp) (t : TypeId) (x y : AV) : Res :=
  match x, y with
  | .v (.int k a), .v (.int k' b) => match op with
    | .shl => .need (0 ≤ b) (.val (.v (.int k (k.wrap (a * 2 ^ (min b.toNat k.bits))))) [])
    | .shr => .need (0 ≤ b) (.val (.v (.int k (a.fdiv (2 ^ (min b.toNat k.bits))))) [])
    | op => .need (k = k') (intRes op k a b)
  | .v (.string a), .v (.string b) => strRes op a b
  | .v (.bool a), .v (.bool b) => match op, P.underlying t with
    | .eql, some .bool => .val (.v (.bool (a == b))) []
    | .neq, some .bool => .val (.v (.bool (!(a == b)))) []
    | _, _ => .bad
  | _, _ => .bad

def unRes (op : UnOp) (x : AV) : Res :=
  match op, x with
  | .not, .v (.bool b) => .val (.v (.bool (!b))) []
  | .neg, .v (.int k n) => .val (.v (.int k (k.wrap (0 - n)))) []
  | _, _ => .bad

def convRes (P : Program) (src dst : TypeId) (x : AV) : Res :=
  match P.underlying src, P.underlying dst, x with
  | some _, some (.int k), .v (.int _ n) => .val (.v (.int k (k.wrap n))) []
  | some _, some .string, .v (.string s) => .val (.v (.string s)) []
  | _, _, _ => .bad

def aZero (P : Program) (t : TypeId) : Option AV := (zeroOf P t).map AV.ofVal

/-- The elements of a slice in hand, and the tokens to publish. -/
def elemsOf (σ : Mem) (m : Nat) : AV → (List AV → Res) → Res
  | .sl m' es, R => .need (m' = m) (R es)
  | .own k sv, R => match σ k with
    | some (.row sv' _ m' es _) => .need (sv = sv' ∧ m' = m) (R es)
    | _ => .bad
  | .v (.slice none 0 0), R => R []
  | _, _ => .bad

def lenRes (st : St) (d : TypeDesc) (x : AV) : Res :=
  match d, x with
  | .slice _, .sl _ es => .val (.v (.int .i64 es.length)) []
  | .slice _, .own k sv => match st.mem k with
    | some (.row sv' _ _ es _) => .need (sv = sv') (.val (.v (.int .i64 es.length)) [])
    | _ => .bad
  | .slice _, .v (.slice none 0 0) => .val (.v (.int .i64 0)) []
  | .string, .v (.string s) => .val (.v (.int .i64 s.size)) []
  | .array n _, _ => .val (.v (.int .i64 n)) []
  | _, _ => .bad

def appRes (P : Program) (st : St) (t t' : TypeId) (s x : AV) : Res :=
  match P.underlying t with
  | some (.slice e) => match szOf P e, bytOf P e, zeroOf P e with
    | some m, some by_, some z => match s with
      | .own k sv => match st.mem k with
        | some (.row sv' e' m' es _) => .need (t = t' ∧ sv = sv' ∧ e' = e ∧ m' = m ∧ z.cells.size = m) (elemsOf st.mem m x fun news =>
            .need (es.length + news.length ≤ 9223372036854775807 ∧ (es.length + news.length) * by_ ≤ 140737488355328) (.app k news []))
        | _ => .bad
      | .v (.slice none 0 0) => .need (t = t' ∧ z.cells.size = m) (elemsOf st.mem m x fun news =>
            .need (news.length ≤ 9223372036854775807 ∧ news.length * by_ ≤ 140737488355328) (.row e m news []))
      | _ => .bad
    | _, _, _ => .bad
  | _ => .bad

def copyRes (P : Program) (st : St) (t : TypeId) (d x : AV) : Res :=
  match P.underlying t with
  | some (.slice e) => match szOf P e with
    | some m => match d with
      | .own k sv => match st.mem k with
        | some (.row sv' e' m' es pub) => .need (sv = sv' ∧ e' = e ∧ m' = m ∧ pub = 0) (elemsOf st.mem m x fun news =>
            .sto (.v (.int .i64 (min news.length es.length : Nat))) k (.row sv' e' m' (news.take es.length ++ es.drop news.length) pub) [])
        | _ => .bad
      | _ => .bad
    | none => .bad
  | _ => .bad

def sliceLo (lo : Option AV) (K : Int → Res) : Res :=
  match lo with
  | none => K 0
  | some (.v (.int _ l)) => K l
  | some _ => .bad
def sliceHi (len : Nat) (hi : Option AV) (K : Int → Res) : Res :=
  match hi with
  | none => K len
  | some (.v (.int _ h)) => K h
  | some _ => .bad

def sliceRes (P : Program) (st : St) (t : TypeId) (x : AV) (lo hi mx : Option AV) : Res :=
  match P.underlying t, x with
  | some .string, .v (.string s) => match mx with
    | none => sliceLo lo fun l => sliceHi s.size hi fun h => .need (0 ≤ l ∧ l ≤ h ∧ h ≤ s.size) (.val (.v (.string (s.extract l.toNat h.toNat))) [])
    | some _ => .bad
  | some (.slice e), .sl m es => match szOf P e with
    | some m' => sliceLo lo fun l => sliceHi es.length hi fun h => sliceHi es.length mx fun m₂ =>
        .need (m' = m ∧ 0 ≤ l ∧ l ≤ h ∧ h ≤ m₂ ∧ m₂ ≤ es.length ∧ (mx.isSome = true → hi.isSome = true)) (.val (.sl m ((es.take h.toNat).drop l.toNat)) [])
    | none => .bad
  | some (.slice e), .own k sv => match st.mem k, szOf P e with
    | some (.row sv' _ m es _), some m' => sliceLo lo fun l => sliceHi es.length hi fun h => sliceHi es.length mx fun m₂ =>
        .need (sv = sv' ∧ m' = m ∧ 0 ≤ l ∧ l ≤ h ∧ h ≤ m₂ ∧ m₂ ≤ es.length ∧ (mx.isSome = true → hi.isSome = true)) (.val (.sl m ((es.take h.toNat).drop l.toNat)) [k])
    | _, _ => .bad
  | some (.slice e), .v (.slice none 0 0) => match szOf P e with
    | some _ => sliceLo lo fun l => sliceHi 0 hi fun h => sliceHi 0 mx fun m₂ => .need (l = 0 ∧ h = 0 ∧ m₂ = 0 ∧ (mx.isSome = true → hi.isSome = true)) (.val (.v (.slice none 0 0)) [])
    | none => .bad
  | _, _ => .bad

def fieldRes (P : Program) (s : TypeId) (x : AV) (f : Nat) : Res :=
  match P.underlying s with
  | some (.struct fields) => match fields[f]? with
    | some fd => match szOf P fd.type with
      | some sz => .need (sz ≠ 0) (match x with
        | .pimm cs => .val (.pimm (cs.drop fd.offset)) []
        | .pbox k g off => .val (.pbox k g (off + fd.offset)) []
        | .prow k sv m i off => .val (.prow k sv m i (off + fd.offset)) []
        | _ => .bad)
      | none => .bad
    | none => .bad
  | _ => .bad

def indexAddrRes (P : Program) (st : St) (t : TypeId) (x i : AV) : Res :=
  match P.underlying t, i with
  | some (.slice e), .v (.int _ j) => match szOf P e with
    | some sz => match x with
      | .sl m es => .need (sz = m ∧ 0 ≤ j ∧ j < es.length) (.val (.pimm (es.getD j.toNat .u).cells) [])
      | .own k sv => match st.mem k with
        | some (.row sv' _ m es _) => .need (sv = sv' ∧ sz = m ∧ 0 ≤ j ∧ j < es.length) (.val (.prow k sv m j.toNat 0) [])
        | _ => .bad
      | _ => .bad
    | none => .bad
  | some (.array len e), .v (.int _ j) => match szOf P e with
    | some sz => .need (0 ≤ j ∧ j < len) (match x with
      | .pimm cs => .val (.pimm (cs.drop (j.toNat * sz))) []
      | .pbox k g off => .val (.pbox k g (off + j.toNat * sz)) []
      | .prow k sv m i off => .val (.prow k sv m i (off + j.toNat * sz)) []
      | _ => .bad)
    | none => .bad
  | _, _ => .bad

def indexRes (P : Program) (t : TypeId) (x i : AV) : Res :=
  match P.underlying t, x, i with
  | some (.array len e), .agg cs, .v (.int _ j) => match szOf P e with
    | some sz => .need (0 ≤ j ∧ j < len) (partOf P e cs (j.toNat * sz))
    | none => .bad
  | some .string, .v (.string s), .v (.int _ j) => .need (0 ≤ j ∧ j < s.size) (.val (.v (.int .u8 (s.data.toList.getD j.toNat 0).toNat)) [])
  | _, _, _ => .bad

/-- Parts laid into zero cells. -/
def fillA (place : Nat → Option (Nat × Nat)) (cs : List AV) : List (Nat × AV) → (List AV → Res) → Res
  | [], R => R cs
  | (i, a) :: r, R => match place i with
    | some (off, sz) => .need (a.ok = true ∧ a.cells.length = sz ∧ off + sz ≤ cs.length) (fillA place (splice cs off a.cells) r R)
    | none => .bad

def buildRes (P : Program) (t : TypeId) (parts : List (Nat × AV)) : Res :=
  match P.underlying t, zeroOf P t with
  | some (.struct fields), some z => .need ((fields.toList.all fun f => (szOf P f.type).isSome) = true) (fillA (fun i => (fields[i]?).bind fun f => (szOf P f.type).map fun s => (f.offset, s)) (AV.ofVal z).cells parts fun cs => .val (.agg cs) [])
  | some (.array _ e), some z => match szOf P e with
    | some sz => fillA (fun i => some (i * sz, sz)) (AV.ofVal z).cells parts fun cs => .val (.agg cs) []
    | none => .bad
  | _, _ => .bad

/-- The elements of a slice literal, part by part. -/
def fillEs (σ : Mem) (m : Nat) (es : List AV) : List (Nat × AV) → (List AV → Res) → Res
  | [], R => R es
  | (i, a) :: r, R => .need (a.ok = true ∧ a.cells.length = m ∧ i < es.length ∧ pubOk σ a) (fillEs σ m (es.set i (pubV σ a)) r R)

def buildSliceRes (P : Program) (st : St) (t : TypeId) (len : Nat) (parts : List (Nat × AV)) : Res :=
  match P.underlying t with
  | some (.slice e) => match szOf P e, zeroOf P e with
    | some m, some z => .need (len * m ≤ 16777216 ∧ len ≤ 16777216 ∧ (AV.ofVal z).cells.length = m ∧ (AV.ofVal z).ok = true) (
        fillEs (marks st.mem (AV.toksL (parts.map (·.2)))) m (List.replicate len (AV.ofVal z)) parts fun es => .row e m es (AV.toksL (parts.map (·.2))))
    | _, _ => .bad
  | _ => .bad

def makeSliceRes (P : Program) (t : TypeId) (l cp : AV) : Res :=
  match P.underlying t, l, cp with
  | some (.slice e), .v (.int _ n), .v (.int _ cap) => match szOf P e, bytOf P e, zeroOf P e with
    | some m, some by_, some z => .need (0 ≤ n ∧ n ≤ cap ∧ cap ≤ 9223372036854775807 ∧ (by_ : Int) * cap ≤ 281474976710656 ∧ (AV.ofVal z).cells.length = m ∧ (AV.ofVal z).ok = true) (.row e m (List.replicate n.toNat (AV.ofVal z)) [])
    | _, _, _ => .bad
  | _, _, _ => .bad

def loadRes (P : Program) (st : St) (t : TypeId) : AV → Res
  | .pimm cs => loadOf P t cs
  | .pbox k g off => match st.mem k with
    | some (.box g' _ cs _) => .need (g = g') (loadOf P t (cs.drop off))
    | _ => .bad
  | .prow k sv m i off => match st.mem k with
    | some (.row sv' _ m' es _) => .need (sv = sv' ∧ m = m' ∧ i < es.length) (loadOf P t ((es.getD i .u).cells.drop off))
    | _ => .bad
  | _ => .bad

/-- The new elements of a row behind a store. -/
def putEl (σ : Mem) (m off n : Nat) (es : List AV) (i : Nat) (x : AV) (R : List AV → Res) : Res :=
  if m = 1 then .need (off = 0 ∧ x.one = true) (R (es.set i (pubV σ x)))
  else match es.getD i .u with
    | .agg ecs => .need (off + n ≤ m) (R (es.set i (.agg (splice ecs off (pubV σ x).cells))))
    | _ => .bad

def storeRes (P : Program) (st : St) (t : TypeId) (p x : AV) : Res :=
  match szOf P t with
  | some n => match p with
    | .pbox k g off => match st.mem k with
      | some (.box g' e cs false) => .need (g = g' ∧ x.ok = true ∧ x.cells.length = n ∧ off + n ≤ cs.length) (.sto .u k (.box g' e (splice cs off x.cells) false) [])
      | _ => .bad
    | .prow k sv m i off => match marks st.mem x.toks k with
      | some (.row sv' e m' es pub) => .need (sv = sv' ∧ m = m' ∧ pub ≤ i ∧ i < es.length ∧ x.ok = true ∧ x.cells.length = n ∧ pubOk (marks st.mem x.toks) x)
          (putEl (marks st.mem x.toks) m' off n es i x fun es' => .sto .u k (.row sv' e m' es' pub) x.toks)
      | _ => .bad
    | _ => .bad
  | none => .bad

def nilRes : AV → Res
  | .pimm cs => .val (.pimm cs) []
  | .pbox k g off => .val (.pbox k g off) []
  | .prow k sv m i off => .val (.prow k sv m i off) []
  | .fn f cs => .val (.fn f cs) []
  | _ => .bad

def mmRes (mx : Bool) : List AV → Res
  | [.v (.int k a), .v (.int k' b)] => .need (k = k') (.val (.v (.int k (if mx then (if b > a then b else a) else (if b < a then b else a)))) [])
  | _ => .bad

def callRes (P : Program) (st : St) (c : Call) : Res :=
  match c.callee with
  | .builtin .len => match c.args.toList, c.argTypes.toList with
    | [x], [t] => match P.underlying t with
      | some d => lenRes st d (st.ev x)
      | none => .bad
    | _, _ => .bad
  | .builtin .append => match c.args.toList, c.argTypes.toList with
    | [s, x], [t, t'] => appRes P st t t' (st.ev s) (st.ev x)
    | _, _ => .bad
  | .builtin .copy => match c.args.toList, c.argTypes.toList with
    | [d, x], [t, _] => copyRes P st t (st.ev d) (st.ev x)
    | _, _ => .bad
  | .builtin .max => mmRes true (c.args.toList.map st.ev)
  | .builtin .min => mmRes false (c.args.toList.map st.ev)
  | .value f => match st.ev f with
    | .fn g caps => .call g (c.args.toList.map st.ev ++ caps)
    | _ => .bad
  | _ => .bad

def pickAV (t : Bool) (a b : AV) : Res :=
  match a, b with
  | .v (.bool x), .v (.bool y) => .val (.v (.bool (if t then x else y))) []
  | a, b => .val (if t then a else b) []
def pickRes (st : St) (c a b : Operand) : Res :=
  match st.ev c with
  | .v (.bool t) => pickAV t (st.ev a) (st.ev b)
  | _ => .bad

def opRes (P : Program) (st : St) : Op → Res
  | .move x | .assign x => .val (st.ev x) []
  | .pick c a b => pickRes st c a b
  | .alloc e => match aZero P e with
    | some z => .need (z.ok = true) (.box e z.cells)
    | none => .bad
  | .box e x => .need ((st.ev x).ok = true) (.box e (st.ev x).cells)
  | .build t parts => buildRes P t (parts.toList.map fun p => (p.1, st.ev p.2))
  | .buildSlice t len parts => buildSliceRes P st t len (parts.toList.map fun p => (p.1, st.ev p.2))
  | .load t x => loadRes P st t (st.ev x)
  | .store t p x => storeRes P st t (st.ev p) (st.ev x)
  | .nilCheck x => nilRes (st.ev x)
  | .binOp op t x y _ => binRes P op t (st.ev x) (st.ev y)
  | .unOp op _ x => unRes op (st.ev x)
  | .convert s d x => convRes P s d (st.ev x)
  | .makeFunc (.func f) first caps => .need (first.toList.length = 0) (.val (.fn f (caps.toList.map st.ev)) [])
  | .makeSlice t l cp => makeSliceRes P t (st.ev l) (st.ev cp)
  | .slice t x lo hi mx => sliceRes P st t (st.ev x) (lo.map st.ev) (hi.map st.ev) (mx.map st.ev)
  | .fieldAddr s x f => fieldRes P s (st.ev x) f
  | .field s x f => match P.underlying s, st.ev x with
    | some (.struct fields), .agg cs => match fields[f]? with
      | some fd => partOf P fd.type cs fd.offset
      | none => .bad
    | _, _ => .bad
  | .indexAddr t x i => indexAddrRes P st t (st.ev x) (st.ev i)
  | .index t x i => indexRes P t (st.ev x) (st.ev i)
  | .extract x i => match st.ev x with
    | .tup vs => match vs[i]? with
      | some a => .val a []
      | none => .bad
    | _ => .bad
  | .makeInterface t x => match P.underlying t with
    | some (.interface _) | none => .bad
    | some _ => .val (.ifc t (st.ev x)) []
  | .call cl => callRes P st cl
  | _ => .bad

end Go.Pg
