/- Contracts of the functions that the law reaches, and the rules by which they are walked. They say what a call hands back for every input within the bounds that each names; no other condition. -/
import Derived.Test.YtimmnimikmnljaaGreatBd4
set_option linter.unusedSimpArgs false
set_option linter.unusedVariables false
set_option maxRecDepth 20000
set_option maxHeartbeats 16000000
namespace Go.Pg
open Go Go.RowKit
def Zcg:List (Nat × AV)→Nat→AV
 | [],_=>.u
 | (k,a) :: l,i=>if i=k then a else Zcg l i
theorem Zrq {P:Program} {tok:Nat} {all:List Oper} {rs:Nat→AV} {bar:List Nat} {k:Nat} {σs:Mem} {K:St→Prop} {st:St}:Zb0 P tok all rs bar σs 0 k K st=K st:=rfl
theorem Zcn {P:Program} {tok:Nat} {all:List Oper} {rs:Nat→AV} {bar:List Nat} {f k:Nat} {σs:Mem} {K:St→Prop} {st:St}:Zb0 P tok all rs bar σs (f+1) k K st=Zdr P tok σs all rs bar k (Zb0 P tok all rs bar (Zb7 bar k σs) f (k+1) K) st:=rfl
section
variable {P:Program} {tok:Nat} {σs:Mem} {st:St}
theorem opS_load (t:TypeId) (x:Operand):opS P tok σs st (.load t x)=Zc6 P ⟨st.env,σs⟩ t (St.ev ⟨st.env,σs⟩ x):=rfl
theorem Zsz (t:TypeId) (p:Nat) (x:Operand):opS P tok σs st (.store t (.tmp p) x)=(match st.env p with
 | .pbox k g off=>if k=tok+p then Zeu P st t (.pbox k g off) (St.ev ⟨st.env,Zan⟩ x) else .bad
 | _=>.bad):=rfl
theorem opS_move (x:Operand):opS P tok σs st (.move x)=Zal P ⟨st.env,Zan⟩ (.move x):=rfl
theorem Zrc (x:Operand):opS P tok σs st (.assign x)=Zal P ⟨st.env,Zan⟩ (.assign x):=rfl
theorem opS_pick (c x y:Operand):opS P tok σs st (.pick c x y)=Zal P ⟨st.env,Zan⟩ (.pick c x y):=rfl
theorem Zs4 (t:TypeId):opS P tok σs st (.alloc t)=Zal P ⟨st.env,Zan⟩ (.alloc t):=rfl
theorem opS_box (t:TypeId) (x:Operand):opS P tok σs st (.box t x)=Zal P ⟨st.env,Zan⟩ (.box t x):=rfl
theorem Zs3 (t:TypeId) (ps:Array (Nat × Operand)):opS P tok σs st (.build t ps)=Zal P ⟨st.env,Zan⟩ (.build t ps):=rfl
theorem opS_bs (t:TypeId) (n:Nat) (ps:Array (Nat × Operand)):opS P tok σs st (.buildSlice t n ps)=Zal P ⟨st.env,Zan⟩ (.buildSlice t n ps):=rfl
theorem opS_nil (x:Operand):opS P tok σs st (.nilCheck x)=Zal P ⟨st.env,Zan⟩ (.nilCheck x):=rfl
theorem opS_bin (b:BinOp) (t:TypeId) (x y:Operand) (u:TypeId):opS P tok σs st (.binOp b t x y u)=Zal P ⟨st.env,Zan⟩ (.binOp b t x y u):=rfl
theorem opS_un (b:UnOp) (t:TypeId) (x:Operand):opS P tok σs st (.unOp b t x)=Zal P ⟨st.env,Zan⟩ (.unOp b t x):=rfl
theorem opS_conv (t u:TypeId) (x:Operand):opS P tok σs st (.convert t u x)=Zal P ⟨st.env,Zan⟩ (.convert t u x):=rfl
theorem opS_mf (f:Fn) (a b:Array Operand):opS P tok σs st (.makeFunc f a b)=Zal P ⟨st.env,Zan⟩ (.makeFunc f a b):=rfl
theorem opS_mk (t:TypeId) (a b:Operand):opS P tok σs st (.makeSlice t a b)=Zal P ⟨st.env,Zan⟩ (.makeSlice t a b):=rfl
theorem Zs0 (t:TypeId) (x:Operand) (a b c:Option Operand):opS P tok σs st (.slice t x a b c)=Zal P ⟨st.env,σs⟩ (.slice t x a b c):=rfl
theorem opS_fa (t:TypeId) (x:Operand) (n:Nat):opS P tok σs st (.fieldAddr t x n)=Zal P ⟨st.env,Zan⟩ (.fieldAddr t x n):=rfl
theorem opS_fi (t:TypeId) (x:Operand) (n:Nat):opS P tok σs st (.field t x n)=Zal P ⟨st.env,Zan⟩ (.field t x n):=rfl
theorem opS_ia (t:TypeId) (x y:Operand):opS P tok σs st (.indexAddr t x y)=Zbh P ⟨st.env,σs⟩ t (St.ev ⟨st.env,σs⟩ x) (St.ev ⟨st.env,σs⟩ y):=rfl
theorem opS_ix (t:TypeId) (x y:Operand):opS P tok σs st (.index t x y)=Zal P ⟨st.env,Zan⟩ (.index t x y):=rfl
theorem opS_ext (x:Operand) (n:Nat):opS P tok σs st (.extract x n)=Zal P ⟨st.env,Zan⟩ (.extract x n):=rfl
theorem opS_mi (t:TypeId) (x:Operand):opS P tok σs st (.makeInterface t x)=Zal P ⟨st.env,Zan⟩ (.makeInterface t x):=rfl
theorem opS_len (a:Array Operand) (ts:Array TypeId):opS P tok σs st (.call ⟨.builtin .len,a,ts⟩)=Zcp P ⟨st.env,σs⟩ ⟨.builtin .len,a,ts⟩:=rfl
theorem Zs2 (f:Operand) (a:Array Operand) (ts:Array TypeId):opS P tok σs st (.call ⟨.value f,a,ts⟩)=Zal P ⟨st.env,Zan⟩ (.call ⟨.value f,a,ts⟩):=rfl
theorem Zrd (a:Array Operand) (ts:Array TypeId):opS P tok σs st (.call ⟨.builtin .append,a,ts⟩)=Zal P ⟨st.env,Zan⟩ (.call ⟨.builtin .append,a,ts⟩):=rfl
theorem opS_copy (a:Array Operand) (ts:Array TypeId):opS P tok σs st (.call ⟨.builtin .copy,a,ts⟩)=Zal P ⟨st.env,Zan⟩ (.call ⟨.builtin .copy,a,ts⟩):=rfl
theorem opS_max (a:Array Operand) (ts:Array TypeId):opS P tok σs st (.call ⟨.builtin .max,a,ts⟩)=Zal P ⟨st.env,Zan⟩ (.call ⟨.builtin .max,a,ts⟩):=rfl
theorem opS_min (a:Array Operand) (ts:Array TypeId):opS P tok σs st (.call ⟨.builtin .min,a,ts⟩)=Zal P ⟨st.env,Zan⟩ (.call ⟨.builtin .min,a,ts⟩):=rfl
end
attribute [go_sem ↓] Zsz opS_load opS_move Zrc opS_pick Zs4 opS_box Zs3 opS_bs opS_nil opS_bin opS_un opS_conv opS_mf opS_mk Zs0 opS_fa opS_fi opS_ia opS_ix opS_ext opS_mi opS_len Zs2 Zrd opS_copy opS_max opS_min
attribute [go_sem] cutM Zaw Zc8 Zdg Zkk Zi2 Zsx Zb7 Zcg Zrq Zcn Zdr Zcm Zfy Ze4 Zb9 optK outK List.contains_cons List.contains_nil Bool.or_false Bool.false_or Bool.or_true Bool.true_or Zan
theorem lt_t {a b:Int} (h:a < b):decide (a < b)=true:=decide_eq_true h
theorem lt_f {a b:Int} (h:b≤a):decide (a < b)=false:=decide_eq_false (by omega)
theorem le_t {a b:Int} (h:a≤b):decide (a≤b)=true:=decide_eq_true h
theorem le_f {a b:Int} (h:b < a):decide (a≤b)=false:=decide_eq_false (by omega)
theorem eq_t {a b:Int} (h:a=b):(a == b)=true:=by simp [h]
theorem eq_f {a b:Int} (h:a≠b):(a == b)=false:=by simp [h]
theorem ne_t {a b:Int} (h:a≠b):(a != b)=true:=by simp [h]
theorem ne_f {a b:Int} (h:a=b):(a != b)=false:=by simp [h]
theorem Zra (n:Nat):((n:Int) - 1).toNat=n - 1:=by omega
theorem Zq3 (n:Nat):((n:Int)+1).toNat=n+1:=by omega
def ints (l:List Int):AV:=.sl 1 (l.map λn=>.v (.int .i64 n))
def gI (l:List Int) (k:Nat):Int:=l.getD k 0
theorem ints_get {l:List Int} {k:Nat} (h:k < l.length):(l.map λn=>AV.v (.int .i64 n)).getD k .u=.v (.int .i64 (gI l k)):=Zqp h
theorem Zfr {l:List Int} {k:Nat} (h:k < l.length):gI l k=l[k]:=by unfold gI;rw [List.getD_eq_getElem?_getD,List.getElem?_eq_getElem h];rfl
theorem Zbi {l:List Int} {k:Nat} (h:l.length≤k):gI l k=0:=by unfold gI;rw [List.getD_eq_getElem?_getD,List.getElem?_eq_none h];rfl
theorem Zb1 (n:Nat):(n:Int)+1=((n+1:Nat):Int):=by omega
theorem if_max (x y:Int):(if y > x then y else x)=max x y:=by split<;>omega
theorem range2:List.range 2=[0,1]:=rfl
theorem range3:List.range 3=[0,1,2]:=rfl
theorem range4:List.range 4=[0,1,2,3]:=rfl
attribute [go_sem] range2 range3 range4 if_max lt_t lt_f le_t le_f eq_t eq_f ne_t ne_f Zra Zq3 ints_get
inductive Wk:AV→AV→Prop
 | refl (a:AV):Wk a a
 | nil (m:Nat):Wk (.v (.slice none 0 0)) (.sl m [])
 | tup (aS bs:List AV) (hl:aS.length=bs.length) (h:∀(j:Nat) (a b:AV),aS[j]?=some a→bs[j]?=some b→Wk a b):Wk (.tup aS) (.tup bs)
theorem Wk.rd {w:World} {imm:Imm} {a b:AV} (h:Wk a b):∀{x:Value},Rd w imm a x→Rd w imm b x:=by
 induction h with
 | refl a=>exact λh=>h
 | nil m =>
   intro x h;cases h;exact .sl m [] none 0 (λ_=>undef) (by simp) (by simp) (Nat.le_refl _) (by simp) (by simp) (by simp [flat])
 | tup aS bs hl _ ih =>
   intro x h
   cases h with
   | tup _ vs hl2 hr =>
     refine .tup bs vs (by omega) λj b x h1 h2=>?_;have hj:j < aS.length:=by rw [hl];exact(List.getElem?_eq_some_iff.1 h1).1
     exact ih j aS[j] b (List.getElem?_eq_getElem hj) h1 (hr j aS[j] x (List.getElem?_eq_getElem hj) h2)
theorem Pure.wk {P:Program} {f:FuncId} {args:List AV} {r r':AV} (h:Pure P f args r) (hw:Wk r r'):Pure P f args r':=by
 refine⟨h.1,λw imm vs h1 h2 h3=>(h.2 w imm vs h1 h2 h3).mono λe w' he=>?_⟩;obtain⟨x,imm',e1,e2,e3⟩:=he;exact⟨x,imm',e1,hw.rd e2,e3⟩
theorem Wk.pair {a b c:AV} (h:Wk a b):Wk (.tup [a,c]) (.tup [b,c]):=by
 refine .tup _ _ rfl λj x y h1 h2=>?_
 match j with
 | 0=>simp at h1 h2;subst h1;subst h2;exact h
 | 1=>simp at h1 h2;subst h1;subst h2;exact .refl _
 | j+2=>simp at h1
attribute [go_sem] ne_eq true_and and_true implies_true Std.le_refl and_self not_true_eq_false not_false_eq_true forall_const Option.getD_some Option.getD_none List.getElem?_cons_zero List.getElem?_cons_succ List.getElem?_nil Option.bind_some Option.map_some Option.map_none Option.isSome_some Option.isSome_none
 List.map_cons List.map_nil List.length_cons List.length_nil List.length_map List.length_take List.length_replicate List.size_toArray List.append_nil List.nil_append List.cons_append List.getD_cons_zero List.getD_cons_succ List.getD_nil List.drop_zero List.drop_succ_cons List.take_zero List.take_succ_cons List.drop_nil List.take_nil
 List.set_cons_zero List.set_cons_succ List.replicate_succ List.replicate_zero List.all_cons List.all_nil Bool.and_true Bool.true_and Bool.false_eq_true Bool.true_eq_false Bool.not_true Bool.not_false decide_true decide_false decide_eq_true_eq Int.toNat_natCast Int.toNat_zero Int.toNat_one imp_false false_and and_false false_or or_false beq_self_eq_true beq_true beq_false wrap_i64
section
variable {P:Program} {all rest:List Oper} {K:St→Prop} {e:Nat→AV} {m:Mem} {dst:Option Nat} {d t j:Nat} {op:Op} {ty:TypeId} {pos:String} {af:Array Edge} {r:Res} {want:Bool} {a:AV} {f:FuncId} {args args':List AV}
theorem Zrf (h:K ⟨e,m⟩):Zbk P 0 all [] K ⟨e,m⟩:=h
theorem o_op (h:Zal P ⟨e,m⟩ op=r) (k:aRes P d (some d) r (Zbk P 0 all rest K) ⟨e,m⟩):Zbk P 0 all (⟨some d,op,ty,pos,af,none⟩ :: rest) K ⟨e,m⟩:=by
 rw [Zec,h,Option.getD_some,Nat.zero_add];exact k
theorem Zo1 (h:Zal P ⟨e,m⟩ op=r) (k:aRes P 0 none r (Zbk P 0 all rest K) ⟨e,m⟩):Zbk P 0 all (⟨none,op,ty,pos,af,none⟩ :: rest) K ⟨e,m⟩:=by
 rw [Zec,h];exact k
theorem Zoz (h:K ⟨upd e d a,m⟩):aRes P t (some d) (.val a []) K ⟨e,m⟩:=h
theorem Zjj {ks:List Nat} (h:K ⟨upd e d a,marks m ks⟩):aRes P t (some d) (.val a ks) K ⟨e,m⟩:=h
theorem Zjk {ks:List Nat} (h:K ⟨e,marks m ks⟩):aRes P t none (.val a ks) K ⟨e,m⟩:=h
theorem Zig {p:Prop} (hp:p) (h:aRes P t dst r K ⟨e,m⟩):aRes P t dst (.need p r) K ⟨e,m⟩:=⟨hp,h⟩
theorem o_app {k mm pub:Nat} {sv0:Value} {es news:List AV} {ks:List Nat} (hk:marks m ks k=some (.row sv0 ty mm es pub)) (h:∀sv,K ⟨upd e d (.own k sv),upd (marks m ks) k (some (.row sv ty mm (es++news) pub))⟩) :
 aRes P t (some d) (.app k news ks) K ⟨e,m⟩:=by
 simp only [aRes,hk];exact h
theorem Zo0 {k:Nat} {ent:Ent} {ks:List Nat} (h:K ⟨e,upd (marks m ks) k (some ent)⟩):aRes P t none (.sto a k ent ks) K ⟨e,m⟩:=h
theorem Zjl {k:Nat} {ent:Ent} {ks:List Nat} (h:K ⟨upd e d a,upd (marks m ks) k (some ent)⟩):aRes P t (some d) (.sto a k ent ks) K ⟨e,m⟩:=h
theorem Znc {x:AV} (c:Pure P f args' x) (h0:AV.toksL args=[]) (ho:Zdv m args) (ha:Zdt m args=args') (h:K ⟨upd e d x,m⟩):aRes P t (some d) (.call f args) K ⟨e,m⟩:=by
 refine Zbe c ?_ ?_ ?_
 ·rw [h0];exact ho
 ·rw [h0];exact ha
 ·rw [h0];exact h
theorem Zls {x:AV} (c:Pure P f args' x) (h0:AV.toksL args=[]) (ho:Zdv m args) (ha:Zdt m args=args') (h:K ⟨e,m⟩):aRes P t none (.call f args) K ⟨e,m⟩:=by
 refine Zbe c ?_ ?_ ?_
 ·rw [h0];exact ho
 ·rw [h0];exact ha
 ·rw [h0];exact h
theorem o_calls {x:AV} {ks:List Nat} {m':Mem} (c:Pure P f args' x) (h0:AV.toksL args=ks) (hm:marks m ks=m') (ho:Zdv m' args) (ha:Zdt m' args=args') (h:K ⟨upd e d x,m'⟩):aRes P t (some d) (.call f args) K ⟨e,m⟩:=by
 subst hm;subst h0;exact Zbe c ho ha h
theorem Zhs {x:AV} {m':Mem} (c:ACall P f args m λr σ'=>r=x∧σ'=m') (h:K ⟨upd e d x,m'⟩):aRes P t (some d) (.call f args) K ⟨e,m⟩ :=
 c.mono λr σ' ⟨h1,h2⟩=>by subst h1;subst h2;exact h
theorem o_fresh {x:Value→AV} {m':Value→Mem} (c:ACall P f args m λr σ'=>∃sv,r=x sv∧σ'=m' sv) (h:∀sv,K ⟨upd e d (x sv),m' sv⟩):aRes P t (some d) (.call f args) K ⟨e,m⟩ :=
 c.mono λr σ' ⟨sv,h1,h2⟩=>by subst h1;subst h2;exact h sv
variable {rs:Nat→AV} {bar:List Nat} {fu k:Nat} {σs:Mem}
def dRes (P:Program) (σs:Mem) (t d:Nat) (r0:AV) (r:Res) (K:St→Prop) (st:St):Prop:=Ze4 P r0 r∧optK σs t (some d) (Zb9 r0 r) K st
def dSto (σs:Mem) (r:Res) (K:St→Prop) (st:St):Prop:=Zi2 r∧optK σs 0 none (Zkk r) K st
theorem Zpn (h:K ⟨e,m⟩):Zb0 P 0 all rs bar σs 0 k K ⟨e,m⟩:=h
theorem d_op (hb:bar.contains k=false) (ho:all[k]?=some ⟨some d,op,ty,pos,af,none⟩) (hst:Zaw op=false) (h:opS P 0 σs ⟨e,m⟩ op=r) (hk:dRes P σs d d (rs k) r (Zb0 P 0 all rs bar σs fu (k+1) K) ⟨e,m⟩):Zb0 P 0 all rs bar σs (fu+1) k K ⟨e,m⟩:=by
 rw [Zcn];unfold Zdr;rw [ho];simp only [Zb7,hb,Bool.false_eq_true,if_false];unfold Zcm;simp only [Zc8,Zdg,hst,Bool.false_eq_true,if_false,h,Option.getD_some,Nat.zero_add];exact⟨.inl hk.1,hk.2⟩
def hasAll (σ:Mem):List (Nat × Ent)→Prop
 | []=>True
 | p :: l=>σ p.1=some p.2∧hasAll σ l
theorem Zrn {σ:Mem}:hasAll σ []=True:=rfl
theorem Zpj {σ:Mem} {p:Nat × Ent} {l:List (Nat × Ent)}:hasAll σ (p :: l)=(σ p.1=some p.2∧hasAll σ l):=rfl
theorem hasAll.part {σs σ:Mem} (hp:Part σs σ):∀{l:List (Nat × Ent)},hasAll σs l→hasAll σ l
 | [],_=>trivial
 | p :: l,h=>⟨hp _ _ h.1,hasAll.part hp h.2⟩
def RdC (P:Program) (L:List (Nat × Ent)) (f:FuncId) (args:List AV) (x:AV):Prop:=∀σ,hasAll σ L→ACall P f args σ λr σ'=>r=x∧σ'=σ
theorem o_rd {x:AV} {L:List (Nat × Ent)} (c:RdC P L f args x) (hL:hasAll m L) (h:K ⟨upd e d x,m⟩):aRes P t (some d) (.call f args) K ⟨e,m⟩:=Zhs (c m hL) h
theorem d_read {x:AV} {L:List (Nat × Ent)} {g:Operand} {aS:Array Operand} {ts:Array TypeId} (c:RdC P L f args x) (hb:bar.contains k=false) (ho:all[k]?=some ⟨some d,.call ⟨.value g,aS,ts⟩,ty,pos,af,none⟩) (h:Zal P ⟨e,Zan⟩ (.call ⟨.value g,aS,ts⟩)=.call f args) (hL:hasAll σs L) (hx:rs k=x)
 (hk:Zb0 P 0 all rs bar σs fu (k+1) K ⟨upd e d x,m⟩):Zb0 P 0 all rs bar σs (fu+1) k K ⟨e,m⟩:=by
 rw [Zcn];unfold Zdr;rw [ho];simp only [Zb7,hb,Bool.false_eq_true,if_false];unfold Zcm;have hs:opS P 0 σs ⟨e,m⟩ (.call ⟨.value g,aS,ts⟩)=.call f args:=h;simp only [Zc8,Zdg,Zaw,isVC,Bool.false_eq_true,if_false,hs,Option.getD_some,Nat.zero_add,hx];exact⟨.inr ⟨trivial,λσ hp=>c σ (hL.part hp)⟩,trivial,hk⟩
theorem d_sto {t p:Nat} {x:Operand} (hb:bar.contains k=false) (ho:all[k]?=some ⟨none,.store t (.tmp p) x,ty,pos,af,none⟩) (h:opS P 0 σs ⟨e,m⟩ (.store t (.tmp p) x)=r) (hk:dSto σs r (Zb0 P 0 all rs bar σs fu (k+1) K) ⟨e,m⟩):Zb0 P 0 all rs bar σs (fu+1) k K ⟨e,m⟩:=by
 rw [Zcn];unfold Zdr;rw [ho];simp only [Zb7,hb,Bool.false_eq_true,if_false];unfold Zcm;simp only [Zc8,Zdg,Zaw,if_true,h,Option.getD_none,Nat.add_zero];exact hk
theorem s_need {p:Prop} (hp:p) (h:dSto σs r K ⟨e,m⟩):dSto σs (.need p r) K ⟨e,m⟩:=⟨⟨hp,h.1⟩,h.2⟩
theorem s_sto {k:Nat} {ent:Ent} (hc:σs k=none) (h:K ⟨e,upd m k (some ent)⟩):dSto σs (.sto .u k ent []) K ⟨e,m⟩:=⟨trivial,.inl hc,h⟩
theorem s_same {k:Nat} {ent:Ent} (hc:σs k=some ent) (h:K ⟨e,upd m k (some ent)⟩):dSto σs (.sto .u k ent []) K ⟨e,m⟩:=⟨trivial,.inr hc,h⟩
theorem Zc0 {o:Oper} (hb:bar.contains k=true) (ho:all[k]?=some o) (hs:(bar.contains (k+1000) || bar.contains (k+2000))=false) (hk:Zbk P 0 all [o] (Zb0 P 0 all rs bar Zan fu (k+1) K) ⟨e,m⟩):Zb0 P 0 all rs bar σs (fu+1) k K ⟨e,m⟩:=by
 rw [Zcn];unfold Zdr;rw [ho];have h1:bar.contains (k+1000)=false:=(Bool.or_eq_false_iff.1 hs).1;simp only [Zb7,hb,h1,if_true,Bool.false_eq_true,if_false];exact⟨hk,λh=>by rw [←h1,hs] at h;cases h⟩
theorem d_semi (hb:bar.contains k=true) (hs:bar.contains (k+1000)=true) (h2:(bar.contains (k+2000) || bar.contains (k+3000))=false) (ho:all[k]?=some ⟨some d,op,ty,pos,af,none⟩) (h:Zal P ⟨e,m⟩ op=r) (hkp:Zcl σs r) (hk:aRes P d (some d) r (Zb0 P 0 all rs bar σs fu (k+1) K) ⟨e,m⟩):Zb0 P 0 all rs bar σs (fu+1) k K ⟨e,m⟩:=by
 rw [Zcn];unfold Zdr;rw [ho];simp only [Bool.or_eq_false_iff] at h2;simp only [Zb7,hb,hs,h2,if_true,Bool.false_eq_true,if_false];refine⟨?_,λ_=>⟨rfl,by rw [h];exact hkp,λh=>by cases h⟩⟩;unfold Zfy;rw [Zec,h,Option.getD_some,Nat.zero_add];exact hk
theorem d_semiC (hb:bar.contains k=true) (hs:bar.contains (k+1000)=true) (h3:bar.contains (k+3000)=true) (ho:all[k]?=some ⟨some d,op,ty,pos,af,none⟩) (hn:Zhy 0 e op=true) (h:Zal P ⟨e,m⟩ op=r) (hkp:Zcl σs r) (hk:aRes P d (some d) r (Zb0 P 0 all rs bar σs fu (k+1) K) ⟨e,m⟩):Zb0 P 0 all rs bar σs (fu+1) k K ⟨e,m⟩:=by
 rw [Zcn];unfold Zdr;rw [ho];simp only [Zb7,hb,hs,h3,if_true,Bool.true_or];refine⟨?_,λ_=>⟨rfl,by rw [h];exact hkp,λ_=>hn⟩⟩;unfold Zfy;rw [Zec,h,Option.getD_some,Nat.zero_add];exact hk
theorem d_stay (hb:bar.contains k=true) (hs:(bar.contains (k+1000) || bar.contains (k+3000))=false) (h2:bar.contains (k+2000)=true) (ho:all[k]?=some ⟨none,op,ty,pos,af,none⟩) (h:Zal P ⟨e,m⟩ op=r) (hkp:Zcl Zan r) (hk:aRes P 0 none r (Zb0 P 0 all rs bar Zan fu (k+1) K) ⟨e,m⟩):Zb0 P 0 all rs bar σs (fu+1) k K ⟨e,m⟩:=by
 rw [Zcn];unfold Zdr;rw [ho];simp only [Bool.or_eq_false_iff] at hs;simp only [Zb7,hb,hs,h2,if_true,Bool.false_eq_true,if_false];refine⟨?_,λ_=>⟨rfl,by rw [h];exact hkp,λh=>by cases h⟩⟩;unfold Zfy;rw [Zec,h,Option.getD_none,Nat.add_zero];exact hk
def Zri (σs:Mem):List Nat→Prop
 | []=>True
 | k :: ks=>σs k=none∧Zri σs ks
theorem Zon {k:Nat} {news:List AV} {ks:List Nat}:Zcl σs (.app k news ks)=(σs k=none∧Zri σs ks):=by
 have:Zri σs ks↔∀t∈ks,σs t=none:=by
  induction ks with
  | nil=>simp [Zri]
  | cons a ks ih=>simp [Zri,ih]
 simp only [Zcl,this]
theorem Zmz {k n:Nat} {news:List AV}:Zcl σs (.appv k n news)=(σs k=none):=rfl
theorem Zom {k:Nat} {ent:Ent}:Zcl σs (.sto .u k ent [])=(σs k=none):=rfl
theorem Zmy {p:Prop}:Zcl σs (.need p r)=Zcl σs r:=rfl
theorem e_val {r0:AV} (h:K ⟨upd e d a,m⟩):dRes P σs t d r0 (.val a []) K ⟨e,m⟩:=⟨trivial,trivial,h⟩
theorem Zj1 {r0:AV} {p:Prop} (hp:p) (h:dRes P σs t d r0 r K ⟨e,m⟩):dRes P σs t d r0 (.need p r) K ⟨e,m⟩:=⟨⟨hp,h.1⟩,h.2⟩
theorem e_row {r0:AV} {mm:Nat} {es:List AV} (hs:r0.said=false) (hc:σs t=none) (h:∀sv,K ⟨upd e d (.own t sv),upd m t (some (.row sv ty mm es 0))⟩):dRes P σs t d r0 (.row ty mm es []) K ⟨e,m⟩:=by
 refine⟨λh'=>(by rw [hs] at h';cases h'),?_⟩;show optK σs t (some d) (some (if r0.said then .val r0 else .row ty mm es)) K ⟨e,m⟩;rw [hs];exact⟨hc,h⟩
theorem Zcz {r0:AV} {mm:Nat} {es:List AV} (hx:r0=.sl mm es) (h:K ⟨upd e d (.sl mm es),m⟩):dRes P σs t d r0 (.row ty mm es []) K ⟨e,m⟩:=by
 subst hx;exact⟨λ_=>rfl,trivial,h⟩
theorem e_box {r0:AV} {cs:List AV} (hc:σs t=none) (h:∀g,K ⟨upd e d (.pbox t g 0),upd m t (some (.box g ty cs false))⟩):dRes P σs t d r0 (.box ty cs) K ⟨e,m⟩:=⟨trivial,hc,h⟩
theorem Zn2 {r0:AV} {x:AV} (hx:r0=x) (c:Pure P f args' x) (h0:AV.toksL args=[]) (ho:Zdv Zan args) (ha:Zdt Zan args=args') (h:K ⟨upd e d x,m⟩):dRes P σs t d r0 (.call f args) K ⟨e,m⟩:=by
 subst hx;subst ha;exact⟨⟨h0,ho,c⟩,trivial,h⟩
end
section
variable {P:Program} {n:Nat} {Q:AE→St→Prop} {e:Nat→AV} {m:Mem}
theorem Zag {ι:Type} {body:Code} (I:ι→(Nat→AV)→Mem→Prop) (μ:ι→Nat) (i:ι) (hf:Zbx n body=true)
 (round:∀i e m,I i e m→Za8 P 0 n body (AE.then (λst'=>∃i',I i' st'.env st'.mem∧μ i' < μ i) Q) ⟨e,m⟩) (h0:I i e m):Za8 P 0 n (.loop body) Q ⟨e,m⟩ :=
 Zfu (tok:=0) (λi st=>I i st.env st.mem) μ i hf (λi st h=>round i st.env st.mem h) h0
end
section
variable {P:Program} {all rest:List Oper} {K:St→Prop} {e:Nat→AV} {m:Mem} {dst:Option Nat} {d t j n:Nat} {op:Op} {ty:TypeId} {pos:String} {af:Array Edge} {r:Res} {want:Bool} {a:AV} {f:FuncId} {args args':List AV} {Q:AE→St→Prop} {rs:Nat→AV} {bar:List Nat} {fu k:Nat} {v:Value}
def AllV {α:Type} (p:α→Prop):Prop:=∀x,p x
theorem Zbf {α:Type} {p:α→Prop} (h:∀x,p x):AllV p:=h
def OG (P:Program) (all rest:List Oper) (dst:Option Nat) (op:Op) (ty:TypeId) (pos:String) (af:Array Edge) (v:Value) (want:Bool) (K:St→Prop) (st:St):Prop :=
 if says (.v v) want=true then Zbk P 0 all (⟨dst,op,ty,pos,af,none⟩ :: rest) K st else Zbk P 0 all rest K (st.put dst (.v (.tuple #[])))
theorem o_g (hg:Zbj all ⟨e,m⟩ j=.v v) (h:OG P all rest dst op ty pos af v want K ⟨e,m⟩):Zbk P 0 all (⟨dst,op,ty,pos,af,some (j,want)⟩ :: rest) K ⟨e,m⟩:=by
 unfold OG at h;rw [Zk5,hg];refine⟨trivial,?_⟩;by_cases hs:says (.v v) want=true
 ·rw [if_pos hs] at h ⊢;exact h
 ·rw [if_neg hs] at h ⊢;exact h
theorem g_y (hs:says (.v v) want=true) (h:Zbk P 0 all (⟨dst,op,ty,pos,af,none⟩ :: rest) K ⟨e,m⟩):OG P all rest dst op ty pos af v want K ⟨e,m⟩:=by
 unfold OG;rw [if_pos hs];exact h
theorem g_n (hs:says (.v v) want=false) (h:Zbk P 0 all rest K ⟨upd e d (.v (.tuple #[])),m⟩):OG P all rest (some d) op ty pos af v want K ⟨e,m⟩:=by
 unfold OG;rw [if_neg (by rw [hs];simp)];exact h
theorem g_nN (hs:says (.v v) want=false) (h:Zbk P 0 all rest K ⟨e,m⟩):OG P all rest none op ty pos af v want K ⟨e,m⟩:=by
 unfold OG;rw [if_neg (by rw [hs];simp)];exact h
def CG (P:Program) (n:Nat) (t:Bool) (x y:Code) (Q:AE→St→Prop) (st:St):Prop:=if t=true then Za8 P 0 n x Q st else Za8 P 0 n y Q st
theorem r_c {o:Operand} {x y:Code} {t:Bool} (ht:St.ev ⟨e,m⟩ o=.v (.bool t)) (h:CG P n t x y Q ⟨e,m⟩):Za8 P 0 n (.cond o x y) Q ⟨e,m⟩:=by
 unfold CG at h;refine Zsr ht (λh1=>?_) λh1=>?_
 ·rwa [if_pos h1] at h
 ·rwa [if_neg (by rw [h1];simp)] at h
theorem c_t {x y:Code} {st:St} (h:Za8 P 0 n x Q st):CG P n true x y Q st:=by unfold CG;rw [if_pos rfl];exact h
theorem c_f {x y:Code} {st:St} (h:Za8 P 0 n y Q st):CG P n false x y Q st:=by unfold CG;rw [if_neg (by simp)];exact h
theorem Zov {mm:Nat} {es:List AV} (h:AllV λsv=>K ⟨upd e d (.own t sv),upd m t (some (.row sv ty mm es 0))⟩):aRes P t (some d) (.row ty mm es []) K ⟨e,m⟩:=h
theorem Zje {mm:Nat} {es:List AV} {ks:List Nat} (h:AllV λsv=>K ⟨upd e d (.own t sv),upd (marks m ks) t (some (.row sv ty mm es 0))⟩):aRes P t (some d) (.row ty mm es ks) K ⟨e,m⟩:=h
theorem Zow {cs:List AV} (h:AllV λg=>K ⟨upd e d (.pbox t g 0),upd m t (some (.box g ty cs false))⟩):aRes P t (some d) (.box ty cs) K ⟨e,m⟩:=h
theorem p_mapn (h:AllV λg=>K ⟨upd e d (.mp t g),upd m t (some (.map g []))⟩):aRes P t (some d) .mapn K ⟨e,m⟩:=h
theorem Zox {k mm pub:Nat} {sv0:Value} {es news:List AV} {ks:List Nat} (hk:marks m ks k=some (.row sv0 ty mm es pub)) (h:AllV λsv=>K ⟨upd e d (.own k sv),upd (marks m ks) k (some (.row sv ty mm (es++news) pub))⟩) :
 aRes P t (some d) (.app k news ks) K ⟨e,m⟩:=o_app hk h
theorem p_appv {k n mm pub:Nat} {sv0:Value} {es news:List AV} (hk:m k=some (.row sv0 ty mm es pub)) (h:AllV λsv=>K ⟨upd e d (.own k sv),upd m k (some (.row sv ty mm (es.take n++news) pub))⟩) :
 aRes P t (some d) (.appv k n news) K ⟨e,m⟩:=by
 simp only [aRes,hk];exact h
theorem q_row {σs:Mem} {r0:AV} {mm:Nat} {es:List AV} (hs:r0.said=false) (hc:σs t=none) (h:AllV λsv=>K ⟨upd e d (.own t sv),upd m t (some (.row sv ty mm es 0))⟩):dRes P σs t d r0 (.row ty mm es []) K ⟨e,m⟩:=e_row hs hc h
theorem q_box {σs:Mem} {r0:AV} {cs:List AV} (hc:σs t=none) (h:AllV λg=>K ⟨upd e d (.pbox t g 0),upd m t (some (.box g ty cs false))⟩):dRes P σs t d r0 (.box ty cs) K ⟨e,m⟩:=e_box hc h
def DG (P:Program) (all:List Oper) (rs:Nat→AV) (bar:List Nat) (σs:Mem) (fu k d:Nat) (op:Op) (v:Value) (want:Bool) (K:St→Prop) (e:Nat→AV) (m:Mem):Prop :=
 if says (.v v) want=true then ∃r,opS P 0 σs ⟨e,m⟩ op=r∧dRes P σs d d (rs k) r (Zb0 P 0 all rs bar σs fu (k+1) K) ⟨e,m⟩ else Zb0 P 0 all rs bar σs fu (k+1) K ⟨upd e d (.v (.tuple #[])),m⟩
theorem d_g {σs:Mem} (hb:bar.contains k=false) (ho:all[k]?=some ⟨some d,op,ty,pos,af,some (j,want)⟩) (hst:Zaw op=false) (hg:Zbj all ⟨e,Zan⟩ j=.v v) (h:DG P all rs bar σs fu k d op v want K e m):Zb0 P 0 all rs bar σs (fu+1) k K ⟨e,m⟩:=by
 unfold DG at h;rw [Zcn];unfold Zdr;rw [ho];simp only [Zb7,hb,Bool.false_eq_true,if_false];unfold Zcm;simp only [hg];refine⟨trivial,?_⟩;by_cases hs:says (.v v) want=true
 ·rw [if_pos hs] at h ⊢;obtain⟨r,hr,hk⟩:=h;simp only [Zc8,Zdg,hst,Bool.false_eq_true,if_false,hr,Option.getD_some,Nat.zero_add];exact⟨.inl hk.1,hk.2⟩
 ·rw [if_neg hs] at h ⊢;exact h
theorem dg_y {σs:Mem} (hs:says (.v v) want=true) (h:opS P 0 σs ⟨e,m⟩ op=r) (hk:dRes P σs d d (rs k) r (Zb0 P 0 all rs bar σs fu (k+1) K) ⟨e,m⟩):DG P all rs bar σs fu k d op v want K e m:=by
 unfold DG;rw [if_pos hs];exact⟨r,h,hk⟩
theorem dg_n {σs:Mem} (hs:says (.v v) want=false) (h:Zb0 P 0 all rs bar σs fu (k+1) K ⟨upd e d (.v (.tuple #[])),m⟩):DG P all rs bar σs fu k d op v want K e m:=by
 unfold DG;rw [if_neg (by rw [hs];simp)];exact h
end
theorem Pure.argsW {P:Program} {f:FuncId} {args args':List AV} {r:AV} (h:Pure P f args r) (hl:args'.length=args.length) (hw:∀(j:Nat) (a b:AV),args'[j]?=some a→args[j]?=some b→Wk a b):Pure P f args' r:=by
 refine⟨h.1,λw imm vs h1 h2 h3=>h.2 w imm vs h1 (by omega) λj b x hb hx=>?_⟩;have hj:j < args'.length:=by rw [hl];exact(List.getElem?_eq_some_iff.1 hb).1
 exact(hw j args'[j] b (List.getElem?_eq_getElem hj) hb).rd (h3 j args'[j] x (List.getElem?_eq_getElem hj) hx)
theorem Pure.nil1 {P:Program} {f m:Nat} {r:AV} (h:Pure P f [.sl m []] r):Pure P f [.v (.slice none 0 0)] r:=by
 refine h.argsW rfl λj a b h1 h2=>?_
 match j with
 | 0=>simp at h1 h2;subst h1;subst h2;exact .nil m
 | j+1=>simp at h1
theorem ev_mk {e:Nat→AV} {m:Mem} {t:Nat}:St.ev ⟨e,m⟩ (.tmp t)=e t:=rfl
theorem env_mk {e:Nat→AV} {m:Mem}:St.env ⟨e,m⟩=e:=rfl
theorem mem_mk {e:Nat→AV} {m:Mem}:St.mem ⟨e,m⟩=m:=rfl
theorem Znn {α β:Type} {f:α→β} {x:α} {l:List α}:(List.toArray (x :: l)).toList.map f=f x :: (List.toArray l).toList.map f:=rfl
theorem Zpc {α β:Type} {f:α→β}:(List.toArray ([]:List α)).toList.map f=[]:=rfl
attribute [go_sem] Zhy Zom Zon Zmz Zmy Zri Zrn Zpj
attribute [go_sem ↓] ev_mk env_mk mem_mk Zaz Zal Zbj Zcp Zjc Znn Zpc List.map_cons List.map_nil
def imm0 (w:World):Imm:=λad=>ad.block < w.heap.size∧ad.spot=none
inductive Rds (w:World):List AV→List Value→Prop
 | nil:Rds w [] []
 | cons {a:AV} {x:Value} {aS:List AV} {xs:List Value} (h:Rd w (imm0 w) a x) (t:Rds w aS xs):Rds w (a :: aS) (x :: xs)
theorem Rds.len {w:World} {aS:List AV} {xs:List Value} (h:Rds w aS xs):aS.length=xs.length:=by
 induction h with
 | nil=>rfl
 | cons _ _ ih=>simp [ih]
theorem Rds.get {w:World} {aS:List AV} {xs:List Value} (h:Rds w aS xs):∀(j:Nat) (a:AV) (x:Value),aS[j]?=some a→xs[j]?=some x→Rd w (imm0 w) a x:=by
 induction h with
 | nil=>intro j a x h1;simp at h1
 | cons h1 _ ih =>
   intro j a x h2 h3
   cases j with
   | zero=>simp at h2 h3;subst h2;subst h3;exact h1
   | succ j=>exact ih j a x (by simpa using h2) (by simpa using h3)
theorem Pure.done {P:Program} {f:FuncId} {args:List AV} {v:Value} (h:Pure P f args (.v v)) {w:World} {vs:Array Value} (hr:Rds w args vs.toList):Calls P f vs w λe w'=>e=.returned v∧Below w.heap.size w w':=by
 refine(h.2 w (imm0 w) vs (λ_ h=>h) (by simpa using hr.len) λj a x h1 h2=>hr.get j a x h1 (by simpa using h2)).mono λe w' he=>?_;obtain⟨x,imm',rfl,hx,_,_,hb⟩:=he;cases hx;exact⟨rfl,hb⟩
theorem Ztm {w:World} {ad:Addr} {v:Value} (h:w.cell? ad=some v):imm0 w ad:=by
 refine⟨?_,World.cell?_spot h⟩;exact World.block_lt_of_cell? w _ h
section
mutual
theorem AV.plain (σ:Mem):∀(a:AV),AV.toks a=[]→Zer σ a∧pubV σ a=a
 | .v x,_=>⟨trivial,rfl⟩
 | .sl m es,_=>⟨trivial,rfl⟩
 | .agg cs,h=>by
   obtain⟨h1,h2⟩:=AV.plainL σ cs h;exact⟨h1,by simp only [pubV,h2]⟩
 | .tup cs,h=>by
   obtain⟨h1,h2⟩:=AV.plainL σ cs h;exact⟨h1,by simp only [pubV,h2]⟩
 | .pimm cs,_=>⟨trivial,rfl⟩
 | .fn f cs,h=>by
   obtain⟨h1,h2⟩:=AV.plainL σ cs h;exact⟨h1,by simp only [pubV,h2]⟩
 | .ifc t x,h=>by
   obtain⟨h1,h2⟩:=AV.plain σ x h;exact⟨h1,by simp only [pubV,h2]⟩
 | .own k sv,h=>by cases h
 | .prow k sv m i off,h=>by cases h
 | .pbox k g off,h=>by cases h
 | .view k sv m i len,h=>by cases h
 | .u,_=>⟨trivial,rfl⟩
theorem AV.plainL (σ:Mem):∀(l:List AV),AV.toksL l=[]→Zdv σ l∧Zdt σ l=l
 | [],_=>⟨trivial,rfl⟩
 | a :: r,h=>by
   simp only [AV.toksL,List.append_eq_nil_iff] at h;obtain⟨h1,h2⟩:=AV.plain σ a h.1;obtain⟨h3,h4⟩:=AV.plainL σ r h.2;exact⟨⟨h1,h3⟩,by simp only [Zdt,h2,h4]⟩
end
class Stp (q:Prop) (p:outParam Prop):Prop where
 h:p→q
theorem stp {q p:Prop} [i:Stp q p] (h:p):q:=i.h h
section
variable {P:Program} {all rest:List Oper} {K:St→Prop} {e:Nat→AV} {m:Mem} {dst:Option Nat} {d t j n id:Nat} {op:Op} {ty:TypeId} {pos:String} {af:Array Edge} {r:Res} {want:Bool} {a:AV} {f:FuncId} {args args':List AV} {Q:AE→St→Prop} {st:St} {x y:Code} {rs:Nat→AV} {bar:List Nat} {fu k:Nat} {σs:Mem}
theorem r_regD {l:List Oper} (h:Zbk P 0 l l (Q .normal) st):Za8 P 0 n (.region id l.toArray false) Q st:=by
 unfold Za8;exact h
theorem Za2 {l:List Oper} (rs:Nat→AV) (bar cut:List Nat) (hm:P.follows .mixedOrders=true) (hf:l.all (Zfv n)=true)
 (hlex:Zpf l.toArray bar l.length 0 (Array.replicate l.length false)=true) {N:Nat} (hN:l.length=N) (h:Zb0 P 0 l rs bar (cutM cut st.mem) N 0 (Q .normal) st):Za8 P 0 n (.region id l.toArray true) Q st :=
 r_draw rs bar cut hm hf hlex λK hK=>by
  subst hN
  have mono:∀(f k:Nat) (σs:Mem) (K K':St→Prop),(∀st,K st→K' st)→∀st,Zb0 P 0 l rs bar σs f k K st→Zb0 P 0 l rs bar σs f k K' st:=by
   intro f
   induction f with
   | zero=>exact λk σs K K' h st=>h st
   | succ f ih=>exact λk σs K K' h st hx=>Zki (λst'=>ih (k+1) _ K K' h st') hx
  exact mono _ _ _ _ _ hK st h
instance:Stp (Za8 P 0 n (.seq x y) Q st) (Za8 P 0 n x (AE.then (Za8 P 0 n y Q) Q) st):=⟨Za6⟩
instance:Stp (Za8 P 0 n .skip Q st) (Q .normal st):=⟨Zar⟩
instance:Stp (Za8 P 0 n .ret Q st) (Q .ret st):=⟨Za7⟩
instance:Stp (Za8 P 0 n (.exit id) Q st) (Q (.exit id) st):=⟨Zas⟩
instance:Stp (Za8 P 0 n (.block id x) Q st) (Za8 P 0 n x (AE.inBlock id Q) st):=⟨Zak⟩
instance {l:List Oper}:Stp (Za8 P 0 n (.region id l.toArray false) Q st) (Zbk P 0 l l (Q .normal) st):=⟨r_regD⟩
instance {next:St→Prop}:Stp (AE.then next Q .normal st) (next st):=⟨Zap⟩
instance {next:St→Prop}:Stp (AE.then next Q .ret st) (Q .ret st):=⟨Zac⟩
instance {next:St→Prop} {i:Nat}:Stp (AE.then next Q (.exit i) st) (Q (.exit i) st):=⟨Zab⟩
instance:Stp (AE.inBlock id Q .normal st) (Q .normal st):=⟨t_in⟩
instance:Stp (AE.inBlock id Q .ret st) (Q .ret st):=⟨Zae⟩
instance:Stp (AE.inBlock id Q (.exit id) st) (Q .normal st):=⟨Zad⟩
instance {l:List ResultVar} {K:St→AV→Prop}:Stp (Done P l K .ret st) (Zli P st l (K st)):=⟨Zaq⟩
instance {l:List ResultVar} {K:St→AV→Prop}:Stp (Done P l K .normal st) (Zli P st l (K st)):=⟨Zaj⟩
instance:Stp (Zbk P 0 all [] K st) (K st):=⟨λh=>h⟩
instance:Stp (aRes P t (some d) (.val a []) K ⟨e,m⟩) (K ⟨upd e d a,m⟩):=⟨Zoz⟩
instance {k:Nat} {ks:List Nat}:Stp (aRes P t (some d) (.val a (k :: ks)) K ⟨e,m⟩) (K ⟨upd e d a,marks m (k :: ks)⟩):=⟨Zjj⟩
instance {ks:List Nat}:Stp (aRes P t none (.val a ks) K ⟨e,m⟩) (K ⟨e,marks m ks⟩):=⟨Zjk⟩
instance {k:Nat} {ent:Ent} {ks:List Nat}:Stp (aRes P t none (.sto a k ent ks) K ⟨e,m⟩) (K ⟨e,upd (marks m ks) k (some ent)⟩):=⟨Zo0⟩
instance {k:Nat} {ent:Ent} {ks:List Nat}:Stp (aRes P t (some d) (.sto a k ent ks) K ⟨e,m⟩) (K ⟨upd e d a,upd (marks m ks) k (some ent)⟩):=⟨Zjl⟩
instance {mm:Nat} {es:List AV}:Stp (aRes P t (some d) (.row ty mm es []) K ⟨e,m⟩) (AllV λsv=>K ⟨upd e d (.own t sv),upd m t (some (.row sv ty mm es 0))⟩):=⟨Zov⟩
instance {mm k:Nat} {es:List AV} {ks:List Nat}:Stp (aRes P t (some d) (.row ty mm es (k :: ks)) K ⟨e,m⟩) (AllV λsv=>K ⟨upd e d (.own t sv),upd (marks m (k :: ks)) t (some (.row sv ty mm es 0))⟩):=⟨Zje⟩
instance {cs:List AV}:Stp (aRes P t (some d) (.box ty cs) K ⟨e,m⟩) (AllV λg=>K ⟨upd e d (.pbox t g 0),upd m t (some (.box g ty cs false))⟩):=⟨Zow⟩
instance:Stp (aRes P t (some d) .mapn K ⟨e,m⟩) (AllV λg=>K ⟨upd e d (.mp t g),upd m t (some (.map g []))⟩):=⟨p_mapn⟩
instance {v:Bool}:Stp (OG P all rest dst op ty pos af (.bool v) v K st) (Zbk P 0 all (⟨dst,op,ty,pos,af,none⟩ :: rest) K st):=⟨g_y (by simp [says])⟩
instance:Stp (OG P all rest (some d) op ty pos af (.bool true) false K ⟨e,m⟩) (Zbk P 0 all rest K ⟨upd e d (.v (.tuple #[])),m⟩):=⟨g_n rfl⟩
instance:Stp (OG P all rest (some d) op ty pos af (.bool false) true K ⟨e,m⟩) (Zbk P 0 all rest K ⟨upd e d (.v (.tuple #[])),m⟩):=⟨g_n rfl⟩
instance {vs:Array Value}:Stp (OG P all rest (some d) op ty pos af (.tuple vs) want K ⟨e,m⟩) (Zbk P 0 all rest K ⟨upd e d (.v (.tuple #[])),m⟩):=⟨g_n rfl⟩
instance:Stp (OG P all rest none op ty pos af (.bool true) false K ⟨e,m⟩) (Zbk P 0 all rest K ⟨e,m⟩):=⟨g_nN rfl⟩
instance:Stp (OG P all rest none op ty pos af (.bool false) true K ⟨e,m⟩) (Zbk P 0 all rest K ⟨e,m⟩):=⟨g_nN rfl⟩
instance {vs:Array Value}:Stp (OG P all rest none op ty pos af (.tuple vs) want K ⟨e,m⟩) (Zbk P 0 all rest K ⟨e,m⟩):=⟨g_nN rfl⟩
instance:Stp (CG P n true x y Q st) (Za8 P 0 n x Q st):=⟨c_t⟩
instance:Stp (CG P n false x y Q st) (Za8 P 0 n y Q st):=⟨c_f⟩
instance:Stp (Zb0 P 0 all rs bar σs 0 k K ⟨e,m⟩) (K ⟨e,m⟩):=⟨Zpn⟩
instance {r0:AV}:Stp (dRes P σs t d r0 (.val a []) K ⟨e,m⟩) (K ⟨upd e d a,m⟩):=⟨e_val⟩
instance:Stp (DG P all rs bar σs fu k d op (.bool true) false K e m) (Zb0 P 0 all rs bar σs fu (k+1) K ⟨upd e d (.v (.tuple #[])),m⟩):=⟨dg_n rfl⟩
instance:Stp (DG P all rs bar σs fu k d op (.bool false) true K e m) (Zb0 P 0 all rs bar σs fu (k+1) K ⟨upd e d (.v (.tuple #[])),m⟩):=⟨dg_n rfl⟩
instance {vs:Array Value}:Stp (DG P all rs bar σs fu k d op (.tuple vs) want K e m) (Zb0 P 0 all rs bar σs fu (k+1) K ⟨upd e d (.v (.tuple #[])),m⟩):=⟨dg_n rfl⟩
theorem o_c {x:AV} (c:Pure P f args x) (h0:AV.toksL args=[]) (h:K ⟨upd e d x,m⟩):aRes P t (some d) (.call f args) K ⟨e,m⟩ :=
 Znc c h0 (AV.plainL m args h0).1 (AV.plainL m args h0).2 h
theorem e_c {r0 x:AV} (c:Pure P f args x) (hx:r0=x) (h0:AV.toksL args=[]) (h:K ⟨upd e d x,m⟩):dRes P σs t d r0 (.call f args) K ⟨e,m⟩ :=
 Zn2 hx c h0 (AV.plainL Zan args h0).1 (AV.plainL Zan args h0).2 h
theorem o_cs {x:AV} {ks:List Nat} {m':Mem} (c:Pure P f args' x) (h0:AV.toksL args=ks) (hm:marks m ks=m') (h1:Zdv m' args∧Zdt m' args=args') (h:K ⟨upd e d x,m'⟩):aRes P t (some d) (.call f args) K ⟨e,m⟩ :=
 o_calls c h0 hm h1.1 h1.2 h
end
def Ev (p:Prop):Prop:=p
theorem gE {p:Prop} (h:p):Ev p:=h
section
variable {P:Program} {all rest:List Oper} {K:St→Prop} {e:Nat→AV} {m:Mem} {dst:Option Nat} {d t j n:Nat} {op:Op} {ty:TypeId} {pos:String} {af:Array Edge} {r:Res} {want:Bool} {a:AV} {f:FuncId} {args args':List AV} {Q:AE→St→Prop} {x y:Code} {rs:Nat→AV} {bar:List Nat} {fu k:Nat} {σs:Mem} {v:Value}
theorem gx1 (h:Ev (Zal P ⟨e,m⟩ op=r)) (k:aRes P d (some d) r (Zbk P 0 all rest K) ⟨e,m⟩):Zbk P 0 all (⟨some d,op,ty,pos,af,none⟩ :: rest) K ⟨e,m⟩:=o_op h k
theorem gx2 (h:Ev (Zal P ⟨e,m⟩ op=r)) (k:aRes P 0 none r (Zbk P 0 all rest K) ⟨e,m⟩):Zbk P 0 all (⟨none,op,ty,pos,af,none⟩ :: rest) K ⟨e,m⟩:=Zo1 h k
theorem gx3 (hg:Ev (Zbj all ⟨e,m⟩ j=.v v)) (h:OG P all rest dst op ty pos af v want K ⟨e,m⟩):Zbk P 0 all (⟨dst,op,ty,pos,af,some (j,want)⟩ :: rest) K ⟨e,m⟩:=o_g hg h
theorem gx4 {k mm pub:Nat} {sv0:Value} {es news:List AV} {ks:List Nat} (hk:Ev (marks m ks k=some (.row sv0 ty mm es pub))) (h:AllV λsv=>K ⟨upd e d (.own k sv),upd (marks m ks) k (some (.row sv ty mm (es++news) pub))⟩) :
 aRes P t (some d) (.app k news ks) K ⟨e,m⟩:=Zox hk h
theorem gx5 {k n mm pub:Nat} {sv0:Value} {es news:List AV} (hk:Ev (m k=some (.row sv0 ty mm es pub))) (h:AllV λsv=>K ⟨upd e d (.own k sv),upd m k (some (.row sv ty mm (es.take n++news) pub))⟩) :
 aRes P t (some d) (.appv k n news) K ⟨e,m⟩:=p_appv hk h
theorem gx6 {o:Operand} {t:Bool} (ht:Ev (St.ev ⟨e,m⟩ o=.v (.bool t))) (h:CG P n t x y Q ⟨e,m⟩):Za8 P 0 n (.cond o x y) Q ⟨e,m⟩:=r_c ht h
theorem gx7 {p:Prop} (hp:Ev p) (h:aRes P t dst r K ⟨e,m⟩):aRes P t dst (.need p r) K ⟨e,m⟩:=Zig hp h
theorem gy1 (hb:bar.contains k=false) (ho:all[k]?=some ⟨some d,op,ty,pos,af,none⟩) (hst:Zaw op=false) (h:Ev (opS P 0 σs ⟨e,m⟩ op=r)) (hk:dRes P σs d d (rs k) r (Zb0 P 0 all rs bar σs fu (k+1) K) ⟨e,m⟩):Zb0 P 0 all rs bar σs (fu+1) k K ⟨e,m⟩:=d_op hb ho hst h hk
theorem gyr {x:AV} {L:List (Nat × Ent)} {g:Operand} {aS:Array Operand} {ts:Array TypeId} (c:RdC P L f args x) (hb:bar.contains k=false) (ho:all[k]?=some ⟨some d,.call ⟨.value g,aS,ts⟩,ty,pos,af,none⟩) (h:Ev (Zal P ⟨e,Zan⟩ (.call ⟨.value g,aS,ts⟩)=.call f args)) (hL:Ev (hasAll σs L)) (hx:Ev (rs k=x))
 (hk:Zb0 P 0 all rs bar σs fu (k+1) K ⟨upd e d x,m⟩):Zb0 P 0 all rs bar σs (fu+1) k K ⟨e,m⟩:=d_read c hb ho h hL hx hk
theorem gwr {x:AV} {L:List (Nat × Ent)} (c:RdC P L f args x) (hL:Ev (hasAll m L)) (h:K ⟨upd e d x,m⟩):aRes P t (some d) (.call f args) K ⟨e,m⟩:=o_rd c hL h
theorem gy2 (hb:bar.contains k=false) (ho:all[k]?=some ⟨some d,op,ty,pos,af,some (j,want)⟩) (hst:Zaw op=false) (hg:Ev (Zbj all ⟨e,Zan⟩ j=.v v)) (h:DG P all rs bar σs fu k d op v want K e m):Zb0 P 0 all rs bar σs (fu+1) k K ⟨e,m⟩:=d_g hb ho hst hg h
theorem gy3 {t p:Nat} {x:Operand} (hb:bar.contains k=false) (ho:all[k]?=some ⟨none,.store t (.tmp p) x,ty,pos,af,none⟩) (h:Ev (opS P 0 σs ⟨e,m⟩ (.store t (.tmp p) x)=r)) (hk:dSto σs r (Zb0 P 0 all rs bar σs fu (k+1) K) ⟨e,m⟩):Zb0 P 0 all rs bar σs (fu+1) k K ⟨e,m⟩:=d_sto hb ho h hk
theorem gy4 (hs:says (.v v) want=true) (h:Ev (opS P 0 σs ⟨e,m⟩ op=r)) (hk:dRes P σs d d (rs k) r (Zb0 P 0 all rs bar σs fu (k+1) K) ⟨e,m⟩):DG P all rs bar σs fu k d op v want K e m:=dg_y hs h hk
theorem gy5 (hb:bar.contains k=true) (hs:bar.contains (k+1000)=true) (h2:(bar.contains (k+2000) || bar.contains (k+3000))=false) (ho:all[k]?=some ⟨some d,op,ty,pos,af,none⟩) (h:Ev (Zal P ⟨e,m⟩ op=r)) (hkp:Ev (Zcl σs r)) (hk:aRes P d (some d) r (Zb0 P 0 all rs bar σs fu (k+1) K) ⟨e,m⟩):Zb0 P 0 all rs bar σs (fu+1) k K ⟨e,m⟩:=d_semi hb hs h2 ho h hkp hk
theorem gy5c (hb:bar.contains k=true) (hs:bar.contains (k+1000)=true) (h3:bar.contains (k+3000)=true) (ho:all[k]?=some ⟨some d,op,ty,pos,af,none⟩) (hn:Ev (Zhy 0 e op=true)) (h:Ev (Zal P ⟨e,m⟩ op=r)) (hkp:Ev (Zcl σs r)) (hk:aRes P d (some d) r (Zb0 P 0 all rs bar σs fu (k+1) K) ⟨e,m⟩):Zb0 P 0 all rs bar σs (fu+1) k K ⟨e,m⟩:=d_semiC hb hs h3 ho hn h hkp hk
theorem gy6 (hb:bar.contains k=true) (hs:(bar.contains (k+1000) || bar.contains (k+3000))=false) (h2:bar.contains (k+2000)=true) (ho:all[k]?=some ⟨none,op,ty,pos,af,none⟩) (h:Ev (Zal P ⟨e,m⟩ op=r)) (hkp:Ev (Zcl Zan r)) (hk:aRes P 0 none r (Zb0 P 0 all rs bar Zan fu (k+1) K) ⟨e,m⟩):Zb0 P 0 all rs bar σs (fu+1) k K ⟨e,m⟩:=d_stay hb hs h2 ho h hkp hk
theorem gy7 {r0:AV} {mm:Nat} {es:List AV} (hs:r0.said=false) (hc:Ev (σs t=none)) (h:AllV λsv=>K ⟨upd e d (.own t sv),upd m t (some (.row sv ty mm es 0))⟩):dRes P σs t d r0 (.row ty mm es []) K ⟨e,m⟩:=q_row hs hc h
theorem gy8 {r0:AV} {cs:List AV} (hc:Ev (σs t=none)) (h:AllV λg=>K ⟨upd e d (.pbox t g 0),upd m t (some (.box g ty cs false))⟩):dRes P σs t d r0 (.box ty cs) K ⟨e,m⟩:=q_box hc h
theorem gy9 {k:Nat} {ent:Ent} (hc:Ev (σs k=none)) (h:K ⟨e,upd m k (some ent)⟩):dSto σs (.sto .u k ent []) K ⟨e,m⟩:=s_sto hc h
theorem gz1 {k:Nat} {ent:Ent} (hc:σs k=some ent) (h:K ⟨e,upd m k (some ent)⟩):dSto σs (.sto .u k ent []) K ⟨e,m⟩:=s_same hc h
theorem gz2 {p:Prop} (hp:Ev p) (h:dSto σs r K ⟨e,m⟩):dSto σs (.need p r) K ⟨e,m⟩:=s_need hp h
theorem gz3 {r0:AV} {p:Prop} (hp:Ev p) (h:dRes P σs t d r0 r K ⟨e,m⟩):dRes P σs t d r0 (.need p r) K ⟨e,m⟩:=Zj1 hp h
theorem gw0 {x:AV} (c:Pure P f args x) (h0:Ev (AV.toksL args=[])) (h:K ⟨upd e d x,m⟩):aRes P t (some d) (.call f args) K ⟨e,m⟩:=o_c c h0 h
theorem gw3 {r0 x:AV} (c:Pure P f args x) (hx:Ev (r0=x)) (h0:Ev (AV.toksL args=[])) (h:K ⟨upd e d x,m⟩):dRes P σs t d r0 (.call f args) K ⟨e,m⟩:=e_c c hx h0 h
theorem gw1 {x:AV} {ks:List Nat} {m':Mem} (c:Pure P f args' x) (h0:Ev (AV.toksL args=ks)) (hm:Ev (marks m ks=m')) (h1:Ev (Zdv m' args)) (h2:Ev (Zdt m' args=args')) (h:K ⟨upd e d x,m'⟩):aRes P t (some d) (.call f args) K ⟨e,m⟩:=o_cs c h0 hm ⟨h1,h2⟩ h
end
theorem gC {p:Prop} (h:p:=by(simp (disch:=omega) only [go_sem,↓reduceIte,Nat.reduceAdd,Nat.reduceSub,Nat.reduceMul,Nat.reduceEqDiff,Nat.reduceLT,Nat.reduceLeDiff,Nat.reduceBEq,Int.reduceNeg,Int.reduceLT,Int.reduceLE,Int.reduceEq,reduceCtorEq]<;>repeat' first|rfl|refine⟨?_,?_⟩)):p:=h
theorem gS {p:Prop} (h:p:=by(simp (disch:=omega) only [go_sem,↓reduceIte,Nat.reduceAdd,Nat.reduceSub,Nat.reduceMul,Nat.reduceEqDiff,Nat.reduceLT,Nat.reduceLeDiff,Nat.reduceBEq,Int.reduceNeg,Int.reduceLT,Int.reduceLE,Int.reduceEq,reduceCtorEq,Zb1]<;>repeat' first|rfl|refine⟨?_,?_⟩)):p:=h
theorem gW {q p:Prop} (hq:q) (h:q→p:=by intro h;(simp (disch:=omega) only [go_sem,↓reduceIte,Nat.reduceAdd,Nat.reduceSub,Nat.reduceMul,Nat.reduceEqDiff,Nat.reduceLT,Nat.reduceLeDiff,Nat.reduceBEq,Int.reduceNeg,Int.reduceLT,Int.reduceLE,Int.reduceEq,reduceCtorEq,h]<;>repeat' first | rfl | refine⟨?_,?_⟩)):p:=h hq
theorem gV {q p:Prop} (hq:q) (h:q→p:=by intro h;(simp (disch:=omega) only [go_sem,↓reduceIte,Nat.reduceAdd,Nat.reduceSub,Nat.reduceMul,Nat.reduceEqDiff,Nat.reduceLT,Nat.reduceLeDiff,Nat.reduceBEq,Int.reduceNeg,Int.reduceLT,Int.reduceLE,Int.reduceEq,reduceCtorEq,h,Zb1]<;>repeat' first | rfl | refine⟨?_,?_⟩)):p:=h hq
attribute [go_sem_proc] Nat.reduceAdd Nat.reduceSub Nat.reduceMul Nat.reduceEqDiff Nat.reduceLT Nat.reduceLeDiff Nat.reduceBEq Int.reduceNeg Int.reduceLT Int.reduceLE Int.reduceEq reduceCtorEq
attribute [go_sem_proc ↓] reduceIte
attribute [bool_to_prop] Bool.if_false_right Bool.if_true_left Bool.if_false_left Bool.if_true_right Bool.and_eq_true Bool.or_eq_true Bool.and_eq_false_imp Bool.or_eq_false_iff decide_eq_true_eq decide_eq_false_iff_not beq_iff_eq bne_iff_ne beq_eq_false_iff_ne bne_eq_false_iff_eq Bool.not_eq_true' Bool.not_eq_false' ne_eq Decidable.not_not Int.not_lt Int.not_le
theorem gL {p:Prop} (h:p:=by((all_goals (try simp (disch:=omega) only [go_sem,decide_eq_true,decide_eq_false,if_pos,if_neg,Int.reduceAdd,Int.reduceSub,Int.reduceToNat,Int.zero_add]));(all_goals first|done|rfl|(congr 2;first|done|omega|(rw [Bool.eq_iff_iff];simp only [bool_to_prop,Bool.false_eq_true,iff_true,true_iff,iff_false,false_iff];omega))|skip))):p:=h
end
section
variable {P:Program} {n:Nat} {Q:AE→St→Prop} {st:St} {body:Code}
def unr (P:Program) (n:Nat) (body:Code) (Q:AE→St→Prop):Nat→St→Prop
 | 0,_=>False
 | k+1,st=>Za8 P 0 n body (AE.then (unr P n body Q k) Q) st
theorem Zlk (k:Nat) (hf:Zbx n body=true) (h:unr P n body Q k st):Za8 P 0 n (.loop body) Q st:=by
 intro c a w imm hr b k' cs;have key:∀k st a w imm,unr P n body Q k st→Rel c n st a w imm →
  ∃e a' w',post c n Q e a' w'∧Arrives P (lone (b.at a (.code body :: .inLoop body :: k')) cs w) b k' cs e a' w':=by
  intro k
  induction k with
  | zero=>exact λst a w imm h _=>h.elim
  | succ k ih =>
    intro st a w imm hI hr;obtain⟨e,a₁,w₁,hq,harr⟩:=Zb6 body _ st hf hI c a w imm hr b (.inLoop body :: k') cs;obtain⟨ae,st',imm',rfl,h2,h3⟩:=hq
    cases ae with
    | normal =>
      obtain⟨e₂,a₂,w₂,hq₂,harr₂⟩:=ih st' a₁ w₁ imm' h2 h3;exact⟨e₂,a₂,w₂,hq₂,.of_steps (Steps.trans harr (.one step_inLoop)) harr₂⟩
    | exit id=>exact⟨_,a₁,w₁,⟨.exit id,st',imm',rfl,h2,h3⟩,.pass (x:=.inLoop body) rfl (λ_ _=>.inl (by simp [AE.to])) harr⟩
    | ret=>exact⟨_,a₁,w₁,⟨.ret,st',imm',rfl,h2,h3⟩,.pass (x:=.inLoop body) rfl (λ_ _=>.inl (by simp [AE.to])) harr⟩
 obtain⟨e₁,a',w',hq,harr⟩:=key k st a w imm h hr;exact⟨e₁,a',w',hq,.of_steps (.one step_loop) harr⟩
instance {k:Nat}:Stp (unr P n body Q (k+1) st) (Za8 P 0 n body (AE.then (unr P n body Q k) Q) st):=⟨λh=>h⟩
end
section
variable {P:Program} {all rest:List Oper} {K:St→Prop} {e:Nat→AV} {m:Mem} {dst:Option Nat} {d t j n:Nat} {op:Op} {ty:TypeId} {pos:String} {af:Array Edge} {want:Bool} {Q:AE→St→Prop} {x y:Code} {rs:Nat→AV} {bar:List Nat} {fu k:Nat} {σs:Mem} {b:Bool} {st:St}
theorem Zbm (h1:b=true→OG P all rest dst op ty pos af (.bool true) want K st) (h2:b=false→OG P all rest dst op ty pos af (.bool false) want K st):OG P all rest dst op ty pos af (.bool b) want K st:=by
 cases b
 ·exact h2 rfl
 ·exact h1 rfl
theorem Zbw (h1:b=true→DG P all rs bar σs fu k d op (.bool true) want K e m) (h2:b=false→DG P all rs bar σs fu k d op (.bool false) want K e m):DG P all rs bar σs fu k d op (.bool b) want K e m:=by
 cases b
 ·exact h2 rfl
 ·exact h1 rfl
theorem Zbn (h1:b=true→CG P n true x y Q st) (h2:b=false→CG P n false x y Q st):CG P n b x y Q st:=by
 cases b
 ·exact h2 rfl
 ·exact h1 rfl
end
end Go.Pg
namespace Go.Pg
open Go Go.RowKit
attribute [-bool_to_prop] Bool.and_eq_decide Bool.or_eq_decide Bool.decide_beq_decide decide_eq_decide
structure Fx (p:Prop):Prop where
 h:p
structure Bdy:Prop
structure Lv (a b:Prop):Prop where
 x:a
 y:b
theorem w_l {a b:Prop} (x:a) (y:b):Lv a b:=⟨x,y⟩
theorem w_a {a b:Prop} (x:a) (y:b):a∧b:=⟨x,y⟩
theorem w_t:True:=trivial
theorem w_1 {p0:Prop} (h0:p0):p0∧True:=⟨h0,trivial⟩
theorem w_2 {p0 p1:Prop} (h0:p0) (h1:p1):p0∧p1∧True:=⟨h0,h1,trivial⟩
theorem w_3 {p0 p1 p2:Prop} (h0:p0) (h1:p1) (h2:p2):p0∧p1∧p2∧True:=⟨h0,h1,h2,trivial⟩
theorem w_4 {p0 p1 p2 p3:Prop} (h0:p0) (h1:p1) (h2:p2) (h3:p3):p0∧p1∧p2∧p3∧True:=⟨h0,h1,h2,h3,trivial⟩
theorem w_5 {p0 p1 p2 p3 p4:Prop} (h0:p0) (h1:p1) (h2:p2) (h3:p3) (h4:p4):p0∧p1∧p2∧p3∧p4∧True:=⟨h0,h1,h2,h3,h4,trivial⟩
theorem w_6 {p0 p1 p2 p3 p4 p5:Prop} (h0:p0) (h1:p1) (h2:p2) (h3:p3) (h4:p4) (h5:p5):p0∧p1∧p2∧p3∧p4∧p5∧True:=⟨h0,h1,h2,h3,h4,h5,trivial⟩
theorem w_7 {p0 p1 p2 p3 p4 p5 p6:Prop} (h0:p0) (h1:p1) (h2:p2) (h3:p3) (h4:p4) (h5:p5) (h6:p6):p0∧p1∧p2∧p3∧p4∧p5∧p6∧True:=⟨h0,h1,h2,h3,h4,h5,h6,trivial⟩
theorem w_8 {p0 p1 p2 p3 p4 p5 p6 p7:Prop} (h0:p0) (h1:p1) (h2:p2) (h3:p3) (h4:p4) (h5:p5) (h6:p6) (h7:p7):p0∧p1∧p2∧p3∧p4∧p5∧p6∧p7∧True:=⟨h0,h1,h2,h3,h4,h5,h6,h7,trivial⟩
theorem w_9 {p0 p1 p2 p3 p4 p5 p6 p7 p8:Prop} (h0:p0) (h1:p1) (h2:p2) (h3:p3) (h4:p4) (h5:p5) (h6:p6) (h7:p7) (h8:p8):p0∧p1∧p2∧p3∧p4∧p5∧p6∧p7∧p8∧True:=⟨h0,h1,h2,h3,h4,h5,h6,h7,h8,trivial⟩
theorem w_10 {p0 p1 p2 p3 p4 p5 p6 p7 p8 p9:Prop} (h0:p0) (h1:p1) (h2:p2) (h3:p3) (h4:p4) (h5:p5) (h6:p6) (h7:p7) (h8:p8) (h9:p9):p0∧p1∧p2∧p3∧p4∧p5∧p6∧p7∧p8∧p9∧True:=⟨h0,h1,h2,h3,h4,h5,h6,h7,h8,h9,trivial⟩
theorem w_11 {p0 p1 p2 p3 p4 p5 p6 p7 p8 p9 p10:Prop} (h0:p0) (h1:p1) (h2:p2) (h3:p3) (h4:p4) (h5:p5) (h6:p6) (h7:p7) (h8:p8) (h9:p9) (h10:p10):p0∧p1∧p2∧p3∧p4∧p5∧p6∧p7∧p8∧p9∧p10∧True:=⟨h0,h1,h2,h3,h4,h5,h6,h7,h8,h9,h10,trivial⟩
theorem w_12 {p0 p1 p2 p3 p4 p5 p6 p7 p8 p9 p10 p11:Prop} (h0:p0) (h1:p1) (h2:p2) (h3:p3) (h4:p4) (h5:p5) (h6:p6) (h7:p7) (h8:p8) (h9:p9) (h10:p10) (h11:p11):p0∧p1∧p2∧p3∧p4∧p5∧p6∧p7∧p8∧p9∧p10∧p11∧True:=⟨h0,h1,h2,h3,h4,h5,h6,h7,h8,h9,h10,h11,trivial⟩
theorem w_13 {p0 p1 p2 p3 p4 p5 p6 p7 p8 p9 p10 p11 p12:Prop} (h0:p0) (h1:p1) (h2:p2) (h3:p3) (h4:p4) (h5:p5) (h6:p6) (h7:p7) (h8:p8) (h9:p9) (h10:p10) (h11:p11) (h12:p12):p0∧p1∧p2∧p3∧p4∧p5∧p6∧p7∧p8∧p9∧p10∧p11∧p12∧True:=⟨h0,h1,h2,h3,h4,h5,h6,h7,h8,h9,h10,h11,h12,trivial⟩
theorem w_14 {p0 p1 p2 p3 p4 p5 p6 p7 p8 p9 p10 p11 p12 p13:Prop} (h0:p0) (h1:p1) (h2:p2) (h3:p3) (h4:p4) (h5:p5) (h6:p6) (h7:p7) (h8:p8) (h9:p9) (h10:p10) (h11:p11) (h12:p12) (h13:p13):p0∧p1∧p2∧p3∧p4∧p5∧p6∧p7∧p8∧p9∧p10∧p11∧p12∧p13∧True:=⟨h0,h1,h2,h3,h4,h5,h6,h7,h8,h9,h10,h11,h12,h13,trivial⟩
theorem w_15 {p0 p1 p2 p3 p4 p5 p6 p7 p8 p9 p10 p11 p12 p13 p14:Prop} (h0:p0) (h1:p1) (h2:p2) (h3:p3) (h4:p4) (h5:p5) (h6:p6) (h7:p7) (h8:p8) (h9:p9) (h10:p10) (h11:p11) (h12:p12) (h13:p13) (h14:p14):p0∧p1∧p2∧p3∧p4∧p5∧p6∧p7∧p8∧p9∧p10∧p11∧p12∧p13∧p14∧True:=⟨h0,h1,h2,h3,h4,h5,h6,h7,h8,h9,h10,h11,h12,h13,h14,trivial⟩
theorem w_16 {p0 p1 p2 p3 p4 p5 p6 p7 p8 p9 p10 p11 p12 p13 p14 p15:Prop} (h0:p0) (h1:p1) (h2:p2) (h3:p3) (h4:p4) (h5:p5) (h6:p6) (h7:p7) (h8:p8) (h9:p9) (h10:p10) (h11:p11) (h12:p12) (h13:p13) (h14:p14) (h15:p15):p0∧p1∧p2∧p3∧p4∧p5∧p6∧p7∧p8∧p9∧p10∧p11∧p12∧p13∧p14∧p15∧True:=⟨h0,h1,h2,h3,h4,h5,h6,h7,h8,h9,h10,h11,h12,h13,h14,h15,trivial⟩
theorem w_17 {p0 p1 p2 p3 p4 p5 p6 p7 p8 p9 p10 p11 p12 p13 p14 p15 p16:Prop} (h0:p0) (h1:p1) (h2:p2) (h3:p3) (h4:p4) (h5:p5) (h6:p6) (h7:p7) (h8:p8) (h9:p9) (h10:p10) (h11:p11) (h12:p12) (h13:p13) (h14:p14) (h15:p15) (h16:p16):p0∧p1∧p2∧p3∧p4∧p5∧p6∧p7∧p8∧p9∧p10∧p11∧p12∧p13∧p14∧p15∧p16∧True:=⟨h0,h1,h2,h3,h4,h5,h6,h7,h8,h9,h10,h11,h12,h13,h14,h15,h16,trivial⟩
theorem w_18 {p0 p1 p2 p3 p4 p5 p6 p7 p8 p9 p10 p11 p12 p13 p14 p15 p16 p17:Prop} (h0:p0) (h1:p1) (h2:p2) (h3:p3) (h4:p4) (h5:p5) (h6:p6) (h7:p7) (h8:p8) (h9:p9) (h10:p10) (h11:p11) (h12:p12) (h13:p13) (h14:p14) (h15:p15) (h16:p16) (h17:p17):p0∧p1∧p2∧p3∧p4∧p5∧p6∧p7∧p8∧p9∧p10∧p11∧p12∧p13∧p14∧p15∧p16∧p17∧True:=⟨h0,h1,h2,h3,h4,h5,h6,h7,h8,h9,h10,h11,h12,h13,h14,h15,h16,h17,trivial⟩
theorem w_19 {p0 p1 p2 p3 p4 p5 p6 p7 p8 p9 p10 p11 p12 p13 p14 p15 p16 p17 p18:Prop} (h0:p0) (h1:p1) (h2:p2) (h3:p3) (h4:p4) (h5:p5) (h6:p6) (h7:p7) (h8:p8) (h9:p9) (h10:p10) (h11:p11) (h12:p12) (h13:p13) (h14:p14) (h15:p15) (h16:p16) (h17:p17) (h18:p18):p0∧p1∧p2∧p3∧p4∧p5∧p6∧p7∧p8∧p9∧p10∧p11∧p12∧p13∧p14∧p15∧p16∧p17∧p18∧True:=⟨h0,h1,h2,h3,h4,h5,h6,h7,h8,h9,h10,h11,h12,h13,h14,h15,h16,h17,h18,trivial⟩
theorem w_20 {p0 p1 p2 p3 p4 p5 p6 p7 p8 p9 p10 p11 p12 p13 p14 p15 p16 p17 p18 p19:Prop} (h0:p0) (h1:p1) (h2:p2) (h3:p3) (h4:p4) (h5:p5) (h6:p6) (h7:p7) (h8:p8) (h9:p9) (h10:p10) (h11:p11) (h12:p12) (h13:p13) (h14:p14) (h15:p15) (h16:p16) (h17:p17) (h18:p18) (h19:p19):p0∧p1∧p2∧p3∧p4∧p5∧p6∧p7∧p8∧p9∧p10∧p11∧p12∧p13∧p14∧p15∧p16∧p17∧p18∧p19∧True:=⟨h0,h1,h2,h3,h4,h5,h6,h7,h8,h9,h10,h11,h12,h13,h14,h15,h16,h17,h18,h19,trivial⟩
theorem w_22 {p0 p1 p2 p3 p4 p5 p6 p7 p8 p9 p10 p11 p12 p13 p14 p15 p16 p17 p18 p19 p20 p21:Prop} (h0:p0) (h1:p1) (h2:p2) (h3:p3) (h4:p4) (h5:p5) (h6:p6) (h7:p7) (h8:p8) (h9:p9) (h10:p10) (h11:p11) (h12:p12) (h13:p13) (h14:p14) (h15:p15) (h16:p16) (h17:p17) (h18:p18) (h19:p19) (h20:p20) (h21:p21):p0∧p1∧p2∧p3∧p4∧p5∧p6∧p7∧p8∧p9∧p10∧p11∧p12∧p13∧p14∧p15∧p16∧p17∧p18∧p19∧p20∧p21∧True:=⟨h0,h1,h2,h3,h4,h5,h6,h7,h8,h9,h10,h11,h12,h13,h14,h15,h16,h17,h18,h19,h20,h21,trivial⟩
theorem w_24 {p0 p1 p2 p3 p4 p5 p6 p7 p8 p9 p10 p11 p12 p13 p14 p15 p16 p17 p18 p19 p20 p21 p22 p23:Prop} (h0:p0) (h1:p1) (h2:p2) (h3:p3) (h4:p4) (h5:p5) (h6:p6) (h7:p7) (h8:p8) (h9:p9) (h10:p10) (h11:p11) (h12:p12) (h13:p13) (h14:p14) (h15:p15) (h16:p16) (h17:p17) (h18:p18) (h19:p19) (h20:p20) (h21:p21) (h22:p22) (h23:p23):p0∧p1∧p2∧p3∧p4∧p5∧p6∧p7∧p8∧p9∧p10∧p11∧p12∧p13∧p14∧p15∧p16∧p17∧p18∧p19∧p20∧p21∧p22∧p23∧True:=⟨h0,h1,h2,h3,h4,h5,h6,h7,h8,h9,h10,h11,h12,h13,h14,h15,h16,h17,h18,h19,h20,h21,h22,h23,trivial⟩
structure Dw (id:Nat) (rs:Nat→AV) (bar cut:List Nat):Prop
theorem w_d (id:Nat) (l:List (Nat × AV)) (bar cut:List Nat):Dw id (Zcg l) bar cut:=⟨⟩
structure Rn (k:Nat):Prop
theorem w_r (k:Nat):Rn k:=⟨⟩
theorem Zfm {P:Program} {n id:Nat} {Q:AE→St→Prop} {st:St} {l:List Oper} {rs:Nat→AV} {bar cut:List Nat} (u:Dw id rs bar cut) (hm:P.follows .mixedOrders=true) (hf:l.all (Zfv n)=true)
 (hlex:Zpf l.toArray bar l.length 0 (Array.replicate l.length false)=true) {N:Nat} (hN:l.length=N) (h:Zb0 P 0 l rs bar (cutM cut st.mem) N 0 (Q .normal) st):Za8 P 0 n (.region id l.toArray true) Q st:=Za2 rs bar cut hm hf hlex hN h
theorem Zja {P:Program} {n k:Nat} {Q:AE→St→Prop} {st:St} {body:Code} (u:Rn (k+1)) (hf:Zbx n body=true) (h:unr P n body Q (k+1) st):Za8 P 0 n (.loop body) Q st:=Zlk (k+1) hf h
structure Sl (r:Prop):Prop
theorem sl0:Sl True:=⟨⟩
theorem sl1 {r:Prop}:Sl r:=⟨⟩
theorem Za4 {α β:Type} {f:α→β} {l:List α}:(l.map f).length=l.length:=List.length_map ..
theorem l_app {α:Type} {l k:List α}:(l++k).length=l.length+k.length:=List.length_append
theorem l_take {α:Type} {i:Nat} {l:List α}:(l.take i).length=min i l.length:=List.length_take
theorem l_drop {α:Type} {i:Nat} {l:List α}:(l.drop i).length=l.length - i:=List.length_drop
theorem Zph {α:Type} {l:List α}:l.drop 0=l:=rfl
theorem Ztj {α:Type} {l:List α} {i:Nat} {a:α}:(l.set i a).length=l.length:=List.length_set ..
theorem wkap {F C p R0 R1 R2 R3 R4 R5 R6 R7 R8 R9 R10 R11:Prop} {nr:Nat} (hfx:F) (hcx:C) (hnx:Rn nr) (r:Lv R0 (Lv R1 (Lv R2 (Lv R3 (Lv R4 (Lv R5 (Lv R6 (Lv R7 (Lv R8 (Lv R9 (Lv R10 R11)))))))))))
 (h:Fx F→Fx C→Rn nr→Fx R0→Fx R1→Fx R2→Fx R3→Fx R4→Fx R5→Fx R6→Fx R7→Fx R8→Fx R9→Fx R10→Fx R11→Bdy→p∧Sl R0∧Sl R1∧Sl R2∧Sl R3∧Sl R4∧Sl R5∧Sl R6∧Sl R7∧Sl R8∧Sl R9∧Sl R10∧Sl R11:=by
  intro hF hC hN h0 h1 h2 h3 h4 h5 h6 h7 h8 h9 h10 h11 _;refine⟨?_,?_⟩
  focus
   (repeat' (first|(with_reducible first|refine stp ?_|apply gx1|apply gx2|apply gx3|apply gx4|apply gx5|apply gx6|apply gx7|refine gw0 hC.h.1 ?_ ?_|refine gw0 hC.h.2.1 ?_ ?_|refine gw0 hC.h.2.2.1 ?_ ?_|refine gw0 hC.h.2.2.2.1 ?_ ?_|refine gw0 hC.h.2.2.2.2.1 ?_ ?_)|(with_reducible refine Zbf ?_;intro _)|((with_reducible refine gE ?_);(try simp (disch:=omega) only [go_sem,hF.h,decide_eq_true,decide_eq_false,if_pos,if_neg,Int.reduceAdd,Int.reduceSub,Int.reduceToNat,Int.zero_add])<;>first|rfl|omega)|with_reducible refine Zaf (by decide) ?_|((with_reducible first|apply Zbm|apply Zbn);all_goals (intro hc;(try simp only [bool_to_prop] at hc);first|done|(exfalso;omega)|(revert hc;intro _)))|((with_reducible apply Zja hN);(focus rfl))))
   (all_goals repeat' (rename_i zz;first|(have zb:Bdy:=zz;first|exact h0.h|exact h1.h|exact h2.h|exact h3.h|exact h4.h|exact h5.h|exact h6.h|exact h7.h|exact h8.h|exact h9.h|exact h10.h|exact h11.h)|revert zz))
  (repeat' first|refine⟨?_,?_⟩|exact sl0|exact sl1)):p :=
 (h ⟨hfx⟩ ⟨hcx⟩ hnx ⟨r.x⟩ ⟨r.y.x⟩ ⟨r.y.y.x⟩ ⟨r.y.y.y.x⟩ ⟨r.y.y.y.y.x⟩ ⟨r.y.y.y.y.y.x⟩ ⟨r.y.y.y.y.y.y.x⟩ ⟨r.y.y.y.y.y.y.y.x⟩ ⟨r.y.y.y.y.y.y.y.y.x⟩ ⟨r.y.y.y.y.y.y.y.y.y.x⟩ ⟨r.y.y.y.y.y.y.y.y.y.y.x⟩ ⟨r.y.y.y.y.y.y.y.y.y.y.y⟩ ⟨⟩).1
theorem wkad {F C D p R0 R1 R2 R3 R4 R5 R6 R7 R8 R9 R10 R11:Prop} (hfx:F) (hcx:C) (hdx:D) (r:Lv R0 (Lv R1 (Lv R2 (Lv R3 (Lv R4 (Lv R5 (Lv R6 (Lv R7 (Lv R8 (Lv R9 (Lv R10 R11)))))))))))
 (h:Fx F→Fx C→Fx D→Fx R0→Fx R1→Fx R2→Fx R3→Fx R4→Fx R5→Fx R6→Fx R7→Fx R8→Fx R9→Fx R10→Fx R11→Bdy→p∧Sl R0∧Sl R1∧Sl R2∧Sl R3∧Sl R4∧Sl R5∧Sl R6∧Sl R7∧Sl R8∧Sl R9∧Sl R10∧Sl R11:=by
  intro hF hC hD h0 h1 h2 h3 h4 h5 h6 h7 h8 h9 h10 h11 _;refine⟨?_,?_⟩
  focus
   (repeat' (first|(with_reducible first|refine stp ?_|apply gx1|apply gx2|apply gx3|apply gx4|apply gx5|apply gx6|apply gx7|apply gy8|apply gz2|apply gz3|refine gw0 hC.h.1 ?_ ?_|refine gw3 hC.h.1 ?_ ?_ ?_|refine gw0 hC.h.2.1 ?_ ?_|refine gw3 hC.h.2.1 ?_ ?_ ?_|refine gw0 hC.h.2.2.1 ?_ ?_|refine gw3 hC.h.2.2.1 ?_ ?_ ?_|refine gw0 hC.h.2.2.2.1 ?_ ?_|refine gw3 hC.h.2.2.2.1 ?_ ?_ ?_|refine gw0 hC.h.2.2.2.2.1 ?_ ?_|refine gw3 hC.h.2.2.2.2.1 ?_ ?_ ?_|refine gw0 hC.h.2.2.2.2.2.1 ?_ ?_|refine gw3 hC.h.2.2.2.2.2.1 ?_ ?_ ?_|refine gw0 hC.h.2.2.2.2.2.2.1 ?_ ?_|refine gw3 hC.h.2.2.2.2.2.2.1 ?_ ?_ ?_|refine gw0 hC.h.2.2.2.2.2.2.2.1 ?_ ?_|refine gw3 hC.h.2.2.2.2.2.2.2.1 ?_ ?_ ?_|refine gw0 hC.h.2.2.2.2.2.2.2.2.1 ?_ ?_|refine gw3 hC.h.2.2.2.2.2.2.2.2.1 ?_ ?_ ?_)|(with_reducible refine Zbf ?_;intro _)|((with_reducible refine gE ?_);(try simp (disch:=omega) only [go_sem,hF.h,decide_eq_true,decide_eq_false,if_pos,if_neg,Int.reduceAdd,Int.reduceSub,Int.reduceToNat,Int.zero_add])<;>first|rfl|omega)|with_reducible refine Zaf (by decide) ?_|((with_reducible apply gy1);iterate 3 focus rfl)|((with_reducible apply gy2);iterate 3 focus rfl)|((with_reducible apply gy3);iterate 2 focus rfl)|((with_reducible apply gy4);iterate 1 focus rfl)|((with_reducible apply gy5);iterate 4 focus rfl)|((with_reducible apply gy5c);iterate 4 focus rfl)|((with_reducible apply gy6);iterate 4 focus rfl)|((with_reducible apply Zc0);iterate 3 focus rfl)|((with_reducible apply Zcz);iterate 1 focus rfl)|((with_reducible apply gy7);iterate 1 focus rfl)|((with_reducible apply gy9);(focus ((with_reducible refine gE ?_);(try simp (disch:=omega) only [go_sem,hF.h,decide_eq_true,decide_eq_false,if_pos,if_neg,Int.reduceAdd,Int.reduceSub,Int.reduceToNat,Int.zero_add])<;>rfl)))|((with_reducible apply gz1);(focus first|rfl|(simp (disch:=omega) only [go_sem,hF.h,decide_eq_true,decide_eq_false,if_pos,if_neg,Int.reduceAdd,Int.reduceSub,Int.reduceToNat,Int.zero_add];done)))|((with_reducible apply Zfm hD.h.1);(focus kernel_rfl);(focus rfl);(focus kernel_rfl);(focus (simp only [List.length_cons,List.length_nil,Nat.reduceAdd];rfl)))|((with_reducible apply Zfm hD.h.2.1);(focus kernel_rfl);(focus rfl);(focus kernel_rfl);(focus (simp only [List.length_cons,List.length_nil,Nat.reduceAdd];rfl)))|((with_reducible apply Za2 (Zcg []) [] []);(focus kernel_rfl);(focus rfl);(focus kernel_rfl);(focus (simp only [List.length_cons,List.length_nil,Nat.reduceAdd];rfl)))|((with_reducible first|apply Zbm|apply Zbw|apply Zbn);all_goals (intro hc;(try simp only [bool_to_prop] at hc);first|done|(exfalso;omega)|(revert hc;intro _)))))
   (all_goals repeat' (rename_i zz;first|(have zb:Bdy:=zz;first|exact h0.h|exact h1.h|exact h2.h|exact h3.h|exact h4.h|exact h5.h|exact h6.h|exact h7.h|exact h8.h|exact h9.h|exact h10.h|exact h11.h)|revert zz))
  (repeat' first|refine⟨?_,?_⟩|exact sl0|exact sl1)):p :=
 (h ⟨hfx⟩ ⟨hcx⟩ ⟨hdx⟩ ⟨r.x⟩ ⟨r.y.x⟩ ⟨r.y.y.x⟩ ⟨r.y.y.y.x⟩ ⟨r.y.y.y.y.x⟩ ⟨r.y.y.y.y.y.x⟩ ⟨r.y.y.y.y.y.y.x⟩ ⟨r.y.y.y.y.y.y.y.x⟩ ⟨r.y.y.y.y.y.y.y.y.x⟩ ⟨r.y.y.y.y.y.y.y.y.y.x⟩ ⟨r.y.y.y.y.y.y.y.y.y.y.x⟩ ⟨r.y.y.y.y.y.y.y.y.y.y.y⟩ ⟨⟩).1
theorem wkax {F C D B S Rd p R0 R1 R2 R3 R4 R5 R6 R7 R8 R9 R10 R11:Prop} {nr:Nat} (hfx:F) (hcx:C) (hdx:D) (hbx:B) (hsx:S) (hrx:Rd) (hnx:Rn nr) (r:Lv R0 (Lv R1 (Lv R2 (Lv R3 (Lv R4 (Lv R5 (Lv R6 (Lv R7 (Lv R8 (Lv R9 (Lv R10 R11)))))))))))
 (h:Fx F→Fx C→Fx D→Fx B→Fx S→Fx Rd→Rn nr→Fx R0→Fx R1→Fx R2→Fx R3→Fx R4→Fx R5→Fx R6→Fx R7→Fx R8→Fx R9→Fx R10→Fx R11→Bdy→p∧Sl R0∧Sl R1∧Sl R2∧Sl R3∧Sl R4∧Sl R5∧Sl R6∧Sl R7∧Sl R8∧Sl R9∧Sl R10∧Sl R11:=by
  intro hF hC hD hB hS hR hN h0 h1 h2 h3 h4 h5 h6 h7 h8 h9 h10 h11 _;refine⟨?_,?_⟩
  focus
   (repeat' (first|(with_reducible first|refine stp ?_|apply gx1|apply gx2|apply gx3|apply gx4|apply gx5|apply gx6|apply gx7|apply gy8|apply gz2|apply gz3|refine gw0 hC.h.1 ?_ ?_|refine gw3 hC.h.1 ?_ ?_ ?_|refine gw0 hC.h.2.1 ?_ ?_|refine gw3 hC.h.2.1 ?_ ?_ ?_|refine gw0 hC.h.2.2.1 ?_ ?_|refine gw3 hC.h.2.2.1 ?_ ?_ ?_|refine gw0 hC.h.2.2.2.1 ?_ ?_|refine gw3 hC.h.2.2.2.1 ?_ ?_ ?_|refine gw0 hC.h.2.2.2.2.1 ?_ ?_|refine gw3 hC.h.2.2.2.2.1 ?_ ?_ ?_|refine gw0 hC.h.2.2.2.2.2.1 ?_ ?_|refine gw3 hC.h.2.2.2.2.2.1 ?_ ?_ ?_|refine gw0 hC.h.2.2.2.2.2.2.1 ?_ ?_|refine gw3 hC.h.2.2.2.2.2.2.1 ?_ ?_ ?_|refine gw0 hC.h.2.2.2.2.2.2.2.1 ?_ ?_|refine gw3 hC.h.2.2.2.2.2.2.2.1 ?_ ?_ ?_|refine gw0 hC.h.2.2.2.2.2.2.2.2.1 ?_ ?_|refine gw3 hC.h.2.2.2.2.2.2.2.2.1 ?_ ?_ ?_|refine gw0 hC.h.2.2.2.2.2.2.2.2.2.1 ?_ ?_|refine gw3 hC.h.2.2.2.2.2.2.2.2.2.1 ?_ ?_ ?_|refine gw0 hC.h.2.2.2.2.2.2.2.2.2.2.1 ?_ ?_|refine gw3 hC.h.2.2.2.2.2.2.2.2.2.2.1 ?_ ?_ ?_|refine gw0 hC.h.2.2.2.2.2.2.2.2.2.2.2.1 ?_ ?_|refine gw3 hC.h.2.2.2.2.2.2.2.2.2.2.2.1 ?_ ?_ ?_|apply gw1 hB.h.1|apply gw1 hB.h.2.1|apply gw1 hB.h.2.2.1|refine gwr hR.h.1 ?_ ?_|refine gwr hR.h.2.1 ?_ ?_|refine gwr hR.h.2.2.1 ?_ ?_|refine gwr hR.h.2.2.2.1 ?_ ?_)|((with_reducible apply gw1 hS.h.2.2.1);iterate 4 focus ((with_reducible refine gE ?_);(try simp (disch:=omega) only [go_sem,hF.h,decide_eq_true,decide_eq_false,if_pos,if_neg,Int.reduceAdd,Int.reduceSub,Int.reduceToNat,Int.zero_add])<;>first|rfl|done))|((with_reducible apply gw1 hS.h.2.1);iterate 4 focus ((with_reducible refine gE ?_);(try simp (disch:=omega) only [go_sem,hF.h,decide_eq_true,decide_eq_false,if_pos,if_neg,Int.reduceAdd,Int.reduceSub,Int.reduceToNat,Int.zero_add])<;>first|rfl|done))|((with_reducible apply gw1 hS.h.1);iterate 4 focus ((with_reducible refine gE ?_);(try simp (disch:=omega) only [go_sem,hF.h,decide_eq_true,decide_eq_false,if_pos,if_neg,Int.reduceAdd,Int.reduceSub,Int.reduceToNat,Int.zero_add])<;>first|rfl|done))|((with_reducible apply gyr hR.h.2.2.2.1);(focus rfl);(focus rfl);iterate 3 focus ((with_reducible refine gE ?_);(try simp (disch:=omega) only [go_sem,hF.h,decide_eq_true,decide_eq_false,if_pos,if_neg,Int.reduceAdd,Int.reduceSub,Int.reduceToNat,Int.zero_add])<;>first|rfl|done))|((with_reducible apply gyr hR.h.2.2.1);(focus rfl);(focus rfl);iterate 3 focus ((with_reducible refine gE ?_);(try simp (disch:=omega) only [go_sem,hF.h,decide_eq_true,decide_eq_false,if_pos,if_neg,Int.reduceAdd,Int.reduceSub,Int.reduceToNat,Int.zero_add])<;>first|rfl|done))|((with_reducible apply gyr hR.h.2.1);(focus rfl);(focus rfl);iterate 3 focus ((with_reducible refine gE ?_);(try simp (disch:=omega) only [go_sem,hF.h,decide_eq_true,decide_eq_false,if_pos,if_neg,Int.reduceAdd,Int.reduceSub,Int.reduceToNat,Int.zero_add])<;>first|rfl|done))|((with_reducible apply gyr hR.h.1);(focus rfl);(focus rfl);iterate 3 focus ((with_reducible refine gE ?_);(try simp (disch:=omega) only [go_sem,hF.h,decide_eq_true,decide_eq_false,if_pos,if_neg,Int.reduceAdd,Int.reduceSub,Int.reduceToNat,Int.zero_add])<;>first|rfl|done))|(with_reducible refine Zbf ?_;intro _)|((with_reducible refine gE ?_);(try simp (disch:=omega) only [go_sem,hF.h,decide_eq_true,decide_eq_false,if_pos,if_neg,Int.reduceAdd,Int.reduceSub,Int.reduceToNat,Int.zero_add])<;>first|rfl|omega)|with_reducible refine Zaf (by decide) ?_|((with_reducible apply gy1);iterate 3 focus rfl)|((with_reducible apply gy2);iterate 3 focus rfl)|((with_reducible apply gy3);iterate 2 focus rfl)|((with_reducible apply gy4);iterate 1 focus rfl)|((with_reducible apply gy5);iterate 4 focus rfl)|((with_reducible apply gy5c);iterate 4 focus rfl)|((with_reducible apply gy6);iterate 4 focus rfl)|((with_reducible apply Zc0);iterate 3 focus rfl)|((with_reducible apply Zcz);iterate 1 focus rfl)|((with_reducible apply gy7);iterate 1 focus rfl)|((with_reducible apply gy9);(focus ((with_reducible refine gE ?_);(try simp (disch:=omega) only [go_sem,hF.h,decide_eq_true,decide_eq_false,if_pos,if_neg,Int.reduceAdd,Int.reduceSub,Int.reduceToNat,Int.zero_add])<;>rfl)))|((with_reducible apply gz1);(focus first|rfl|(simp (disch:=omega) only [go_sem,hF.h,decide_eq_true,decide_eq_false,if_pos,if_neg,Int.reduceAdd,Int.reduceSub,Int.reduceToNat,Int.zero_add];done)))|((with_reducible apply Zfm hD.h.1);(focus kernel_rfl);(focus rfl);(focus kernel_rfl);(focus (simp only [List.length_cons,List.length_nil,Nat.reduceAdd];rfl)))|((with_reducible apply Zfm hD.h.2.1);(focus kernel_rfl);(focus rfl);(focus kernel_rfl);(focus (simp only [List.length_cons,List.length_nil,Nat.reduceAdd];rfl)))|((with_reducible apply Zfm hD.h.2.2.1);(focus kernel_rfl);(focus rfl);(focus kernel_rfl);(focus (simp only [List.length_cons,List.length_nil,Nat.reduceAdd];rfl)))|((with_reducible apply Za2 (Zcg []) [] []);(focus kernel_rfl);(focus rfl);(focus kernel_rfl);(focus (simp only [List.length_cons,List.length_nil,Nat.reduceAdd];rfl)))|((with_reducible first|apply Zbm|apply Zbw|apply Zbn);all_goals (intro hc;(try simp only [bool_to_prop] at hc);first|done|(exfalso;omega)|(revert hc;intro _)))|((with_reducible apply Zja hN);(focus rfl))))
   (all_goals repeat' (rename_i zz;first|(have zb:Bdy:=zz;first|exact h0.h|exact h1.h|exact h2.h|exact h3.h|exact h4.h|exact h5.h|exact h6.h|exact h7.h|exact h8.h|exact h9.h|exact h10.h|exact h11.h)|revert zz))
  (repeat' first|refine⟨?_,?_⟩|exact sl0|exact sl1)):p :=
 (h ⟨hfx⟩ ⟨hcx⟩ ⟨hdx⟩ ⟨hbx⟩ ⟨hsx⟩ ⟨hrx⟩ hnx ⟨r.x⟩ ⟨r.y.x⟩ ⟨r.y.y.x⟩ ⟨r.y.y.y.x⟩ ⟨r.y.y.y.y.x⟩ ⟨r.y.y.y.y.y.x⟩ ⟨r.y.y.y.y.y.y.x⟩ ⟨r.y.y.y.y.y.y.y.x⟩ ⟨r.y.y.y.y.y.y.y.y.x⟩ ⟨r.y.y.y.y.y.y.y.y.y.x⟩ ⟨r.y.y.y.y.y.y.y.y.y.y.x⟩ ⟨r.y.y.y.y.y.y.y.y.y.y.y⟩ ⟨⟩).1
theorem wklp {F C L p R0 R1 R2 R3 R4 R5 R6 R7 R8 R9 R10 R11:Prop} {nr:Nat} (hfx:F) (hcx:C) (hlx:L) (hnx:Rn nr) (r:Lv R0 (Lv R1 (Lv R2 (Lv R3 (Lv R4 (Lv R5 (Lv R6 (Lv R7 (Lv R8 (Lv R9 (Lv R10 R11)))))))))))
 (h:Fx F→Fx C→Fx L→Rn nr→Fx R0→Fx R1→Fx R2→Fx R3→Fx R4→Fx R5→Fx R6→Fx R7→Fx R8→Fx R9→Fx R10→Fx R11→Bdy→p∧Sl R0∧Sl R1∧Sl R2∧Sl R3∧Sl R4∧Sl R5∧Sl R6∧Sl R7∧Sl R8∧Sl R9∧Sl R10∧Sl R11:=by
  intro hF hC hL hN h0 h1 h2 h3 h4 h5 h6 h7 h8 h9 h10 h11 _;refine⟨?_,?_⟩
  focus
   (repeat' (first|(with_reducible first|refine stp ?_|apply gx1|apply gx2|apply gx3|apply gx4|apply gx5|apply gx6|apply gx7|refine gw0 hC.h.1 ?_ ?_|refine gw0 hC.h.2.1 ?_ ?_|refine gw0 hC.h.2.2.1 ?_ ?_|refine gw0 hC.h.2.2.2.1 ?_ ?_|refine gw0 hC.h.2.2.2.2.1 ?_ ?_)|(with_reducible refine Zbf ?_;intro _)|((with_reducible refine gE ?_);(try simp (disch:=omega) only [go_sem,hF.h,decide_eq_true,decide_eq_false,if_pos,if_neg,Int.reduceAdd,Int.reduceSub,Int.reduceToNat,Int.zero_add])<;>first|rfl|omega)|with_reducible refine Zaf (by decide) ?_|((with_reducible first|apply Zbm|apply Zbn);all_goals (intro hc;(try simp only [bool_to_prop] at hc);first|done|(exfalso;omega)|(revert hc;intro _)))|((with_reducible apply Zja hN);(focus rfl))))
   (all_goals (try simp (disch:=omega) only [go_sem,hL.h,decide_eq_true,decide_eq_false,if_pos,if_neg,Int.reduceAdd,Int.reduceSub,Int.reduceToNat,Int.zero_add]));(all_goals first|done|rfl|(congr 2;first|done|omega|(rw [Bool.eq_iff_iff];simp only [bool_to_prop,Bool.false_eq_true,iff_true,true_iff,iff_false,false_iff];omega))|skip)
   (all_goals repeat' (rename_i zz;first|(have zb:Bdy:=zz;first|exact h0.h|exact h1.h|exact h2.h|exact h3.h|exact h4.h|exact h5.h|exact h6.h|exact h7.h|exact h8.h|exact h9.h|exact h10.h|exact h11.h)|revert zz))
  (repeat' first|refine⟨?_,?_⟩|exact sl0|exact sl1)):p :=
 (h ⟨hfx⟩ ⟨hcx⟩ ⟨hlx⟩ hnx ⟨r.x⟩ ⟨r.y.x⟩ ⟨r.y.y.x⟩ ⟨r.y.y.y.x⟩ ⟨r.y.y.y.y.x⟩ ⟨r.y.y.y.y.y.x⟩ ⟨r.y.y.y.y.y.y.x⟩ ⟨r.y.y.y.y.y.y.y.x⟩ ⟨r.y.y.y.y.y.y.y.y.x⟩ ⟨r.y.y.y.y.y.y.y.y.y.x⟩ ⟨r.y.y.y.y.y.y.y.y.y.y.x⟩ ⟨r.y.y.y.y.y.y.y.y.y.y.y⟩ ⟨⟩).1
theorem wkld {F C L D p R0 R1 R2 R3 R4 R5 R6 R7 R8 R9 R10 R11:Prop} (hfx:F) (hcx:C) (hlx:L) (hdx:D) (r:Lv R0 (Lv R1 (Lv R2 (Lv R3 (Lv R4 (Lv R5 (Lv R6 (Lv R7 (Lv R8 (Lv R9 (Lv R10 R11)))))))))))
 (h:Fx F→Fx C→Fx L→Fx D→Fx R0→Fx R1→Fx R2→Fx R3→Fx R4→Fx R5→Fx R6→Fx R7→Fx R8→Fx R9→Fx R10→Fx R11→Bdy→p∧Sl R0∧Sl R1∧Sl R2∧Sl R3∧Sl R4∧Sl R5∧Sl R6∧Sl R7∧Sl R8∧Sl R9∧Sl R10∧Sl R11:=by
  intro hF hC hL hD h0 h1 h2 h3 h4 h5 h6 h7 h8 h9 h10 h11 _;refine⟨?_,?_⟩
  focus
   (repeat' (first|(with_reducible first|refine stp ?_|apply gx1|apply gx2|apply gx3|apply gx4|apply gx5|apply gx6|apply gx7|apply gy8|apply gz2|apply gz3|refine gw0 hC.h.1 ?_ ?_|refine gw3 hC.h.1 ?_ ?_ ?_|refine gw0 hC.h.2.1 ?_ ?_|refine gw3 hC.h.2.1 ?_ ?_ ?_|refine gw0 hC.h.2.2.1 ?_ ?_|refine gw3 hC.h.2.2.1 ?_ ?_ ?_|refine gw0 hC.h.2.2.2.1 ?_ ?_|refine gw3 hC.h.2.2.2.1 ?_ ?_ ?_|refine gw0 hC.h.2.2.2.2.1 ?_ ?_|refine gw3 hC.h.2.2.2.2.1 ?_ ?_ ?_|refine gw0 hC.h.2.2.2.2.2.1 ?_ ?_|refine gw3 hC.h.2.2.2.2.2.1 ?_ ?_ ?_|refine gw0 hC.h.2.2.2.2.2.2.1 ?_ ?_|refine gw3 hC.h.2.2.2.2.2.2.1 ?_ ?_ ?_|refine gw0 hC.h.2.2.2.2.2.2.2.1 ?_ ?_|refine gw3 hC.h.2.2.2.2.2.2.2.1 ?_ ?_ ?_|refine gw0 hC.h.2.2.2.2.2.2.2.2.1 ?_ ?_|refine gw3 hC.h.2.2.2.2.2.2.2.2.1 ?_ ?_ ?_)|(with_reducible refine Zbf ?_;intro _)|((with_reducible refine gE ?_);(try simp (disch:=omega) only [go_sem,hF.h,decide_eq_true,decide_eq_false,if_pos,if_neg,Int.reduceAdd,Int.reduceSub,Int.reduceToNat,Int.zero_add])<;>first|rfl|omega)|with_reducible refine Zaf (by decide) ?_|((with_reducible apply gy1);iterate 3 focus rfl)|((with_reducible apply gy2);iterate 3 focus rfl)|((with_reducible apply gy3);iterate 2 focus rfl)|((with_reducible apply gy4);iterate 1 focus rfl)|((with_reducible apply gy5);iterate 4 focus rfl)|((with_reducible apply gy5c);iterate 4 focus rfl)|((with_reducible apply gy6);iterate 4 focus rfl)|((with_reducible apply Zc0);iterate 3 focus rfl)|((with_reducible apply Zcz);iterate 1 focus rfl)|((with_reducible apply gy7);iterate 1 focus rfl)|((with_reducible apply gy9);(focus ((with_reducible refine gE ?_);(try simp (disch:=omega) only [go_sem,hF.h,decide_eq_true,decide_eq_false,if_pos,if_neg,Int.reduceAdd,Int.reduceSub,Int.reduceToNat,Int.zero_add])<;>rfl)))|((with_reducible apply gz1);(focus first|rfl|(simp (disch:=omega) only [go_sem,hF.h,decide_eq_true,decide_eq_false,if_pos,if_neg,Int.reduceAdd,Int.reduceSub,Int.reduceToNat,Int.zero_add];done)))|((with_reducible apply Zfm hD.h.1);(focus kernel_rfl);(focus rfl);(focus kernel_rfl);(focus (simp only [List.length_cons,List.length_nil,Nat.reduceAdd];rfl)))|((with_reducible apply Zfm hD.h.2.1);(focus kernel_rfl);(focus rfl);(focus kernel_rfl);(focus (simp only [List.length_cons,List.length_nil,Nat.reduceAdd];rfl)))|((with_reducible apply Za2 (Zcg []) [] []);(focus kernel_rfl);(focus rfl);(focus kernel_rfl);(focus (simp only [List.length_cons,List.length_nil,Nat.reduceAdd];rfl)))|((with_reducible first|apply Zbm|apply Zbw|apply Zbn);all_goals (intro hc;(try simp only [bool_to_prop] at hc);first|done|(exfalso;omega)|(revert hc;intro _)))))
   (all_goals (try simp (disch:=omega) only [go_sem,hL.h,decide_eq_true,decide_eq_false,if_pos,if_neg,Int.reduceAdd,Int.reduceSub,Int.reduceToNat,Int.zero_add]));(all_goals first|done|rfl|(congr 2;first|done|omega|(rw [Bool.eq_iff_iff];simp only [bool_to_prop,Bool.false_eq_true,iff_true,true_iff,iff_false,false_iff];omega))|skip)
   (all_goals repeat' (rename_i zz;first|(have zb:Bdy:=zz;first|exact h0.h|exact h1.h|exact h2.h|exact h3.h|exact h4.h|exact h5.h|exact h6.h|exact h7.h|exact h8.h|exact h9.h|exact h10.h|exact h11.h)|revert zz))
  (repeat' first|refine⟨?_,?_⟩|exact sl0|exact sl1)):p :=
 (h ⟨hfx⟩ ⟨hcx⟩ ⟨hlx⟩ ⟨hdx⟩ ⟨r.x⟩ ⟨r.y.x⟩ ⟨r.y.y.x⟩ ⟨r.y.y.y.x⟩ ⟨r.y.y.y.y.x⟩ ⟨r.y.y.y.y.y.x⟩ ⟨r.y.y.y.y.y.y.x⟩ ⟨r.y.y.y.y.y.y.y.x⟩ ⟨r.y.y.y.y.y.y.y.y.x⟩ ⟨r.y.y.y.y.y.y.y.y.y.x⟩ ⟨r.y.y.y.y.y.y.y.y.y.y.x⟩ ⟨r.y.y.y.y.y.y.y.y.y.y.y⟩ ⟨⟩).1
theorem wkvp {F C p R0 R1 R2 R3 R4 R5 R6 R7 R8 R9 R10 R11:Prop} (hfx:F) (hcx:C) (r:Lv R0 (Lv R1 (Lv R2 (Lv R3 (Lv R4 (Lv R5 (Lv R6 (Lv R7 (Lv R8 (Lv R9 (Lv R10 R11)))))))))))
 (h:Fx F→Fx C→Fx R0→Fx R1→Fx R2→Fx R3→Fx R4→Fx R5→Fx R6→Fx R7→Fx R8→Fx R9→Fx R10→Fx R11→Bdy→p∧Sl R0∧Sl R1∧Sl R2∧Sl R3∧Sl R4∧Sl R5∧Sl R6∧Sl R7∧Sl R8∧Sl R9∧Sl R10∧Sl R11:=by
  intro hF hC h0 h1 h2 h3 h4 h5 h6 h7 h8 h9 h10 h11 _;refine⟨?_,?_⟩
  focus
   (repeat' (first|(with_reducible first|refine stp ?_|apply gx1|apply gx2|apply gx3|apply gx4|apply gx5|apply gx6|apply gx7|refine gw0 hC.h.1 ?_ ?_|refine gw0 hC.h.2.1 ?_ ?_|refine gw0 hC.h.2.2.1 ?_ ?_|refine gw0 hC.h.2.2.2.1 ?_ ?_|refine gw0 hC.h.2.2.2.2.1 ?_ ?_)|(with_reducible refine Zbf ?_;intro _)|((with_reducible refine gE ?_);(try simp (disch:=omega) only [go_sem,hF.h])<;>first|rfl|omega)|with_reducible refine Zaf (by decide) ?_))
   (all_goals repeat' (rename_i zz;first|(have zb:Bdy:=zz;first|exact h0.h|exact h1.h|exact h2.h|exact h3.h|exact h4.h|exact h5.h|exact h6.h|exact h7.h|exact h8.h|exact h9.h|exact h10.h|exact h11.h)|revert zz))
  (repeat' first|refine⟨?_,?_⟩|exact sl0|exact sl1)):p :=
 (h ⟨hfx⟩ ⟨hcx⟩ ⟨r.x⟩ ⟨r.y.x⟩ ⟨r.y.y.x⟩ ⟨r.y.y.y.x⟩ ⟨r.y.y.y.y.x⟩ ⟨r.y.y.y.y.y.x⟩ ⟨r.y.y.y.y.y.y.x⟩ ⟨r.y.y.y.y.y.y.y.x⟩ ⟨r.y.y.y.y.y.y.y.y.x⟩ ⟨r.y.y.y.y.y.y.y.y.y.x⟩ ⟨r.y.y.y.y.y.y.y.y.y.y.x⟩ ⟨r.y.y.y.y.y.y.y.y.y.y.y⟩ ⟨⟩).1
theorem wkvd {F C D p R0 R1 R2 R3 R4 R5 R6 R7 R8 R9 R10 R11:Prop} (hfx:F) (hcx:C) (hdx:D) (r:Lv R0 (Lv R1 (Lv R2 (Lv R3 (Lv R4 (Lv R5 (Lv R6 (Lv R7 (Lv R8 (Lv R9 (Lv R10 R11)))))))))))
 (h:Fx F→Fx C→Fx D→Fx R0→Fx R1→Fx R2→Fx R3→Fx R4→Fx R5→Fx R6→Fx R7→Fx R8→Fx R9→Fx R10→Fx R11→Bdy→p∧Sl R0∧Sl R1∧Sl R2∧Sl R3∧Sl R4∧Sl R5∧Sl R6∧Sl R7∧Sl R8∧Sl R9∧Sl R10∧Sl R11:=by
  intro hF hC hD h0 h1 h2 h3 h4 h5 h6 h7 h8 h9 h10 h11 _;refine⟨?_,?_⟩
  focus
   (repeat' (first|(with_reducible first|refine stp ?_|apply gx1|apply gx2|apply gx3|apply gx4|apply gx5|apply gx6|apply gx7|apply gy8|apply gz2|apply gz3|refine gw0 hC.h.1 ?_ ?_|refine gw3 hC.h.1 ?_ ?_ ?_|refine gw0 hC.h.2.1 ?_ ?_|refine gw3 hC.h.2.1 ?_ ?_ ?_|refine gw0 hC.h.2.2.1 ?_ ?_|refine gw3 hC.h.2.2.1 ?_ ?_ ?_|refine gw0 hC.h.2.2.2.1 ?_ ?_|refine gw3 hC.h.2.2.2.1 ?_ ?_ ?_|refine gw0 hC.h.2.2.2.2.1 ?_ ?_|refine gw3 hC.h.2.2.2.2.1 ?_ ?_ ?_|refine gw0 hC.h.2.2.2.2.2.1 ?_ ?_|refine gw3 hC.h.2.2.2.2.2.1 ?_ ?_ ?_|refine gw0 hC.h.2.2.2.2.2.2.1 ?_ ?_|refine gw3 hC.h.2.2.2.2.2.2.1 ?_ ?_ ?_|refine gw0 hC.h.2.2.2.2.2.2.2.1 ?_ ?_|refine gw3 hC.h.2.2.2.2.2.2.2.1 ?_ ?_ ?_|refine gw0 hC.h.2.2.2.2.2.2.2.2.1 ?_ ?_|refine gw3 hC.h.2.2.2.2.2.2.2.2.1 ?_ ?_ ?_)|(with_reducible refine Zbf ?_;intro _)|((with_reducible refine gE ?_);(try simp (disch:=omega) only [go_sem,hF.h])<;>first|rfl|omega)|with_reducible refine Zaf (by decide) ?_|((with_reducible apply gy1);iterate 3 focus rfl)|((with_reducible apply gy2);iterate 3 focus rfl)|((with_reducible apply gy3);iterate 2 focus rfl)|((with_reducible apply gy4);iterate 1 focus rfl)|((with_reducible apply gy5);iterate 4 focus rfl)|((with_reducible apply gy5c);iterate 4 focus rfl)|((with_reducible apply gy6);iterate 4 focus rfl)|((with_reducible apply Zc0);iterate 3 focus rfl)|((with_reducible apply Zcz);iterate 1 focus rfl)|((with_reducible apply gy7);iterate 1 focus rfl)|((with_reducible apply gy9);(focus ((with_reducible refine gE ?_);(try simp (disch:=omega) only [go_sem,hF.h])<;>rfl)))|((with_reducible apply gz1);(focus first|rfl|(simp (disch:=omega) only [go_sem,hF.h];done)))|((with_reducible apply Zfm hD.h.1);(focus kernel_rfl);(focus rfl);(focus kernel_rfl);(focus (simp only [List.length_cons,List.length_nil,Nat.reduceAdd];rfl)))|((with_reducible apply Zfm hD.h.2.1);(focus kernel_rfl);(focus rfl);(focus kernel_rfl);(focus (simp only [List.length_cons,List.length_nil,Nat.reduceAdd];rfl)))|((with_reducible apply Za2 (Zcg []) [] []);(focus kernel_rfl);(focus rfl);(focus kernel_rfl);(focus (simp only [List.length_cons,List.length_nil,Nat.reduceAdd];rfl)))))
   (all_goals repeat' (rename_i zz;first|(have zb:Bdy:=zz;first|exact h0.h|exact h1.h|exact h2.h|exact h3.h|exact h4.h|exact h5.h|exact h6.h|exact h7.h|exact h8.h|exact h9.h|exact h10.h|exact h11.h)|revert zz))
  (repeat' first|refine⟨?_,?_⟩|exact sl0|exact sl1)):p :=
 (h ⟨hfx⟩ ⟨hcx⟩ ⟨hdx⟩ ⟨r.x⟩ ⟨r.y.x⟩ ⟨r.y.y.x⟩ ⟨r.y.y.y.x⟩ ⟨r.y.y.y.y.x⟩ ⟨r.y.y.y.y.y.x⟩ ⟨r.y.y.y.y.y.y.x⟩ ⟨r.y.y.y.y.y.y.y.x⟩ ⟨r.y.y.y.y.y.y.y.y.x⟩ ⟨r.y.y.y.y.y.y.y.y.y.x⟩ ⟨r.y.y.y.y.y.y.y.y.y.y.x⟩ ⟨r.y.y.y.y.y.y.y.y.y.y.y⟩ ⟨⟩).1
theorem wkud {F C p R0 R1 R2 R3 R4 R5 R6 R7 R8 R9 R10 R11:Prop} (hfx:F) (hcx:C) (r:Lv R0 (Lv R1 (Lv R2 (Lv R3 (Lv R4 (Lv R5 (Lv R6 (Lv R7 (Lv R8 (Lv R9 (Lv R10 R11)))))))))))
 (h:Fx F→Fx C→Fx R0→Fx R1→Fx R2→Fx R3→Fx R4→Fx R5→Fx R6→Fx R7→Fx R8→Fx R9→Fx R10→Fx R11→Bdy→p∧Sl R0∧Sl R1∧Sl R2∧Sl R3∧Sl R4∧Sl R5∧Sl R6∧Sl R7∧Sl R8∧Sl R9∧Sl R10∧Sl R11:=by
  intro hF hC h0 h1 h2 h3 h4 h5 h6 h7 h8 h9 h10 h11 _;refine⟨?_,?_⟩
  focus
   (repeat' (first|(with_reducible first|refine stp ?_|apply gx1|apply gx2|apply gx3|apply gx4|apply gx5|apply gx6|apply gx7|apply gy8|apply gz2|apply gz3|refine gw0 hC.h.1 ?_ ?_|refine gw3 hC.h.1 ?_ ?_ ?_|refine gw0 hC.h.2.1 ?_ ?_|refine gw3 hC.h.2.1 ?_ ?_ ?_|refine gw0 hC.h.2.2.1 ?_ ?_|refine gw3 hC.h.2.2.1 ?_ ?_ ?_|refine gw0 hC.h.2.2.2.1 ?_ ?_|refine gw3 hC.h.2.2.2.1 ?_ ?_ ?_|refine gw0 hC.h.2.2.2.2.1 ?_ ?_|refine gw3 hC.h.2.2.2.2.1 ?_ ?_ ?_|refine gw0 hC.h.2.2.2.2.2.1 ?_ ?_|refine gw3 hC.h.2.2.2.2.2.1 ?_ ?_ ?_|refine gw0 hC.h.2.2.2.2.2.2.1 ?_ ?_|refine gw3 hC.h.2.2.2.2.2.2.1 ?_ ?_ ?_|refine gw0 hC.h.2.2.2.2.2.2.2.1 ?_ ?_|refine gw3 hC.h.2.2.2.2.2.2.2.1 ?_ ?_ ?_|refine gw0 hC.h.2.2.2.2.2.2.2.2.1 ?_ ?_|refine gw3 hC.h.2.2.2.2.2.2.2.2.1 ?_ ?_ ?_)|(with_reducible refine Zbf ?_;intro _)|((with_reducible refine gE ?_);(try simp (disch:=omega) only [go_sem,hF.h])<;>first|rfl|omega)|with_reducible refine Zaf (by decide) ?_|((with_reducible apply gy1);iterate 3 focus rfl)|((with_reducible apply gy2);iterate 3 focus rfl)|((with_reducible apply gy3);iterate 2 focus rfl)|((with_reducible apply gy4);iterate 1 focus rfl)|((with_reducible apply gy5);iterate 4 focus rfl)|((with_reducible apply gy5c);iterate 4 focus rfl)|((with_reducible apply gy6);iterate 4 focus rfl)|((with_reducible apply Zc0);iterate 3 focus rfl)|((with_reducible apply Zcz);iterate 1 focus rfl)|((with_reducible apply gy7);iterate 1 focus rfl)|((with_reducible apply gy9);(focus ((with_reducible refine gE ?_);(try simp (disch:=omega) only [go_sem,hF.h])<;>rfl)))|((with_reducible apply gz1);(focus first|rfl|(simp (disch:=omega) only [go_sem,hF.h];done)))))
   (all_goals repeat' (rename_i zz;first|(have zb:Bdy:=zz;first|exact h0.h|exact h1.h|exact h2.h|exact h3.h|exact h4.h|exact h5.h|exact h6.h|exact h7.h|exact h8.h|exact h9.h|exact h10.h|exact h11.h)|revert zz))
  (repeat' first|refine⟨?_,?_⟩|exact sl0|exact sl1)):p :=
 (h ⟨hfx⟩ ⟨hcx⟩ ⟨r.x⟩ ⟨r.y.x⟩ ⟨r.y.y.x⟩ ⟨r.y.y.y.x⟩ ⟨r.y.y.y.y.x⟩ ⟨r.y.y.y.y.y.x⟩ ⟨r.y.y.y.y.y.y.x⟩ ⟨r.y.y.y.y.y.y.y.x⟩ ⟨r.y.y.y.y.y.y.y.y.x⟩ ⟨r.y.y.y.y.y.y.y.y.y.x⟩ ⟨r.y.y.y.y.y.y.y.y.y.y.x⟩ ⟨r.y.y.y.y.y.y.y.y.y.y.y⟩ ⟨⟩).1
end Go.Pg
namespace Go.Pg
open Go Go.RowKit
def nv:List Nat→Nat
 | []=>0
 | x :: l=>x+65536*nv l
def Lm (l:List Nat):Prop:=∀x∈l,x < 65536
def toL (n:Nat):List Nat:=if h:n=0 then [] else n%65536 :: toL (n/65536)
termination_by n
decreasing_by omega
def u16s (l:List Nat):List AV:=l.map λn:Nat=>.v (.int .u16 (n:Int))
abbrev lim (l:List Nat):AV:=.sl 1 (u16s l)
def gN (l:List Nat) (k:Nat):Nat:=l.getD k 0
theorem Za3:toL 0=[]:=by rw [toL];rfl
theorem Ze3 {n:Nat} (h:n≠0):toL n=n%65536 :: toL (n/65536):=by rw [toL,dif_neg h]
theorem Zat (n:Nat):nv (toL n)=n:=by
 induction n using Nat.strongRecOn with
 | _ n ih =>
   by_cases h:n=0
   ·subst h;rw [Za3];rfl
   ·rw [Ze3 h,nv,ih (n/65536) (by omega)];omega
theorem Zau (n:Nat):Lm (toL n):=by
 induction n using Nat.strongRecOn with
 | _ n ih =>
   by_cases h:n=0
   ·subst h;rw [Za3];intro x hx;cases hx
   ·rw [Ze3 h];intro x hx;rcases List.mem_cons.1 hx with rfl | hx
    ·omega
    ·exact ih (n/65536) (by omega) x hx
theorem Lm.tail {x:Nat} {l:List Nat} (h:Lm (x :: l)):Lm l:=λy hy=>h y (List.mem_cons_of_mem _ hy)
theorem Lm.head {x:Nat} {l:List Nat} (h:Lm (x :: l)):x < 65536:=h x (List.mem_cons_self ..)
theorem Lm.take {l:List Nat} (h:Lm l) (k:Nat):Lm (l.take k):=λy hy=>h y (List.mem_of_mem_take hy)
theorem Lm.drop {l:List Nat} (h:Lm l) (k:Nat):Lm (l.drop k):=λy hy=>h y (List.mem_of_mem_drop hy)
theorem Lm.append {a b:List Nat} (ha:Lm a) (hb:Lm b):Lm (a++b):=λy hy=>(List.mem_append.1 hy).elim (ha y) (hb y)
theorem Lm.nil:Lm []:=λx hx=>by cases hx
theorem Lm.one {x:Nat} (h:x < 65536):Lm [x]:=λy hy=>by simp at hy;omega
theorem Lm.zeros (n:Nat):Lm (List.replicate n 0):=λy hy=>by have:=List.eq_of_mem_replicate hy;omega
theorem Zbz {l:List Nat} (h:Lm l) (k:Nat):gN l k < 65536:=by
 unfold gN;rw [List.getD_eq_getElem?_getD];rcases Nat.lt_or_ge k l.length with hk | hk
 ·rw [List.getElem?_eq_getElem hk];exact h _ (List.getElem_mem _)
 ·rw [List.getElem?_eq_none hk];simp
theorem gN_at {l:List Nat} {k:Nat} (h:k < l.length):gN l k=l[k]:=by unfold gN;rw [List.getD_eq_getElem?_getD,List.getElem?_eq_getElem h];rfl
theorem Zd2 {l:List Nat} {k:Nat} (h:l.length≤k):gN l k=0:=by unfold gN;rw [List.getD_eq_getElem?_getD,List.getElem?_eq_none h];rfl
theorem Zci (l:List Nat):(u16s l).length=l.length:=by simp [u16s]
theorem u16s_get {l:List Nat} {k:Nat} (h:k < l.length):(u16s l).getD k .u=.v (.int .u16 (gN l k:Int)):=Zqp h
theorem Zr4 (l:List Nat) (k:Nat):(u16s l).take k=u16s (l.take k):=by simp [u16s,List.map_take]
theorem Zr6 (l:List Nat) (k:Nat):(u16s l).drop k=u16s (l.drop k):=by simp [u16s,List.map_drop]
theorem u16s_set (l:List Nat) (k x:Nat):(u16s l).set k (.v (.int .u16 (x:Int)))=u16s (l.set k x):=by simp [u16s,List.map_set]
theorem u16s_app (a b:List Nat):u16s a++u16s b=u16s (a++b):=by simp [u16s]
theorem Zr5 (a:List Nat) (x:Nat):u16s a++[.v (.int .u16 (x:Int))]=u16s (a++[x]):=by simp [u16s]
theorem u16s_rep (n:Nat):List.replicate n (AV.v (.int .u16 0))=u16s (List.replicate n 0):=by simp [u16s,List.map_replicate]
theorem Zpt:u16s []=[]:=rfl
theorem Zgd {x:Nat} {l:List Nat}:gN (x :: l) 0=x:=rfl
theorem Ze0 {x k:Nat} {l:List Nat}:gN (x :: l) (k+1)=gN l k:=rfl
theorem Zdd (a b:List Nat):nv (a++b)=nv a+65536 ^ a.length*nv b:=by
 induction a with
 | nil=>simp [nv]
 | cons x a ih=>simp only [List.cons_append,nv,ih,List.length_cons,Nat.pow_succ];grind
theorem Zgz {l:List Nat} (h:Lm l):nv l < 65536 ^ l.length:=by
 induction l with
 | nil=>simp [nv]
 | cons x l ih =>
   have h1:=ih h.tail;have h2:=h.head;simp only [nv,List.length_cons,Nat.pow_succ];generalize 65536 ^ l.length=p at *;omega
theorem Zlu (n:Nat):nv (List.replicate n 0)=0:=by
 induction n with
 | zero=>rfl
 | succ n ih=>simp [List.replicate_succ,nv,ih]
theorem Zb3 (l:List Nat) (k:Nat):nv l=nv (l.take k)+65536 ^ k*nv (l.drop k):=by
 rcases Nat.lt_or_ge l.length k with h | h
 ·rw [List.take_of_length_le (by omega),List.drop_eq_nil_of_le (by omega)];simp [nv]
 ·have:=Zdd (l.take k) (l.drop k);rw [List.take_append_drop,List.length_take,Nat.min_eq_left h] at this;exact this
theorem Zay (l:List Nat) (k:Nat):nv (l.take (k+1))=nv (l.take k)+65536 ^ k*gN l k:=by
 rcases Nat.lt_or_ge k l.length with h | h
 ·rw [List.take_succ_eq_append_getElem h,Zdd,List.length_take,Nat.min_eq_left (by omega),gN_at h];simp [nv]
 ·rw [List.take_of_length_le (by omega),List.take_of_length_le (by omega),Zd2 h];simp
theorem Zb5 (l:List Nat) (k:Nat):nv (l.drop k)=gN l k+65536*nv (l.drop (k+1)):=by
 rcases Nat.lt_or_ge k l.length with h | h
 ·rw [List.drop_eq_getElem_cons h,nv,gN_at h]
 ·rw [List.drop_eq_nil_of_le h,List.drop_eq_nil_of_le (by omega),Zd2 h];rfl
theorem nv_pos {l:List Nat} {k:Nat} (h:0 < gN l k):0 < nv l:=by
 induction l generalizing k with
 | nil=>simp [gN] at h
 | cons x l ih =>
   cases k with
   | zero=>simp only [Zgd] at h;simp only [nv];omega
   | succ k=>rw [Ze0] at h;have:=ih h;simp only [nv];omega
theorem canon {l:List Nat} (h:Lm l) (hc:l=[]∨0 < gN l (l.length - 1)):l=toL (nv l):=by
 induction l with
 | nil=>simp [nv,Za3]
 | cons x l ih =>
   have hx:=h.head
   have hl:l=[]∨0 < gN l (l.length - 1):=by
    cases l with
    | nil=>exact .inl rfl
    | cons y l =>
      refine .inr ?_;rcases hc with hc | hc
      ·cases hc
      ·simpa [Ze0] using hc
   have hi:=ih h.tail hl
   have hn:nv (x :: l)≠0:=by
    rcases hc with hc | hc
    ·cases hc
    ·have:=nv_pos hc;omega
   rw [Ze3 hn];simp only [nv];have e1:(x+65536*nv l)%65536=x:=by omega
   have e2:(x+65536*nv l)/65536=nv l:=by omega
   rw [e1,e2,←hi]
theorem Zdw {n:Nat} (h:n≠0):(toL n).length≠0∧0 < gN (toL n) ((toL n).length - 1):=by
 induction n using Nat.strongRecOn with
 | _ n ih =>
   rw [Ze3 h];refine⟨by simp,?_⟩;by_cases h2:n/65536=0
   ·rw [h2,Za3];simp only [List.length_cons,List.length_nil,Nat.zero_add,Nat.sub_self,Zgd];omega
   ·have:=ih (n/65536) (by omega) h2;obtain⟨h3,h4⟩:=this;simp only [List.length_cons,Nat.add_sub_cancel];obtain⟨k,hk⟩:=Nat.exists_eq_succ_of_ne_zero h3;rw [hk] at h4 ⊢
    simpa [Ze0] using h4
theorem Zob {a b:Nat} (h:toL a=toL b):a=b:=by rw [←Zat a,h,Zat]
theorem toL_nil {n:Nat}:toL n=[]↔n=0:=⟨λh=>Zob (h.trans Za3.symm),λh=>by rw [h,Za3]⟩
theorem Zbp {n:Nat}:(toL n).length=0↔n=0:=by rw [List.length_eq_zero_iff];exact toL_nil
theorem Zjm {l:List Nat} {k:Nat} (h:Lm l) (hk:k≤l.length) (hz:∀j,k≤j→gN l j=0) (ht:k=0∨0 < gN l (k - 1)):l.take k=toL (nv l):=by
 have h0:nv (l.drop k)=0:=by
  have key:∀(m:List Nat),(∀j,gN m j=0)→nv m=0:=by
   intro m
   induction m with
   | nil=>intro _;rfl
   | cons x m ih =>
     intro hm;have h1:=hm 0;rw [Zgd] at h1;rw [nv,h1,ih λj=>by rw [←Ze0 (x:=x)];exact hm (j+1)]
  refine key _ λj=>?_;have:=hz (k+j) (by omega);unfold gN at this ⊢
  rwa [List.getD_eq_getElem?_getD,List.getElem?_drop,←List.getD_eq_getElem?_getD]
 have h1:=Zb3 l k;rw [h0,Nat.mul_zero,Nat.add_zero] at h1;rw [h1];refine canon (h.take k) ?_;by_cases hk0:k=0
 ·subst hk0;exact .inl rfl
 ·have ht:=ht.resolve_left hk0;refine .inr ?_;rw [List.length_take,Nat.min_eq_left hk];unfold gN at ht ⊢;rw [List.getD_eq_getElem?_getD] at ht ⊢;rw [List.getElem?_take,if_pos (by omega)];exact ht
theorem Zla {l:List Nat} (h:Lm l):∃k,k≤l.length∧l.take k=toL (nv l):=by
 induction hn:l.length generalizing l with
 | zero=>exact⟨0,by omega,by rw [List.eq_nil_of_length_eq_zero hn];simp [nv,Za3]⟩
 | succ n ih =>
   by_cases hz:gN l n=0
   ·obtain⟨k,h1,h2⟩:=ih (h.take n) (by simp;omega);refine⟨k,by omega,?_⟩;rw [List.take_take,Nat.min_eq_left h1] at h2;rw [h2];congr 1;have h3:=Zay l n;rw [List.take_of_length_le (by omega),hz] at h3;omega
   ·exact⟨l.length,by omega,by rw [List.take_of_length_le (Nat.le_refl _)];exact canon h (.inr (by rw [hn,Nat.add_sub_cancel];omega))⟩
theorem Zax {l:List Nat} (h:Lm l):(toL (nv l)).length≤l.length:=by
 obtain⟨k,h1,h2⟩:=Zla h;rw [←h2,List.length_take];omega
theorem Zai {n k:Nat}:(toL n).length≤k↔n < 65536 ^ k:=by
 constructor
 ·intro h;have h1:=Zgz (Zau n);rw [Zat] at h1;exact Nat.lt_of_lt_of_le h1 (Nat.pow_le_pow_right (by omega) h)
 ·intro h;rcases Nat.lt_or_ge k (toL n).length with h1 | h1
  ·exfalso
   have hn:n≠0:=by
    rintro rfl
    rw [Za3] at h1;simp at h1
   obtain⟨h2,h3⟩:=Zdw hn;have h4:=Zb3 (toL n) ((toL n).length - 1);rw [Zat] at h4
   have h5:0 < nv ((toL n).drop ((toL n).length - 1)):=by
    refine nv_pos (k:=0) ?_;unfold gN at h3 ⊢;rw [List.getD_eq_getElem?_getD,List.getElem?_drop,Nat.add_zero,←List.getD_eq_getElem?_getD];exact h3
   have h6:65536 ^ k≤65536 ^ ((toL n).length - 1):=Nat.pow_le_pow_right (by omega) (by omega);have h7:65536 ^ ((toL n).length - 1)≤65536 ^ ((toL n).length - 1)*nv ((toL n).drop ((toL n).length - 1)):=Nat.le_mul_of_pos_right _ h5;omega
  ·exact h1
theorem Za9 {a b:Nat} (h:a≤b):(toL a).length≤(toL b).length:=by
 rw [Zai];exact Nat.lt_of_le_of_lt h (Zai.1 (Nat.le_refl _))
theorem Zqg {a b:List Nat} {k:Nat} (ha:Lm a) (hb:Lm b) (he:nv (a.drop (k+1))=nv (b.drop (k+1))) (h:gN a k < gN b k):nv a < nv b:=by
 have h1:=Zb3 a k;have h2:=Zb3 b k;rw [Zb5,he] at h1;rw [Zb5] at h2;have h3:=Zgz (ha.take k);have h4:nv (a.take k) < 65536 ^ k:=Nat.lt_of_lt_of_le h3 (Nat.pow_le_pow_right (by omega) (by rw [List.length_take];omega));generalize nv (b.drop (k+1))=r at *;generalize 65536 ^ k=p at *
 have h5:p*(gN a k+65536*r)+p≤p*(gN b k+65536*r):=by
  have:gN a k+65536*r+1≤gN b k+65536*r:=by omega
  have:=Nat.mul_le_mul_left p this
  rwa [Nat.mul_add p _ 1,Nat.mul_one] at this
 omega
theorem nv_eq_of {a b:List Nat} (hl:a.length=b.length) (he:nv a=nv b) (ha:Lm a) (hb:Lm b):a=b:=by
 induction a generalizing b with
 | nil=>cases b with
   | nil=>rfl
   | cons y b=>simp at hl
 | cons x a ih=>cases b with
   | nil=>simp at hl
   | cons y b =>
     have h1:=ha.head;have h2:=hb.head;simp only [nv] at he;have e1:x=y:=by omega
     have e2:nv a=nv b:=by omega
     rw [e1,ih (by simpa using hl) e2 ha.tail hb.tail]
theorem canon' {o:List Nat} (h:Lm o) (hl:o.length≤(toL (nv o)).length):o=toL (nv o) :=
 nv_eq_of (by have:=Zax h;omega) (Zat _).symm h (Zau _)
theorem Zc5 {o:List Nat} {k:Nat} (h:k < o.length) (x:Nat):nv ((o.set k x).take (k+1))=nv (o.take k)+65536 ^ k*x:=by
 have h1:(o.set k x).take (k+1)=o.take k++[x]:=by
  rw [List.take_succ_eq_append_getElem (by simpa using h)];simp only [List.getElem_set_self,List.take_set];rw [List.set_eq_of_length_le (by rw [List.length_take];omega)]
 rw [h1,Zdd,List.length_take,Nat.min_eq_left (by omega)];simp [nv]
theorem Lm.set {o:List Nat} (h:Lm o) (k:Nat) {x:Nat} (hx:x < 65536):Lm (o.set k x):=λy hy=>by
 rcases List.mem_or_eq_of_mem_set hy with h1 | rfl
 ·exact h y h1
 ·exact hx
theorem Zbl {α:Type} {l:List α} {k:Nat} (h:l.length≤k):l.take k=l:=List.take_of_length_le h
theorem Zmo {p o c a b x y:Nat} (h:o+p*c=a+b):(o+p*((c+x+y)%65536))+(p*65536)*((c+x+y)/65536)=(a+p*x)+(b+p*y):=by
 have h2:p*((c+x+y)%65536)+p*65536*((c+x+y)/65536)=p*(c+x+y):=by rw [Nat.mul_assoc,←Nat.mul_add,Nat.mod_add_div]
 rw [Nat.mul_add,Nat.mul_add] at h2;omega
theorem Zpw {p o c a b x y d c':Nat} (h:o+b=a+p*c) (hd:d+c+y=x+65536*c'):(o+p*d)+(b+p*y)=(a+p*x)+(p*65536)*c':=by
 have h2:p*d+p*c+p*y=p*x+p*65536*c':=by
  rw [←Nat.mul_add,←Nat.mul_add,hd,Nat.mul_add,Nat.mul_assoc]
 omega
theorem wrap_u8 {x:Int} (h1:0≤x) (h2:x≤255):IntKind.u8.wrap x=x:=IntWalk.u8_in x ⟨h1,h2⟩
theorem wrap_u16 {x:Int} (h1:0≤x) (h2:x≤65535):IntKind.u16.wrap x=x:=IntWalk.u16_in x ⟨h1,h2⟩
theorem Zip {x:Int} (h1:0≤x) (h2:x≤4294967295):IntKind.u32.wrap x=x:=IntWalk.u32_in x ⟨h1,h2⟩
theorem Zfj {x:Int} (h1:0≤x) (h2:x≤18446744073709551615):IntKind.u64.wrap x=x:=IntWalk.u64_in x ⟨h1,h2⟩
theorem wrap_i32 {x:Int} (h1:-2147483648≤x) (h2:x≤2147483647):IntKind.i32.wrap x=x:=IntWalk.i32_in x ⟨h1,h2⟩
theorem cut_u16 (x:Int):IntKind.u16.wrap x=x%65536:=by rw [IntKind.wrap_u16]
theorem Zdz (a b:Nat):(a:Int).tdiv (b:Int)=((a/b:Nat):Int):=Int.ofNat_tdiv a b |>.symm
theorem Zek (a b:Nat):(a:Int).tmod (b:Int)=((a%b:Nat):Int):=(Int.ofNat_tmod a b).symm
theorem Zbc (x:Nat):IntKind.u16.wrap (x:Int)=((x%65536:Nat):Int):=by rw [cut_u16];omega
theorem Zsc (a:Nat):shrI .u32 (a:Int) 16=((a/65536:Nat):Int):=by
 unfold shrI;rw [Int.fdiv_eq_ediv_of_nonneg _ (by decide)];rfl
theorem Zsb (a:Nat):shrI .u64 (a:Int) 16=((a/65536:Nat):Int):=by
 unfold shrI;rw [Int.fdiv_eq_ediv_of_nonneg _ (by decide)];rfl
theorem Za0 (a b:Nat):(a:Int)+(b:Int)=((a+b:Nat):Int):=(Int.natCast_add a b).symm
theorem Zem (a b:Nat):(a:Int)*(b:Int)=((a*b:Nat):Int):=(Int.natCast_mul a b).symm
attribute [go_sem] wrap_u8 wrap_u16 Zip Zfj wrap_i32 Zsc Zsb Zci u16s_get Zr4 Zr6 u16s_set u16s_app Zr5 u16s_rep
end Go.Pg
