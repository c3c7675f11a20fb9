/- Contracts of the functions that the law reaches, and the rules by which they are walked. They say what a call hands back for every input within the bounds that each names; no other condition. -/
import Derived.Below
import Derived.Laws.OwnMore
import Derived.Laws.Cells
import Derived.Deep.AppendLies
import Derived.Deep.Draws
import Derived.WalkKit
import Derived.WalkSpells
import Derived.WalkLawsBesides
import Derived.Lib.Hide
import Derived.Maps.AppendAt
import Derived.Lib.AppendZeros
import Derived.Laws.BytesString
import Derived.Laws.StructEq
import Derived.MapKept
set_option linter.unusedSimpArgs false
set_option linter.unusedVariables false
set_option maxRecDepth 20000
set_option maxHeartbeats 16000000
namespace Go.Pg
open Go Go.RowKit
inductive AV where
 | v (x:Value)
 | sl (m:Nat) (es:List AV)
 | agg (cs:List AV)
 | tup (vs:List AV)
 | pimm (cs:List AV)
 | fn (f:FuncId) (caps:List AV)
 | ifc (t:TypeId) (x:AV)
 | own (k:Nat) (sv:Value)
 | prow (k:Nat) (sv:Value) (m i off:Nat)
 | pbox (k g off:Nat)
 | view (k:Nat) (sv:Value) (m i len:Nat)
 | mp (k h:Nat)
 | u
 deriving Inhabited
def AV.cells:AV→List AV
 | .agg cs=>cs
 | x=>[x]
def flat (es:List AV):List AV:=es.flatMap AV.cells
def AV.one:AV→Bool
 | .v x=>x.oneCell'
 | .agg _ | .tup _ | .u=>false
 | _=>true
def AV.ok:AV→Bool
 | .agg cs=>cs.all AV.one
 | x=>x.one
abbrev Imm:=Addr→Prop
inductive Rd (w:World) (imm:Imm):AV→Value→Prop
 | v (x:Value):Rd w imm (.v x) x
 | u (x:Value):Rd w imm .u x
 | sl (m:Nat) (es:List AV) (A:Option Addr) (cap:Nat) (f:Nat→Value) (hm:∀e∈es,e.cells.length=m) (hok:∀e∈es,e.ok=true)
  (hcap:es.length≤cap) (hn:0 < es.length→A≠none)
  (hA:∀j,j < es.length*m→∃ad,A=some ad∧imm (ad.add j)∧w.cell? (ad.add j)=some (f j))
  (hr:∀(j:Nat) (a:AV),(flat es)[j]?=some a→Rd w imm a (f j)):Rd w imm (.sl m es) (.slice A es.length cap)
 | agg (cs:List AV) (vs:Array Value) (hl:cs.length=vs.size) (hr:∀(j:Nat) (a:AV) (x:Value),cs[j]?=some a→vs[j]?=some x→Rd w imm a x):Rd w imm (.agg cs) (.agg vs)
 | tup (cs:List AV) (vs:Array Value) (hl:cs.length=vs.size) (hr:∀(j:Nat) (a:AV) (x:Value),cs[j]?=some a→vs[j]?=some x→Rd w imm a x):Rd w imm (.tup cs) (.tuple vs)
 | pimm (cs:List AV) (ad:Addr) (f:Nat→Value) (hA:∀j,j < cs.length→imm (ad.add j)∧w.cell? (ad.add j)=some (f j))
  (hr:∀(j:Nat) (a:AV),cs[j]?=some a→Rd w imm a (f j)):Rd w imm (.pimm cs) (.pointer (some ad))
 | fn (f:FuncId) (cs:List AV) (vs:Array Value) (hl:cs.length=vs.size) (hr:∀(j:Nat) (a:AV) (x:Value),cs[j]?=some a→vs[j]?=some x→Rd w imm a x):Rd w imm (.fn f cs) (.func (.func f) #[] vs)
 | ifc (t:TypeId) (a:AV) (x:Value) (h:Rd w imm a x):Rd w imm (.ifc t a) (.iface t x)
 | own (k:Nat) (sv:Value) (h:sv.oneCell'=true):Rd w imm (.own k sv) sv
theorem Rd.keep {w w':World} {imm imm':Imm} {a:AV} {x:Value} (h:Rd w imm a x) (hi:∀ad,imm ad→imm' ad) (hw:∀ad,imm ad→w'.cell? ad=w.cell? ad):Rd w' imm' a x:=by
 induction h with
 | v x=>exact .v x
 | u x=>exact .u x
 | sl m es A cap f hm hok hcap hn hA _ ih =>
   exact .sl m es A cap f hm hok hcap hn (λj hj=>by
    obtain⟨ad,e,h1,h2⟩:=hA j hj;exact⟨ad,e,hi _ h1,(hw _ h1).trans h2⟩) ih
 | agg cs vs hl _ ih=>exact .agg cs vs hl ih
 | tup cs vs hl _ ih=>exact .tup cs vs hl ih
 | pimm cs ad f hA _ ih=>exact .pimm cs ad f (λj hj=>⟨hi _ (hA j hj).1,(hw _ (hA j hj).1).trans (hA j hj).2⟩) ih
 | fn f cs vs hl _ ih=>exact .fn f cs vs hl ih
 | ifc t a x _ ih=>exact .ifc t a x ih
 | own k sv h=>exact .own k sv h
def ViewOk (sv:Value) (m i len:Nat) (y:Value):Prop :=
 (sv=.slice none 0 0∧i=0∧len=0∧y=sv) ∨
 ∃g n c off cap,sv=.slice (some ⟨g,0,none⟩) n c∧y=.slice (some ⟨g,off,none⟩) len cap∧i+len≤n∧len≤cap∧(0 < len→off=i*m)∧(i=0→off=0∧cap=c)
theorem ViewOk.one {sv:Value} {m i len:Nat} {y:Value} (h:ViewOk sv m i len y):y.oneCell'=true:=by
 rcases h with⟨rfl,_,_,rfl⟩ | ⟨g,n,c,off,cap,_,rfl,_⟩<;>rfl
inductive Rs (w:World) (imm:Imm):AV→Value→Prop
 | pure {a:AV} {x:Value} (h:Rd w imm a x):Rs w imm a x
 | own (k:Nat) (sv:Value) (h:sv.oneCell'=true):Rs w imm (.own k sv) sv
 | prow (k:Nat) (sv:Value) (m i off g n c:Nat) (h:sv=.slice (some ⟨g,0,none⟩) n c):Rs w imm (.prow k sv m i off) (.pointer (some ⟨g,i*m+off,none⟩))
 | pbox (k g off:Nat):Rs w imm (.pbox k g off) (.pointer (some ⟨g,off,none⟩))
 | view (k:Nat) (sv:Value) (m i len:Nat) (y:Value) (h:ViewOk sv m i len y):Rs w imm (.view k sv m i len) y
 | mp (k h:Nat):Rs w imm (.mp k h) (.map (some h))
 | agg (cs:List AV) (vs:Array Value) (hl:cs.length=vs.size) (hr:∀(j:Nat) (a:AV) (x:Value),cs[j]?=some a→vs[j]?=some x→Rs w imm a x):Rs w imm (.agg cs) (.agg vs)
 | tup (cs:List AV) (vs:Array Value) (hl:cs.length=vs.size) (hr:∀(j:Nat) (a:AV) (x:Value),cs[j]?=some a→vs[j]?=some x→Rs w imm a x):Rs w imm (.tup cs) (.tuple vs)
 | fn (f:FuncId) (cs:List AV) (vs:Array Value) (hl:cs.length=vs.size) (hr:∀(j:Nat) (a:AV) (x:Value),cs[j]?=some a→vs[j]?=some x→Rs w imm a x):Rs w imm (.fn f cs) (.func (.func f) #[] vs)
 | ifc (t:TypeId) (a:AV) (x:Value) (h:Rs w imm a x):Rs w imm (.ifc t a) (.iface t x)
theorem Rs.keep {w w':World} {imm imm':Imm} {a:AV} {x:Value} (h:Rs w imm a x) (hi:∀ad,imm ad→imm' ad) (hw:∀ad,imm ad→w'.cell? ad=w.cell? ad):Rs w' imm' a x:=by
 induction h with
 | pure h=>exact .pure (h.keep hi hw)
 | own k sv h=>exact .own k sv h
 | prow k sv m i off g n c h=>exact .prow k sv m i off g n c h
 | pbox k g off=>exact .pbox k g off
 | view k sv m i len y h=>exact .view k sv m i len y h
 | mp k h=>exact .mp k h
 | agg cs vs hl _ ih=>exact .agg cs vs hl ih
 | tup cs vs hl _ ih=>exact .tup cs vs hl ih
 | fn f cs vs hl _ ih=>exact .fn f cs vs hl ih
 | ifc t a x _ ih=>exact .ifc t a x ih
section inv
variable {w:World} {imm:Imm}
theorem Rs.v_inv {x y:Value} (h:Rs w imm (.v x) y):y=x:=by
 cases h with
 | pure h=>cases h;rfl
theorem Rs.own_inv {k:Nat} {sv y:Value} (h:Rs w imm (.own k sv) y):y=sv:=by
 cases h with
 | pure h=>cases h;rfl
 | own=>rfl
theorem Rs.own_one {k:Nat} {sv y:Value} (h:Rs w imm (.own k sv) y):sv.oneCell'=true:=by
 cases h with
 | pure h=>cases h with | own _ _ h=>exact h
 | own _ _ h=>exact h
theorem Rs.pbox_inv {k g off:Nat} {y:Value} (h:Rs w imm (.pbox k g off) y):y=.pointer (some ⟨g,off,none⟩):=by
 cases h with
 | pure h=>cases h
 | pbox=>rfl
theorem Rs.view_inv {k m i len:Nat} {sv y:Value} (h:Rs w imm (.view k sv m i len) y):ViewOk sv m i len y:=by
 cases h with
 | pure h=>cases h
 | view _ _ _ _ _ _ h=>exact h
theorem Rs.mp_inv {k g:Nat} {y:Value} (h:Rs w imm (.mp k g) y):y=.map (some g):=by
 cases h with
 | pure h=>cases h
 | mp=>rfl
theorem Rs.prow_inv {k m i off:Nat} {sv y:Value} (h:Rs w imm (.prow k sv m i off) y):∃g n c,sv=.slice (some ⟨g,0,none⟩) n c∧y=.pointer (some ⟨g,i*m+off,none⟩):=by
 cases h with
 | pure h=>cases h
 | prow _ _ _ _ _ g n c h=>exact⟨g,n,c,h,rfl⟩
theorem Rs.agg_inv {cs:List AV} {y:Value} (h:Rs w imm (.agg cs) y):∃vs,y=.agg vs∧cs.length=vs.size∧∀(j:Nat) (a:AV) (x:Value),cs[j]?=some a→vs[j]?=some x→Rs w imm a x:=by
 cases h with
 | pure h=>cases h with
   | agg _ vs hl hr=>exact⟨vs,rfl,hl,λj a x h1 h2=>.pure (hr j a x h1 h2)⟩
 | agg _ vs hl hr=>exact⟨vs,rfl,hl,hr⟩
theorem Rs.tup_inv {cs:List AV} {y:Value} (h:Rs w imm (.tup cs) y):∃vs,y=.tuple vs∧cs.length=vs.size∧∀(j:Nat) (a:AV) (x:Value),cs[j]?=some a→vs[j]?=some x→Rs w imm a x:=by
 cases h with
 | pure h=>cases h with
   | tup _ vs hl hr=>exact⟨vs,rfl,hl,λj a x h1 h2=>.pure (hr j a x h1 h2)⟩
 | tup _ vs hl hr=>exact⟨vs,rfl,hl,hr⟩
theorem Rs.fn_inv {f:FuncId} {cs:List AV} {y:Value} (h:Rs w imm (.fn f cs) y):∃vs,y=.func (.func f) #[] vs∧cs.length=vs.size∧∀(j:Nat) (a:AV) (x:Value),cs[j]?=some a→vs[j]?=some x→Rs w imm a x:=by
 cases h with
 | pure h=>cases h with
   | fn _ _ vs hl hr=>exact⟨vs,rfl,hl,λj a x h1 h2=>.pure (hr j a x h1 h2)⟩
 | fn _ _ vs hl hr=>exact⟨vs,rfl,hl,hr⟩
theorem Rs.ifc_inv {t:TypeId} {a:AV} {y:Value} (h:Rs w imm (.ifc t a) y):∃x,y=.iface t x∧Rs w imm a x:=by
 cases h with
 | pure h=>cases h with
   | ifc _ _ x h=>exact⟨x,rfl,.pure h⟩
 | ifc _ _ x h=>exact⟨x,rfl,h⟩
theorem Rs.sl_inv {m:Nat} {es:List AV} {y:Value} (h:Rs w imm (.sl m es) y):∃(A:Option Addr) (cap:Nat) (f:Nat→Value),y=.slice A es.length cap∧es.length≤cap∧(∀e∈es,e.cells.length=m)∧(∀e∈es,e.ok=true)∧(0 < es.length→A≠none) ∧
 (∀j,j < es.length*m→∃ad,A=some ad∧imm (ad.add j)∧w.cell? (ad.add j)=some (f j))∧(∀(j:Nat) (a:AV),(flat es)[j]?=some a→Rd w imm a (f j)):=by
 cases h with
 | pure h=>cases h with
   | sl _ _ A cap f hm hok hcap hn hA hr=>exact⟨A,cap,f,rfl,hcap,hm,hok,hn,hA,hr⟩
theorem Rs.pimm_inv {cs:List AV} {y:Value} (h:Rs w imm (.pimm cs) y):∃(ad:Addr) (f:Nat→Value),y=.pointer (some ad)∧(∀j,j < cs.length→imm (ad.add j)∧w.cell? (ad.add j)=some (f j))∧(∀(j:Nat) (a:AV),cs[j]?=some a→Rd w imm a (f j)):=by
 cases h with
 | pure h=>cases h with
   | pimm _ ad f hA hr=>exact⟨ad,f,rfl,hA,hr⟩
end inv
structure Blw (B:Nat) (w w':World):Prop extends Below B w w' where
 drawn:w.drawn≤w'.drawn
theorem Blw.refl (B:Nat) (w:World):Blw B w w:=⟨Below.refl _ _,Nat.le_refl _⟩
theorem Blw.trans {B:Nat} {a b c:World} (h:Blw B a b) (k:Blw B b c):Blw B a c:=⟨h.toBelow.trans k.toBelow,Nat.le_trans h.drawn k.drawn⟩
theorem Blw.mono {B B':Nat} {w w':World} (h:Blw B w w') (hB:B'≤B):Blw B' w w':=⟨h.toBelow.mono hB,h.drawn⟩
theorem Blw.drew {B:Nat} {a w:World} (h:Blw B a w):Blw B a w.drew:=⟨h.toBelow.drew,Nat.le_trans h.drawn (Nat.le_succ _)⟩
theorem Blw.grown {B:Nat} {a w w':World} {row:Option Nat} (h:Blw B a w) (hg:w.grownBy w' row) (hd:w.drawn≤w'.drawn) (hB:B≤w.heap.size) (hr:∀k,row=some k→B≤k):Blw B a w':=⟨h.toBelow.grown hg hB hr,Nat.le_trans h.drawn hd⟩
inductive MKey where
 | s (b:ByteArray)
 | l (ns:List Int)
def MKey.val:MKey→Value
 | .s b=>.string b
 | .l ns=>.agg (ns.map (Value.int .i64)).toArray
def MKey.like:MKey→MKey→Bool
 | .s _,.s _=>true
 | .l a,.l b=>a.length == b.length
 | _,_=>false
instance:Coe ByteArray MKey:=⟨.s⟩
instance:DecidableEq MKey:=λa b=>match a,b with
 | .s x,.s y=>if h:x=y then .isTrue (by rw [h]) else .isFalse λg=>by cases g;exact h rfl
 | .l x,.l y=>if h:x=y then .isTrue (by rw [h]) else .isFalse λg=>by cases g;exact h rfl
 | .s _,.l _=>.isFalse λg=>by cases g
 | .l _,.s _=>.isFalse λg=>by cases g
def Born (es:Array MapEntry) (clock:Nat):Prop:=(∀x∈es.toList,x.born < clock)∧(es.toList.map (·.born)).Nodup
inductive Ent where
 | row (sv:Value) (e:TypeId) (m:Nat) (es:List AV) (pub:Nat)
 | box (g:Nat) (e:TypeId) (cs:List AV) (pub:Bool)
 | map (h:Nat) (es:List (MKey × AV))
def Ent.blk:Ent→Option Nat
 | .row sv _ _ _ _=>sv.ownBlock
 | .box g _ _ _=>some g
 | .map h _=>some h
def EntOk (B:Nat) (w:World) (imm:Imm):Ent→Prop
 | .row sv e m es pub=>∃xs:List Value,w.ownsRow B e m sv es.length xs∧(∀x∈es,x.cells.length=m)∧(∀x∈es,x.ok=true)∧(∀(j:Nat) (a:AV) (x:Value),(flat es)[j]?=some a→xs[j]?=some x→Rd w imm a x) ∧
  pub≤es.length∧(∀ad,imm ad→sv.ownBlock=some ad.block→ad.off < pub*m)∧(∀g off,sv.ownBlock=some g→off < pub*m→imm ⟨g,off,none⟩)
 | .box g e cs pub=>∃cur:Array Value,w.heap[g]?=some (.cells cur e (0,0))∧B≤g∧cs.length=cur.size∧(∀x∈cs,x.one=true)∧(∀(j:Nat) (a:AV) (x:Value),cs[j]?=some a→cur[j]?=some x→Rs w imm a x) ∧
  (∀ad,imm ad→ad.block=g→pub=true)∧(pub=true→∀off,off < cs.length→imm ⟨g,off,none⟩)
 | .map h es=>∃(arr:Array MapEntry) (clock:Nat),w.heap[h]?=some (.map arr clock)∧B≤h∧es.length=arr.size∧(∀(j:Nat) (a:MKey × AV) (x:MapEntry),es[j]?=some a→arr[j]?=some x→x.key=a.1.val∧Rd w imm a.2 x.val)∧Born arr clock ∧
  (∀ad,imm ad→ad.block≠h)
abbrev Mem:=Nat→Option Ent
structure MemOk (B:Nat) (σ:Mem) (w:World) (imm:Imm):Prop where
 ent:∀k e,σ k=some e→EntOk B w imm e
 apart:∀k k' e e' b,σ k=some e→σ k'=some e'→e.blk=some b→e'.blk=some b→k=k'
 lt:∀ad,imm ad→ad.block < w.heap.size
 spot:∀ad,imm ad→ad.spot=none
theorem EntOk.blk_lt {B:Nat} {w:World} {imm:Imm} {e:Ent} (h:EntOk B w imm e) {b:Nat} (hb:e.blk=some b):B≤b∧b < w.heap.size:=by
 cases e with
 | row sv e m es pub =>
   obtain⟨xs,hown,_⟩:=h;exact hown.lt b hb
 | box g e cs pub =>
   obtain⟨cur,hh,hB,_⟩:=h;have:g=b:=by simpa [Ent.blk] using hb
   subst this;refine⟨hB,?_⟩;rcases Nat.lt_or_ge g w.heap.size with hlt | hge
   ·exact hlt
   ·rw [Array.getElem?_eq_none hge] at hh;cases hh
 | map g es =>
   obtain⟨arr,clock,hh,hB,_⟩:=h;have:g=b:=by simpa [Ent.blk] using hb
   subst this;refine⟨hB,?_⟩;rcases Nat.lt_or_ge g w.heap.size with hlt | hge
   ·exact hlt
   ·rw [Array.getElem?_eq_none hge] at hh;cases hh
theorem Zc5 {w w':World} {row:Option Nat} (hg:w.grownBy w' row) {ad:Addr} (hlt:ad.block < w.heap.size) (hne:some ad.block≠row):w'.cell? ad=w.cell? ad :=
 World.cell?_of_block (hg.block _ hlt hne)
theorem EntOk.keep {B:Nat} {w w':World} {imm imm':Imm} {e:Ent} (h:EntOk B w imm e) {row:Option Nat} (hg:w.grownBy w' row) (hne:e.blk=none∨e.blk≠row)
 (hi:∀ad,imm ad→imm' ad) (hw:∀ad,imm ad→w'.cell? ad=w.cell? ad) (hnew:∀ad,imm' ad→imm ad∨e.blk≠some ad.block):EntOk B w' imm' e:=by
 cases e with
 | row sv e m es pub =>
   obtain⟨xs,hown,hm,hok,hr,hpl,hp,hq⟩:=h;refine⟨xs,hown.kept hg hne,hm,hok,λj a x h1 h2=>(hr j a x h1 h2).keep hi hw,hpl,λad h1 h2=>?_,λg off h1 h2=>hi _ (hq g off h1 h2)⟩;rcases hnew ad h1 with h3 | h3
   ·exact hp ad h3 h2
   ·exact absurd h2 h3
 | box g e cs pub =>
   have hlt:=h.blk_lt (b:=g) rfl;obtain⟨cur,hh,hB,hl,hone,hr,hp,hq⟩:=h;refine⟨cur,?_,hB,hl,hone,λj a x h1 h2=>(hr j a x h1 h2).keep hi hw,λad h1 h2=>?_,λh1 off h2=>hi _ (hq h1 off h2)⟩
   ·rw [hg.block g hlt.2 (by rcases hne with hne | hne;exact absurd hne (by simp [Ent.blk]);exact hne)];exact hh
   ·rcases hnew ad h1 with h3 | h3
    ·exact hp ad h3 h2
    ·exact absurd (by simp [Ent.blk,h2]) h3
 | map g es =>
   have hlt:=h.blk_lt (b:=g) rfl;obtain⟨arr,clock,hh,hB,hl,hr,hbo,hp⟩:=h;refine⟨arr,clock,?_,hB,hl,λj a x h1 h2=>⟨(hr j a x h1 h2).1,(hr j a x h1 h2).2.keep hi hw⟩,hbo,λad h1 h2=>?_⟩
   ·rw [hg.block g hlt.2 (by rcases hne with hne | hne;exact absurd hne (by simp [Ent.blk]);exact hne)];exact hh
   ·rcases hnew ad h1 with h3 | h3
    ·exact hp ad h3 h2
    ·exact absurd (by simp [Ent.blk,h2]) h3
theorem Zi5 {P:Program} (w:World) (base:Nat) (t ty e:TypeId) (i:TypeInfo) (z:Value) (ht:P.underlying t=some (.slice e)) (hi:P.info? e=some i) (hz:i.zero=some z)
 (hzs:z.cells.size=i.size) (v:Value) (n:Nat) (xs:List Value) (hown:w.ownsRow base e i.size v n xs)
 (A:Option Addr) (m c:Nat) (news:List Value) (hl:news.length=m*i.size) (hA:0 < m→A≠none) (hnews:∀ad,A=some ad→∀(j:Nat) (u:Value),news[j]?=some u→w.cell? (ad.add j)=some u) (h1:∀u∈news,u.oneCell'=true)
 (h63:n+m≤maxLen) (hbytes:(n+m)*i.bytes≤140737488355328) (hbase:base≤w.heap.size) :
 ∃v' w',(Builtin.append_ #[t,t] ty #[v,.slice A m c]).run P w=.ok v' w'∧w'.ownsRow base e i.size v' (n+m) (xs++news)∧w.grownBy w' v.ownBlock∧w.drawn≤w'.drawn ∧
  (v'.ownBlock=v.ownBlock∨v'.ownBlock=some w.heap.size)∧(∀g j,v.ownBlock=some g→j < n*i.size→w'.cell? ⟨g,j,none⟩=w.cell? ⟨g,j,none⟩):=by
 have hself:m=0→A=none→∃v' w',(Builtin.append_ #[t,t] ty #[v,.slice A m c]).run P w=.ok v' w'∧w'.ownsRow base e i.size v' (n+m) (xs++news)∧w.grownBy w' v.ownBlock∧w.drawn≤w'.drawn ∧
  (v'.ownBlock=v.ownBlock∨v'.ownBlock=some w.heap.size)∧(∀g j,v.ownBlock=some g→j < n*i.size→w'.cell? ⟨g,j,none⟩=w.cell? ⟨g,j,none⟩):=by
  intro hm hA0;subst hm;subst hA0;have hn:news=[]:=List.eq_nil_of_length_eq_zero (by simpa using hl);subst hn;refine⟨v,w,?_,by simpa using hown,World.grownBy.refl w _,Nat.le_refl _,.inl rfl,λ_ _ _ _=>rfl⟩;rcases hown.2 with⟨rfl,rfl⟩ | ⟨g,cap,cur,rfl,_,_,hnc,_⟩
  ·simp [Builtin.append_,run_underlying ht,sizeOf,typeInfo,hi,Builtin.lenOf,Builtin.firstCells]
  ·simp [Builtin.append_,run_underlying ht,sizeOf,typeInfo,hi,Builtin.lenOf,Builtin.firstCells,hnc,storeCells]
 rcases A with _ | ad
 ·exact hself (by rcases Nat.eq_zero_or_pos m with h | h;exact h;exact absurd rfl (hA h)) rfl
 have hnews:=hnews ad rfl;by_cases hroom:∃g cap,v=.slice (some ⟨g,0,none⟩) n cap∧n+m≤cap
 ·obtain⟨g,cap,rfl,hroom⟩:=hroom;obtain⟨w',hr,ho,hg⟩:=run_append_fits (P:=P) w base t ty e i i.size ht hi rfl g n cap xs hown ad m c news hl hnews h1 hroom;refine⟨_,w',hr,ho,hg,?_,.inl rfl,λg' j hg' hj=>?_⟩
  ·rcases hown.2 with⟨h,_⟩ | ⟨g',cap',cur,h,_,hgc,_,_,hcs,_⟩
   ·simp at h
   ·simp only [Value.slice.injEq,Option.some.injEq,Addr.mk.injEq,and_true,true_and] at h;obtain⟨rfl,rfl⟩:=h;have hr2:=run_append_room (P:=P) w t ty e i ht hi g n cap cur hgc ad m c news hl hnews h1 hroom (by rw [hl,hcs,←Nat.add_mul];exact Nat.mul_le_mul_right _ hroom);rw [hr] at hr2;injection hr2 with _ hr2
    rw [hr2];exact Nat.le_refl _
  have:g=g':=by simpa [Value.ownBlock] using hg'
  subst this;rw [ho.cellAt j (Nat.lt_of_lt_of_le hj (Nat.mul_le_mul_right _ (Nat.le_add_right _ _))),hown.cellAt j hj,List.getElem?_append_left (by rw [hown.1];exact hj)]
 ·by_cases hm:m=0∧v=.slice none 0 0
  ·obtain⟨rfl,rfl⟩:=hm;have hn:news=[]:=List.eq_nil_of_length_eq_zero (by simpa using hl);subst hn;refine⟨.slice none 0 0,w,?_,by simpa using hown,World.grownBy.refl w _,Nat.le_refl _,.inl rfl,λg j hg=>by simp [Value.ownBlock] at hg⟩;simp [Builtin.append_,run_underlying ht,sizeOf,typeInfo,hi,Builtin.lenOf,Builtin.firstCells,loadCells,loadCellsFrom]
  ·
   have h63':n+m≤9223372036854775807:=by simp only [maxLen] at h63;omega
   have key:∀(old:Nat),old < n+m→∀w2:World,w2=w.drew.alloc (.cells (xs.toArray++news.toArray++Builtin.zeroCells z.cells (grownCap w (n+m) old e - (n+m))) e) →
    w2.ownsRow base e i.size (.slice (some ⟨w.heap.size,0,none⟩) (n+m) (grownCap w (n+m) old e)) (n+m) (xs++news)∧(∀row,w.grownBy w2 row)∧∀g j,v.ownBlock=some g→w2.cell? ⟨g,j,none⟩=w.cell? ⟨g,j,none⟩:=by
    rintro old hold w2 rfl
    have hlen:(xs++news).length=(n+m)*i.size:=by rw [List.length_append,hown.1,hl,Nat.add_mul]
    have hge:=grownCap_ge w (n+m) old e;refine⟨⟨hlen,.inr ⟨w.heap.size,_,_,rfl,hbase,heap_alloc_new w.drew _,hge,grownCap_le_maxLen w (n+m) old e h63,?_,?_⟩⟩,λrow=>⟨rfl,rfl,rfl,by simp,λk hk _=>Below.heap_alloc w.drew _ k hk⟩,λg j hg=>?_⟩
    ·have hz2:=size_zeroCells z.cells (grownCap w (n+m) old e - (n+m));have hsum:n+m+(grownCap w (n+m) old e - (n+m))=grownCap w (n+m) old e:=by omega
     rw [Array.size_append,Array.size_append,hz2,hzs];simp only [List.size_toArray];rw [hown.1,hl,←Nat.add_mul,←Nat.add_mul,hsum]
    ·rw [←hlen];simp only [Array.toList_append,List.append_assoc];rw [←List.append_assoc];exact List.take_left
    ·exact World.cell?_alloc_lt w.drew _ ⟨g,j,none⟩ (hown.lt g hg).2
   rcases hown.2 with⟨rfl,rfl⟩ | ⟨g,cap,cur,rfl,hbg,hg,hnc,hcm,hcs,htake⟩
   ·have hx:xs=[]:=List.eq_nil_of_length_eq_zero (by simpa using hown.1);subst hx;have hm0:0 < m:=by rcases Nat.eq_zero_or_pos m with h | h;exact absurd ⟨h,rfl⟩ hm;exact h
    have hr:=run_append_nil (P:=P) w t ty e i z ht hi hz ad m c news hl hnews hm0 (by omega) (by have hb:=hbytes;simp only [Nat.zero_add] at hb;omega);have hk:=key 0 (by omega) _ rfl;simp only [Nat.zero_add,List.nil_append,Array.empty_append] at hk ⊢;exact⟨_,_,hr,hk.1,hk.2.1 _,Nat.le_succ _,.inr rfl,λg j hg _=>hk.2.2 g j hg⟩
   ·have hnr:¬n+m≤cap:=λh=>hroom ⟨g,cap,rfl,h⟩;have holds:∀(j:Nat) (u:Value),xs[j]?=some u→w.cell? ((⟨g,0,none⟩:Addr).add j)=some u:=hown.cells (g:=g) rfl;have hr:=run_append_grow (P:=P) w t ty e i z ht hi hz ⟨g,0,none⟩ n cap xs hown.1 holds ad m c news hl hnews (by omega) (by omega) (growslice_fits (by omega) hbytes);have hk:=key cap (by omega) _ rfl;exact⟨_,_,hr,hk.1,hk.2.1 _,Nat.le_succ _,.inr rfl,λg j hg _=>hk.2.2 g j hg⟩
def upd {α:Type} (f:Nat→α) (k:Nat) (v:α):Nat→α:=λn=>if n=k then v else f n
theorem Zam {α:Type} (f:Nat→α) (k:Nat) (v:α) (n:Nat):upd f k v n=if n=k then v else f n:=rfl
structure St where
 env:Nat→AV
 mem:Mem
def St.put (st:St) (d:Option Nat) (a:AV):St :=
 match d with
 | some d=>⟨upd st.env d a,st.mem⟩
 | none=>st
def Zag:Mem:=λ_=>none
def AV.ofVal:Value→AV
 | .agg cs=>.agg (cs.toList.map AV.v)
 | x=>.v x
def St.ev (st:St):Operand→AV
 | .tmp t=>st.env t
 | .const v=>AV.ofVal v
 | .global g=>.v (.pointer (some ⟨g,0,none⟩))
 | .func f=>.fn f []
def szOf (P:Program) (t:TypeId):Option Nat:=(P.info? t).map (·.size)
def Zhs (P:Program) (t:TypeId):Option Nat:=(P.info? t).map (·.bytes)
def Zau (P:Program) (t:TypeId):Option Value:=(P.info? t).bind (·.zero)
def Ent.mark:Ent→Ent
 | .row sv e m es _=>.row sv e m es es.length
 | .box g e cs _=>.box g e cs true
 | .map h es=>.map h es
def mark (σ:Mem) (k:Nat):Mem:=upd σ k ((σ k).map Ent.mark)
def marks (σ:Mem):List Nat→Mem
 | []=>σ
 | k :: ks=>marks (mark σ k) ks
mutual
def AV.toks:AV→List Nat
 | .own k _=>[k]
 | .prow k _ _ _ _=>[k]
 | .pbox k _ _=>[k]
 | .view k _ _ _ _=>[k]
 | .mp k _=>[k]
 | .agg cs=>AV.toksL cs
 | .tup cs=>AV.toksL cs
 | .fn _ cs=>AV.toksL cs
 | .ifc _ x=>AV.toks x
 | _=>[]
def AV.toksL:List AV→List Nat
 | []=>[]
 | a :: r=>AV.toks a++AV.toksL r
end
def Zgi (σ:Mem):AV→Prop
 | .own k sv=>match σ k with
   | some (.row sv' _ _ es pub)=>sv=sv'∧pub=es.length
   | _=>False
 | .view k sv m _ _=>match σ k with
   | some (.row sv' _ m' es pub)=>sv=sv'∧m=m'∧pub=es.length
   | _=>False
 | .v _ | .sl _ _ | .pimm _ | .u=>True
 | _=>False
def Zld (σ:Mem):AV→AV
 | .own k _=>match σ k with
   | some (.row _ _ m es _)=>.sl m es
   | _=>.u
 | .view k _ _ i len=>match σ k with
   | some (.row _ _ m es _)=>.sl m ((es.take (i+len)).drop i)
   | _=>.u
 | x=>x
def Zjz (σ:Mem):List AV→Prop
 | []=>True
 | a :: r=>Zgi σ a∧Zjz σ r
mutual
def Zf8 (σ:Mem):AV→Prop
 | .own k sv=>Zgi σ (.own k sv)
 | .view k sv m i len=>Zgi σ (.view k sv m i len)
 | .pbox k g off=>match σ k with
   | some (.box g' _ cs pub)=>g=g'∧pub=true∧off≤cs.length∧Zjz σ cs
   | _=>False
 | .prow _ _ _ _ _=>False
 | .mp _ _=>False
 | .agg cs=>Zdl σ cs
 | .tup cs=>Zdl σ cs
 | .fn _ cs=>Zdl σ cs
 | .ifc _ x=>Zf8 σ x
 | _=>True
def Zdl (σ:Mem):List AV→Prop
 | []=>True
 | a :: r=>Zf8 σ a∧Zdl σ r
end
mutual
def pubV (σ:Mem):AV→AV
 | .own k sv=>Zld σ (.own k sv)
 | .view k sv m i len=>Zld σ (.view k sv m i len)
 | .pbox k _ off=>match σ k with
   | some (.box _ _ cs _)=>.pimm ((cs.map (Zld σ)).drop off)
   | _=>.u
 | .agg cs=>.agg (Zdq σ cs)
 | .tup cs=>.tup (Zdq σ cs)
 | .fn f cs=>.fn f (Zdq σ cs)
 | .ifc t x=>.ifc t (pubV σ x)
 | x=>x
def Zdq (σ:Mem):List AV→List AV
 | []=>[]
 | a :: r=>pubV σ a :: Zdq σ r
end
inductive Res where
 | val (a:AV) (ks:List Nat)
 | box (e:TypeId) (cs:List AV)
 | row (e:TypeId) (m:Nat) (es:List AV) (ks:List Nat)
 | app (k:Nat) (news:List AV) (ks:List Nat)
 | appv (k n:Nat) (news:List AV)
 | sto (a:AV) (k:Nat) (ent:Ent) (ks:List Nat)
 | call (f:FuncId) (args:List AV)
 | mapn
 | need (p:Prop) (r:Res)
 | bad
structure Cx where
 B:Nat
 w0:World
 imm0:Imm
structure Mx (c:Cx) (σ:Mem) (w:World) (imm:Imm):Prop where
 ok:MemOk c.B σ w imm
 below:Blw c.B c.w0 w
 lt:c.B≤w.heap.size
 old:∀ad,c.imm0 ad→imm ad
 new:∀ad,imm ad→c.imm0 ad∨c.B≤ad.block
 cells:∀ad,c.imm0 ad→w.cell? ad=c.w0.cell? ad
structure Rel (c:Cx) (n:Nat) (st:St) (a:Act) (w:World) (imm:Imm):Prop where
 env:∀t,Rs w imm (st.env t) (a.tmps.getD t undef)
 size:a.tmps.size=n
 defers:a.defers=[]
 mem:Mx c st.mem w imm
def Keeps (w:World) (imm:Imm) (w':World) (imm':Imm):Prop:=∀ad,imm ad→imm' ad∧w'.cell? ad=w.cell? ad
theorem Keeps.rs {w w':World} {imm imm':Imm} (h:Keeps w imm w' imm') {a:AV} {x:Value} (hr:Rs w imm a x):Rs w' imm' a x:=hr.keep (λad h1=>(h ad h1).1) (λad h1=>(h ad h1).2)
theorem Keeps.rd {w w':World} {imm imm':Imm} (h:Keeps w imm w' imm') {a:AV} {x:Value} (hr:Rd w imm a x):Rd w' imm' a x:=hr.keep (λad h1=>(h ad h1).1) (λad h1=>(h ad h1).2)
theorem Keeps.refl (w:World) (imm:Imm):Keeps w imm w imm:=λ_ h=>⟨h,rfl⟩
theorem Keeps.trans {w w1 w2:World} {i i1 i2:Imm} (h:Keeps w i w1 i1) (k:Keeps w1 i1 w2 i2):Keeps w i w2 i2:=λad h1=>⟨(k ad (h ad h1).1).1,(k ad (h ad h1).1).2.trans (h ad h1).2⟩
def ACall (P:Program) (f:FuncId) (args:List AV) (σ:Mem) (R:AV→Mem→Prop):Prop :=
 (∀(vs:Array Value) (w:World),(callFunc f vs).run P w=.ok (.enter f vs) w) ∧
 ∀(c:Cx) (w:World) (imm:Imm) (vs:Array Value),Mx c σ w imm→args.length=vs.size→(∀(j:Nat) (a:AV) (x:Value),args[j]?=some a→vs[j]?=some x→Rs w imm a x) →
  Calls P f vs w λe w'=>∃r σ' imm' x,e=.returned x∧R r σ'∧Rs w' imm' r x∧Mx c σ' w' imm'∧Keeps w imm w' imm'
def aRes (P:Program) (tok:Nat) (dst:Option Nat):Res→(St→Prop)→St→Prop
 | .val a ks,K,st=>K (St.put ⟨st.env,marks st.mem ks⟩ dst a)
 | .box e cs,K,st=>∀g:Nat,K (St.put ⟨st.env,upd st.mem tok (some (.box g e cs false))⟩ dst (.pbox tok g 0))
 | .row e m es ks,K,st=>∀sv:Value,K (St.put ⟨st.env,upd (marks st.mem ks) tok (some (.row sv e m es 0))⟩ dst (.own tok sv))
 | .app k news ks,K,st=>match marks st.mem ks k with
   | some (.row _ e m es pub)=>∀sv:Value,K (St.put ⟨st.env,upd (marks st.mem ks) k (some (.row sv e m (es++news) pub))⟩ dst (.own k sv))
   | _=>False
 | .appv k n news,K,st=>match st.mem k with
   | some (.row _ e m es pub)=>∀sv:Value,K (St.put ⟨st.env,upd st.mem k (some (.row sv e m (es.take n++news) pub))⟩ dst (.own k sv))
   | _=>False
 | .sto a k ent ks,K,st=>K (St.put ⟨st.env,upd (marks st.mem ks) k (some ent)⟩ dst a)
 | .call f args,K,st=>ACall P f args st.mem λr σ'=>K (St.put ⟨st.env,σ'⟩ dst r)
 | .mapn,K,st=>∀h:Nat,K (St.put ⟨st.env,upd st.mem tok (some (.map h []))⟩ dst (.mp tok h))
 | .need p r,K,st=>p∧aRes P tok dst r K st
 | .bad,_,_=>False
theorem Act.put_getD (a:Act) (d:Nat) (v:Value) (hd:d < a.tmps.size) (t:Nat):(a.put (some d) v).tmps.getD t undef=if t=d then v else a.tmps.getD t undef:=by
 simp only [Act.put,Array.getD_eq_getD_getElem?,Array.getElem?_setIfInBounds];by_cases h:d=t
 ·subst h;simp [hd]
 ·simp [h,Ne.symm h]
theorem Act.put_size (a:Act) (d:Option Nat) (v:Value):(a.put d v).tmps.size=a.tmps.size:=by cases d<;>simp [Act.put]
theorem Act.put_defers' (a:Act) (d:Option Nat) (v:Value):(a.put d v).defers=a.defers:=by cases d<;>rfl
theorem Rel.step {c:Cx} {n:Nat} {st:St} {a:Act} {w w':World} {imm imm':Imm} (h:Rel c n st a w imm) (hk:Keeps w imm w' imm') {σ':Mem} (hm:Mx c σ' w' imm')
 {dst:Option Nat} (hd:∀d,dst=some d→d < n) {av:AV} {x:Value} (hx:Rs w' imm' av x):Rel c n (St.put ⟨st.env,σ'⟩ dst av) (a.put dst x) w' imm':=by
 cases dst with
 | none=>exact⟨λt=>hk.rs (h.env t),h.size,h.defers,hm⟩
 | some d =>
   refine⟨λt=>?_,by rw [Act.put_size];exact h.size,by rw [Act.put_defers'];exact h.defers,hm⟩;rw [Act.put_getD a d x (by rw [h.size];exact hd d rfl)];show Rs w' imm' (upd st.env d av t) _;rw [Zam];split
   ·exact hx
   ·exact hk.rs (h.env t)
theorem Rel.ev {c:Cx} {n:Nat} {st:St} {a:Act} {w:World} {imm:Imm} (h:Rel c n st a w imm) (x:Operand):Rs w imm (st.ev x) (a.eval x):=by
 cases x with
 | tmp t=>exact h.env t
 | const v =>
   show Rs w imm (AV.ofVal v) v;cases v<;>first
    | exact .pure (.v _)
    | (rename_i cs
       refine .pure (.agg _ cs (by simp) λj a x h1 h2=>?_);simp only [List.getElem?_map,Array.getElem?_toList,h2,Option.map_some,Option.some.injEq] at h1;subst h1;exact .v _)
 | global g=>exact .pure (.v _)
 | func f=>exact .pure (.fn f [] #[] rfl λj a x h1 _=>by simp at h1)
def Ent.len:Ent→Nat
 | .row _ _ m es _=>es.length*m
 | .box _ _ cs _=>cs.length
 | .map _ _=>0
theorem Ent.mark_blk (e:Ent):e.mark.blk=e.blk:=by cases e<;>rfl
theorem EntOk.mark {B:Nat} {w:World} {imm imm':Imm} {e:Ent} (h:EntOk B w imm e) (hi:∀ad,imm ad→imm' ad) (hs:∀ad,imm' ad→imm ad∨(e.blk=some ad.block→ad.off < e.len))
 (hall:∀g off,e.blk=some g→off < e.len→imm' ⟨g,off,none⟩):EntOk B w imm' e.mark:=by
 cases e with
 | row sv e m es pub =>
   obtain⟨xs,hown,hm,hok,hr,hpl,hp,hq⟩:=h;refine⟨xs,hown,hm,hok,λj a x h1 h2=>(hr j a x h1 h2).keep hi (λ_ _=>rfl),Nat.le_refl _,λad h1 h2=>?_,λg off h1 h2=>hall g off h1 h2⟩;rcases hs ad h1 with h3 | h3
   ·exact Nat.lt_of_lt_of_le (hp ad h3 h2) (Nat.mul_le_mul_right _ hpl)
   ·exact h3 h2
 | box g e cs pub =>
   obtain⟨cur,hh,hB,hl,hone,hr,hp,hq⟩:=h;exact⟨cur,hh,hB,hl,hone,λj a x h1 h2=>(hr j a x h1 h2).keep hi (λ_ _=>rfl),λ_ _ _=>rfl,λ_ off h2=>hall g off rfl h2⟩
 | map g es =>
   obtain⟨arr,clock,hh,hB,hl,hr,hbo,hp⟩:=h;refine⟨arr,clock,hh,hB,hl,λj a x h1 h2=>⟨(hr j a x h1 h2).1,(hr j a x h1 h2).2.keep hi (λ_ _=>rfl)⟩,hbo,λad h1 h2=>?_⟩;rcases hs ad h1 with h3 | h3
   ·exact hp ad h3 h2
   ·exact absurd (h3 (by simp [Ent.blk,h2])) (by simp [Ent.len])
theorem Zqz {c:Cx} {σ:Mem} {w:World} {imm:Imm} (h:Mx c σ w imm) (k:Nat):∃imm',Mx c (mark σ k) w imm'∧Keeps w imm w imm':=by
 cases hk:σ k with
 | none =>
   have:mark σ k=σ:=by
    funext j
    simp only [mark,Zam,hk,Option.map_none];split
    ·subst_vars;exact hk.symm
    ·rfl
   rw [this];exact⟨imm,h,Keeps.refl w imm⟩
 | some e =>
   have hlt:=λb hb=>(h.ok.ent k e hk).blk_lt (b:=b) hb
   let imm':Imm:=λad=>imm ad∨(e.blk=some ad.block∧ad.off < e.len∧ad.spot=none)
   have hi:∀ad,imm ad→imm' ad:=λad h1=>.inl h1;refine⟨imm',⟨⟨λj e' hj=>?_,λj j' e1 e2 b h1 h2 h3 h4=>?_,λad h1=>?_,λad h1=>h1.elim (h.ok.spot ad) λh2=>h2.2.2⟩,h.below,h.lt,λad h1=>.inl (h.old ad h1),λad h1=>?_,h.cells⟩,λad h1=>⟨.inl h1,rfl⟩⟩
   ·simp only [mark,Zam] at hj;by_cases hjk:j=k
    ·subst hjk;rw [if_pos rfl,hk] at hj;simp only [Option.map_some,Option.some.injEq] at hj;subst hj;exact(h.ok.ent _ e hk).mark hi (λad h1=>h1.imp id λh2 _=>h2.2.1) (λg off h1 h2=>.inr ⟨h1,h2,rfl⟩)
    ·rw [if_neg hjk] at hj;refine(h.ok.ent j e' hj).keep (World.grownBy.refl w none) ?_ hi (λ_ _=>rfl) λad h1=>?_
     ·rcases hb:e'.blk with _ | b
      ·exact .inl rfl
      ·exact .inr (by simp)
     ·rcases h1 with h1 | ⟨h1,_⟩
      ·exact .inl h1
      ·exact .inr λh2=>hjk (h.ok.apart j k e' e _ hj hk h2 h1)
   ·have conv:∀(i:Nat) (e':Ent),mark σ k i=some e'→∃e'',σ i=some e''∧e''.blk=e'.blk:=by
     intro i e' hi;simp only [mark,Zam] at hi;by_cases hik:i=k
     ·rw [if_pos hik,hk] at hi;simp only [Option.map_some,Option.some.injEq] at hi;exact⟨e,hik ▸ hk,by rw [←hi,Ent.mark_blk]⟩
     ·rw [if_neg hik] at hi;exact⟨e',hi,rfl⟩
    obtain⟨a1,p1,q1⟩:=conv j e1 h1
    obtain⟨a2,p2,q2⟩:=conv j' e2 h2
    exact h.ok.apart j j' a1 a2 b p1 p2 (q1.trans h3) (q2.trans h4)
   ·rcases h1 with h1 | ⟨h1,_⟩
    ·exact h.ok.lt ad h1
    ·exact(hlt _ h1).2
   ·rcases h1 with h1 | ⟨h1,_⟩
    ·exact h.new ad h1
    ·exact .inr (hlt _ h1).1
theorem Zc0 {c:Cx} {w:World} (ks:List Nat):∀{σ:Mem} {imm:Imm},Mx c σ w imm→∃imm',Mx c (marks σ ks) w imm'∧Keeps w imm w imm':=by
 induction ks with
 | nil=>exact λh=>⟨_,h,Keeps.refl w _⟩
 | cons k ks ih =>
   intro σ imm h;obtain⟨i1,h1,k1⟩:=Zqz h k;obtain⟨i2,h2,k2⟩:=ih h1;exact⟨i2,h2,k1.trans k2⟩
theorem Zbb {m:Nat}:∀{l:List AV},(∀x∈l,x.cells.length=m)→(flat l).length=l.length*m
 | [],_=>by simp [flat]
 | a :: r,hl=>by
   have h1:=Zbb (l:=r) λx hx=>hl x (List.mem_cons_of_mem _ hx);have h2:=hl a (List.mem_cons_self ..);simp only [flat,List.flatMap_cons,List.length_append,List.length_cons] at h1 ⊢;rw [h1,h2,Nat.add_mul,Nat.one_mul,Nat.add_comm]
theorem Zcr (a b:List AV):flat (a++b)=flat a++flat b:=by simp [flat]
theorem Znj {m:Nat} {es:List AV} (hm:∀x∈es,x.cells.length=m) {l hh:Nat} (h1:l≤hh) (h2:hh≤es.length) (j:Nat) (b:AV) (hb:(flat ((es.take hh).drop l))[j]?=some b):(flat es)[l*m+j]?=some b:=by
 have e1:flat es=flat (es.take l)++(flat ((es.take hh).drop l)++flat (es.drop hh)):=by
  rw [←Zcr,←Zcr];congr 1;have e2:es.take l=(es.take hh).take l:=by rw [List.take_take,Nat.min_eq_left h1]
  rw [e2,←List.append_assoc,List.take_append_drop,List.take_append_drop]
 have hl1:(flat (es.take l)).length=l*m:=by
  rw [Zbb λe he=>hm e (List.mem_of_mem_take he),List.length_take,Nat.min_eq_left (by omega)]
 have hj:=(List.getElem?_eq_some_iff.1 hb).1;rw [e1,List.getElem?_append_right (by omega),hl1,Nat.add_sub_cancel_left,List.getElem?_append_left hj];exact hb
theorem view_rd {w:World} {imm:Imm} {m:Nat} {es:List AV} {sv y:Value} {i len:Nat} (h:Rd w imm (.sl m es) sv) (hv:ViewOk sv m i len y):Rd w imm (.sl m ((es.take (i+len)).drop i)) y:=by
 obtain⟨A,cap',f,hval,hcap,hm,hok,hn,hA,hr⟩:=(Rs.pure h).sl_inv;rcases hv with⟨rfl,rfl,rfl,rfl⟩ | ⟨g,n,c,off,cap,rfl,rfl,hle,hlc,hoff,_⟩
 ·exact .sl m [] none 0 (λ_=>undef) (by simp) (by simp) (Nat.le_refl _) (by simp) (by simp) (by simp [flat])
 ·cases hval;have hlen:((es.take (i+len)).drop i).length=len:=by simp;omega
  have hsub:∀e∈(es.take (i+len)).drop i,e∈es:=λe he=>List.mem_of_mem_take (List.mem_of_mem_drop he);have key:=Rd.sl (w:=w) (imm:=imm) m ((es.take (i+len)).drop i) (some ⟨g,off,none⟩) cap (λj=>f (i*m+j)) (λe he=>hm e (hsub e he)) (λe he=>hok e (hsub e he)) (by rw [hlen];exact hlc) (λ_=>by simp) (λj hj=>?_) (λj b hb=>hr _ b (Znj hm (by omega) hle j b hb))
  ·rwa [hlen] at key
  ·rw [hlen] at hj
   have hl0:0 < len:=by
    rcases Nat.eq_zero_or_pos len with h5 | h5
    ·rw [h5] at hj;omega
    ·exact h5
   have hmul:i*m+len*m≤es.length*m:=by rw [←Nat.add_mul];exact Nat.mul_le_mul_right _ hle
   obtain⟨ad,h5,h6,h7⟩:=hA (i*m+j) (by omega);cases h5;rw [Addr.add_lit,Nat.zero_add] at h6 h7;rw [hoff hl0];exact⟨_,rfl,by rw [Addr.add_lit];exact h6,by rw [Addr.add_lit];exact h7⟩
theorem Zr3 {c:Cx} {σ:Mem} {w:World} {imm:Imm} (h:Mx c σ w imm) {k:Nat} {sv:Value} {e:TypeId} {m:Nat} {es:List AV} {pub:Nat} (hk:σ k=some (.row sv e m es pub)) (hp:pub=es.length) :
 Rd w imm (.sl m es) sv:=by
 obtain⟨xs,hown,hm,hok,hr,hpl,_,hq⟩:=h.ok.ent k _ hk
 have hfl:(flat es).length=es.length*m:=by
  have:∀l:List AV,(∀x∈l,x.cells.length=m)→(flat l).length=l.length*m:=by
   intro l
   induction l with
   | nil=>intro _;simp [flat]
   | cons a r ih =>
     intro hl;have h1:=ih λx hx=>hl x (List.mem_cons_of_mem _ hx);have h2:=hl a (List.mem_cons_self ..);simp only [flat,List.flatMap_cons,List.length_append,List.length_cons] at h1 ⊢;rw [h1,h2,Nat.add_mul,Nat.one_mul,Nat.add_comm]
  exact this es hm
 rcases hown.2 with⟨rfl,hn⟩ | ⟨g,cap,cur,rfl,hB,hh,hnc,hcm,hcs,htake⟩
 ·have:es=[]:=List.eq_nil_of_length_eq_zero hn;subst this;exact .sl m [] none 0 (λ_=>undef) (by simp) (by simp) (by simp) (by simp) (by simp) (by simp [flat])
 ·refine .sl m es (some ⟨g,0,none⟩) cap (λj=>xs.getD j undef) hm hok hnc (by simp) (λj hj=>?_) (λj a ha=>?_)
  ·have hx:j < xs.length:=by rw [hown.1];exact hj
   refine⟨_,rfl,?_,?_⟩
   ·rw [Addr.add_lit,Nat.zero_add];exact hq g j rfl (by rw [hp];exact hj)
   ·rw [Addr.add_lit,Nat.zero_add,hown.cellAt j hj,List.getElem?_eq_getElem hx];simp [List.getD_eq_getElem?_getD,List.getElem?_eq_getElem hx]
  ·have hj:j < xs.length:=by
    rw [hown.1,←hfl];rcases Nat.lt_or_ge j (flat es).length with h1 | h1
    ·exact h1
    ·rw [List.getElem?_eq_none h1] at ha;cases ha
   have:=hr j a xs[j] ha (List.getElem?_eq_getElem hj)
   simpa [List.getD_eq_getElem?_getD,List.getElem?_eq_getElem hj] using this
theorem Zm8 {c:Cx} {σ:Mem} {w:World} {imm:Imm} (h:Mx c σ w imm) {a:AV} {x:Value} (hr:Rs w imm a x) (ho:Zgi σ a):Rd w imm (Zld σ a) x:=by
 cases a with
 | own k sv =>
   have hx:=hr.own_inv;subst hx;simp only [Zgi,Zld] at ho ⊢;split at ho
   ·rename_i sv' e m es pub hk;obtain⟨rfl,hp⟩:=ho;exact Zr3 h hk hp
   ·exact ho.elim
 | view k sv m i len =>
   have hx:=hr.view_inv;simp only [Zgi,Zld] at ho ⊢;split at ho
   ·rename_i sv' e m' es pub hk;obtain⟨rfl,rfl,hp⟩:=ho;exact view_rd (Zr3 h hk hp) hx
   ·exact ho.elim
 | v y=>cases hr with | pure h=>exact h
 | sl m es=>cases hr with | pure h=>exact h
 | pimm cs=>cases hr with | pure h=>exact h
 | u=>exact .u x
 | _=>simp [Zgi] at ho
theorem Zo6 {σ:Mem}:∀{l:List AV},Zjz σ l→∀(j:Nat) (a:AV),l[j]?=some a→Zgi σ a
 | [],_,j,a,h=>by simp at h
 | b :: r,ho,0,a,h=>by simp at h;subst h;exact ho.1
 | b :: r,ho,j+1,a,h=>Zo6 ho.2 j a (by simpa using h)
theorem Zeh {σ:Mem}:∀{l:List AV} (j:Nat) (a:AV),(Zdq σ l)[j]?=some a→∃b,l[j]?=some b∧a=pubV σ b
 | [],j,a,h=>by simp [Zdq] at h
 | b :: r,0,a,h=>by simp [Zdq] at h;exact⟨b,rfl,h.symm⟩
 | b :: r,j+1,a,h=>Zeh (l:=r) j a (by simpa [Zdq] using h)
theorem Zda {σ:Mem}:∀{l:List AV},Zdl σ l→∀(j:Nat) (a:AV),l[j]?=some a→Zf8 σ a
 | [],_,j,a,h=>by simp at h
 | b :: r,ho,0,a,h=>by simp at h;subst h;exact ho.1
 | b :: r,ho,j+1,a,h=>Zda (l:=r) ho.2 j a (by simpa using h)
theorem Zbt (σ:Mem):∀l:List AV,(Zdq σ l).length=l.length
 | []=>rfl
 | a :: r=>by simp [Zdq,Zbt σ r]
theorem Zgt {c:Cx} {σ:Mem} {w:World} {imm:Imm} (h:Mx c σ w imm) {a:AV} {x:Value} (hr:Rs w imm a x) (ho:Zf8 σ a):Rd w imm (pubV σ a) x:=by
 induction hr with
 | pure hr =>
   rename_i a x
   induction hr with
   | v x=>exact .v x
   | u x=>exact .u x
   | sl m es A cap f hm hok hcap hn hA hr _=>exact .sl m es A cap f hm hok hcap hn hA hr
   | agg cs vs hl hr ih =>
     refine .agg _ vs (by rw [Zbt];exact hl) λj a x h1 h2=>?_;obtain⟨b,hb,rfl⟩:=Zeh j a h1;exact ih j b x hb h2 (Zda ho j b hb)
   | tup cs vs hl hr ih =>
     refine .tup _ vs (by rw [Zbt];exact hl) λj a x h1 h2=>?_;obtain⟨b,hb,rfl⟩:=Zeh j a h1;exact ih j b x hb h2 (Zda ho j b hb)
   | pimm cs ad f hA hr _=>exact .pimm cs ad f hA hr
   | fn f cs vs hl hr ih =>
     refine .fn f _ vs (by rw [Zbt];exact hl) λj a x h1 h2=>?_;obtain⟨b,hb,rfl⟩:=Zeh j a h1;exact ih j b x hb h2 (Zda ho j b hb)
   | ifc t a x _ ih=>exact .ifc t _ x (ih ho)
   | own k sv h1=>exact Zm8 h (Rs.own k sv h1) ho
 | own k sv h1 =>
   have:=Zm8 h (Rs.own k sv h1) ho;exact this
 | view k sv m i len y h1 =>
   have:=Zm8 h (Rs.view k sv m i len y h1) ho;exact this
 | prow k sv m i off g n c h=>exact ho.elim
 | mp k g=>exact ho.elim
 | pbox k g off =>
   simp only [Zf8,pubV] at ho ⊢;split at ho
   ·rename_i g' e cs pub hk;obtain⟨rfl,rfl,hoff,hl⟩:=ho;obtain⟨cur,hh,hB,hlen,hone,hrs,_,hq⟩:=h.ok.ent k _ hk;refine .pimm _ ⟨g,off,none⟩ (λj=>cur.getD (off+j) undef) (λj hj=>?_) (λj a ha=>?_)
    ·simp only [List.length_drop,List.length_map] at hj;rw [Addr.add_lit];refine⟨hq rfl _ (by omega),?_⟩;rw [cell_of_row w g (off+j) cur e (0,0) hh];have:off+j < cur.size:=by omega
     simp [Array.getD_eq_getD_getElem?,Array.getElem?_eq_getElem this]
    ·rw [List.getElem?_drop,List.getElem?_map] at ha;rcases hb:cs[off+j]? with _ | b
     ·rw [hb] at ha;cases ha
     ·rw [hb] at ha;simp only [Option.map_some,Option.some.injEq] at ha;subst ha
      have hlt:off+j < cur.size:=by
       rw [←hlen];rcases Nat.lt_or_ge (off+j) cs.length with h1 | h1
       ·exact h1
       ·rw [List.getElem?_eq_none h1] at hb;cases hb
      have h2:=hrs (off+j) b cur[off+j] hb (Array.getElem?_eq_getElem hlt);have h3:=Zm8 h h2 (Zo6 hl (off+j) b hb)
      simpa [Array.getD_eq_getD_getElem?,Array.getElem?_eq_getElem hlt] using h3
   ·exact ho.elim
 | agg cs vs hl hr ih =>
   refine .agg _ vs (by rw [Zbt];exact hl) λj a x h1 h2=>?_;obtain⟨b,hb,rfl⟩:=Zeh j a h1;exact ih j b x hb h2 (Zda ho j b hb)
 | tup cs vs hl hr ih =>
   refine .tup _ vs (by rw [Zbt];exact hl) λj a x h1 h2=>?_;obtain⟨b,hb,rfl⟩:=Zeh j a h1;exact ih j b x hb h2 (Zda ho j b hb)
 | fn f cs vs hl hr ih =>
   refine .fn f _ vs (by rw [Zbt];exact hl) λj a x h1 h2=>?_;obtain⟨b,hb,rfl⟩:=Zeh j a h1;exact ih j b x hb h2 (Zda ho j b hb)
 | ifc t a x _ ih=>exact .ifc t _ x (ih ho)
theorem Zsx {c:Cx} {σ:Mem} {w w':World} {imm imm':Imm} (h:Mx c σ w imm) {row:Option Nat} (hg:w.grownBy w' row) (hd:w.drawn≤w'.drawn) (hB:∀g,row=some g→c.B≤g) (hcell:∀ad,imm ad→w'.cell? ad=w.cell? ad)
 (k:Nat) (e':Ent) (he:EntOk c.B w' imm' e') (hi:∀ad,imm ad→imm' ad) (hnew:∀ad,imm' ad→imm ad∨(e'.blk=some ad.block∧ad.spot=none))
 (hoth:∀j e2 b,j≠k→σ j=some e2→e2.blk=some b→some b≠row∧e'.blk≠some b):Mx c (upd σ k (some e')) w' imm'∧Keeps w imm w' imm':=by
 refine⟨⟨⟨λj e2 hj=>?_,λj j' e1 e2 b h1 h2 h3 h4=>?_,λad h1=>?_,λad h1=>(hnew ad h1).elim (h.ok.spot ad) λh2=>h2.2⟩,h.below.grown hg hd h.lt (λg hg'=>hB g hg'),Nat.le_trans h.lt hg.size,λad h1=>hi _ (h.old ad h1),λad h1=>?_,λad h1=>(hcell ad (h.old ad h1)).trans (h.cells ad h1)⟩,λad h1=>⟨hi _ h1,hcell ad h1⟩⟩
 ·rw [Zam] at hj;by_cases hjk:j=k
  ·rw [if_pos hjk] at hj;simp only [Option.some.injEq] at hj;exact hj ▸ he
  ·rw [if_neg hjk] at hj;refine(h.ok.ent j e2 hj).keep hg ?_ hi hcell λad h1=>?_
   ·rcases hb:e2.blk with _ | b
    ·exact .inl rfl
    ·exact .inr (hoth j e2 b hjk hj hb).1
   ·rcases hnew ad h1 with h2 | h2
    ·exact .inl h2
    ·exact .inr λh3=>(hoth j e2 _ hjk hj h3).2 h2.1
 ·rw [Zam] at h1 h2;by_cases hjk:j=k<;>by_cases hjk':j'=k
  ·rw [hjk,hjk']
  ·rw [if_pos hjk] at h1;rw [if_neg hjk'] at h2;simp only [Option.some.injEq] at h1;exact absurd (h1 ▸ h3) (hoth j' e2 b hjk' h2 h4).2
  ·rw [if_neg hjk] at h1;rw [if_pos hjk'] at h2;simp only [Option.some.injEq] at h2;exact absurd (h2 ▸ h4) (hoth j e1 b hjk h1 h3).2
  ·rw [if_neg hjk] at h1;rw [if_neg hjk'] at h2;exact h.ok.apart j j' e1 e2 b h1 h2 h3 h4
 ·rcases hnew ad h1 with h2 | h2
  ·exact Nat.lt_of_lt_of_le (h.ok.lt ad h2) hg.size
  ·exact(he.blk_lt h2.1).2
 ·rcases hnew ad h1 with h2 | h2
  ·exact h.new ad h2
  ·exact .inr (he.blk_lt h2.1).1
theorem Zdf {c:Cx} {σ:Mem} {w w':World} {imm:Imm} (h:Mx c σ w imm) {row:Option Nat} (hg:w.grownBy w' row) (hd:w.drawn≤w'.drawn) (hB:∀g,row=some g→c.B≤g) (hcell:∀ad,imm ad→w'.cell? ad=w.cell? ad)
 (k:Nat) (e':Ent) (he:EntOk c.B w' imm e') (hoth:∀j e2 b,j≠k→σ j=some e2→e2.blk=some b→some b≠row∧e'.blk≠some b):Mx c (upd σ k (some e')) w' imm∧Keeps w imm w' imm :=
 Zsx h hg hd hB hcell k e' he (λ_ h1=>h1) (λ_ h1=>.inl h1) hoth
theorem Znu {c:Cx} {σ:Mem} {w w':World} {imm:Imm} (h:Mx c σ w imm) {k:Nat} {sv v':Value} {e:TypeId} {m:Nat} {es news:List AV} {xs xn:List Value} {pub:Nat}
 (hown':w'.ownsRow c.B e m v' (es.length+news.length) (xs++xn)) (hxl:xs.length=es.length*m)
 (hg:w.grownBy w' sv.ownBlock) (hd:w.drawn≤w'.drawn) (hat:v'.ownBlock=sv.ownBlock∨v'.ownBlock=some w.heap.size)
 (hsame:∀g j,sv.ownBlock=some g→j < es.length*m→w'.cell? ⟨g,j,none⟩=w.cell? ⟨g,j,none⟩)
 (hm:∀x∈es++news,x.cells.length=m) (hok:∀x∈es++news,x.ok=true)
 (hr1:∀(j:Nat) (a:AV) (x:Value),(flat es)[j]?=some a→xs[j]?=some x→Rd w imm a x) (hr2:∀(j:Nat) (a:AV) (x:Value),(flat news)[j]?=some a→xn[j]?=some x→Rd w imm a x)
 (hpl:pub≤es.length) (hB:∀g,sv.ownBlock=some g→c.B≤g) (hp:∀ad,imm ad→sv.ownBlock=some ad.block→ad.off < pub*m)
 (hoth:∀j e2 b,j≠k→σ j=some e2→e2.blk=some b→some b≠sv.ownBlock) :
 ∃imm',Mx c (upd σ k (some (.row v' e m (es++news) pub))) w' imm'∧Keeps w imm w' imm':=by
 have hpm:pub*m≤es.length*m:=Nat.mul_le_mul_right _ hpl
 have hcell:∀ad,imm ad→w'.cell? ad=w.cell? ad:=by
  intro ad h1;by_cases hb:sv.ownBlock=some ad.block
  ·have hs:=h.ok.spot ad h1;have:=hsame ad.block ad.off hb (Nat.lt_of_lt_of_le (hp ad h1 hb) hpm);obtain⟨b,o,s⟩:=ad;simp only at hs;subst hs;exact this
  ·exact Zc5 hg (h.ok.lt ad h1) (λh2=>hb h2.symm)
 let imm':Imm:=λad=>imm ad∨(v'.ownBlock=some ad.block∧ad.off < pub*m∧ad.spot=none)
 have hi:∀ad,imm ad→imm' ad:=λad h1=>.inl h1;have hk:∀(a:AV) (x:Value),Rd w imm a x→Rd w' imm' a x:=λa x hr=>hr.keep hi hcell;have hfl:(flat es).length=es.length*m:=Zbb λx hx=>hm x (List.mem_append_left _ hx);refine⟨imm',Zsx h hg hd hB hcell k _ ⟨xs++xn,by rw [List.length_append];exact hown',hm,hok,λj a x h1 h2=>?_,by simp;omega,λad h1 h2=>?_,λg off h1 h2=>.inr ⟨h1,h2,rfl⟩⟩ hi (λad h1=>h1.imp id λh2=>⟨h2.1,h2.2.2⟩) λj e2 b h1 h2 h3=>⟨hoth j e2 b h1 h2 h3,?_⟩⟩
 ·rw [Zcr] at h1;rcases Nat.lt_or_ge j (es.length*m) with hlt | hge
  ·rw [List.getElem?_append_left (by rw [hfl];exact hlt)] at h1;rw [List.getElem?_append_left (by rw [hxl];exact hlt)] at h2;exact hk a x (hr1 j a x h1 h2)
  ·rw [List.getElem?_append_right (by rw [hfl];exact hge),hfl] at h1;rw [List.getElem?_append_right (by rw [hxl];exact hge),hxl] at h2;exact hk a x (hr2 _ a x h1 h2)
 ·rcases h1 with h1 | h1
  ·rcases hat with h3 | h3
   ·exact hp ad h1 (h3.symm.trans h2)
   ·have:=h.ok.lt ad h1;rw [h3] at h2;simp only [Option.some.injEq] at h2;omega
  ·exact h1.2.1
 ·simp only [Ent.blk];rcases hat with h4 | h4
  ·rw [h4];exact λh5=>hoth j e2 b h1 h2 h3 h5.symm
  ·rw [h4];have:=(h.ok.ent j e2 h2).blk_lt h3;simp only [ne_eq,Option.some.injEq];omega
def Zb2 (c:Cx) (n:Nat) (K:St→Prop):Act→World→Prop:=λa w=>∃st imm,K st∧Rel c n st a w imm
section
variable {P:Program} {c:Cx} {n tok:Nat} {st:St} {a:Act} {w:World} {imm:Imm} {K:St→Prop} {o:Oper} {Q:Exit→Act→World→Prop}
theorem Zcz {av:AV} {ks:List Nat} {x:Value} (h:Rel c n st a w imm) (hd:∀d,o.dst=some d→d < n) (hK:aRes P tok o.dst (.val av ks) K st)
 (hx:∀imm',Mx c (marks st.mem ks) w imm'→Keeps w imm w imm'→Rs w imm' av x):o.upon P a (Zb2 c n K) Q (.ok (.value x) w):=by
 obtain⟨i',hm,hk⟩:=Zc0 ks h.mem;exact⟨_,i',hK,h.step hk hm hd (hx i' hm hk)⟩
theorem Zrq {e:TypeId} {cs:List AV} {vs:Array Value} (h:Rel c n st a w imm) (hd:∀d,o.dst=some d→d < n) (hK:aRes P tok o.dst (.box e cs) K st)
 (hl:cs.length=vs.size) (hone:∀x∈cs,x.one=true) (hr:∀(j:Nat) (a:AV) (x:Value),cs[j]?=some a→vs[j]?=some x→Rs w imm a x) :
 o.upon P a (Zb2 c n K) Q (.ok (.value (.pointer (some ⟨w.heap.size,0,none⟩))) (w.alloc (.cells vs e))):=by
 have hcell:∀ad,imm ad→(w.alloc (.cells vs e)).cell? ad=w.cell? ad:=λad h1=>World.cell?_alloc_lt w _ ad (h.mem.ok.lt ad h1);have hkeep:Keeps w imm (w.alloc (.cells vs e)) imm:=λad h1=>⟨h1,hcell ad h1⟩;obtain⟨hm,hk⟩:=Zdf h.mem (World.grownBy_alloc w (.cells vs e) none) (Nat.le_refl _) (by simp) hcell tok (.box w.heap.size e cs false)
  ⟨vs,heap_alloc_new w _,h.mem.lt,hl,hone,λj a x h1 h2=>hkeep.rs (hr j a x h1 h2),λad h1 h2=>absurd (h.mem.ok.lt ad h1) (by omega),λh1=>by cases h1⟩
  (λj e2 b _ hj hb=>⟨by simp,by have:=(h.mem.ok.ent j e2 hj).blk_lt hb;simp [Ent.blk];omega⟩)
 exact⟨_,imm,hK w.heap.size,h.step hk hm hd (.pbox tok w.heap.size 0)⟩
theorem Zvf (h:Rel c n st a w imm) (hd:∀d,o.dst=some d→d < n) (hK:aRes P tok o.dst .mapn K st) :
 o.upon P a (Zb2 c n K) Q (.ok (.value (.map (some w.heap.size))) (w.alloc (.map #[] 0))):=by
 have hcell:∀ad,imm ad→(w.alloc (.map #[] 0)).cell? ad=w.cell? ad:=λad h1=>World.cell?_alloc_lt w _ ad (h.mem.ok.lt ad h1);obtain⟨hm,hk⟩:=Zdf h.mem (World.grownBy_alloc w (.map #[] 0) none) (Nat.le_refl _) (by simp) hcell tok (.map w.heap.size [])
  ⟨#[],0,heap_alloc_new w _,h.mem.lt,rfl,λj a x h1 h2=>by simp at h1,⟨by simp,by simp⟩,λad h1 h2=>absurd (h.mem.ok.lt ad h1) (by omega)⟩
  (λj e2 b _ hj hb=>⟨by simp,by have:=(h.mem.ok.ent j e2 hj).blk_lt hb;simp [Ent.blk];omega⟩)
 exact⟨_,imm,hK w.heap.size,h.step hk hm hd (.mp tok w.heap.size)⟩
theorem Zn0 {e:TypeId} {m:Nat} {es:List AV} {ks:List Nat} {vs:Array Value} {cap:Nat} {i':Imm} (h:Rel c n st a w imm) (hd:∀d,o.dst=some d→d < n) (hK:aRes P tok o.dst (.row e m es ks) K st)
 (hmx:Mx c (marks st.mem ks) w i') (hk1:Keeps w imm w i')
 (hcap:es.length≤cap) (hmax:cap≤maxLen) (hsz:vs.size=cap*m) (hm:∀x∈es,x.cells.length=m) (hok:∀x∈es,x.ok=true)
 (hr:∀(j:Nat) (a:AV) (x:Value),(flat es)[j]?=some a→vs[j]?=some x→Rd w i' a x) :
 o.upon P a (Zb2 c n K) Q (.ok (.value (.slice (some ⟨w.heap.size,0,none⟩) es.length cap)) (w.alloc (.cells vs e))):=by
 have hcell:∀ad,i' ad→(w.alloc (.cells vs e)).cell? ad=w.cell? ad:=λad h1=>World.cell?_alloc_lt w _ ad (hmx.ok.lt ad h1);have hkeep:Keeps w i' (w.alloc (.cells vs e)) i':=λad h1=>⟨h1,hcell ad h1⟩;have hle:es.length*m≤cap*m:=Nat.mul_le_mul_right _ hcap;obtain⟨hmm,hk⟩:=Zdf hmx (World.grownBy_alloc w (.cells vs e) none) (Nat.le_refl _) (by simp) hcell tok (.row (.slice (some ⟨w.heap.size,0,none⟩) es.length cap) e m es 0)
  ⟨vs.toList.take (es.length*m),⟨by rw [List.length_take,show vs.toList.length=cap*m by rw [←hsz];rfl];exact Nat.min_eq_left hle,.inr ⟨w.heap.size,cap,vs,rfl,hmx.lt,heap_alloc_new w _,hcap,hmax,hsz,rfl⟩⟩,hm,hok,
   λj a x h1 h2=>hkeep.rd (hr j a x h1 (by
    rw [List.getElem?_take] at h2;split at h2
    ·simpa using h2
    ·cases h2)),Nat.zero_le _,λad h1 h2=>by
     have:=hmx.ok.lt ad h1;simp [Value.ownBlock] at h2;omega,λg off _ h2=>by simp at h2⟩
  (λj e2 b _ hj hb=>⟨by simp,by have:=(hmx.ok.ent j e2 hj).blk_lt hb;simp [Ent.blk,Value.ownBlock];omega⟩)
 exact⟨_,i',hK _,h.step (hk1.trans hk) hmm hd (.own tok _ rfl)⟩
theorem upon_row {e:TypeId} {m:Nat} {es:List AV} {ks:List Nat} {vs:Array Value} {cap:Nat} (h:Rel c n st a w imm) (hd:∀d,o.dst=some d→d < n) (hK:aRes P tok o.dst (.row e m es ks) K st)
 (hcap:es.length≤cap) (hmax:cap≤maxLen) (hsz:vs.size=cap*m) (hm:∀x∈es,x.cells.length=m) (hok:∀x∈es,x.ok=true)
 (hr:∀imm',Mx c (marks st.mem ks) w imm'→Keeps w imm w imm'→∀(j:Nat) (a:AV) (x:Value),(flat es)[j]?=some a→vs[j]?=some x→Rd w imm' a x) :
 o.upon P a (Zb2 c n K) Q (.ok (.value (.slice (some ⟨w.heap.size,0,none⟩) es.length cap)) (w.alloc (.cells vs e))):=by
 obtain⟨i',hmx,hk1⟩:=Zc0 ks h.mem;exact Zn0 h hd hK hmx hk1 hcap hmax hsz hm hok (hr i' hmx hk1)
theorem Zia {av:AV} {k:Nat} {ent:Ent} {ks:List Nat} {nx:Next} {x:Value} {w':World} (h:Rel c n st a w imm) (hd:∀d,o.dst=some d→d < n) (hK:aRes P tok o.dst (.sto av k ent ks) K st)
 (hnx:nx=.value x∨(nx=.skip∧x=undef))
 (hm:∀imm',Mx c (marks st.mem ks) w imm'→Keeps w imm w imm'→Mx c (upd (marks st.mem ks) k (some ent)) w' imm'∧Keeps w imm' w' imm'∧Rs w' imm' av x) :
 o.upon P a (Zb2 c n K) Q (.ok nx w'):=by
 obtain⟨i',hmx,hk1⟩:=Zc0 ks h.mem;obtain⟨h1,h2,h3⟩:=hm i' hmx hk1;rcases hnx with rfl | ⟨rfl,rfl⟩
 ·exact⟨_,i',hK,h.step (hk1.trans h2) h1 hd h3⟩
 ·exact⟨_,i',hK,h.step (hk1.trans h2) h1 hd h3⟩
theorem Zvg {f:FuncId} {args:List AV} {vs:Array Value} (h:Rel c n st a w imm) (hd:∀d,o.dst=some d→d < n) (hK:aRes P tok o.dst (.call f args) K st)
 (hl:args.length=vs.size) (hr:∀(j:Nat) (a:AV) (x:Value),args[j]?=some a→vs[j]?=some x→Rs w imm a x) :
 o.upon P a (Zb2 c n K) Q (.ok (.enter f vs) w):=by
 refine(hK.2 c w imm vs h.mem hl hr).mono λe w' he=>?_;obtain⟨r,σ',imm',x,rfl,hR,hx,hm,hk⟩:=he;exact⟨_,imm',hR,h.step hk hm hd hx⟩
end
def Zee (cs:List AV) (off:Nat) (new:List AV):List AV:=cs.take off++new++cs.drop (off+new.length)
def Zky:List AV→Res
 | x :: _=>.val x []
 | []=>.bad
def Zix (P:Program) (t:TypeId) (cs:List AV):Res :=
 match szOf P t with
 | some n=>.need (n≤cs.length) (.val (.agg (cs.take n)) [])
 | none=>.bad
def Zfw:TypeDesc→Bool
 | .struct _ | .array _ _=>true
 | _=>false
def Zhu (P:Program) (t:TypeId) (cs:List AV):Res :=
 match P.underlying t with
 | some d=>if Zfw d then Zix P t cs else Zky cs
 | none=>.bad
def Zjr (P:Program) (t:TypeId) (cs:List AV) (off:Nat):Res :=
 match szOf P t with
 | some n=>.val (.agg ((cs.drop off).take n)) []
 | none=>.bad
def Zol (P:Program) (t:TypeId) (cs:List AV) (off:Nat):Res :=
 match P.underlying t with
 | some d=>if Zfw d then Zjr P t cs off else Zky (cs.drop off)
 | none=>.bad
def andI (k:IntKind) (a b:Int):Int:=k.wrap ((BitVec.ofInt k.bits a &&& BitVec.ofInt k.bits b).toNat)
def orI (k:IntKind) (a b:Int):Int:=k.wrap ((BitVec.ofInt k.bits a ||| BitVec.ofInt k.bits b).toNat)
def xorI (k:IntKind) (a b:Int):Int:=k.wrap ((BitVec.ofInt k.bits a ^^^ BitVec.ofInt k.bits b).toNat)
def shlI (k:IntKind) (a b:Int):Int:=k.wrap (a*2 ^ (min b.toNat k.bits))
def shrI (k:IntKind) (a b:Int):Int:=a.fdiv (2 ^ (min b.toNat k.bits))
def Zs6 (op:BinOp) (k:IntKind) (a b:Int):Res :=
 match op with
 | .add=>.val (.v (.int k (k.wrap (a+b)))) []
 | .sub=>.val (.v (.int k (k.wrap (a - b)))) []
 | .mul=>.val (.v (.int k (k.wrap (a*b)))) []
 | .quo=>.need (b≠0) (.val (.v (.int k (k.wrap (a.tdiv b)))) [])
 | .rem=>.need (b≠0) (.val (.v (.int k (a.tmod b))) [])
 | .and=>.val (.v (.int k (andI k a b))) []
 | .or=>.val (.v (.int k (orI k a b))) []
 | .xor=>.val (.v (.int k (xorI k a b))) []
 | .eql=>.val (.v (.bool (a == b))) []
 | .neq=>.val (.v (.bool (a != b))) []
 | .lss=>.val (.v (.bool (decide (a < b)))) []
 | .leq=>.val (.v (.bool (decide (a≤b)))) []
 | .gtr=>.val (.v (.bool (decide (b < a)))) []
 | .geq=>.val (.v (.bool (decide (b≤a)))) []
 | _=>.bad
def Zry (op:BinOp) (a b:ByteArray):Res :=
 match op with
 | .add=>.need (((a.size+b.size:Nat):Int)≤9223372036854775807) (.val (.v (.string (a++b))) [])
 | .eql=>.val (.v (.bool (a.toList == b.toList))) []
 | .neq=>.val (.v (.bool (!(a.toList == b.toList)))) []
 | .lss=>.val (.v (.bool (Op.bytesLess a.toList b.toList))) []
 | .leq=>.val (.v (.bool (Op.bytesLess a.toList b.toList || a.toList == b.toList))) []
 | .gtr=>.val (.v (.bool (!(Op.bytesLess a.toList b.toList || a.toList == b.toList)))) []
 | .geq=>.val (.v (.bool (!Op.bytesLess a.toList b.toList))) []
 | _=>.bad
def Zex (P:Program):List (TypeId × Nat)→List AV→List AV→(Bool→Res)→Res
 | [],_,_,R=>R true
 | (t,off) :: r,xs,ys,R=>match P.underlying t,xs.drop off,ys.drop off with
   | some .bool,.v (.bool a) :: _,.v (.bool b) :: _=>Zex P r xs ys λc=>R ((a == b) && c)
   | some (.int _),.v (.int k a) :: _,.v (.int k' b) :: _=>.need (k=k') (Zex P r xs ys λc=>R ((a == b) && c))
   | some .string,.v (.string a) :: _,.v (.string b) :: _=>Zex P r xs ys λc=>R ((a.toList == b.toList) && c)
   | _,_,_=>.bad
def eqTy (P:Program) (t:TypeId):Bool:=!P.eqGuardType P.depth t && match P.underlying t with
 | some (.struct fs) => !P.stoodInHeld t && fs.toList.all fun f => f.name != "_"
 | some (.array _ _)=>true
 | _=>false
def Zrg (P:Program) (t:TypeId) (xs ys:List AV) (R:Bool→Res):Res :=
 match P.underlying t with
 | some (.struct fs)=>.need (eqTy P t=true) (Zex P (fs.toList.map λf=>(f.type,f.offset)) xs ys R)
 | some (.array n e)=>match szOf P e with
   | some sz=>.need (eqTy P t=true) (Zex P ((List.range n).map λi=>(e,i*sz)) xs ys R)
   | none=>.bad
 | _=>.bad
def Zl8 (P:Program) (op:BinOp) (t:TypeId) (x y:AV):Res :=
 match x,y with
 | .v (.int k a),.v (.int k' b)=>match op with
   | .shl=>.need (0≤b) (.val (.v (.int k (shlI k a b))) [])
   | .shr=>.need (0≤b) (.val (.v (.int k (shrI k a b))) [])
   | op=>.need (k=k') (Zs6 op k a b)
 | .v (.string a),.v (.string b)=>Zry op a b
 | .v (.bool a),.v (.bool b)=>match op,P.underlying t with
   | .eql,some .bool=>.val (.v (.bool (a == b))) []
   | .neq,some .bool=>.val (.v (.bool (!(a == b)))) []
   | _,_=>.bad
 | .agg xs,.agg ys=>match op with
   | .eql=>Zrg P t xs ys λc=>.val (.v (.bool c)) []
   | .neq=>Zrg P t xs ys λc=>.val (.v (.bool (!c))) []
   | _=>.bad
 | .sl _ es,.v (.slice none 0 0)=>match op,P.underlying t with
   | .eql,some (.slice _)=>.need (0 < es.length) (.val (.v (.bool false)) [])
   | _,_=>.bad
 | .v (.slice none 0 0),.v (.slice none 0 0)=>match op,P.underlying t with
   | .eql,some (.slice _)=>.val (.v (.bool true)) []
   | _,_=>.bad
 | _,_=>.bad
def Ztz (op:UnOp) (x:AV):Res :=
 match op,x with
 | .not,.v (.bool b)=>.val (.v (.bool (!b))) []
 | .neg,.v (.int k n)=>.val (.v (.int k (k.wrap (0 - n)))) []
 | _,_=>.bad
def aZero (P:Program) (t:TypeId):Option AV:=(Zau P t).map AV.ofVal
def Zdt (σ:Mem) (m:Nat):AV→(List AV→Res)→Res
 | .sl m' es,R=>.need (m'=m) (R es)
 | .own k sv,R=>match σ k with
   | some (.row sv' _ m' es _)=>.need (sv=sv'∧m'=m) (R es)
   | _=>.bad
 | .view k sv m' i len,R=>match σ k with
   | some (.row sv' _ m'' es _)=>.need (sv=sv'∧m'=m∧m''=m) (R ((es.take (i+len)).drop i))
   | _=>.bad
 | .v (.slice none 0 0),R=>R []
 | _,_=>.bad
def Zmc:List AV→Option (List Int)
 | []=>some []
 | .v (.int .u8 n) :: r=>(Zmc r).map (n :: ·)
 | _=>none
def Zgk (ns:List Int):ByteArray:=ns.foldl (λr n=>r.push (UInt8.ofNat n.toNat)) ByteArray.empty
def Zmi (es:List AV):Res:=match Zmc es with
 | some ns=>.val (.v (.string (Zgk ns))) []
 | none=>.bad
def Zno (P:Program) (σ:Mem) (src dst:TypeId) (x:AV):Res :=
 match P.underlying src,P.underlying dst,x with
 | some _,some (.int k),.v (.int _ n)=>.val (.v (.int k (k.wrap n))) []
 | some _,some .string,.v (.string s)=>.val (.v (.string s)) []
 | some (.slice e),some .string,x=>match P.underlying e with
   | some (.int .u8)=>Zdt σ 1 x Zmi
   | _=>.bad
 | _,_,_=>.bad
def Zlz (st:St) (d:TypeDesc) (x:AV):Res :=
 match d,x with
 | .slice _,.sl _ es=>.val (.v (.int .i64 es.length)) []
 | .slice _,.own k sv=>match st.mem k with
   | some (.row sv' _ _ es _)=>.need (sv=sv') (.val (.v (.int .i64 es.length)) [])
   | _=>.bad
 | .slice _,.view _ _ _ _ len=>.val (.v (.int .i64 len)) []
 | .slice _,.v (.slice none 0 0)=>.val (.v (.int .i64 0)) []
 | .string,.v (.string s)=>.val (.v (.int .i64 s.size)) []
 | .map _ _,.mp k h=>match st.mem k with
   | some (.map h' es)=>.need (h=h') (.val (.v (.int .i64 es.length)) [])
   | _=>.bad
 | .array n _,_=>.val (.v (.int .i64 n)) []
 | _,_=>.bad
def Zto (d:TypeDesc) (x:AV):Res :=
 match d,x with
 | .slice _,.v (.slice none 0 0)=>.val (.v (.int .i64 0)) []
 | _,_=>.bad
def Zg3 (P:Program) (st:St) (t t':TypeId) (s x:AV):Res :=
 match P.underlying t with
 | some (.slice e)=>match szOf P e,Zhs P e,Zau P e with
   | some m,some by_,some z=>match s with
     | .own k sv=>match st.mem k with
       | some (.row sv' e' m' es _)=>.need (t=t'∧sv=sv'∧e'=e∧m'=m∧z.cells.size=m) (Zdt st.mem m x λnews =>
        .need (es.length+news.length≤9223372036854775807∧(es.length+news.length)*by_≤140737488355328) (.app k news []))
       | _=>.bad
     | .view k sv m₁ i n=>match st.mem k with
       | some (.row sv' e' m' es pub)=>.need (t=t'∧sv=sv'∧e'=e∧m₁=m∧m'=m∧i=0∧pub≤n∧n≤es.length∧z.cells.size=m) (Zdt st.mem m x λnews =>
        .need (n+news.length≤9223372036854775807∧(n+news.length)*by_≤140737488355328) (.appv k n news))
       | _=>.bad
     | .v (.slice none 0 0)=>match x with
       | .v (.int .i64 n)=>.need (P.underlying t'=some (.int .i64)∧z.cells.size=m∧0 < m∧0 < n∧n≤9223372036854775807∧n.toNat*by_≤140737488355328∧(AV.ofVal z).cells.length=m∧(AV.ofVal z).ok=true) (.row e m (List.replicate n.toNat (AV.ofVal z)) [])
       | x=>.need (t=t'∧z.cells.size=m) (Zdt st.mem m x λnews =>
           .need (news.length≤9223372036854775807∧news.length*by_≤140737488355328) (.row e m news []))
     | _=>.bad
   | _,_,_=>.bad
 | _=>.bad
def Znn (P:Program) (st:St) (t:TypeId) (d x:AV):Res :=
 match P.underlying t with
 | some (.slice e)=>match szOf P e with
   | some m=>match d with
     | .own k sv=>match st.mem k with
       | some (.row sv' e' m' es pub)=>.need (sv=sv'∧e'=e∧m'=m∧pub=0) (Zdt st.mem m x λnews =>
        .sto (.v (.int .i64 (min news.length es.length:Nat))) k (.row sv' e' m' (news.take es.length++es.drop news.length) pub) [])
       | _=>.bad
     | _=>.bad
   | none=>.bad
 | _=>.bad
def Zd8 (lo:Option AV) (K:Int→Res):Res :=
 match lo with
 | none=>K 0
 | some (.v (.int _ l))=>K l
 | some _=>.bad
def Zc8 (len:Nat) (hi:Option AV) (K:Int→Res):Res :=
 match hi with
 | none=>K len
 | some (.v (.int _ h))=>K h
 | some _=>.bad
def Zha (P:Program) (st:St) (t:TypeId) (x:AV) (lo hi mx:Option AV):Res :=
 match P.underlying t,x with
 | some .string,.v (.string s)=>match mx with
   | none=>Zd8 lo λl=>Zc8 s.size hi λh=>.need (0≤l∧l≤h∧h≤s.size) (.val (.v (.string (s.extract l.toNat h.toNat))) [])
   | some _=>.bad
 | some (.slice e),.sl m es=>match szOf P e with
   | some m'=>Zd8 lo λl=>Zc8 es.length hi λh=>Zc8 es.length mx λm₂ =>
    .need (m'=m∧0≤l∧l≤h∧h≤m₂∧m₂≤es.length∧(mx.isSome=true→hi.isSome=true)) (.val (.sl m ((es.take h.toNat).drop l.toNat)) [])
   | none=>.bad
 | some (.slice e),.own k sv=>match st.mem k,szOf P e with
   | some (.row sv' _ m es _),some m'=>match mx with
     | none=>Zd8 lo λl=>Zc8 es.length hi λh=>.need (sv=sv'∧m'=m∧0≤l∧l≤h∧h≤es.length) (.val (.view k sv m l.toNat (h.toNat - l.toNat)) [])
     | some _=>.bad
   | _,_=>.bad
 | some (.slice e),.view k sv m i len=>match szOf P e,mx with
   | some m',none=>Zd8 lo λl=>Zc8 len hi λh=>.need (m'=m∧0≤l∧l≤h∧h≤len) (.val (.view k sv m (i+l.toNat) (h.toNat - l.toNat)) [])
   | _,_=>.bad
 | some (.slice e),.v (.slice none 0 0)=>match szOf P e with
   | some _=>Zd8 lo λl=>Zc8 0 hi λh=>Zc8 0 mx λm₂=>.need (l=0∧h=0∧m₂=0∧(mx.isSome=true→hi.isSome=true)) (.val (.v (.slice none 0 0)) [])
   | none=>.bad
 | some (.array nn e),.pbox k g off=>match lo,hi,mx,szOf P e,pubV (marks st.mem [k]) (.pbox k g off) with
   | none,none,none,some m,.pimm cs=>.need (m=1∧cs.length=nn∧0 < nn∧Zf8 (marks st.mem [k]) (.pbox k g off)∧cs.all AV.one=true) (.val (.sl 1 cs) [k])
   | _,_,_,_,_=>.bad
 | _,_=>.bad
def Zhi (P:Program) (s:TypeId) (x:AV) (f:Nat):Res :=
 match P.underlying s with
 | some (.struct fields)=>match fields[f]? with
   | some fd=>match szOf P fd.type with
     | some sz=>.need (sz≠0) (match x with
       | .pimm cs=>.val (.pimm (cs.drop fd.offset)) []
       | .pbox k g off=>.val (.pbox k g (off+fd.offset)) []
       | .prow k sv m i off=>.val (.prow k sv m i (off+fd.offset)) []
       | _=>.bad)
     | none=>.bad
   | none=>.bad
 | _=>.bad
def Zbg (P:Program) (st:St) (t:TypeId) (x i:AV):Res :=
 match P.underlying t,i with
 | some (.slice e),.v (.int _ j)=>match szOf P e with
   | some sz=>match x with
     | .sl m es=>.need (sz=m∧0≤j∧j < es.length) (.val (.pimm (es.getD j.toNat .u).cells) [])
     | .own k sv=>match st.mem k with
       | some (.row sv' _ m es _)=>.need (sv=sv'∧sz=m∧0≤j∧j < es.length) (.val (.prow k sv m j.toNat 0) [])
       | _=>.bad
     | .view k sv m i len=>.need (sz=m∧0≤j∧j < len) (.val (.prow k sv m (i+j.toNat) 0) [])
     | _=>.bad
   | none=>.bad
 | some (.array len e),.v (.int _ j)=>match szOf P e with
   | some sz=>.need (0≤j∧j < len) (match x with
     | .pimm cs=>.val (.pimm (cs.drop (j.toNat*sz))) []
     | .pbox k g off=>.val (.pbox k g (off+j.toNat*sz)) []
     | .prow k sv m i off=>.val (.prow k sv m i (off+j.toNat*sz)) []
     | _=>.bad)
   | none=>.bad
 | _,_=>.bad
def Zj0 (P:Program) (t:TypeId) (x i:AV):Res :=
 match P.underlying t,x,i with
 | some (.array len e),.agg cs,.v (.int _ j)=>match szOf P e with
   | some sz=>.need (0≤j∧j < len) (Zol P e cs (j.toNat*sz))
   | none=>.bad
 | some .string,.v (.string s),.v (.int _ j)=>.need (0≤j∧j < s.size) (.val (.v (.int .u8 (s.data.toList.getD j.toNat 0).toNat)) [])
 | _,_,_=>.bad
def Zus (place:Nat→Option (Nat × Nat)) (cs:List AV):List (Nat × AV)→(List AV→Res)→Res
 | [],R=>R cs
 | (i,a) :: r,R=>match place i with
   | some (off,sz)=>.need (a.ok=true∧a.cells.length=sz∧off+sz≤cs.length) (Zus place (Zee cs off a.cells) r R)
   | none=>.bad
def Zj4 (P:Program) (t:TypeId) (parts:List (Nat × AV)):Res :=
 match P.underlying t,Zau P t with
 | some (.struct fields),some z=>.need ((fields.toList.all λf=>(szOf P f.type).isSome)=true) (Zus (λi=>(fields[i]?).bind λf=>(szOf P f.type).map λs=>(f.offset,s)) (AV.ofVal z).cells parts λcs=>.val (.agg cs) [])
 | some (.array _ e),some z=>match szOf P e with
   | some sz=>Zus (λi=>some (i*sz,sz)) (AV.ofVal z).cells parts λcs=>.val (.agg cs) []
   | none=>.bad
 | _,_=>.bad
def Zpg (σ:Mem) (m:Nat) (es:List AV):List (Nat × AV)→(List AV→Res)→Res
 | [],R=>R es
 | (i,a) :: r,R=>.need (a.ok=true∧a.cells.length=m∧i < es.length∧Zf8 σ a) (Zpg σ m (es.set i (pubV σ a)) r R)
def Zei (P:Program) (st:St) (t:TypeId) (len:Nat) (parts:List (Nat × AV)):Res :=
 match P.underlying t with
 | some (.slice e)=>match szOf P e,Zau P e with
   | some m,some z=>.need (len*m≤16777216∧len≤16777216∧(AV.ofVal z).cells.length=m∧(AV.ofVal z).ok=true) (
    Zpg (marks st.mem (AV.toksL (parts.map (·.2)))) m (List.replicate len (AV.ofVal z)) parts λes=>.row e m es (AV.toksL (parts.map (·.2))))
   | _,_=>.bad
 | _=>.bad
def Zfa (P:Program) (t:TypeId) (l cp:AV):Res :=
 match P.underlying t,l,cp with
 | some (.slice e),.v (.int _ n),.v (.int _ cap)=>match szOf P e,Zhs P e,Zau P e with
   | some m,some by_,some z=>.need (0≤n∧n≤cap∧cap≤9223372036854775807∧(by_:Int)*cap≤281474976710656∧(AV.ofVal z).cells.length=m∧(AV.ofVal z).ok=true) (.row e m (List.replicate n.toNat (AV.ofVal z)) [])
   | _,_,_=>.bad
 | _,_,_=>.bad
def Zcw (P:Program) (st:St) (t:TypeId):AV→Res
 | .pimm cs=>Zhu P t cs
 | .pbox k g off=>match st.mem k with
   | some (.box g' _ cs _)=>.need (g=g') (Zhu P t (cs.drop off))
   | _=>.bad
 | .prow k sv m i off=>match st.mem k with
   | some (.row sv' _ m' es _)=>.need (sv=sv'∧m=m'∧i < es.length) (Zhu P t ((es.getD i .u).cells.drop off))
   | _=>.bad
 | _=>.bad
def putEl (σ:Mem) (m off n:Nat) (es:List AV) (i:Nat) (x:AV) (R:List AV→Res):Res :=
 if m=1 then .need (off=0∧x.one=true) (R (es.set i (pubV σ x)))
 else match es.getD i .u with
  | .agg ecs=>.need (off+n≤m) (R (es.set i (.agg (Zee ecs off (pubV σ x).cells))))
  | _=>.bad
def Ze6 (P:Program) (st:St) (t:TypeId) (p x:AV):Res :=
 match szOf P t with
 | some n=>match p with
   | .pbox k g off=>match st.mem k with
     | some (.box g' e cs false)=>.need (g=g'∧x.ok=true∧x.cells.length=n∧off+n≤cs.length) (.sto .u k (.box g' e (Zee cs off x.cells) false) [])
     | _=>.bad
   | .prow k sv m i off=>match marks st.mem x.toks k with
     | some (.row sv' e m' es pub)=>.need (sv=sv'∧m=m'∧pub≤i∧i < es.length∧x.ok=true∧x.cells.length=n∧Zf8 (marks st.mem x.toks) x)
      (putEl (marks st.mem x.toks) m' off n es i x λes'=>.sto .u k (.row sv' e m' es' pub) x.toks)
     | _=>.bad
   | _=>.bad
 | none=>.bad
def Zlv:AV→Res
 | .pimm cs=>.val (.pimm cs) []
 | .pbox k g off=>.val (.pbox k g off) []
 | .prow k sv m i off=>.val (.prow k sv m i off) []
 | .fn f cs=>.val (.fn f cs) []
 | _=>.bad
def Zku (mx:Bool):List AV→Res
 | [.v (.int k a),.v (.int k' b)]=>.need (k=k') (.val (.v (.int k (if mx then (if b > a then b else a) else (if b < a then b else a)))) [])
 | [.v (.int k a),.v (.int k' b),.v (.int k'' c)]=>.need (k=k'∧k=k'') (.val (.v (.int k (if mx then (if c > (if b > a then b else a) then c else (if b > a then b else a)) else (if c < (if b < a then b else a) then c else (if b < a then b else a))))) [])
 | _=>.bad
def Zcl (P:Program) (st:St) (c:Call):Res :=
 match c.callee with
 | .builtin .len=>match c.args.toList,c.argTypes.toList with
   | [x],[t]=>match P.underlying t with
     | some d=>Zlz st d (st.ev x)
     | none=>.bad
   | _,_=>.bad
 | .builtin .cap=>match c.args.toList,c.argTypes.toList with
   | [x],[t]=>match P.underlying t with
     | some d=>Zto d (st.ev x)
     | none=>.bad
   | _,_=>.bad
 | .builtin .append=>match c.args.toList,c.argTypes.toList with
   | [s,x],[t,t']=>Zg3 P st t t' (st.ev s) (st.ev x)
   | _,_=>.bad
 | .builtin .copy=>match c.args.toList,c.argTypes.toList with
   | [d,x],[t,_]=>Znn P st t (st.ev d) (st.ev x)
   | _,_=>.bad
 | .builtin .max=>Zku true (c.args.toList.map st.ev)
 | .builtin .min=>Zku false (c.args.toList.map st.ev)
 | .value f=>match st.ev f with
   | .fn g caps=>.call g (c.args.toList.map st.ev++caps)
   | _=>.bad
 | _=>.bad
def Zb8 (s:MKey):List (MKey × AV)→Option AV
 | []=>none
 | a :: r=>if a.1=s then some a.2 else Zb8 s r
def Zcj (s:MKey) (x:AV):List (MKey × AV)→List (MKey × AV)
 | []=>[(s,x)]
 | a :: r=>if a.1=s then (s,x) :: r else a :: Zcj s x r
def Zqu (ok:Bool) (z:AV):Option AV→AV
 | some v=>if ok then .tup [v,.v (.bool true)] else v
 | none=>if ok then .tup [z,.v (.bool false)] else z
def Zo9:List AV→Option (List Int)
 | []=>some []
 | .v (.int .i64 i) :: r=>(Zo9 r).map (i :: ·)
 | _=>none
def stI (P:Program) (kt:TypeId) (n:Nat):Bool:=!P.stoodInHeld kt && match P.underlying kt with
 | some (.struct fs) => decide (fs.toList.map (·.offset) = List.range n) && fs.toList.all fun f => f.name != "_" && (match P.underlying f.type with
   | some (.int .i64)=>true
   | _=>false)
 | _=>false
def mkOf (P:Program) (kt:TypeId) (k:AV):Option MKey:=match P.underlying kt,k with
 | some .string,.v (.string s)=>some (.s s)
 | some (.struct _),.agg cs=>match Zo9 cs with
   | some ns=>if stI P kt ns.length then some (.l ns) else none
   | none=>none
 | _,_=>none
def Zev (κ:MKey) (es:List (MKey × AV)):Bool:=es.all λa=>κ.like a.1
theorem Zxs (κ:MKey):Zev κ []=true:=rfl
def Zij (P:Program) (st:St) (t:TypeId) (m k:AV) (ok:Bool):Res :=
 match P.underlying t with
 | some (.map kt et)=>match mkOf P kt k,m with
   | some κ,.mp tk h=>match st.mem tk,Zau P et with
     | some (.map h' es),some z=>.need (h=h'∧Zev κ es=true) (.val (Zqu ok (AV.ofVal z) (Zb8 κ es)) [])
     | _,_=>.bad
   | _,_=>.bad
 | _=>.bad
def Zii (P:Program) (st:St) (t:TypeId) (m k x:AV):Res :=
 match P.underlying t with
 | some (.map kt _)=>match mkOf P kt k,m,k with
   | some κ,.mp tk h,_=>match marks st.mem x.toks tk with
     | some (.map h' es)=>.need (h=h'∧Zev κ es=true∧Zf8 (marks st.mem x.toks) x) (.sto .u tk (.map h (Zcj κ (pubV (marks st.mem x.toks) x) es)) x.toks)
     | _=>.bad
   | none,.mp tk h,.agg [.v (.int a i),.v (.int b j)]=>match st.mem tk,P.underlying kt with
     | some (.map h' []),some (.array n et)=>.need (h=h'∧n=2∧P.underlying et=some (.int a)∧b=a∧szOf P et=some 1) (.sto .u tk (.row (.slice none 0 0) 0 0 [] 0) [])
     | _,_=>.bad
   | _,_,_=>.bad
 | _=>.bad
def Zwx (t:Bool) (a b:AV):Res :=
 match a,b with
 | .v (.bool x),.v (.bool y)=>.val (.v (.bool (if t then x else y))) []
 | a,b=>.val (if t then a else b) []
def Zkp (st:St) (c a b:Operand):Res :=
 match st.ev c with
 | .v (.bool t)=>Zwx t (st.ev a) (st.ev b)
 | _=>.bad
def Zak (P:Program) (st:St):Op→Res
 | .move x | .assign x=>.val (st.ev x) []
 | .pick c a b=>Zkp st c a b
 | .alloc e=>match aZero P e with
   | some z=>.need (z.ok=true) (.box e z.cells)
   | none=>.bad
 | .box e x=>.need ((st.ev x).ok=true) (.box e (st.ev x).cells)
 | .build t parts=>Zj4 P t (parts.toList.map λp=>(p.1,st.ev p.2))
 | .buildSlice t len parts=>Zei P st t len (parts.toList.map λp=>(p.1,st.ev p.2))
 | .load t x=>Zcw P st t (st.ev x)
 | .store t p x=>Ze6 P st t (st.ev p) (st.ev x)
 | .nilCheck x=>Zlv (st.ev x)
 | .binOp op t x y _=>Zl8 P op t (st.ev x) (st.ev y)
 | .unOp op _ x=>Ztz op (st.ev x)
 | .convert s d x=>Zno P st.mem s d (st.ev x)
 | .makeFunc (.func f) first caps=>.need (first.toList.length=0) (.val (.fn f (caps.toList.map st.ev)) [])
 | .makeSlice t l cp=>Zfa P t (st.ev l) (st.ev cp)
 | .makeMap _ none=>.mapn
 | .lookup t m k ok=>Zij P st t (st.ev m) (st.ev k) ok
 | .mapUpdate t m k x=>Zii P st t (st.ev m) (st.ev k) (st.ev x)
 | .slice t x lo hi mx=>Zha P st t (st.ev x) (lo.map st.ev) (hi.map st.ev) (mx.map st.ev)
 | .fieldAddr s x f=>Zhi P s (st.ev x) f
 | .field s x f=>match P.underlying s,st.ev x with
   | some (.struct fields),.agg cs=>match fields[f]? with
     | some fd=>Zol P fd.type cs fd.offset
     | none=>.bad
   | _,_=>.bad
 | .indexAddr t x i=>Zbg P st t (st.ev x) (st.ev i)
 | .index t x i=>Zj0 P t (st.ev x) (st.ev i)
 | .extract x i=>match st.ev x with
   | .tup vs=>match vs[i]? with
     | some a=>.val a []
     | none=>.bad
   | _=>.bad
 | .makeInterface t x=>match P.underlying t with
   | some (.interface _) | none=>.bad
   | some _=>.val (.ifc t (st.ev x)) []
 | .call cl=>Zcl P st cl
 | _=>.bad
section runs
variable {P:Program} {w:World}
theorem Zac {t:TypeId} {n:Nat} (h:szOf P t=some n):(sizeOf t).run P w=.ok n w:=by
 unfold szOf at h
 cases hi:P.info? t with
 | none=>rw [hi] at h;cases h
 | some i =>
   rw [hi] at h;simp only [Option.map_some,Option.some.injEq] at h;simp [sizeOf,typeInfo,hi,h]
theorem Zab {t:TypeId} {z:Value} (h:Zau P t=some z):(zeroValue t).run P w=.ok z w:=by
 unfold Zau at h
 cases hi:P.info? t with
 | none=>rw [hi] at h;cases h
 | some i =>
   rw [hi] at h;simp only [Option.bind_some] at h;simp [zeroValue,typeInfo,hi,h]
theorem Zl0 {t:TypeId} {n b:Nat} {z:Value} (hs:szOf P t=some n) (hb:Zhs P t=some b) (hz:Zau P t=some z):∃i,P.info? t=some i∧i.size=n∧i.bytes=b∧i.zero=some z:=by
 unfold szOf at hs;unfold Zhs at hb;unfold Zau at hz
 cases hi:P.info? t with
 | none=>rw [hi] at hs;cases hs
 | some i =>
   rw [hi] at hs hb hz;simp only [Option.map_some,Option.some.injEq,Option.bind_some] at hs hb hz;exact⟨i,rfl,hs,hb,hz⟩
end runs
theorem Zen (a:Addr) (i j:Nat):(a.add i).add j=a.add (i+j):=by
 unfold Addr.add;by_cases hi:i=0<;>by_cases hj:j=0<;>simp [hi,hj,Nat.add_assoc]
def CellsAt (w:World) (imm:Imm) (ad:Addr) (cs:List AV):Prop:=∀(j:Nat) (a:AV),cs[j]?=some a→∃x,w.cell? (ad.add j)=some x∧Rs w imm a x
theorem CellsAt.drop {w:World} {imm:Imm} {ad:Addr} {cs:List AV} (h:CellsAt w imm ad cs) (k:Nat):CellsAt w imm (ad.add k) (cs.drop k):=by
 intro j a ha;rw [List.getElem?_drop] at ha;rw [Zen];exact h _ a ha
theorem Rd.one_of {w:World} {imm:Imm} {a:AV} {x:Value} (h:Rd w imm a x) (ho:a.one=true):x.oneCell'=true:=by
 cases h<;>simp_all [AV.one,Value.oneCell']
theorem Rs.one_of {w:World} {imm:Imm} {a:AV} {x:Value} (h:Rs w imm a x) (ho:a.one=true):x.oneCell'=true:=by
 cases h with
 | pure h=>exact h.one_of ho
 | own k sv h1=>exact h1
 | view k sv m i len y h1=>exact h1.one
 | _=>simp_all [AV.one,Value.oneCell']
theorem Zjk {x:Value} (h:x.oneCell'=true):x.cells=#[x]:=by
 cases x<;>first|rfl|cases h
theorem Rs.cells_of {w:World} {imm:Imm} {a:AV} {x:Value} (h:Rs w imm a x) (ho:a.ok=true):a.cells.length=x.cells.size∧(∀(j:Nat) (b:AV) (y:Value),a.cells[j]?=some b→x.cells[j]?=some y→Rs w imm b y)∧(∀b∈a.cells,b.one=true):=by
 have leaf:a.cells=[a]→x.cells=#[x]→a.one=true→a.cells.length=x.cells.size∧(∀(j:Nat) (b:AV) (y:Value),a.cells[j]?=some b→x.cells[j]?=some y→Rs w imm b y)∧(∀b∈a.cells,b.one=true):=by
  intro h1 h2 h3;rw [h1,h2];refine⟨rfl,λj b y hb hy=>?_,by simpa using h3⟩
  match j with
  | 0=>simp at hb hy;subst hb;subst hy;exact h
  | j+1=>simp at hb
 cases a with
 | agg cs =>
   obtain⟨vs,rfl,hl,hr⟩:=h.agg_inv;exact⟨hl,hr,λb hb=>List.all_eq_true.1 ho b hb⟩
 | tup cs=>simp [AV.ok,AV.one] at ho
 | u=>simp [AV.ok,AV.one] at ho
 | _ =>
   have h1:x.oneCell'=true:=h.one_of ho;exact leaf rfl (Zjk h1) ho
section
variable {P:Program} {c:Cx} {n tok:Nat} {st:St} {a:Act} {w:World} {imm:Imm} {K:St→Prop} {o:Oper} {Q:Exit→Act→World→Prop}
theorem Zjp {s:Sem Value} {x:Value} {w':World} (h:s.run P w=.ok x w'):((do pure (Next.value (←s))):Sem Next).run P w=.ok (.value x) w':=by simp [h]
theorem Zad {s:Sem Value} {x:Value} {av:AV} (h:Rel c n st a w imm) (hd:∀d,o.dst=some d→d < n) (hK:aRes P tok o.dst (.val av []) K st) (hs:s.run P w=.ok x w) (hx:Rs w imm av x) :
 o.upon P a (Zb2 c n K) Q (((do pure (Next.value (←s))):Sem Next).run P w):=by
 rw [Zjp hs];exact Zcz h hd hK λ_ _ hk=>hk.rs hx
theorem Zgy {t:TypeId} {cs:List AV} {ad:Addr} (h:Rel c n st a w imm) (hd:∀d,o.dst=some d→d < n) (hK:aRes P tok o.dst (Zhu P t cs) K st) (hc:CellsAt w imm ad cs) :
 o.upon P a (Zb2 c n K) Q (((do pure (Next.value (←loadVar t ad))):Sem Next).run P w):=by
 have scalar:(isAgg t).run P w=.ok false w→aRes P tok o.dst (Zky cs) K st→o.upon P a (Zb2 c n K) Q (((do pure (Next.value (←loadVar t ad))):Sem Next).run P w):=by
  intro hag hK
  cases cs with
  | nil=>exact hK.elim
  | cons x r =>
    obtain⟨y,hy,hr⟩:=hc 0 x rfl;have:ad.add 0=ad:=by simp [Addr.add]
    rw [this] at hy;refine Zad h hd hK ?_ hr;simp [loadVar,hag,hy]
 have aggr:(isAgg t).run P w=.ok true w→aRes P tok o.dst (Zix P t cs) K st→o.upon P a (Zb2 c n K) Q (((do pure (Next.value (←loadVar t ad))):Sem Next).run P w):=by
  intro hag hK;unfold Zix at hK
  cases hs:szOf P t with
  | none=>rw [hs] at hK;exact hK.elim
  | some k =>
    rw [hs] at hK;obtain⟨hle,hK⟩:=hK
    have hex:∀j,j < k→∃x,w.cell? (ad.add j)=some x∧∀b,cs[j]?=some b→Rs w imm b x:=by
     intro j hj;obtain⟨x,h1,h2⟩:=hc j cs[j] (List.getElem?_eq_getElem (by omega));exact⟨x,h1,λb hb=>by rw [List.getElem?_eq_getElem (by omega)] at hb;simp only [Option.some.injEq] at hb;exact hb ▸ h2⟩
    let f:Nat→Value:=λj=>(w.cell? (ad.add j)).getD undef
    have hf:∀j,j < k→w.cell? (ad.add j)=some (f j):=by
     intro j hj;obtain⟨x,h1,_⟩:=hex j hj;simp [f,h1]
    have hl:=run_loadCells (P:=P) w ad k f hf;refine Zad h hd hK (x:=.agg ((List.range k).map f).toArray) ?_ ?_
    ·simp [loadVar,hag,Zac hs,hl]
    ·refine .agg _ _ (by simp [hle]) λj b x h1 h2=>?_;rw [List.getElem?_take] at h1;split at h1
     ·rename_i hj;obtain⟨y,h3,h4⟩:=hex j hj
      have:f j=x:=by
       have h2':((List.range k).map f)[j]?=some x:=by simpa using h2
       simpa [List.getElem?_map,List.getElem?_range hj] using h2'
      rw [←this];simp only [f,h3,Option.getD_some];exact h4 b h1
     ·cases h1
 unfold Zhu at hK
 cases hu:P.underlying t with
 | none=>rw [hu] at hK;exact hK.elim
 | some d =>
   rw [hu] at hK
   have hag:(isAgg t).run P w=.ok (Zfw d) w:=by
    simp only [isAgg,Sem.run_bind,run_underlying hu,Result.andThen_ok];cases d<;>rfl
   cases hb:Zfw d with
   | true=>rw [hb] at hag;simp only [hb,if_true] at hK;exact aggr hag hK
   | false=>rw [hb] at hag;simp only [hb,Bool.false_eq_true,if_false] at hK;exact scalar hag hK
theorem Zjd {t:TypeId} {cs:List AV} {vs:Array Value} {off:Nat} (h:Rel c n st a w imm) (hd:∀d,o.dst=some d→d < n) (hK:aRes P tok o.dst (Zol P t cs off) K st)
 (hl:cs.length=vs.size) (hr:∀(j:Nat) (a:AV) (x:Value),cs[j]?=some a→vs[j]?=some x→Rs w imm a x) :
 o.upon P a (Zb2 c n K) Q (((do pure (Next.value (←part t vs off))):Sem Next).run P w):=by
 have scalar:(isAgg t).run P w=.ok false w→aRes P tok o.dst (Zky (cs.drop off)) K st→o.upon P a (Zb2 c n K) Q (((do pure (Next.value (←part t vs off))):Sem Next).run P w):=by
  intro hag hK
  cases hcs:cs.drop off with
  | nil=>rw [hcs] at hK;exact hK.elim
  | cons x r =>
    rw [hcs] at hK
    have hx:cs[off]?=some x:=by
     have:=congrArg (λl=>l[0]?) hcs
     simpa [List.getElem?_drop] using this
    have hlt:off < vs.size:=by
     rw [←hl];rcases Nat.lt_or_ge off cs.length with h1 | h1
     ·exact h1
     ·rw [List.getElem?_eq_none h1] at hx;cases hx
    have hv:vs[off]?=some vs[off]:=Array.getElem?_eq_getElem hlt;refine Zad h hd hK (x:=vs[off]) ?_ (hr off x _ hx hv);simp [part,hag,hv]
 have aggr:(isAgg t).run P w=.ok true w→aRes P tok o.dst (Zjr P t cs off) K st→o.upon P a (Zb2 c n K) Q (((do pure (Next.value (←part t vs off))):Sem Next).run P w):=by
  intro hag hK;unfold Zjr at hK
  cases hs:szOf P t with
  | none=>rw [hs] at hK;exact hK.elim
  | some k =>
    rw [hs] at hK;refine Zad h hd hK (x:=.agg (vs.extract off (off+k))) ?_ ?_
    ·simp [part,hag,Zac hs]
    ·refine .agg _ _ (by simp [hl];omega) λj b x h1 h2=>?_;rw [List.getElem?_take] at h1;split at h1
     ·rw [List.getElem?_drop] at h1;refine hr (off+j) b x h1 ?_;rw [Array.getElem?_extract] at h2;split at h2
      ·exact h2
      ·cases h2
     ·cases h1
 unfold Zol at hK
 cases hu:P.underlying t with
 | none=>rw [hu] at hK;exact hK.elim
 | some d =>
   rw [hu] at hK
   have hag:(isAgg t).run P w=.ok (Zfw d) w:=by
    simp only [isAgg,Sem.run_bind,run_underlying hu,Result.andThen_ok];cases d<;>rfl
   cases hb:Zfw d with
   | true=>rw [hb] at hag;simp only [hb,if_true] at hK;exact aggr hag hK
   | false=>rw [hb] at hag;simp only [hb,Bool.false_eq_true,if_false] at hK;exact scalar hag hK
end
theorem Zdx {m:Nat}:∀{es:List AV},(∀x∈es,x.cells.length=m)→∀(i j:Nat),j < m→i < es.length→(flat es)[i*m+j]?=(es.getD i .u).cells[j]?
 | [],_,i,j,_,h=>by simp at h
 | a :: r,hl,0,j,hj,_=>by
   have ha:=hl a (List.mem_cons_self ..);simp only [flat,List.flatMap_cons,Nat.zero_mul,Nat.zero_add,List.getD_cons_zero];rw [List.getElem?_append_left (by rw [ha];exact hj)]
 | a :: r,hl,i+1,j,hj,h=>by
   have ha:=hl a (List.mem_cons_self ..);have ih:=Zdx (es:=r) (λx hx=>hl x (List.mem_cons_of_mem _ hx)) i j hj (by simpa using h);simp only [flat,List.flatMap_cons,List.getD_cons_succ] at ih ⊢;have e:(i+1)*m+j=m+(i*m+j):=by rw [Nat.add_mul,Nat.one_mul];omega
   rw [e,List.getElem?_append_right (by omega),ha,Nat.add_sub_cancel_left];exact ih
theorem Zg9 {cs new:List AV} {off:Nat} (h:off+new.length≤cs.length) (j:Nat):(Zee cs off new)[j]?=if off≤j∧j < off+new.length then new[j - off]? else cs[j]?:=by
 unfold Zee;have hl:(cs.take off).length=off:=by simp;omega
 by_cases h1:j < off
 ·rw [if_neg (by omega),List.append_assoc,List.getElem?_append_left (by omega),List.getElem?_take,if_pos h1]
 ·rw [List.append_assoc,List.getElem?_append_right (by omega),hl];by_cases h2:j < off+new.length
  ·rw [if_pos (by omega),List.getElem?_append_left (by omega)]
  ·rw [if_neg (by omega),List.getElem?_append_right (by omega),List.getElem?_drop];congr 1;omega
theorem Zeg {cs new:List AV} {off:Nat} (h:off+new.length≤cs.length):(Zee cs off new).length=cs.length:=by
 simp [Zee];omega
theorem Zhz {cs new:List Value} {off:Nat} (h:off+new.length≤cs.length) (j:Nat):(cs.take off++new++cs.drop (off+new.length))[j]?=if off≤j∧j < off+new.length then new[j - off]? else cs[j]?:=by
 have hl:(cs.take off).length=off:=by simp;omega
 by_cases h1:j < off
 ·rw [if_neg (by omega),List.append_assoc,List.getElem?_append_left (by omega),List.getElem?_take,if_pos h1]
 ·rw [List.append_assoc,List.getElem?_append_right (by omega),hl];by_cases h2:j < off+new.length
  ·rw [if_pos (by omega),List.getElem?_append_left (by omega)]
  ·rw [if_neg (by omega),List.getElem?_append_right (by omega),List.getElem?_drop];congr 1;omega
theorem Ze9 (w:World) (g:Nat) (cs:Array Value):w.grownBy (w.setRow g cs) (some g) :=
 ⟨rfl,rfl,rfl,by simp,λk _ hk=>setRow_other w g k cs (λe=>hk (by rw [e]))⟩
section
variable {P:Program} {c:Cx} {n tok:Nat} {st:St} {a:Act} {w:World} {imm:Imm} {K:St→Prop} {o:Oper} {Q:Exit→Act→World→Prop}
theorem Zk8 {σ:Mem} (h:Mx c σ w imm) {k g:Nat} {e:TypeId} {cs:List AV} {pub:Bool} (hk:σ k=some (.box g e cs pub)):CellsAt w imm ⟨g,0,none⟩ cs:=by
 obtain⟨cur,hh,_,hl,_,hr,_⟩:=h.ok.ent k _ hk;intro j b hb
 have hlt:j < cur.size:=by
  rw [←hl];rcases Nat.lt_or_ge j cs.length with h1 | h1
  ·exact h1
  ·rw [List.getElem?_eq_none h1] at hb;cases hb
 refine⟨cur[j],?_,hr j b _ hb (Array.getElem?_eq_getElem hlt)⟩;rw [Addr.add_lit,Nat.zero_add,cell_of_row w g j cur e (0,0) hh];exact Array.getElem?_eq_getElem hlt
theorem Zkg {σ:Mem} (h:Mx c σ w imm) {k g:Nat} {e:TypeId} {m nn cc pub:Nat} {es:List AV} (hk:σ k=some (.row (.slice (some ⟨g,0,none⟩) nn cc) e m es pub)) {i:Nat} (hi:i < es.length) :
 CellsAt w imm ⟨g,i*m,none⟩ (es.getD i .u).cells:=by
 obtain⟨xs,hown,hm,hok,hr,_⟩:=h.ok.ent k _ hk;intro j b hb
 have hel:(es.getD i .u).cells.length=m:=by
  rw [List.getD_eq_getElem?_getD,List.getElem?_eq_getElem hi];exact hm _ (List.getElem_mem _)
 have hj:j < m:=by
  rw [←hel];rcases Nat.lt_or_ge j (es.getD i .u).cells.length with h1 | h1
  ·exact h1
  ·rw [List.getElem?_eq_none h1] at hb;cases hb
 have hf:=Zdx hm i j hj hi;rw [hb] at hf
 have hlt:i*m+j < es.length*m:=by
  have:(i+1)*m≤es.length*m:=Nat.mul_le_mul_right _ hi;rw [Nat.add_mul,Nat.one_mul] at this;omega
 have hx:i*m+j < xs.length:=by rw [hown.1];exact hlt
 have hn:nn=es.length:=by
  rcases hown.2 with⟨h1,_⟩ | ⟨g',cap,cur,h1,_⟩
  ·cases h1
  ·cases h1;rfl
 subst hn;refine⟨xs[i*m+j],?_,.pure (hr _ b _ hf (List.getElem?_eq_getElem hx))⟩;rw [Addr.add_lit,hown.cellAt _ hlt];exact List.getElem?_eq_getElem hx
theorem s_load {t:TypeId} {av:AV} {x:Value} (h:Rel c n st a w imm) (hd:∀d,o.dst=some d→d < n) (hK:aRes P tok o.dst (Zcw P st t av) K st) (hx:Rs w imm av x) :
 o.upon P a (Zb2 c n K) Q (((do pure (Next.value (←Instr.loadAt t x))):Sem Next).run P w):=by
 cases av with
 | pimm cs =>
   obtain⟨ad,f,rfl,h1,h2⟩:=hx.pimm_inv;refine Zgy h hd hK (ad:=ad) λj b hb=>?_
   have hj:j < cs.length:=by
    rcases Nat.lt_or_ge j cs.length with h3 | h3
    ·exact h3
    ·rw [List.getElem?_eq_none h3] at hb;cases hb
   exact⟨f j,(h1 j hj).2,.pure (h2 j b hb)⟩
 | pbox k g off =>
   have:=hx.pbox_inv;subst this;unfold Zcw at hK
   cases hk:st.mem k with
   | none=>simp only [hk] at hK;exact hK.elim
   | some e =>
     cases e with
     | row=>simp only [hk] at hK;exact hK.elim
     | map=>simp only [hk] at hK;exact hK.elim
     | box g' e cs pub =>
       simp only [hk] at hK;obtain⟨rfl,hK⟩:=hK;refine Zgy h hd hK (ad:=⟨g,off,none⟩) ?_;have:=(Zk8 h.mem hk).drop off
       rwa [Addr.add_lit,Nat.zero_add] at this
 | prow k sv m i off =>
   obtain⟨g,nn,cc,rfl,rfl⟩:=hx.prow_inv;unfold Zcw at hK
   cases hk:st.mem k with
   | none=>simp only [hk] at hK;exact hK.elim
   | some e =>
     cases e with
     | box=>simp only [hk] at hK;exact hK.elim
     | map=>simp only [hk] at hK;exact hK.elim
     | row sv' e m' es pub =>
       simp only [hk] at hK;obtain⟨⟨rfl,rfl,hi⟩,hK⟩:=hK;refine Zgy h hd hK (ad:=⟨g,i*m+off,none⟩) ?_;have:=(Zkg h.mem hk hi).drop off
       rwa [Addr.add_lit] at this
 | _=>exact hK.elim
theorem Zzn {σ:Mem} (h:Mx c σ w imm) {k g:Nat} {e:TypeId} {cs cs':List AV} (hk:σ k=some (.box g e cs false)) {off:Nat} {vs:List Value} (hl:cs'.length=cs.length) (hfit:off+vs.length≤cs.length)
 (h1:∀v∈vs,v.oneCell'=true) (hone:∀x∈cs',x.one=true)
 (hr:∀(j:Nat) (b:AV),cs'[j]?=some b→if off≤j∧j < off+vs.length then ∀x,vs[j - off]?=some x→Rs w imm b x else cs[j]?=some b) :
 ∃w',(storeCells ⟨g,off,none⟩ vs).run P w=.ok () w'∧Mx c (upd σ k (some (.box g e cs' false))) w' imm∧Keeps w imm w' imm:=by
 obtain⟨cur,hh,hB,hlen,_,hrs,hp,_⟩:=h.ok.ent k _ hk;have hst:=run_storeCells_at P g off e vs 0 cur w hh (by simpa [←hlen] using hfit) h1;simp only [Nat.add_zero] at hst
 have hcell:∀ad,imm ad→(w.setRow g (cur.toList.take off++vs++cur.toList.drop (off+vs.length)).toArray).cell? ad=w.cell? ad:=by
  intro ad h2;have hne:ad.block≠g:=λe=>by have:=hp ad h2 e;cases this
  exact Zc5 (Ze9 w g _) (h.ok.lt ad h2) (by simpa using hne)
 have hkeep:Keeps w imm (w.setRow g (cur.toList.take off++vs++cur.toList.drop (off+vs.length)).toArray) imm:=λad h2=>⟨h2,hcell ad h2⟩;refine⟨_,hst,Zdf h (Ze9 w g _) (Nat.le_refl _) (λg' hg'=>by cases hg';exact hB) hcell k _ ⟨_,setRow_heap w g cur _ e (0,0) hh,hB,?_,hone,λj b x h2 h3=>hkeep.rs ?_,hp,λh2=>by cases h2⟩ λj e2 b h2 h3 h4=>?_⟩
 ·simp only [List.size_toArray,List.length_append,List.length_take,List.length_drop,Array.length_toList];omega
 ·have h5:=hr j b h2;have h6:(cur.toList.take off++vs++cur.toList.drop (off+vs.length))[j]?=some x:=by simpa using h3
  rw [Zhz (by have:cur.toList.length=cur.size:=rfl;omega)] at h6;split at h5
  ·rename_i hc;rw [if_pos hc] at h6;exact h5 x h6
  ·rename_i hc;rw [if_neg hc] at h6;exact hrs j b x h5 (by simpa using h6)
 ·have:b≠g:=λe=>h2 (h.ok.apart j k e2 _ g h3 hk (e ▸ h4) rfl);exact⟨by simpa using this,by simpa [Ent.blk] using λe=>this e.symm⟩
theorem Zwg {σ:Mem} (h:Mx c σ w imm) {k g:Nat} {e:TypeId} {m nn cc pub:Nat} {es es':List AV} (hk:σ k=some (.row (.slice (some ⟨g,0,none⟩) nn cc) e m es pub)) {off:Nat} {vs:List Value}
 (hl:es'.length=es.length) (hfit:off+vs.length≤es.length*m) (hpub:pub*m≤off) (h1:∀v∈vs,v.oneCell'=true) (hm':∀x∈es',x.cells.length=m) (hok':∀x∈es',x.ok=true)
 (hr:∀(j:Nat) (b:AV),(flat es')[j]?=some b→if off≤j∧j < off+vs.length then ∀x,vs[j - off]?=some x→Rd w imm b x else (flat es)[j]?=some b) :
 ∃w',(storeCells ⟨g,off,none⟩ vs).run P w=.ok () w'∧Mx c (upd σ k (some (.row (.slice (some ⟨g,0,none⟩) nn cc) e m es' pub))) w' imm∧Keeps w imm w' imm:=by
 obtain⟨xs,hown,hm,hok,hrs,hpl,hp,hq⟩:=h.ok.ent k _ hk;rcases hown.2 with⟨h2,_⟩ | ⟨g',cap,cur,h2,hB,hh,hnc,hcm,hcs,htake⟩
 ·cases h2
 cases h2;have hcl:es.length*m≤cur.size:=by rw [hcs];exact Nat.mul_le_mul_right _ hnc
 have hst:=run_storeCells_at P g off e vs 0 cur w hh (by omega) h1;simp only [Nat.add_zero] at hst
 have hcell:∀ad,imm ad→(w.setRow g (cur.toList.take off++vs++cur.toList.drop (off+vs.length)).toArray).cell? ad=w.cell? ad:=by
  intro ad h2;by_cases hg:ad.block=g
  ·have h3:=hp ad h2 (by simp [Value.ownBlock,hg]);have h4:=h.ok.spot ad h2;obtain⟨b,of,s⟩:=ad;simp only at hg h3 h4;subst hg;subst h4;rw [cell_of_row _ b of _ e (0,0) (setRow_heap w b cur _ e (0,0) hh),cell_of_row w b of cur e (0,0) hh];have:=Zhz (cs:=cur.toList) (new:=vs) (off:=off) (by have:cur.toList.length=cur.size:=rfl;omega) of;rw [if_neg (by omega)] at this
   simpa using this
  ·exact Zc5 (Ze9 w g _) (h.ok.lt ad h2) (by simpa using hg)
 have hkeep:Keeps w imm (w.setRow g (cur.toList.take off++vs++cur.toList.drop (off+vs.length)).toArray) imm:=λad h2=>⟨h2,hcell ad h2⟩
 have hlen2:(cur.toList.take off++vs++cur.toList.drop (off+vs.length)).length=cur.size:=by
  simp only [List.length_append,List.length_take,List.length_drop,Array.length_toList];omega
 refine⟨_,hst,Zdf h (Ze9 w g _) (Nat.le_refl _) (λg' hg'=>by cases hg';exact hB) hcell k _
  ⟨(cur.toList.take off++vs++cur.toList.drop (off+vs.length)).take (es.length*m),⟨by rw [List.length_take,hlen2,hl];exact Nat.min_eq_left hcl,.inr ⟨g,_,_,by rw [hl],hB,setRow_heap w g cur _ e (0,0) hh,by rw [hl];exact hnc,hcm,by rw [List.size_toArray,hlen2,hcs],by rw [hl]⟩⟩,hm',hok',
    λj b x h2 h3=>hkeep.rd ?_,by rw [hl];exact hpl,hp,hq⟩ λj e2 b h2 h3 h4=>?_⟩
 ·rw [List.getElem?_take] at h3;split at h3
  ·rename_i hj;rw [Zhz (by have:cur.toList.length=cur.size:=rfl;omega)] at h3;have h5:=hr j b h2;split at h5
   ·rename_i hc;rw [if_pos hc] at h3;exact h5 x h3
   ·rename_i hc;rw [if_neg hc] at h3;refine hrs j b x h5 ?_;rw [←htake,List.getElem?_take,if_pos hj];exact h3
  ·cases h3
 ·have:b≠g:=λe=>h2 (h.ok.apart j k e2 _ g h3 hk (e ▸ h4) rfl);exact⟨by simpa using this,by simpa [Ent.blk,Value.ownBlock] using λe=>this e.symm⟩
end
theorem Zgv {a:AV} (h:a.one=true):a.cells=[a]:=by cases a<;>first|rfl|cases h
theorem one_ok {a:AV} (h:a.one=true):a.ok=true:=by cases a<;>first|exact h|cases h
theorem ok_one {a:AV} (h:a.ok=true):∀b∈a.cells,b.one=true:=by
 cases a with
 | agg cs=>exact λb hb=>List.all_eq_true.1 h b hb
 | _=>intro b hb;simp only [AV.cells,List.mem_singleton] at hb;subst hb;exact h
theorem Zni {es:List AV} (hok:∀e∈es,e.ok=true):∀b∈flat es,b.one=true:=by
 intro b hb;simp only [flat,List.mem_flatMap] at hb;obtain⟨e,he,hb⟩:=hb;exact ok_one (hok e he) b hb
theorem Zqi {σ:Mem} {a:AV} (ho:Zf8 σ a) (h:a.one=true):(pubV σ a).one=true:=by
 cases a with
 | own k sv =>
   simp only [Zf8,pubV,Zgi,Zld] at ho ⊢;split at ho
   ·rfl
   ·exact ho.elim
 | view k sv m i len =>
   simp only [Zf8,pubV,Zgi,Zld] at ho ⊢;split at ho
   ·rfl
   ·exact ho.elim
 | pbox k g off =>
   simp only [Zf8,pubV] at ho ⊢;split at ho
   ·rfl
   ·exact ho.elim
 | prow=>exact ho.elim
 | v x=>exact h
 | _=>first|rfl|cases h
theorem Zoi {σ:Mem}:∀{l:List AV},Zdl σ l→(∀b∈l,b.one=true)→∀b∈Zdq σ l,b.one=true
 | [],_,_,b,hb=>by simp [Zdq] at hb
 | a :: r,ho,h,b,hb=>by
   simp only [Zdq,List.mem_cons] at hb;rcases hb with rfl | hb
   ·exact Zqi ho.1 (h a (List.mem_cons_self ..))
   ·exact Zoi ho.2 (λc hc=>h c (List.mem_cons_of_mem _ hc)) b hb
theorem pub_ok {σ:Mem} {a:AV} (ho:Zf8 σ a) (h:a.ok=true):(pubV σ a).ok=true∧(pubV σ a).cells.length=a.cells.length:=by
 cases ha:a with
 | agg cs =>
   subst ha;exact⟨List.all_eq_true.2 (Zoi ho λb hb=>List.all_eq_true.1 h b hb),Zbt σ cs⟩
 | tup cs=>subst ha;cases h
 | u=>subst ha;cases h
 | _ =>
   have h1:a.one=true:=by rw [ha] at h ⊢;exact h
   have h2:=Zqi ho h1;rw [←ha];exact⟨one_ok h2,by rw [Zgv h2,Zgv h1];rfl⟩
theorem Zls {w:World} {imm:Imm} {a:AV} {x:Value} (h:Rd w imm a x) (ho:a.ok=true) (j:Nat) (b:AV) (hb:a.cells[j]?=some b) (y:Value) (hy:x.cells[j]?=some y):Rd w imm b y:=by
 cases ha:a with
 | agg cs =>
   subst ha
   cases h with
   | agg _ vs hl hr=>exact hr j b y hb hy
 | tup cs=>subst ha;cases ho
 | u=>subst ha;cases ho
 | _ =>
   have h1:a.one=true:=by rw [ha] at ho ⊢;exact ho
   rw [Zgv h1] at hb;rw [Zjk (h.one_of h1)] at hy
   match j with
   | 0=>simp at hb hy;subst hb;subst hy;exact h
   | j+1=>simp at hb
theorem Znh {m:Nat} {el:AV}:∀{es:List AV},(∀x∈es,x.cells.length=m)→∀(i:Nat),i < es.length→el.cells.length=m→∀j,(flat (es.set i el))[j]?=if i*m≤j∧j < i*m+m then el.cells[j - i*m]? else (flat es)[j]?
 | [],_,i,h,_,_=>by simp at h
 | a :: r,hl,0,_,he,j=>by
   have ha:=hl a (List.mem_cons_self ..);simp only [flat,List.set_cons_zero,List.flatMap_cons,Nat.zero_mul,Nat.zero_add,Nat.zero_le,true_and,Nat.sub_zero];by_cases hj:j < m
   ·rw [if_pos hj,List.getElem?_append_left (by omega)]
   ·rw [if_neg hj,List.getElem?_append_right (by omega),List.getElem?_append_right (by omega),he,ha]
 | a :: r,hl,i+1,h,he,j=>by
   have ha:=hl a (List.mem_cons_self ..);have ih:=Znh (es:=r) (λx hx=>hl x (List.mem_cons_of_mem _ hx)) i (by simpa using h) he (j - m);have e:(i+1)*m=m+i*m:=by rw [Nat.add_mul,Nat.one_mul,Nat.add_comm]
   simp only [flat,List.set_cons_succ,List.flatMap_cons] at ih ⊢;by_cases hj:j < m
   ·rw [List.getElem?_append_left (by omega),List.getElem?_append_left (by omega),if_neg (by omega)]
   ·rw [List.getElem?_append_right (by omega),List.getElem?_append_right (by omega),ha,ih];by_cases hc:i*m≤j - m∧j - m < i*m+m
    ·rw [if_pos hc,if_pos (by omega)];congr 1;omega
    ·rw [if_neg hc,if_neg (by omega)]
section
variable {P:Program} {c:Cx} {n tok:Nat} {st:St} {a:Act} {w:World} {imm:Imm} {K:St→Prop} {o:Oper} {Q:Exit→Act→World→Prop}
theorem Zkf {t:TypeId} {ad:Addr} {x:Value} {w':World} {k:Nat} (hs:szOf P t=some k) (hk:x.cells.size=k) (hr:(storeCells ad x.cells.toList).run P w=.ok () w') :
 ((do Instr.storeAt t (.pointer (some ad)) x;pure Next.skip):Sem Next).run P w=.ok .skip w':=by
 have:Instr.storeAt t (.pointer (some ad)) x=storeVar t ad x:=rfl;rw [this];simp [storeVar,Zac hs,hk,hr]
theorem Zk7 {a:AV} {x:Value} (h:Rs w imm a x) (ho:a.ok=true):∀v∈x.cells.toList,v.oneCell'=true:=by
 obtain⟨hl,hr,h1⟩:=h.cells_of ho;intro v hv;obtain⟨j,hj⟩:=List.getElem?_of_mem hv
 have hlt:j < a.cells.length:=by
  rw [hl];rcases Nat.lt_or_ge j x.cells.toList.length with h2 | h2
  ·simpa using h2
  ·rw [List.getElem?_eq_none h2] at hj;cases hj
 exact(hr j _ v (List.getElem?_eq_getElem hlt) (by simpa using hj)).one_of (h1 _ (List.getElem_mem hlt))
theorem s_store {t:TypeId} {pv av:AV} {p x:Value} (h:Rel c n st a w imm) (hd:∀d,o.dst=some d→d < n) (hK:aRes P tok o.dst (Ze6 P st t pv av) K st) (hp:Rs w imm pv p) (hx:Rs w imm av x) :
 o.upon P a (Zb2 c n K) Q (((do Instr.storeAt t p x;pure Next.skip):Sem Next).run P w):=by
 unfold Ze6 at hK
 cases hs:szOf P t with
 | none=>simp only [hs] at hK;exact hK.elim
 | some sz =>
   simp only [hs] at hK
   cases pv with
   | pbox k g off =>
     have:=hp.pbox_inv;subst this
     cases hk:st.mem k with
     | none=>simp only [hk] at hK;exact hK.elim
     | some e =>
       cases e with
       | row=>simp only [hk] at hK;exact hK.elim
       | map=>simp only [hk] at hK;exact hK.elim
       | box g' e cs pub =>
         cases pub with
         | true=>simp only [hk] at hK;exact hK.elim
         | false =>
           simp only [hk] at hK;obtain⟨⟨rfl,hok,hlen,hfit⟩,hK⟩:=hK;obtain⟨hl,hr,h1⟩:=hx.cells_of hok;have hfit':off+av.cells.length≤cs.length:=by omega
           obtain⟨w',hrun,hm,hkp⟩:=Zzn h.mem hk (off:=off) (vs:=x.cells.toList) (cs':=Zee cs off av.cells) (Zeg hfit') (by simp [←hl];omega) (Zk7 hx hok)
            (λb hb=>by
             simp only [Zee,List.mem_append] at hb;obtain⟨cur,_,_,_,hone,_⟩:=h.mem.ok.ent k _ hk;rcases hb with(hb | hb) | hb
             ·exact hone b (List.mem_of_mem_take hb)
             ·exact h1 b hb
             ·exact hone b (List.mem_of_mem_drop hb))
            (λj b hb=>by
             rw [Zg9 hfit'] at hb;simp only [Array.length_toList,←hl];split
             ·rename_i hc;rw [if_pos hc] at hb;exact λy hy=>hr _ b y hb (by simpa using hy)
             ·rename_i hc
              rwa [if_neg hc] at hb)
           rw [Zkf hs (by omega) hrun];refine Zia h hd hK (.inr ⟨rfl,rfl⟩) λi' hm' hk'=>?_;obtain⟨w2,hrun2,hm2,hkp2⟩:=Zzn hm' hk (off:=off) (vs:=x.cells.toList) (cs':=Zee cs off av.cells) (Zeg hfit') (by simp [←hl];omega) (Zk7 hx hok)
            (λb hb=>by
             simp only [Zee,List.mem_append] at hb;obtain⟨cur,_,_,_,hone,_⟩:=h.mem.ok.ent k _ hk;rcases hb with(hb | hb) | hb
             ·exact hone b (List.mem_of_mem_take hb)
             ·exact h1 b hb
             ·exact hone b (List.mem_of_mem_drop hb))
            (λj b hb=>by
             rw [Zg9 hfit'] at hb;simp only [Array.length_toList,←hl];split
             ·rename_i hc;rw [if_pos hc] at hb;exact λy hy=>hk'.rs (hr _ b y hb (by simpa using hy))
             ·rename_i hc
              rwa [if_neg hc] at hb)
           rw [hrun] at hrun2;cases hrun2;exact⟨hm2,hkp2,.pure (.u _)⟩
   | prow k sv m i off =>
     obtain⟨g,nn,cc,rfl,rfl⟩:=hp.prow_inv
     cases hk:marks st.mem av.toks k with
     | none=>simp only [hk] at hK;exact hK.elim
     | some e =>
       cases e with
       | box=>simp only [hk] at hK;exact hK.elim
       | map=>simp only [hk] at hK;exact hK.elim
       | row sv' e m' es pub =>
         simp only [hk] at hK;obtain⟨⟨rfl,rfl,hpi,hi,hok,hlen,hpo⟩,hK⟩:=hK;obtain⟨i',hm',hk'⟩:=Zc0 av.toks h.mem;have hrd:=Zgt hm' (hk'.rs hx) hpo;obtain⟨hpok,hplen⟩:=pub_ok hpo hok;obtain⟨hl,hr,h1⟩:=(Rs.pure hrd).cells_of hpok;obtain⟨xs,hown,hmm,hokk,_⟩:=hm'.ok.ent k _ hk;have hvl:x.cells.toList.length=sz:=by simp [←hl];omega
         have key:∀(es':List AV) (el:AV),es'=es.set i el→el.cells.length=m→el.ok=true→off+sz≤m →
          (∀(j:Nat) (b:AV),el.cells[j]?=some b→if off≤j∧j < off+sz then (pubV (marks st.mem av.toks) av).cells[j - off]?=some b else (es.getD i .u).cells[j]?=some b) →
          aRes P tok o.dst (.sto .u k (.row (.slice (some ⟨g,0,none⟩) nn cc) e m es' pub) av.toks) K st→o.upon P a (Zb2 c n K) Q (((do Instr.storeAt t (.pointer (some ⟨g,i*m+off,none⟩)) x;pure Next.skip):Sem Next).run P w):=by
          rintro es' el rfl hel helok hfit hcells hK
          have him:i*m+m≤es.length*m:=by
           have:(i+1)*m≤es.length*m:=Nat.mul_le_mul_right _ hi
           rwa [Nat.add_mul,Nat.one_mul] at this
          have hpim:pub*m≤i*m:=Nat.mul_le_mul_right _ hpi
          have put:∀i2,Mx c (marks st.mem av.toks) w i2→Keeps w imm w i2→∃w',(storeCells ⟨g,i*m+off,none⟩ x.cells.toList).run P w=.ok () w'∧Mx c (upd (marks st.mem av.toks) k (some (.row (.slice (some ⟨g,0,none⟩) nn cc) e m (es.set i el) pub))) w' i2∧Keeps w i2 w' i2:=by
           intro i2 hm2 hk2;have hrd2:=Zgt hm2 (hk2.rs hx) hpo;refine Zwg hm2 hk (off:=i*m+off) (vs:=x.cells.toList) (by simp) (by omega) (by omega) (Zk7 (.pure hrd2) hpok) (λy hy=>?_) (λy hy=>?_) λj b hb=>?_
           ·rcases List.mem_or_eq_of_mem_set hy with h2 | rfl
            ·exact hmm y h2
            ·exact hel
           ·rcases List.mem_or_eq_of_mem_set hy with h2 | rfl
            ·exact hokk y h2
            ·exact helok
           ·rw [Znh hmm i hi hel] at hb;rw [hvl];by_cases hc:i*m≤j∧j < i*m+m
            ·rw [if_pos hc] at hb;have h4:=hcells _ b hb;by_cases hc2:i*m+off≤j∧j < i*m+off+sz
             ·rw [if_pos hc2];rw [if_pos (by omega)] at h4;intro y hy;have e1:j - i*m - off=j - (i*m+off):=by omega
              rw [e1] at h4;exact Zls hrd2 hpok _ _ h4 _ (by simpa using hy)
             ·rw [if_neg hc2];rw [if_neg (by omega)] at h4;have h5:=Zdx hmm i (j - i*m) (by omega) hi;have e1:i*m+(j - i*m)=j:=by omega
              rw [e1] at h5;rw [h5];exact h4
            ·rw [if_neg hc] at hb;rw [if_neg (by omega)];exact hb
          obtain⟨w',hrun,hm2,hk2⟩:=put i' hm' hk';rw [Zkf hs (by simpa using hvl) hrun];refine Zia h hd hK (.inr ⟨rfl,rfl⟩) λi2 hmi hki=>?_;obtain⟨w2,hrun2,hm3,hk3⟩:=put i2 hmi hki;rw [hrun] at hrun2;cases hrun2;exact⟨hm3,hk3,.pure (.u _)⟩
         unfold putEl at hK
         have hgel:(es.getD i .u).cells.length=m:=by
          rw [List.getD_eq_getElem?_getD,List.getElem?_eq_getElem hi];exact hmm _ (List.getElem_mem _)
         by_cases hm1:m=1
         ·rw [if_pos hm1] at hK;obtain⟨⟨rfl,hone⟩,hK⟩:=hK;have h2:=Zqi hpo hone;have h3:=Zgv h2;have h4:sz=1:=by rw [←hlen,Zgv hone];rfl
          refine key _ _ rfl (by rw [h3,hm1];rfl) (one_ok h2) (by omega) (λj b hb=>?_) hK;rw [h3] at hb
          match j with
          | 0=>rw [if_pos (by omega),h3];exact hb
          | j+1=>simp at hb
         ·rw [if_neg hm1] at hK
          cases hge:es.getD i .u with
          | agg ecs =>
            rw [hge] at hK hgel;obtain⟨hfit,hK⟩:=hK;change ecs.length=m at hgel;have hf2:off+(pubV (marks st.mem av.toks) av).cells.length≤ecs.length:=by omega
            refine key _ (.agg (Zee ecs off (pubV (marks st.mem av.toks) av).cells)) rfl ((Zeg hf2).trans hgel) ?_ hfit (λj b hb=>?_) hK
            ·have hgok:(AV.agg ecs).ok=true:=by
              rw [←hge,List.getD_eq_getElem?_getD,List.getElem?_eq_getElem hi];exact hokk _ (List.getElem_mem _)
             refine List.all_eq_true.2 λb hb=>?_;simp only [Zee,List.mem_append] at hb;rcases hb with(hb | hb) | hb
             ·exact List.all_eq_true.1 hgok b (List.mem_of_mem_take hb)
             ·exact ok_one hpok b hb
             ·exact List.all_eq_true.1 hgok b (List.mem_of_mem_drop hb)
            ·change (Zee ecs off (pubV (marks st.mem av.toks) av).cells)[j]?=some b at hb;rw [Zg9 hf2,hplen,hlen] at hb;rw [hge];split
             ·rename_i hc
              rwa [if_pos hc] at hb
             ·rename_i hc
              rwa [if_neg hc] at hb
          | _=>rw [hge] at hK;exact hK.elim
   | _=>exact hK.elim
end
section
variable {P:Program} {c:Cx} {n tok:Nat} {st:St} {a:Act} {w:World} {imm:Imm} {K:St→Prop} {o:Oper} {Q:Exit→Act→World→Prop}
structure Src (w:World) (imm:Imm) (m:Nat) (es:List AV) (x:Value) (A:Option Addr) (cp:Nat) (xs:List Value):Prop where
 val:x=.slice A es.length cp
 len:xs.length=es.length*m
 some_:0 < es.length→A≠none
 cell:∀ad,A=some ad→∀(j:Nat) (u:Value),xs[j]?=some u→w.cell? (ad.add j)=some u
 one:∀u∈xs,u.oneCell'=true
 rd:∀(j:Nat) (a:AV) (x:Value),(flat es)[j]?=some a→xs[j]?=some x→Rd w imm a x
 cells:∀x∈es,x.cells.length=m
 ok:∀x∈es,x.ok=true
theorem Zbp {α:Type} {l:List α} {j:Nat} {a:α} (h:l[j]?=some a):j < l.length:=by
 rcases Nat.lt_or_ge j l.length with h1 | h1
 ·exact h1
 ·rw [List.getElem?_eq_none h1] at h;cases h
theorem src_sl {m:Nat} {es:List AV} {x:Value} (h:Rs w imm (.sl m es) x):∃A cp xs,Src w imm m es x A cp xs∧es.length≤cp:=by
 obtain⟨A,cap,f,rfl,hcap,hm,hok,hn,hA,hr⟩:=h.sl_inv;have hfl:=Zbb hm;refine⟨A,cap,(List.range (es.length*m)).map f,⟨rfl,by simp,hn,λad had j u hu=>?_,λu hu=>?_,λj b y hb hy=>?_,hm,hok⟩,hcap⟩
 ·have hj:j < es.length*m:=by simpa using Zbp hu
  rw [List.getElem?_map,List.getElem?_range hj] at hu;simp only [Option.map_some,Option.some.injEq] at hu;obtain⟨ad',h1,_,h2⟩:=hA j hj;rw [had] at h1;cases h1;rw [←hu];exact h2
 ·simp only [List.mem_map,List.mem_range] at hu;obtain⟨j,hj,rfl⟩:=hu;have hlt:j < (flat es).length:=by rw [hfl];exact hj
  exact(hr j _ (List.getElem?_eq_getElem hlt)).one_of (Zni hok _ (List.getElem_mem hlt))
 ·have hj:j < es.length*m:=by rw [←hfl];exact Zbp hb
  rw [List.getElem?_map,List.getElem?_range hj] at hy;simp only [Option.map_some,Option.some.injEq] at hy;rw [←hy];exact hr j b hb
theorem Zkb {σ:Mem} (h:Mx c σ w imm) {k:Nat} {sv:Value} {e:TypeId} {m pub:Nat} {es:List AV} (hk:σ k=some (.row sv e m es pub)):∃A cp xs,Src w imm m es sv A cp xs∧es.length≤cp∧w.ownsRow c.B e m sv es.length xs:=by
 obtain⟨xs,hown,hm,hok,hr,_⟩:=h.ok.ent k _ hk;have hfl:=Zbb hm
 have hone:∀u∈xs,u.oneCell'=true:=by
  intro u hu;obtain⟨j,hj⟩:=List.getElem?_of_mem hu;have hlt:j < (flat es).length:=by rw [hfl,←hown.1];exact Zbp hj
  exact(hr j _ u (List.getElem?_eq_getElem hlt) hj).one_of (Zni hok _ (List.getElem_mem hlt))
 rcases hown.2 with⟨rfl,hn⟩ | ⟨g,cap,cur,rfl,hB,hh,hnc,hcm,hcs,htake⟩
 ·have:es=[]:=List.eq_nil_of_length_eq_zero hn;subst this;exact⟨none,0,xs,⟨rfl,hown.1,by simp,by simp,hone,hr,hm,hok⟩,by simp,hown⟩
 ·exact⟨some ⟨g,0,none⟩,cap,xs,⟨rfl,hown.1,by simp,λad had=>by cases had;exact hown.cells (g:=g) rfl,hone,hr,hm,hok⟩,hnc,hown⟩
theorem src_view {σ:Mem} (h:Mx c σ w imm) {k:Nat} {sv y:Value} {e:TypeId} {m pub i len:Nat} {es:List AV} (hk:σ k=some (.row sv e m es pub)) (hv:ViewOk sv m i len y):∃A cp xs,Src w imm m ((es.take (i+len)).drop i) y A cp xs:=by
 obtain⟨A,cp,xs,hs,hcap,hown⟩:=Zkb h hk;rcases hv with⟨rfl,rfl,rfl,rfl⟩ | ⟨g,n,c',off,cap,rfl,rfl,hle,hlc,hoff,_⟩
 ·exact⟨none,0,[],⟨rfl,by simp,by simp,by simp,by simp,by simp [flat],by simp,by simp⟩⟩
 ·have hval:=hs.val;cases hval;have hlen:((es.take (i+len)).drop i).length=len:=by simp;omega
  have hsub:∀e∈(es.take (i+len)).drop i,e∈es:=λe he=>List.mem_of_mem_take (List.mem_of_mem_drop he);have hmul:i*m+len*m≤es.length*m:=by rw [←Nat.add_mul];exact Nat.mul_le_mul_right _ hle
  have hxl:=hs.len;refine⟨some ⟨g,off,none⟩,cap,(xs.drop (i*m)).take (len*m),⟨by rw [hlen],by rw [hlen,List.length_take,List.length_drop];omega,λ_=>by simp,λad had j u hu=>?_,λu hu=>hs.one u (List.mem_of_mem_drop (List.mem_of_mem_take hu)),λj a x ha hx=>?_,λe he=>hs.cells e (hsub e he),λe he=>hs.ok e (hsub e he)⟩⟩
  ·cases had;have hj:j < len*m:=by have:=Zbp hu;simp at this;omega
   have hl0:0 < len:=by
    rcases Nat.eq_zero_or_pos len with h5 | h5
    ·rw [h5] at hj;omega
    ·exact h5
   rw [List.getElem?_take,if_pos hj,List.getElem?_drop] at hu;have:=hs.cell _ rfl _ u hu;rw [hoff hl0];rw [Addr.add_lit] at this ⊢
   rwa [Nat.zero_add] at this
  ·have hj:j < len*m:=by have:=Zbp hx;simp at this;omega
   rw [List.getElem?_take,if_pos hj,List.getElem?_drop] at hx;exact hs.rd _ a x (Znj hs.cells (by omega) hle j a ha) hx
theorem Zey {m:Nat} {av:AV} {x:Value} {R:List AV→Res} {dst:Option Nat} (h:Mx c st.mem w imm) (hx:Rs w imm av x) (hK:aRes P tok dst (Zdt st.mem m av R) K st) :
 ∃es A cp xs,aRes P tok dst (R es) K st∧Src w imm m es x A cp xs:=by
 unfold Zdt at hK;split at hK
 ·rename_i m' es;obtain⟨rfl,hK⟩:=hK;obtain⟨A,cp,xs,hs,_⟩:=src_sl hx;exact⟨es,A,cp,xs,hK,hs⟩
 ·rename_i k sv;split at hK
  ·rename_i sv' e m' es pub hk;obtain⟨⟨rfl,rfl⟩,hK⟩:=hK;obtain⟨A,cp,xs,hs,_⟩:=Zkb h hk;have:=hx.own_inv;subst this;exact⟨es,A,cp,xs,hK,hs⟩
  ·exact hK.elim
 ·rename_i k sv m' i len;split at hK
  ·rename_i sv' e m'' es pub hk;obtain⟨⟨rfl,rfl,rfl⟩,hK⟩:=hK;obtain⟨A,cp,xs,hs⟩:=src_view h hk hx.view_inv;exact⟨_,A,cp,xs,hK,hs⟩
  ·exact hK.elim
 ·have:=hx.v_inv;subst this;exact⟨[],none,0,[],hK,⟨rfl,by simp,by simp,by simp,by simp,by simp [flat],by simp,by simp⟩⟩
 ·exact hK.elim
theorem s_append {t t' ty:TypeId} {sv_ xv:AV} {s x:Value} (h:Rel c n st a w imm) (hd:∀d,o.dst=some d→d < n) (hK:aRes P tok o.dst (Zg3 P st t t' sv_ xv) K st) (hs:Rs w imm sv_ s) (hx:Rs w imm xv x) :
 o.upon P a (Zb2 c n K) Q (((do pure (Next.value (←Builtin.append_ #[t,t'] ty #[s,x]))):Sem Next).run P w):=by
 unfold Zg3 at hK;split at hK
 ·rename_i e hu;split at hK
  ·rename_i m by_ z hsz hby hz;obtain⟨i,hi,rfl,rfl,hzz⟩:=Zl0 hsz hby hz;split at hK
   ·rename_i k sv;split at hK
    ·rename_i sv' e' m' es pub hk;obtain⟨⟨rfl,rfl,rfl,rfl,hzs⟩,hK⟩:=hK;have:=hs.own_inv;subst this;obtain⟨news,A,cp,xn,hK,hsrc⟩:=Zey h.mem hx hK;obtain⟨⟨h63,hbytes⟩,hK⟩:=hK;obtain⟨xs,hown,hm,hok,hr,hpl,hp,hq⟩:=h.mem.ok.ent k _ hk;have hxv:=hsrc.val;subst hxv;obtain⟨v',w',hrun,hown',hg,hdw,hat,hsame⟩:=Zi5 (P:=P) w c.B t ty e' i z hu hi hzz hzs s es.length xs hown A news.length cp xn hsrc.len hsrc.some_ hsrc.cell hsrc.one (by simp only [maxLen];omega) hbytes h.mem.lt;obtain⟨i',hm',hk'⟩:=Znu (pub:=pub) h.mem hown' hown.1 hg hdw hat hsame (λy hy=>(List.mem_append.1 hy).elim (hm y) (hsrc.cells y)) (λy hy=>(List.mem_append.1 hy).elim (hok y) (hsrc.ok y)) hr hsrc.rd hpl
      (λg hg'=>(hown.lt g hg').1) hp (λj e2 b h1 h2 h3 h4=>h1 (h.mem.ok.apart j k e2 _ b h2 hk h3 h4.symm))
     rw [Zjp hrun]
     have hv1:v'.oneCell'=true:=by
      rcases hown'.2 with⟨rfl,_⟩ | ⟨g,cap,cur,rfl,_⟩<;>rfl
     have hK2:∀sv:Value,K (St.put ⟨st.env,upd st.mem k (some (.row sv e' i.size (es++news) pub))⟩ o.dst (.own k sv)):=by
      have:=hK;simp only [aRes,marks,hk] at this;exact this
     exact⟨_,i',hK2 v',h.step hk' hm' hd (.own k v' hv1)⟩
    ·exact hK.elim
   ·rename_i k sv m₁ i₁ n₁;split at hK
    ·rename_i sv' e' m' es pub hk;obtain⟨⟨rfl,rfl,rfl,rfl,hmm,rfl,hpn,hnl,hzs⟩,hK⟩:=hK;subst hmm;have hvw:=hs.view_inv;obtain⟨news,A,cp,xn,hK,hsrc⟩:=Zey h.mem hx hK;obtain⟨⟨h63,hbytes⟩,hK⟩:=hK;obtain⟨xs,hown,hm,hok,hr,hpl,hp,hq⟩:=h.mem.ok.ent k _ hk;have hxv:=hsrc.val;subst hxv;have hnm:n₁*i.size≤es.length*i.size:=Nat.mul_le_mul_right _ hnl;have hxl:=hown.1
     have hsub:w.ownsRow c.B e' i.size s n₁ (xs.take (n₁*i.size))∧s.ownBlock=sv.ownBlock:=by
      rcases hvw with⟨rfl,_,rfl,rfl⟩ | ⟨g,n,c',off,cap,rfl,rfl,hle,hlc,hoff,h0⟩
      ·exact⟨⟨by simp,.inl ⟨rfl,rfl⟩⟩,rfl⟩
      ·obtain⟨rfl,rfl⟩:=h0 rfl;rcases hown.2 with⟨h1,_⟩ | ⟨g',cap',cur,h1,hB,hh,hnc,hcm,hcs,htake⟩
       ·cases h1
       ·cases h1;refine⟨⟨by rw [List.length_take];omega,.inr ⟨g,cap,cur,rfl,hB,hh,hlc,hcm,hcs,?_⟩⟩,rfl⟩;rw [←htake,List.take_take,Nat.min_eq_left hnm]
     obtain⟨hown1,hblk⟩:=hsub;have hmt:∀y∈es.take n₁,y.cells.length=i.size:=λy hy=>hm y (List.mem_of_mem_take hy);have hlt1:(es.take n₁).length=n₁:=by rw [List.length_take];omega
     obtain⟨v',w',hrun,hown',hg,hdw,hat,hsame⟩:=Zi5 (P:=P) w c.B t ty e' i z hu hi hzz hzs s n₁ _ hown1 A news.length cp xn hsrc.len hsrc.some_ hsrc.cell hsrc.one (by simp only [maxLen];omega) hbytes h.mem.lt;obtain⟨i',hm',hk'⟩:=Znu (k:=k) (es:=es.take n₁) (pub:=pub) h.mem (by rw [hlt1];exact hown') (by rw [hlt1];exact hown1.1) hg hdw hat (by rw [hlt1];exact hsame) (λy hy=>(List.mem_append.1 hy).elim (hmt y) (hsrc.cells y)) (λy hy=>(List.mem_append.1 hy).elim (λh5=>hok y (List.mem_of_mem_take h5)) (hsrc.ok y))
      (λj a x ha hx=>by
       have h5:=Znj (l:=0) (hh:=n₁) hm (by omega) hnl j a (by simpa using ha);have hj:j < n₁*i.size:=by have:=Zbp hx;simp at this;omega
       rw [List.getElem?_take,if_pos hj] at hx;exact hr j a x (by simpa using h5) hx) hsrc.rd (by rw [hlt1];exact hpn)
      (λg hg'=>(hown1.lt g hg').1) (λad h1 h2=>hp ad h1 (hblk ▸ h2)) (λj e2 b h1 h2 h3 h4=>h1 (h.mem.ok.apart j k e2 _ b h2 hk h3 (show sv.ownBlock=some b from hblk ▸ h4.symm)))
     rw [Zjp hrun]
     have hv1:v'.oneCell'=true:=by
      rcases hown'.2 with⟨rfl,_⟩ | ⟨g,cap,cur,rfl,_⟩<;>rfl
     have hK2:∀sv:Value,K (St.put ⟨st.env,upd st.mem k (some (.row sv e' i.size (es.take n₁++news) pub))⟩ o.dst (.own k sv)):=by
      have:=hK;simp only [aRes,hk] at this;exact this
     exact⟨_,i',hK2 v',h.step hk' hm' hd (.own k v' hv1)⟩
    ·exact hK.elim
   ·split at hK
    ·rename_i nn;obtain⟨⟨htn,hzs,hm0,hn0,h63,hby2,hzl,hzok⟩,hK⟩:=hK;have:=hs.v_inv;subst this;have:=hx.v_inv;subst this;obtain⟨nn,rfl⟩:=Int.eq_ofNat_of_zero_le (show 0≤nn by omega);simp only [Int.toNat_natCast] at hby2 hK;have hrun:=Go.Lib.run_append_nil_zeros (P:=P) w t t' ty e i z .i64 .i64 hu htn hi hzz nn (by omega) hm0 h63 (by omega);have hl1:(Builtin.zeroCells z.cells nn).toList.length=nn*i.size:=by rw [Array.length_toList,size_zeroCells,hzs]
     have hown':World.ownsRow (w.drew.alloc (.cells (Builtin.zeroCells z.cells nn++Builtin.zeroCells z.cells (grownCap w nn 0 e - nn)) e)) c.B e i.size (.slice (some ⟨w.heap.size,0,none⟩) nn (grownCap w nn 0 e)) nn (Builtin.zeroCells z.cells nn).toList:=by
      have hge:=grownCap_ge w nn 0 e;refine⟨hl1,.inr ⟨w.heap.size,_,_,rfl,h.mem.lt,heap_alloc_new w.drew _,hge,grownCap_le_maxLen w nn 0 e (by simp only [maxLen];omega),?_,?_⟩⟩
      ·rw [Array.size_append,size_zeroCells,size_zeroCells,hzs,←Nat.add_mul,show nn+(grownCap w nn 0 e - nn)=grownCap w nn 0 e by omega]
      ·rw [←hl1];simp only [Array.toList_append];exact List.take_left
     have hg:w.grownBy (w.drew.alloc (.cells (Builtin.zeroCells z.cells nn++Builtin.zeroCells z.cells (grownCap w nn 0 e - nn)) e)) none:=⟨rfl,rfl,rfl,by simp,λk hk _=>Below.heap_alloc w.drew _ k hk⟩
     have hcs:∀(b:AV) (y:Value) (j:Nat),(AV.ofVal z).cells[j]?=some b→z.cells[j]?=some y→b=.v y:=by
      intro b y j hb hy;cases z<;>first
       | (simp only [AV.ofVal,AV.cells,Value.cells] at hb hy
          match j with
          | 0=>simp at hb hy;rw [←hb,←hy]
          | j+1=>simp at hb)
       | (simp only [AV.ofVal,AV.cells,Value.cells,List.getElem?_map,Array.getElem?_toList] at hb hy
          rw [hy] at hb;simp at hb;exact hb.symm)
     have hrd:∀(j:Nat) (b:AV) (y:Value),(flat (List.replicate nn (AV.ofVal z)))[j]?=some b→(Builtin.zeroCells z.cells nn).toList[j]?=some y→Rd w imm b y:=by
      intro j b y hb hy;have hm:∀x∈List.replicate nn (AV.ofVal z),x.cells.length=i.size:=λy hy=>by rw [List.eq_of_mem_replicate hy];exact hzl
      have hj:j < nn*i.size:=by
       have:=Zbp hb
       rwa [Zbb hm,List.length_replicate] at this
      have hdm:j=(j/i.size)*i.size+j%i.size:=by rw [Nat.mul_comm];exact(Nat.div_add_mod j i.size).symm
      have hq:j/i.size < nn:=by rw [Nat.div_lt_iff_lt_mul hm0];exact hj
      have hfg:=Zdx hm (j/i.size) (j%i.size) (Nat.mod_lt _ hm0) (by simpa using hq);rw [←hdm,hb] at hfg;rw [List.getD_eq_getElem?_getD,List.getElem?_replicate,if_pos hq] at hfg;simp only [Option.getD_some] at hfg;have hlt:j%i.size < z.cells.size:=by rw [hzs];exact Nat.mod_lt _ hm0
      have hy2:y=z.cells[j%i.size]!:=by
       rw [Array.getElem?_toList] at hy;unfold Builtin.zeroCells at hy;rw [Array.getElem?_map,Array.getElem?_range,if_pos (by rw [hzs];exact hj),hzs] at hy
       simpa using hy.symm
      have:=hcs b y (j%i.size) hfg.symm (by rw [hy2,Array.getElem?_eq_getElem hlt];simp [hlt]);rw [this];exact .v y
     obtain⟨i',hm',hk'⟩:=Znu (k:=tok) (es:=[]) (xs:=[]) (pub:=0) (sv:=.slice none 0 0) (news:=List.replicate nn (AV.ofVal z)) (xn:=(Builtin.zeroCells z.cells nn).toList) (w':=w.drew.alloc (.cells (Builtin.zeroCells z.cells nn++Builtin.zeroCells z.cells (grownCap w nn 0 e - nn)) e)) (v':=.slice (some ⟨w.heap.size,0,none⟩) nn (grownCap w nn 0 e)) h.mem (by simpa using hown') (by simp) hg (Nat.le_succ _) (.inr rfl) (by simp [Value.ownBlock]) (λy hy=>by rw [List.eq_of_mem_replicate hy];exact hzl) (λy hy=>by rw [List.eq_of_mem_replicate hy];exact hzok) (by simp [flat]) hrd (by simp)
      (by simp [Value.ownBlock]) (by simp [Value.ownBlock]) (by simp [Value.ownBlock])
     rw [Zjp hrun];exact⟨_,i',hK _,h.step hk' hm' hd (.own tok _ rfl)⟩
    ·obtain⟨⟨rfl,hzs⟩,hK⟩:=hK;have:=hs.v_inv;subst this;obtain⟨news,A,cp,xn,hK,hsrc⟩:=Zey h.mem hx hK;obtain⟨⟨h63,hbytes⟩,hK⟩:=hK;have hxv:=hsrc.val;subst hxv;obtain⟨v',w',hrun,hown',hg,hdw,hat,hsame⟩:=Zi5 (P:=P) w c.B t ty e i z hu hi hzz hzs (.slice none 0 0) 0 [] (World.ownsRow_nil w c.B e i.size) A news.length cp xn hsrc.len hsrc.some_ hsrc.cell hsrc.one (by simp only [maxLen];omega) (by simpa using hbytes) h.mem.lt;obtain⟨i',hm',hk'⟩:=Znu (k:=tok) (es:=[]) (xs:=[]) (pub:=0) (sv:=.slice none 0 0) h.mem (by simpa using hown') (by simp) hg hdw hat (by simp [Value.ownBlock]) (by simpa using hsrc.cells) (by simpa using hsrc.ok) (by simp [flat]) hsrc.rd (by simp)
      (by simp [Value.ownBlock]) (by simp [Value.ownBlock]) (by simp [Value.ownBlock])
     rw [Zjp hrun]
     have hv1:v'.oneCell'=true:=by
      rcases hown'.2 with⟨rfl,_⟩ | ⟨g,cap,cur,rfl,_⟩<;>rfl
     exact⟨_,i',hK v',h.step hk' hm' hd (.own tok v' hv1)⟩
   ·exact hK.elim
  ·exact hK.elim
 ·exact hK.elim
theorem s_copy {t ty u:TypeId} {dv xv:AV} {s x:Value} (h:Rel c n st a w imm) (hd:∀d,o.dst=some d→d < n) (hK:aRes P tok o.dst (Znn P st t dv xv) K st) (hs:Rs w imm dv s) (hx:Rs w imm xv x) :
 o.upon P a (Zb2 c n K) Q (((do pure (Next.value (←Builtin.copy_ #[t,u] ty #[s,x]))):Sem Next).run P w):=by
 unfold Znn at hK;split at hK
 ·rename_i e hu;split at hK
  ·rename_i m hsz;split at hK
   ·rename_i k sv;split at hK
    ·rename_i sv' e' m' es pub hk;obtain⟨⟨rfl,rfl,rfl,rfl⟩,hK⟩:=hK;have:=hs.own_inv;subst this;obtain⟨news,A,cp,xn,hK,hsrc⟩:=Zey h.mem hx hK;have hxv:=hsrc.val;subst hxv;obtain⟨A2,cp2,xs,hsrc2,_,hown⟩:=Zkb h.mem hk;have hsv:=hsrc2.val;subst hsv;have hq:min news.length es.length*m'≤xn.length:=by rw [hsrc.len];exact Nat.mul_le_mul_right _ (Nat.min_le_left _ _)
     have hf:(Builtin.firstCells m' (min news.length es.length) (.slice A news.length cp)).run P w=.ok (xn.take (min news.length es.length*m')).toArray w:=by
      cases A with
      | some ad =>
        refine run_firstCells_some (P:=P) w m' _ ad _ _ _ (by rw [List.length_take];omega) λj v hv=>?_;rw [List.getElem?_take] at hv;split at hv
        ·exact hsrc.cell ad rfl j v hv
        ·cases hv
      | none =>
        have h0:news.length=0:=by rcases Nat.eq_zero_or_pos news.length with h1 | h1;exact h1;exact absurd rfl (hsrc.some_ h1)
        simp [Builtin.firstCells,h0]
     have hlen:(news.take es.length++es.drop news.length).length=es.length:=by simp;omega
     have put:∀i2,Mx c st.mem w i2→Keeps w imm w i2→∃w',(match A2 with | some ad=>storeCells ad (xn.take (min news.length es.length*m')) | none=>pure ()).run P w=.ok () w'∧Mx c (upd st.mem k (some (.row (.slice A2 es.length cp2) e' m' (news.take es.length++es.drop news.length) 0))) w' i2∧Keeps w i2 w' i2:=by
      intro i2 hm2 hk2;rcases hown.2 with⟨h1,h2⟩ | ⟨g,cap,cur,h1,h2⟩
      ·have:es=[]:=List.eq_nil_of_length_eq_zero h2;subst this;simp only [List.length_nil,Value.slice.injEq,true_and] at h1;obtain⟨rfl,rfl⟩:=h1;refine⟨w,rfl,?_,Keeps.refl _ _⟩
       have e1:upd st.mem k (some (.row (.slice none 0 0) e' m' [] 0))=st.mem:=by
        funext j
        rw [Zam];split
        ·subst_vars;rw [hk];rfl
        ·rfl
       simp only [List.length_nil,List.take_zero,List.drop_nil,List.append_nil];rw [e1];exact hm2
      ·cases h1;refine Zwg hm2 hk (off:=0) (vs:=xn.take (min news.length es.length*m')) hlen ?_ (by simp) (λv hv=>hsrc.one v (List.mem_of_mem_take hv)) ?_ ?_ λj b hb=>?_
       ·rw [List.length_take,Nat.zero_add];exact Nat.le_trans (Nat.min_le_left _ _) (Nat.mul_le_mul_right _ (Nat.min_le_right _ _))
       ·intro y hy;rcases List.mem_append.1 hy with hy | hy
        ·exact hsrc.cells y (List.mem_of_mem_take hy)
        ·exact hsrc2.cells y (List.mem_of_mem_drop hy)
       ·intro y hy;rcases List.mem_append.1 hy with hy | hy
        ·exact hsrc.ok y (List.mem_of_mem_take hy)
        ·exact hsrc2.ok y (List.mem_of_mem_drop hy)
       ·have hl1:(flat (news.take es.length)).length=min news.length es.length*m':=by
         rw [Zbb λy hy=>hsrc.cells y (List.mem_of_mem_take hy),List.length_take,Nat.min_comm]
        have hl2:(xn.take (min news.length es.length*m')).length=min news.length es.length*m':=by rw [List.length_take];omega
        rw [Zcr] at hb;rw [hl2];split
        ·rename_i hc;rw [List.getElem?_append_left (by omega)] at hb;intro y hy;rw [Nat.sub_zero,List.getElem?_take,if_pos (by omega)] at hy
         have hb2:(flat news)[j]?=some b:=by
          have e1:flat news=flat (news.take es.length)++flat (news.drop es.length):=by rw [←Zcr,List.take_append_drop]
          rw [e1,List.getElem?_append_left (by omega)];exact hb
         exact hk2.rd (hsrc.rd j b y hb2 hy)
        ·rename_i hc;rw [List.getElem?_append_right (by omega),hl1] at hb;have e1:flat es=flat (es.take news.length)++flat (es.drop news.length):=by rw [←Zcr,List.take_append_drop]
         have hl3:(flat (es.take news.length)).length=min news.length es.length*m':=by
          rw [Zbb λy hy=>hsrc2.cells y (List.mem_of_mem_take hy),List.length_take]
         rw [e1,List.getElem?_append_right (by omega),hl3];exact hb
     obtain⟨w',hrun,_,_⟩:=put imm h.mem (Keeps.refl _ _)
     have hall:(Builtin.copy_ #[t,u] ty #[.slice A2 es.length cp2,.slice A news.length cp]).run P w=.ok (.int .i64 (min news.length es.length:Nat)) w':=by
      have hmin:Nat.min news.length es.length=min news.length es.length:=rfl
      cases A2 with
      | none =>
        simp only [Sem.run_pure,Result.ok.injEq,true_and] at hrun;subst hrun;simp [Builtin.copy_,run_underlying hu,Builtin.lenOf,Zac hsz,hmin,hf,goInt]
      | some ad=>simp [Builtin.copy_,run_underlying hu,Builtin.lenOf,Zac hsz,hmin,hf,goInt,hrun]
     rw [Zjp hall];refine Zia h hd hK (.inl rfl) λi' hm' hk'=>?_;obtain⟨w2,hrun2,hm2,hk2⟩:=put i' hm' hk';rw [hrun] at hrun2;cases hrun2;exact⟨hm2,hk2,.pure (.v _)⟩
    ·exact hK.elim
   ·exact hK.elim
  ·exact hK.elim
 ·exact hK.elim
theorem s_make {t:TypeId} {lv cv:AV} {l cp:Value} (h:Rel c n st a w imm) (hd:∀d,o.dst=some d→d < n) (hK:aRes P tok o.dst (Zfa P t lv cv) K st) (hl:Rs w imm lv l) (hc:Rs w imm cv cp) :
 o.upon P a (Zb2 c n K) Q (((do pure (Next.value (←Instr.makeSlice t l cp))):Sem Next).run P w):=by
 unfold Zfa at hK;split at hK
 ·rename_i e kl nn kc cap hu;split at hK
  ·rename_i m by_ z hsz hby hz;obtain⟨i,hi,rfl,rfl,hzz⟩:=Zl0 hsz hby hz;obtain⟨⟨h0,h1,h2,h3,hzl,hzok⟩,hK⟩:=hK;have:=hl.v_inv;subst this;have:=hc.v_inv;subst this;obtain⟨nn,rfl⟩:=Int.eq_ofNat_of_zero_le h0;obtain⟨cap,rfl⟩:=Int.eq_ofNat_of_zero_le (show 0≤cap by omega);have hr:=run_make (P:=P) w t e i z hu hi hzz kl kc (nn:Int) (cap:Int) (by omega) (by omega) h3 h2;simp only [Int.toNat_natCast] at hr hK;rw [Zjp hr];have hzc:=(Rs.pure (Rd.v (w:=w) (imm:=imm) z))
   have hcs:∀(b:AV) (y:Value) (j:Nat),(AV.ofVal z).cells[j]?=some b→z.cells[j]?=some y→b=.v y:=by
    intro b y j hb hy;cases z<;>first
     | (simp only [AV.ofVal,AV.cells,Value.cells] at hb hy
        match j with
        | 0=>simp at hb hy;rw [←hb,←hy]
        | j+1=>simp at hb)
     | (simp only [AV.ofVal,AV.cells,Value.cells,List.getElem?_map,Array.getElem?_toList] at hb hy
        rw [hy] at hb;simp at hb;exact hb.symm)
   have hzsz:z.cells.size=i.size:=by
    rw [←hzl];cases z<;>simp [AV.ofVal,AV.cells,Value.cells]
   refine upon_row (cap:=cap) (vs:=madeCells z.cells (cap*i.size)) (es:=List.replicate nn (AV.ofVal z)) h hd hK (by simp;omega) (by simp only [maxLen];omega) (by simp [madeCells]) (λy hy=>by rw [List.eq_of_mem_replicate hy];exact hzl) (λy hy=>by rw [List.eq_of_mem_replicate hy];exact hzok) ?_ |> (λh=>by simpa using h)
   intro imm' _ _ j b y hb hy;have hm:∀x∈List.replicate nn (AV.ofVal z),x.cells.length=i.size:=λy hy=>by rw [List.eq_of_mem_replicate hy];exact hzl
   have hj:j < nn*i.size:=by
    have:=Zbp hb
    rwa [Zbb hm,List.length_replicate] at this
   have hm0:0 < i.size:=by
    rcases Nat.eq_zero_or_pos i.size with h4 | h4
    ·rw [h4] at hj;omega
    ·exact h4
   have hdm:j=(j/i.size)*i.size+j%i.size:=by rw [Nat.mul_comm];exact(Nat.div_add_mod j i.size).symm
   have hq:j/i.size < nn:=by rw [Nat.div_lt_iff_lt_mul hm0];exact hj
   have hfg:=Zdx hm (j/i.size) (j%i.size) (Nat.mod_lt _ hm0) (by simpa using hq);rw [←hdm,hb] at hfg;rw [List.getD_eq_getElem?_getD,List.getElem?_replicate,if_pos hq] at hfg;simp only [Option.getD_some] at hfg;have hjc:j < cap*i.size:=Nat.lt_of_lt_of_le hj (Nat.mul_le_mul_right _ (by omega))
   have hy2:y=z.cells[j%i.size]!:=by
    simp only [madeCells,hzsz] at hy;rw [Array.getElem?_map,Array.getElem?_range,if_pos hjc] at hy
    simpa using hy.symm
   have hlt:j%i.size < z.cells.size:=by rw [hzsz];exact Nat.mod_lt _ hm0
   have:=hcs b y (j%i.size) hfg.symm (by rw [hy2,Array.getElem?_eq_getElem hlt];simp [hlt]);rw [this];exact .v y
  ·exact hK.elim
 ·exact hK.elim
end
section
variable {P:Program} {c:Cx} {n tok:Nat} {st:St} {a:Act} {w:World} {imm:Imm} {K:St→Prop} {o:Oper} {Q:Exit→Act→World→Prop}
theorem s_field {s:TypeId} {xv:AV} {x:Value} {f:Nat} (h:Rel c n st a w imm) (hd:∀d,o.dst=some d→d < n) (hK:aRes P tok o.dst (Zhi P s xv f) K st) (hx:Rs w imm xv x) :
 o.upon P a (Zb2 c n K) Q (((do pure (Next.value (←Instr.fieldAt s x f))):Sem Next).run P w):=by
 unfold Zhi at hK;split at hK
 ·rename_i fields hu;split at hK
  ·rename_i fd hf;split at hK
   ·rename_i sz hsz;obtain⟨hne,hK⟩:=hK
    have run:∀ad:Addr,x=.pointer (some ad)→(Instr.fieldAt s x f).run P w=.ok (.pointer (some (ad.add fd.offset))) w:=by
     rintro ad rfl
     simp [Instr.fieldAt,run_underlying hu,hf,Instr.sureAddr,fieldPlace,Zac hsz,hne]
    cases xv with
    | pimm cs =>
      obtain⟨ad,g,rfl,h1,h2⟩:=hx.pimm_inv;refine Zad h hd hK (run ad rfl) (.pure (.pimm _ _ (λj=>g (fd.offset+j)) (λj hj=>?_) λj b hb=>?_))
      ·rw [Zen];exact h1 _ (by simp at hj;omega)
      ·rw [List.getElem?_drop] at hb;exact h2 _ b hb
    | pbox k g off =>
      have:=hx.pbox_inv;subst this;refine Zad h hd hK (run _ rfl) ?_;rw [Addr.add_lit];exact .pbox _ _ _
    | prow k sv m i off =>
      obtain⟨g,nn,cc,rfl,rfl⟩:=hx.prow_inv;refine Zad h hd hK (run _ rfl) ?_;rw [Addr.add_lit,Nat.add_assoc];exact .prow k _ m i (off+fd.offset) g nn cc rfl
    | _=>exact hK.elim
   ·exact hK.elim
  ·exact hK.elim
 ·exact hK.elim
theorem Zp7 {t:TypeId} {xv iv:AV} {x i:Value} (h:Rel c n st a w imm) (hd:∀d,o.dst=some d→d < n) (hK:aRes P tok o.dst (Zbg P st t xv iv) K st) (hx:Rs w imm xv x) (hi:Rs w imm iv i) :
 o.upon P a (Zb2 c n K) Q (((do pure (Next.value (←Instr.indexAt t x i))):Sem Next).run P w):=by
 unfold Zbg at hK;split at hK
 ·rename_i e kk j hu;have:=hi.v_inv;subst this;split at hK
  ·rename_i sz hsz
   have run:∀(ad:Addr) (len cap:Nat),x=.slice (some ad) len cap→0≤j→j < len→(Instr.indexAt t x (.int kk j)).run P w=.ok (.pointer (some (ad.add (j.toNat*sz)))) w:=by
    rintro ad len cap rfl h0 h1
    simp [Instr.indexAt,asIntOf,run_underlying hu,h0,h1,Zac hsz]
   cases xv with
   | sl m es =>
     obtain⟨⟨rfl,h0,h1⟩,hK⟩:=hK;obtain⟨A,cap,f,rfl,hcap,hm,hok,hn,hA,hr⟩:=hx.sl_inv;obtain⟨j,rfl⟩:=Int.eq_ofNat_of_zero_le h0;have hj:j < es.length:=by omega
     have hA1:A≠none:=hn (by omega)
     cases A with
     | none=>exact absurd rfl hA1
     | some ad =>
       simp only [Int.toNat_natCast] at hK
       have hel:(es.getD j .u).cells.length=sz:=by
        rw [List.getD_eq_getElem?_getD,List.getElem?_eq_getElem hj];exact hm _ (List.getElem_mem _)
       have hmul:j*sz+sz≤es.length*sz:=by
        have:(j+1)*sz≤es.length*sz:=Nat.mul_le_mul_right _ hj
        rwa [Nat.add_mul,Nat.one_mul] at this
       refine Zad h hd hK (run ad _ cap rfl h0 h1) (.pure (.pimm _ _ (λq=>f (j*sz+q)) (λq hq=>?_) λq b hb=>?_))
       ·rw [hel] at hq;rw [Zen,Int.toNat_natCast];obtain⟨ad',e1,e2,e3⟩:=hA (j*sz+q) (by omega);cases e1;exact⟨e2,e3⟩
       ·have hq:q < sz:=by rw [←hel];exact Zbp hb
        exact hr _ b ((Zdx hm j q hq hj).trans hb)
   | own k sv =>
     simp only at hK;split at hK
     ·rename_i sv' e' m es pub hk;obtain⟨⟨rfl,rfl,h0,h1⟩,hK⟩:=hK;have:=hx.own_inv;subst this;obtain⟨xs,hown,_⟩:=h.mem.ok.ent k _ hk;rcases hown.2 with⟨_,hn⟩ | ⟨g,cap,cur,rfl,_⟩
      ·omega
      ·refine Zad h hd hK (run ⟨g,0,none⟩ _ cap rfl h0 h1) ?_;rw [Addr.add_lit,Nat.zero_add];exact .prow k _ sz j.toNat 0 g _ _ rfl
     ·exact hK.elim
   | view k sv m i len =>
     obtain⟨⟨rfl,h0,h1⟩,hK⟩:=hK;rcases hx.view_inv with⟨_,_,rfl,_⟩ | ⟨g,nn,cc,off,cap,rfl,rfl,hle,hlc,hoff,_⟩
     ·omega
     ·refine Zad h hd hK (run ⟨g,off,none⟩ _ cap rfl h0 h1) ?_;have e1:off+j.toNat*sz=(i+j.toNat)*sz+0:=by rw [hoff (by omega),Nat.add_zero,Nat.add_mul]
      rw [Addr.add_lit,e1];exact .prow k _ sz (i+j.toNat) 0 g _ _ rfl
   | _=>exact hK.elim
  ·exact hK.elim
 ·rename_i len e kk j hu;have:=hi.v_inv;subst this;split at hK
  ·rename_i sz hsz;obtain⟨⟨h0,h1⟩,hK⟩:=hK
   have run:∀ad:Addr,x=.pointer (some ad)→(Instr.indexAt t x (.int kk j)).run P w=.ok (.pointer (some (ad.add (j.toNat*sz)))) w:=by
    rintro ad rfl
    simp [Instr.indexAt,asIntOf,run_underlying hu,Instr.sureAddr,h0,h1,Zac hsz]
   cases xv with
   | pimm cs =>
     obtain⟨ad,g,rfl,h2,h3⟩:=hx.pimm_inv;refine Zad h hd hK (run ad rfl) (.pure (.pimm _ _ (λq=>g (j.toNat*sz+q)) (λq hq=>?_) λq b hb=>?_))
     ·rw [Zen];exact h2 _ (by simp at hq;omega)
     ·rw [List.getElem?_drop] at hb;exact h3 _ b hb
   | pbox k g off =>
     have:=hx.pbox_inv;subst this;refine Zad h hd hK (run _ rfl) ?_;rw [Addr.add_lit];exact .pbox _ _ _
   | prow k sv m i off =>
     obtain⟨g,nn,cc,rfl,rfl⟩:=hx.prow_inv;refine Zad h hd hK (run _ rfl) ?_;rw [Addr.add_lit,Nat.add_assoc];exact .prow k _ m i (off+j.toNat*sz) g nn cc rfl
   | _=>exact hK.elim
  ·exact hK.elim
 ·exact hK.elim
theorem s_index {t:TypeId} {xv iv:AV} {x i:Value} (h:Rel c n st a w imm) (hd:∀d,o.dst=some d→d < n) (hK:aRes P tok o.dst (Zj0 P t xv iv) K st) (hx:Rs w imm xv x) (hi:Rs w imm iv i) :
 o.upon P a (Zb2 c n K) Q (((do pure (Next.value (←Instr.index t x i))):Sem Next).run P w):=by
 unfold Zj0 at hK;split at hK
 ·rename_i len e cs kk j hu;have:=hi.v_inv;subst this;split at hK
  ·rename_i sz hsz;obtain⟨⟨h0,h1⟩,hK⟩:=hK;obtain⟨vs,rfl,hl,hr⟩:=hx.agg_inv
   have e1:(Instr.index t (.agg vs) (.int kk j)).run P w=(part e vs (j.toNat*sz)).run P w:=by
    simp [Instr.index,asIntOf,run_underlying hu,h0,h1,Zac hsz]
   have:=Zjd (o:=o) (Q:=Q) h hd hK hl hr;simp only [Sem.run_bind] at this ⊢;rw [e1];exact this
  ·exact hK.elim
 ·rename_i s kk j hu;have:=hi.v_inv;subst this;have:=hx.v_inv;subst this;obtain⟨⟨h0,h1⟩,hK⟩:=hK;obtain⟨j,rfl⟩:=Int.eq_ofNat_of_zero_le h0;have hj:j < s.size:=by omega
  refine Zad h hd hK ?_ (.pure (.v _));have hj2:j < s.data.toList.length:=hj;simp only [Int.toNat_natCast];rw [List.getD_eq_getElem?_getD,List.getElem?_eq_getElem hj2];simp [Instr.index,asIntOf,run_underlying hu,hj];rfl
 ·exact hK.elim
def CLs (w:World) (imm:Imm) (cs:List AV) (vs:Array Value):Prop:=cs.length=vs.size∧∀(j:Nat) (b:AV) (y:Value),cs[j]?=some b→vs[j]?=some y→Rs w imm b y
theorem Zht {t:TypeId} {x y:Bool} (hu:P.underlying t=some .bool):(Op.equal t (.bool x) (.bool y)).run P w=.ok (x == y) w:=by
 have hd:Op.maxDepth=9999+1:=rfl;unfold Op.equal;rw [hd];unfold Op.equalIn;simp only [Sem.run_bind,run_underlying hu,Result.andThen_ok,Sem.run_pure]
theorem Zob {t e:TypeId} {a:Addr} {n c:Nat} (hu:P.underlying t=some (.slice e)):(Op.equal t (.slice (some a) n c) (.slice none 0 0)).run P w=.ok false w:=by
 have hd:Op.maxDepth=9999+1:=rfl;unfold Op.equal;rw [hd];unfold Op.equalIn;simp only [Sem.run_bind,run_underlying hu,Result.andThen_ok,Sem.run_pure]
theorem Zml {t e:TypeId} (hu:P.underlying t=some (.slice e)):(Op.equal t (.slice none 0 0) (.slice none 0 0)).run P w=.ok true w:=by
 have hd:Op.maxDepth=9999+1:=rfl;unfold Op.equal;rw [hd];unfold Op.equalIn;simp only [Sem.run_bind,run_underlying hu,Result.andThen_ok,Sem.run_pure];rfl
theorem Zc9 {t:TypeId} {d:TypeDesc} {vs:Array Value} {off:Nat} {x:Value} (hu:P.underlying t=some d) (hd:Zfw d=false) (hx:vs[off]?=some x):(part t vs off).run P w=.ok x w:=by
 have hag:(isAgg t).run P w=.ok false w:=by
  simp only [isAgg,Sem.run_bind,run_underlying hu,Result.andThen_ok];cases d<;>first|rfl|cases hd
 simp [part,hag,hx]
def Zlf (d:Nat) (vs us:Array Value):List (TypeId × Nat)→Sem Bool
 | []=>pure true
 | (t,off) :: r=>do
   let a ←part t vs off
   let b ←part t us off
   if ←Op.equalIn d t a b then Zlf d vs us r else pure false
theorem Zh6 {d:Nat} {xs ys:List AV} {vs us:Array Value} {dst:Option Nat} (hx:CLs w imm xs vs) (hy:CLs w imm ys us):∀(l:List (TypeId × Nat)) (R:Bool→Res),aRes P tok dst (Zex P l xs ys R) K st →
 ∃b,aRes P tok dst (R b) K st∧(Zlf (d+1) vs us l).run P w=.ok b w
 | [],R,hK=>⟨true,hK,rfl⟩
 | (t,off) :: r,R,hK=>by
   simp only [Zex] at hK
   have get:∀{zs:List AV} {ws:Array Value} {v:Value} {rest:List AV},CLs w imm zs ws→zs.drop off=.v v :: rest→ws[off]?=some v:=by
    intro zs ws v rest hc h1
    have h2:zs[off]?=some (.v v):=by
     have:=congrArg (λl=>l[0]?) h1
     simpa [List.getElem?_drop] using this
    have hlt:off < ws.size:=by rw [←hc.1];exact(List.getElem?_eq_some_iff.1 h2).1
    rw [Array.getElem?_eq_getElem hlt];have:=hc.2 off _ _ h2 (Array.getElem?_eq_getElem hlt);rw [this.v_inv]
   have step:∀(a b:Value) (c:Bool) (td:TypeDesc),P.underlying t=some td→Zfw td=false→vs[off]?=some a→us[off]?=some b→(Op.equalIn (d+1) t a b).run P w=.ok c w→aRes P tok dst (Zex P r xs ys λc'=>R (c && c')) K st →
    ∃b,aRes P tok dst (R b) K st∧(Zlf (d+1) vs us ((t,off) :: r)).run P w=.ok b w:=by
    intro a b c td hu hag ha hb he hK;obtain⟨c',h1,h2⟩:=Zh6 hx hy r _ hK;refine⟨c && c',h1,?_⟩;simp only [Zlf,Sem.run_bind,Zc9 hu hag ha,Zc9 hu hag hb,Result.andThen_ok,he];cases c
    ·simp
    ·simpa using h2
   split at hK
   ·rename_i a ra b rb hu h1 h2;exact step _ _ (a == b) _ hu rfl (get hx h1) (get hy h2) (run_equalIn_bool' (P:=P) w d t a b hu) hK
   ·rename_i kk k a ra k' b rb hu h1 h2;obtain⟨rfl,hK⟩:=hK;exact step _ _ (a == b) _ hu rfl (get hx h1) (get hy h2) (run_equalIn_int (P:=P) w d t k kk a b hu) hK
   ·rename_i a ra b rb hu h1 h2;exact step _ _ (a.toList == b.toList) _ hu rfl (get hx h1) (get hy h2) (run_equalIn_string (P:=P) w d t a b hu) hK
   ·exact hK.elim
theorem Zg0 {d : Nat} {vs us : Array Value} : ∀ (fs : List Field), (fs.all fun f => f.name != "_") = true → Op.eqFields d vs us fs = Zlf d vs us (fs.map fun f => (f.type, f.offset))
 | [],_=>rfl
 | f :: fs,h=>by
   simp only [List.all_cons,Bool.and_eq_true,bne_iff_ne,ne_eq] at h;simp only [Op.eqFields,List.map_cons,Zlf,ne_eq,h.1,not_false_eq_true,if_true,Zg0 fs h.2];congr 1;funext a;congr 1;funext b;congr 1;funext r;cases r<;>rfl
theorem Zp9 {d n:Nat} {t e:TypeId} {sz:Nat} {vs us:Array Value} (hu:P.underlying t=some (.array n e)) (hsz:szOf P e=some sz) :
 (Op.equalIn (d+1) t (.agg vs) (.agg us)).run P w=(Zlf d vs us ((List.range n).map λi=>(e,i*sz))).run P w:=by
 unfold Op.equalIn;simp only [Sem.run_bind,run_underlying hu,Result.andThen_ok,Zac hsz,Std.Legacy.Range.forIn_eq_forIn_range',Std.Legacy.Range.size,Nat.sub_zero,Nat.add_one_sub_one,Nat.div_one,List.range_eq_range'];generalize List.range' 0 n=l
 induction l generalizing w with
 | nil=>rfl
 | cons i l ih =>
   simp only [List.forIn_cons,List.map_cons,Zlf,Sem.run_bind]
   cases (part e vs (i*sz)).run P w with
   | halt x w1=>rfl
   | ok a w1 =>
     simp only [Result.andThen_ok]
     cases (part e us (i*sz)).run P w1 with
     | halt x w2=>rfl
     | ok b w2 =>
       simp only [Result.andThen_ok]
       cases (Op.equalIn d e a b).run P w2 with
       | halt x w3=>rfl
       | ok r w3 =>
         cases r
         ·rfl
         ·simp only [Result.andThen_ok,Bool.not_true,Bool.false_eq_true,if_false,if_true,Sem.run_bind,Sem.run_pure];exact ih
theorem Zpi {t:TypeId} {xs ys:List AV} {vs us:Array Value} {R:Bool→Res} {dst:Option Nat} (hx:CLs w imm xs vs) (hy:CLs w imm ys us) (hK:aRes P tok dst (Zrg P t xs ys R) K st) :
 ∃b,aRes P tok dst (R b) K st∧(Op.equalIn 10000 t (.agg vs) (.agg us)).run P w=.ok b w∧P.eqGuardType P.depth t=false:=by
 unfold Zrg at hK;split at hK
 ·rename_i fs hu;obtain⟨ht,hK⟩:=hK;simp only [eqTy,hu,Bool.and_eq_true,Bool.not_eq_true'] at ht;obtain⟨h1,h2,h3⟩:=ht;have hf:P.fieldsOf t=fs:=by simp [Program.fieldsOf,hu]
  obtain⟨b,h4,h5⟩:=Zh6 (d:=9998) hx hy _ _ hK;refine⟨b,h4,?_,h1⟩;rw [show(10000:Nat)=9999+1 from rfl,run_equalIn_agg (P:=P) w 9999 t vs us (by rw [hf];exact hu) h2,hf,Zg0 _ h3];exact h5
 ·rename_i n e hu;split at hK
  ·rename_i sz hsz;obtain⟨ht,hK⟩:=hK;simp only [eqTy,hu,Bool.and_eq_true,Bool.not_eq_true',and_true] at ht;obtain⟨b,h4,h5⟩:=Zh6 (d:=9998) hx hy _ _ hK;refine⟨b,h4,?_,ht⟩;rw [show(10000:Nat)=9999+1 from rfl,Zp9 hu hsz];exact h5
  ·exact hK.elim
 ·exact hK.elim
theorem s_bin {op:BinOp} {t:TypeId} {p q:Operand} {xv yv:AV} {x y:Value} (h:Rel c n st a w imm) (hd:∀d,o.dst=some d→d < n) (hK:aRes P tok o.dst (Zl8 P op t xv yv) K st) (hx:Rs w imm xv x) (hy:Rs w imm yv y) :
 o.upon P a (Zb2 c n K) Q (((do pure (Next.value (←(do eqGuard op t p q x y;binOp op t x y)))):Sem Next).run P w):=by
 unfold Zl8 at hK;split at hK
 ·rename_i k i k' j;have:=hx.v_inv;subst this;have:=hy.v_inv;subst this;split at hK
  ·obtain⟨h0,hK⟩:=hK;refine Zad h hd hK ?_ (.pure (.v _));have:¬j < 0:=by omega
   simp [eqGuard,binOp,Op.shift,this,shlI,shrI]
  ·obtain⟨h0,hK⟩:=hK;refine Zad h hd hK ?_ (.pure (.v _));have:¬j < 0:=by omega
   simp [eqGuard,binOp,Op.shift,this,shlI,shrI]
  ·obtain⟨rfl,hK⟩:=hK;unfold Zs6 at hK;cases op<;>first
    | exact hK.elim
    | (refine Zad h hd hK ?_ (.pure (.v _));simp [eqGuard,binOp,Op.intArith,Op.intBits,Op.intCmp,andI,orI,xorI];done)
    | (obtain⟨h0,hK⟩:=hK;refine Zad h hd hK ?_ (.pure (.v _));simp [eqGuard,binOp,Op.intDiv,h0];done)
 ·rename_i s1 s2;have:=hx.v_inv;subst this;have:=hy.v_inv;subst this;unfold Zry at hK;cases op<;>first
   | exact hK.elim
   | (refine Zad h hd hK ?_ (.pure (.v _));simp [eqGuard,binOp,Op.stringOp];done)
   | (obtain⟨h0,hK⟩:=hK
      refine Zad h hd hK ?_ (.pure (.v _))
      have:¬(IntKind.i64.max < ((s1.size+s2.size:Nat):Int)):=by
       have:IntKind.i64.max=9223372036854775807:=by decide
       omega
      simp only [eqGuard,binOp,Op.stringOp,GT.gt,this,if_false];simp)
 ·rename_i b1 b2;have:=hx.v_inv;subst this;have:=hy.v_inv;subst this;split at hK
  ·rename_i hu;refine Zad h hd hK ?_ (.pure (.v _));simp [eqGuard,binOp,Zht hu]
  ·rename_i hu;refine Zad h hd hK ?_ (.pure (.v _));simp [eqGuard,binOp,Zht hu]
  ·exact hK.elim
 ·rename_i xs ys;obtain⟨vs,rfl,hl1,hr1⟩:=hx.agg_inv;obtain⟨us,rfl,hl2,hr2⟩:=hy.agg_inv;split at hK
  ·obtain⟨b,h1,h2,h3⟩:=Zpi ⟨hl1,hr1⟩ ⟨hl2,hr2⟩ hK;refine Zad h hd h1 ?_ (.pure (.v _));simp only [Sem.run_bind,run_eqGuard_agg (P:=P) w _ t p q vs us h3,Result.andThen_ok,run_eql_struct,h2]
  ·obtain⟨b,h1,h2,h3⟩:=Zpi ⟨hl1,hr1⟩ ⟨hl2,hr2⟩ hK;refine Zad h hd h1 ?_ (.pure (.v _));simp only [Sem.run_bind,run_eqGuard_agg (P:=P) w _ t p q vs us h3,Result.andThen_ok,run_neq_struct,h2]
  ·exact hK.elim
 ·rename_i mm es;obtain⟨A,cap,f,rfl,_,_,_,hA,_⟩:=hx.sl_inv;have:=hy.v_inv;subst this;split at hK
  ·rename_i e hu;obtain⟨h0,hK⟩:=hK;refine Zad h hd hK ?_ (.pure (.v _));have hA:=hA h0
   cases A with
   | none=>exact absurd rfl hA
   | some ad=>simp [eqGuard,binOp,Zob hu]
  ·exact hK.elim
 ·have:=hx.v_inv;subst this;have:=hy.v_inv;subst this;split at hK
  ·rename_i e hu;refine Zad h hd hK ?_ (.pure (.v _));simp [eqGuard,binOp,Zml hu]
  ·exact hK.elim
 ·exact hK.elim
theorem s_un {op:UnOp} {xv:AV} {x:Value} (h:Rel c n st a w imm) (hd:∀d,o.dst=some d→d < n) (hK:aRes P tok o.dst (Ztz op xv) K st) (hx:Rs w imm xv x) :
 o.upon P a (Zb2 c n K) Q (((do pure (Next.value (←Op.unary op x))):Sem Next).run P w):=by
 unfold Ztz at hK;split at hK
 ·have:=hx.v_inv;subst this;exact Zad h hd hK (by simp [Op.unary]) (.pure (.v _))
 ·have:=hx.v_inv;subst this;exact Zad h hd hK (by simp [Op.unary,Op.intArith]) (.pure (.v _))
 ·exact hK.elim
theorem Zn1:∀{es:List AV} {ns:List Int},Zmc es=some ns→es=ns.map λn=>AV.v (.int .u8 n)
 | [],ns,h=>by
   simp only [Zmc,Option.some.injEq] at h;subst h;rfl
 | a :: r,ns,h=>by
   unfold Zmc at h;split at h
   ·cases ‹_ :: _=[]›
   ·rename_i n r' e;cases e;obtain⟨ms,hm,rfl⟩:=Option.map_eq_some_iff.1 h;rw [Zn1 hm];rfl
   ·cases h
theorem s_conv {s d:TypeId} {xv:AV} {x:Value} (h:Rel c n st a w imm) (hd:∀d,o.dst=some d→d < n) (hK:aRes P tok o.dst (Zno P st.mem s d xv) K st) (hx:Rs w imm xv x) :
 o.upon P a (Zb2 c n K) Q (((do pure (Next.value (←convert s d x))):Sem Next).run P w):=by
 unfold Zno at hK;split at hK
 ·rename_i u k k' i hsu hu;have:=hx.v_inv;subst this;exact Zad h hd hK (by simp [convert,run_underlying hsu,run_underlying hu,Conv.intToInt]) (.pure (.v _))
 ·rename_i u i hsu hu;have:=hx.v_inv;subst this;exact Zad h hd hK (by simp [convert,run_underlying hsu,run_underlying hu]) (.pure (.v _))
 ·rename_i e hsu hu _;split at hK
  ·rename_i hue;obtain⟨es,A,cp,xs,hK,hsrc⟩:=Zey h.mem hx hK;unfold Zmi at hK;split at hK
   ·rename_i ns hns;have hes:=Zn1 hns;subst hes;have hval:=hsrc.val;subst hval;refine Zad h hd hK ?_ (.pure (.v _))
    have hb:(Conv.bytesToString (.slice A (ns.map λn=>AV.v (.int .u8 n)).length cp)).run P w=.ok (.string (Zgk ns)) w:=by
     cases A with
     | none =>
       have h0:ns=[]:=by
        cases ns with
        | nil=>rfl
        | cons x r=>exact absurd rfl (hsrc.some_ (by simp))
       subst h0;rfl
     | some ad =>
       refine run_bytesToString w ad _ cp ns ?_
       have hxs:xs=ns.map (Value.int .u8):=by
        refine List.ext_getElem? λj=>?_;have hl:=hsrc.len;by_cases hj:j < ns.length
        ·have hj2:j < xs.length:=by rw [hl];simpa using hj
         have hr:=hsrc.rd j (.v (.int .u8 ns[j])) xs[j] (by
          have:flat (ns.map λn=>AV.v (.int .u8 n))=ns.map λn=>AV.v (.int .u8 n):=by
           unfold flat;clear hns hK hsrc hl hj hj2 hx
           induction ns with
           | nil=>rfl
           | cons a l ih=>simp only [List.map_cons,List.flatMap_cons,ih];rfl
          rw [this,List.getElem?_map,List.getElem?_eq_getElem hj];rfl) (List.getElem?_eq_getElem hj2)
         have hv:xs[j]=.int .u8 ns[j]:=(Rs.pure hr).v_inv;rw [List.getElem?_eq_getElem hj2,List.getElem?_map,List.getElem?_eq_getElem hj,hv];rfl
        ·rw [List.getElem?_eq_none (by rw [hl];simp;omega),List.getElem?_eq_none (by simp;omega)]
       have:=run_loadCells_list (P:=P) w ad xs λj v hv=>hsrc.cell ad rfl j v hv;rw [hsrc.len,Nat.mul_one] at this;rw [this,hxs]
    simp only [run_convert_bytes_string (P:=P) w s d e A _ cp hsu hue hu,Sem.run_bind,hb,Result.andThen_ok,Sem.run_pure]
   ·exact hK.elim
  ·exact hK.elim
 ·exact hK.elim
end
section
variable {P:Program} {c:Cx} {n tok:Nat} {st:St} {a:Act} {w:World} {imm:Imm} {K:St→Prop} {o:Oper} {Q:Exit→Act→World→Prop}
theorem Zeq {lo:Option AV} {R:Int→Res} {dst:Option Nat} (hK:aRes P tok dst (Zd8 lo R) K st):∃l:Int,aRes P tok dst (R l) K st∧((lo=none∧l=0)∨∃k,lo=some (.v (.int k l))):=by
 unfold Zd8 at hK;split at hK
 ·exact⟨0,hK,.inl ⟨rfl,rfl⟩⟩
 ·rename_i k l;exact⟨l,hK,.inr ⟨k,rfl⟩⟩
 ·exact hK.elim
theorem Zc2 {len:Nat} {hi:Option AV} {R:Int→Res} {dst:Option Nat} (hK:aRes P tok dst (Zc8 len hi R) K st):∃l:Int,aRes P tok dst (R l) K st∧((hi=none∧l=len)∨∃k,hi=some (.v (.int k l))):=by
 unfold Zc8 at hK;split at hK
 ·exact⟨len,hK,.inl ⟨rfl,rfl⟩⟩
 ·rename_i k l;exact⟨l,hK,.inr ⟨k,rfl⟩⟩
 ·exact hK.elim
theorem Zzo {b:Option Operand} {k:IntKind} {l:Int} (h:Rel c n st a w imm) (hb:b.map st.ev=some (.v (.int k l))):b.map a.eval=some (.int k l):=by
 cases b with
 | none=>cases hb
 | some x =>
   simp only [Option.map_some,Option.some.injEq] at hb ⊢;have:=h.ev x;rw [hb] at this;exact this.v_inv
theorem Zdo {len cap:Nat} {lo hi mx:Option Value} {l hh m:Nat} (is:Bool) (hl:(lo=none∧l=0)∨∃k,lo=some (.int k l)) (hhi:(hi=none∧hh=len)∨∃k,hi=some (.int k hh))
 (hm:(mx=none∧m=cap)∨∃k,mx=some (.int k m)) (h1:l≤hh) (h2:hh≤m) (h3:m≤cap) (h4:mx.isSome=true→hi.isSome=true) :
 (Instr.sliceBounds is len cap lo hi mx).run P w=.ok (l,hh,m) w:=by
 have b:∀(k:IntKind) (i y:Nat) (code:BoundsCode),i≤y→(Instr.sliceBound (.int k i) y code).run P w=.ok i w:=by
  intro k i y code hi;have:((i:Int)≤(y:Int)):=by omega
  simp [Instr.sliceBound,asIntOf,this]
 rcases hm with⟨rfl,rfl⟩ | ⟨km,rfl⟩<;>rcases hhi with⟨rfl,rfl⟩ | ⟨kh,rfl⟩<;>rcases hl with⟨rfl,rfl⟩ | ⟨kl,rfl⟩<;>first
  | (simp only [Instr.sliceBounds,Sem.run_bind,Sem.run_pure,Result.andThen_ok,b _ _ _ _ h1,b _ _ _ _ h2,b _ _ _ _ h3,b _ _ _ _ (Nat.le_trans h2 h3)];done)
  | (simp at h4;done)
theorem Zer {t e:TypeId} {sz:Nat} {A:Option Addr} {len cap:Nat} {lo hi mx:Option Value} {l hh m:Nat} (hu:P.underlying t=some (.slice e)) (hsz:szOf P e=some sz)
 (hb:(Instr.sliceBounds true len cap lo hi mx).run P w=.ok (l,hh,m) w) :
 (Instr.sliceAt t (.slice A len cap) lo hi mx).run P w=.ok (.slice (if m=l then A else A.map (·.add (l*sz))) (hh - l) (m - l)) w:=by
 simp only [Instr.sliceAt,Sem.run_bind,run_underlying hu,Result.andThen_ok,Instr.slice,hb,Zac hsz,Sem.run_pure]
theorem cut_rd {m:Nat} {es:List AV} {A:Option Addr} {cap l hh mm:Nat} (h:Rd w imm (.sl m es) (.slice A es.length cap)) (h1:l≤hh) (h2:hh≤es.length) (h3:hh≤mm) :
 Rd w imm (.sl m ((es.take hh).drop l)) (.slice (if mm=l then A else A.map (·.add (l*m))) (hh - l) (mm - l)):=by
 obtain⟨A',cap',f,hv,hcap,hm,hok,hn,hA,hr⟩:=(Rs.pure h).sl_inv;cases hv;have hlen:((es.take hh).drop l).length=hh - l:=by simp;omega
 rw [←hlen];have hsub:∀e∈(es.take hh).drop l,e∈es:=λe he=>List.mem_of_mem_take (List.mem_of_mem_drop he)
 have hfl:∀(j:Nat) (b:AV),(flat ((es.take hh).drop l))[j]?=some b→(flat es)[l*m+j]?=some b:=by
  intro j b hb
  have e1:flat es=flat (es.take l)++(flat ((es.take hh).drop l)++flat (es.drop hh)):=by
   rw [←Zcr,←Zcr];congr 1;have e2:es.take l=(es.take hh).take l:=by rw [List.take_take,Nat.min_eq_left h1]
   rw [e2,←List.append_assoc,List.take_append_drop,List.take_append_drop]
  have hl1:(flat (es.take l)).length=l*m:=by
   rw [Zbb λe he=>hm e (List.mem_of_mem_take he),List.length_take,Nat.min_eq_left (by omega)]
  rw [e1,List.getElem?_append_right (by omega),hl1,Nat.add_sub_cancel_left,List.getElem?_append_left (Zbp hb)];exact hb
 refine .sl m _ _ _ (λj=>f (l*m+j)) (λe he=>hm e (hsub e he)) (λe he=>hok e (hsub e he)) (by rw [hlen];omega) (λh4=>?_) (λj hj=>?_) λj b hb=>hr _ b (hfl j b hb)
 ·rw [hlen] at h4;rw [if_neg (by omega)];have:=hn (by omega)
  cases A with
  | none=>exact absurd rfl this
  | some ad=>simp
 ·rw [hlen] at hj
  have hlt:l < hh:=by
   rcases Nat.lt_or_ge l hh with h5 | h5
   ·exact h5
   ·have:hh - l=0:=by omega
    rw [this] at hj;omega
  rw [if_neg (by omega)];have hmul:l*m+(hh - l)*m≤es.length*m:=by rw [←Nat.add_mul];exact Nat.mul_le_mul_right _ (by omega)
  obtain⟨ad,rfl,h6,h7⟩:=hA (l*m+j) (by omega);exact⟨_,rfl,by rw [Zen];exact h6,by rw [Zen];exact h7⟩
theorem s_slice {t:TypeId} {p:Operand} {lo hi mx:Option Operand} (h:Rel c n st a w imm) (hd:∀d,o.dst=some d→d < n) (hK:aRes P tok o.dst (Zha P st t (st.ev p) (lo.map st.ev) (hi.map st.ev) (mx.map st.ev)) K st) :
 o.upon P a (Zb2 c n K) Q (((do pure (Next.value (←Instr.sliceAt t (a.eval p) (lo.map a.eval) (hi.map a.eval) (mx.map a.eval)))):Sem Next).run P w):=by
 have hx:=h.ev p
 have conv:∀{b:Option Operand} {l:Int} {d:Nat},((b.map st.ev=none∧l=d)∨∃k,b.map st.ev=some (.v (.int k l)))→0≤l→((b.map a.eval=none∧l.toNat=d)∨∃k,b.map a.eval=some (.int k (l.toNat:Nat))):=by
  intro b l d hb h0;rcases hb with⟨h1,h2⟩ | ⟨k,h1⟩
  ·cases b with
   | none=>exact .inl ⟨rfl,by omega⟩
   | some x=>cases h1
  ·exact .inr ⟨k,by rw [Zzo h h1];congr 2;omega⟩
 have isS:∀{b:Option Operand},(b.map st.ev).isSome=(b.map a.eval).isSome:=by intro b;cases b<;>rfl
 unfold Zha at hK;split at hK
 ·rename_i s hu hxx;rw [hxx] at hx;split at hK
  ·rename_i hmx;obtain⟨l,hK,hl⟩:=Zeq hK;obtain⟨hh,hK,hhi⟩:=Zc2 hK;obtain⟨⟨h0,h1,h2⟩,hK⟩:=hK;have:=hx.v_inv;rw [this];have hmx2:mx.map a.eval=none:=by cases mx<;>simp_all
   have hb:=Zdo (P:=P) (w:=w) (len:=s.size) (cap:=s.size) (m:=s.size) false (conv (d:=0) (by simpa using hl) h0) (conv hhi (by omega)) (.inl ⟨rfl,rfl⟩) (show l.toNat≤hh.toNat by omega) (by omega) (Nat.le_refl _) (by simp);refine Zad h hd hK ?_ (.pure (.v _));simp only [Instr.sliceAt,Sem.run_bind,run_underlying hu,Result.andThen_ok,Instr.slice,hmx2,Option.isSome_none,Bool.false_eq_true,if_false,Sem.run_pure,hb]
  ·exact hK.elim
 ·rename_i e m es hu hxx;rw [hxx] at hx;split at hK
  ·rename_i m' hsz;obtain⟨l,hK,hl⟩:=Zeq hK;obtain⟨hh,hK,hhi⟩:=Zc2 hK;obtain⟨m2,hK,hm2⟩:=Zc2 hK;obtain⟨⟨rfl,h0,h1,h2,h3,h4⟩,hK⟩:=hK;obtain⟨A,cap,f,hv,hcap,hrest⟩:=hx.sl_inv;rw [hv]
   have hrd:Rd w imm (.sl m' es) (.slice A es.length cap):=by
    have:=hx;rw [hv] at this;cases this with | pure h=>exact h
   have hmm:(mx.map a.eval=none∧(if (mx.map a.eval).isSome then m2.toNat else cap)=cap)∨∃k,mx.map a.eval=some (.int k ((if (mx.map a.eval).isSome then m2.toNat else cap:Nat):Int)):=by
    rcases conv hm2 (by omega) with⟨h5,_⟩ | ⟨k,h5⟩
    ·exact .inl ⟨h5,by rw [h5];rfl⟩
    ·exact .inr ⟨k,by rw [h5];rfl⟩
   have hmb:hh.toNat≤(if (mx.map a.eval).isSome then m2.toNat else cap):=by split<;>omega
   have hb:=Zdo (P:=P) (w:=w) (len:=es.length) (cap:=cap) true (conv (d:=0) (by simpa using hl) h0) (conv hhi (by omega)) hmm (show l.toNat≤hh.toNat by omega) hmb (by split<;>omega) (by rw [←isS,←isS];exact h4);exact Zad h hd hK (Zer hu hsz hb) (.pure (cut_rd hrd (by omega) (by omega) hmb))
  ·exact hK.elim
 ·rename_i e k sv hu hxx;rw [hxx] at hx;split at hK
  ·rename_i sv' e' m es pub m' hk hsz;split at hK
   ·rename_i hmx;obtain⟨l,hK1,hl⟩:=Zeq hK;obtain⟨hh,hK2,hhi⟩:=Zc2 hK1;obtain⟨⟨rfl,rfl,h0,h1,h2⟩,hK4⟩:=hK2;have hv:=hx.own_inv;rw [hv];obtain⟨A,cap,xs,hsrc,hcap,hown⟩:=Zkb h.mem hk;have hval:=hsrc.val;subst hval;have hmx2:mx.map a.eval=none:=by cases mx<;>simp_all
    have hb:=Zdo (P:=P) (w:=w) (len:=es.length) (cap:=cap) (m:=cap) true (conv (d:=0) (by simpa using hl) h0) (conv hhi (by omega)) (.inl ⟨hmx2,rfl⟩) (show l.toNat≤hh.toNat by omega) (by omega) (Nat.le_refl _) (by rw [hmx2];simp);refine Zad h hd hK4 (Zer hu hsz hb) (.view k _ m' _ _ _ ?_);rcases hown.2 with⟨h5,h6⟩ | ⟨g,cap',cur,h5,_⟩
    ·simp only [Value.slice.injEq] at h5;obtain⟨rfl,_,rfl⟩:=h5;refine .inl ⟨by rw [h6],by omega,by omega,?_⟩;have e1:hh.toNat - l.toNat=0:=by omega
     rw [e1,h6];split<;>simp
    ·simp only [Value.slice.injEq,true_and] at h5;obtain⟨rfl,rfl⟩:=h5;refine .inr ⟨g,es.length,cap,if cap=l.toNat then 0 else l.toNat*m',cap - l.toNat,rfl,?_,by omega,by omega,λh6=>by rw [if_neg (by omega)],λh6=>⟨by rw [h6];simp,by omega⟩⟩;split
     ·rfl
     ·simp [Addr.add_lit]
   ·exact hK.elim
  ·exact hK.elim
 ·rename_i e k sv m i len hu hxx;rw [hxx] at hx;split at hK
  ·rename_i m' hsz hmx;obtain⟨l,hK1,hl⟩:=Zeq hK;obtain⟨hh,hK2,hhi⟩:=Zc2 hK1;obtain⟨⟨rfl,h0,h1,h2⟩,hK4⟩:=hK2;have hmx2:mx.map a.eval=none:=by cases mx<;>simp_all
   rcases hx.view_inv with⟨rfl,rfl,rfl,hv⟩ | ⟨g,nn,cc,off,cap,rfl,hv,hle,hlc,hoff,hz0⟩
   ·rw [hv];have hb:=Zdo (P:=P) (w:=w) (len:=0) (cap:=0) (m:=0) true (conv (d:=0) (by simpa using hl) h0) (conv hhi (by omega)) (.inl ⟨hmx2,rfl⟩) (show l.toNat≤hh.toNat by omega) (by omega) (Nat.le_refl _) (by rw [hmx2];simp);refine Zad h hd hK4 (Zer hu hsz hb) (.view k _ m' _ _ _ (.inl ⟨rfl,by omega,by omega,?_⟩));have e1:hh.toNat - l.toNat=0:=by omega
    rw [e1,Nat.zero_sub];split<;>rfl
   ·rw [hv];have hb:=Zdo (P:=P) (w:=w) (len:=len) (cap:=cap) (m:=cap) true (conv (d:=0) (by simpa using hl) h0) (conv hhi (by omega)) (.inl ⟨hmx2,rfl⟩) (show l.toNat≤hh.toNat by omega) (by omega) (Nat.le_refl _) (by rw [hmx2];simp);refine Zad h hd hK4 (Zer hu hsz hb) (.view k _ m' _ _ _ (.inr ⟨g,nn,cc,if cap=l.toNat then off else off+l.toNat*m',cap - l.toNat,rfl,?_,by omega,by omega,λh6=>?_,λh6=>?_⟩))
    ·split
     ·rfl
     ·simp [Addr.add_lit]
    ·rw [if_neg (by omega),hoff (by omega),Nat.add_mul]
    ·have e1:i=0:=by omega
     have e2:l.toNat=0:=by omega
     obtain⟨e3,e4⟩:=hz0 e1;rw [e2,e3,e4];simp
  ·exact hK.elim
 ·rename_i e hu hxx;rw [hxx] at hx;split at hK
  ·rename_i sz hsz;obtain⟨l,hK1,hl⟩:=Zeq hK;obtain⟨hh,hK2,hhi⟩:=Zc2 hK1;obtain⟨m2,hK3,hm2⟩:=Zc2 hK2;obtain⟨⟨h5,h6,h7,h4⟩,hK4⟩:=hK3;have hv:=hx.v_inv;rw [hv];have hb:=Zdo (P:=P) (w:=w) (len:=0) (cap:=0) (l:=l.toNat) (hh:=hh.toNat) (m:=m2.toNat) true (conv (d:=0) (by simpa using hl) (by omega)) (conv hhi (by omega)) (conv hm2 (by omega)) (by omega) (by omega) (by omega) (by rw [←isS,←isS];exact h4);refine Zad h hd hK4 (Zer hu hsz hb) ?_;have e1:hh.toNat - l.toNat=0:=by omega
   have e2:m2.toNat - l.toNat=0:=by omega
   rw [e1,e2];have e3:(if m2.toNat=l.toNat then (none:Option Addr) else Option.map (λx:Addr=>x.add (l.toNat*sz)) none)=none:=by split<;>rfl
   rw [e3];exact .pure (.v _)
  ·exact hK.elim
 ·rename_i nn e k g off hu hxx;rw [hxx] at hx;split at hK
  ·rename_i m cs hlo hhi hmx hsz hcs;obtain⟨⟨rfl,hn,h0,hpub,hone⟩,hK⟩:=hK;have hv:=hx.pbox_inv;have e1:lo.map a.eval=none:=by cases lo<;>simp_all
   have e2:hi.map a.eval=none:=by cases hi<;>simp_all
   have e3:mx.map a.eval=none:=by cases mx<;>simp_all
   have hrun:(Instr.sliceAt t (a.eval p) (lo.map a.eval) (hi.map a.eval) (mx.map a.eval)).run P w=.ok (.slice (some ⟨g,off,none⟩) nn nn) w:=by
    have hb:=Zdo (P:=P) (w:=w) (len:=nn) (cap:=nn) (lo:=none) (hi:=none) (mx:=none) (l:=0) (hh:=nn) (m:=nn) false (.inl ⟨rfl,rfl⟩) (.inl ⟨rfl,rfl⟩) (.inl ⟨rfl,rfl⟩) (Nat.zero_le _) (Nat.le_refl _) (Nat.le_refl _) (by simp);have e4:(if nn=0 then (⟨g,off,none⟩:Addr) else Addr.add ⟨g,off,none⟩ (0*1))=⟨g,off,none⟩:=by split<;>simp [Addr.add_lit]
    rw [hv,e1,e2,e3];simp only [Instr.sliceAt,Sem.run_bind,run_underlying hu,Result.andThen_ok,Instr.sureAddr,Sem.run_pure,hb,Zac hsz,e4,Nat.sub_zero]
   rw [Sem.run_bind,hrun,Result.andThen_ok];refine Zcz h hd hK λi' hm' hk'=>?_;have hrd:=Zgt hm' (hk'.rs hx) hpub;rw [hcs,hv] at hrd;obtain⟨ad,f,he,hA,hr⟩:=(Rs.pure hrd).pimm_inv;have had:ad=⟨g,off,none⟩:=by simpa using he.symm
   subst had;rw [←hn];have hone':∀x∈cs,x.one=true:=λx hx=>List.all_eq_true.1 hone x hx;have hc1:∀x∈cs,x.cells=[x]:=λx hx=>by
    have:=hone' x hx;cases x<;>simp [AV.one] at this<;>rfl
   have hfl:flat cs=cs:=by
    clear hA hr hcs hn hone hone' hrd he h0 hK hpub;unfold flat
    induction cs with
    | nil=>rfl
    | cons x cs ih=>rw [List.flatMap_cons,hc1 x (.head _),ih λy hy=>hc1 y (.tail _ hy)];rfl
   refine .pure (.sl 1 cs (some ⟨g,off,none⟩) cs.length f (λx hx=>by rw [hc1 x hx];rfl) (λx hx=>?_) (Nat.le_refl _) (λ_=>by simp) (λj hj=>⟨_,rfl,hA j (by omega)⟩) λj b hb=>?_)
   ·have:=hone' x hx;cases x<;>simp [AV.one] at this<;>simp [AV.ok,AV.one, *]
   ·rw [hfl] at hb;exact hr j b hb
  ·exact hK.elim
 ·exact hK.elim
end
theorem Zsl (w:World) (imm:Imm) (z:Value):Rs w imm (AV.ofVal z) z:=by
 cases z<;>first
  | exact .pure (.v _)
  | (rename_i cs
     refine .pure (.agg _ cs (by simp) λj a x h1 h2=>?_);simp only [List.getElem?_map,Array.getElem?_toList,h2,Option.map_some,Option.some.injEq] at h1;subst h1;exact .v _)
def CL (w:World) (imm:Imm) (cs:List AV) (vs:Array Value):Prop:=cs.length=vs.size∧∀(j:Nat) (b:AV) (y:Value),cs[j]?=some b→vs[j]?=some y→Rs w imm b y
theorem Zf9 {w:World} {imm:Imm} (z:Value):CL w imm (AV.ofVal z).cells z.cells:=by
 have h:=Zsl w imm z;cases z<;>first
  | (rename_i cs
     obtain⟨vs,hv,hl,hr⟩:=h.agg_inv;cases hv;exact⟨hl,hr⟩)
  | (refine⟨rfl,λj b y hb hy=>?_⟩
     simp only [AV.ofVal,AV.cells,Value.cells] at hb hy
     match j with
     | 0=>simp at hb hy;subst hb;subst hy;exact .pure (.v _)
     | j+1=>simp at hb)
theorem Zpf (off:Nat) (vs:Array Value) (cs:Array Value) (h:off+vs.size≤cs.size) (j:Nat) :
 (vs.zipIdx.foldl (λcs (x:Value × Nat)=>cs.setIfInBounds (off+x.2) x.1) cs)[j]?=if off≤j∧j < off+vs.size then vs[j - off]? else cs[j]?:=by
 have key:∀(l:List Value) (k:Nat) (cs:Array Value),off+k+l.length≤cs.size→∀j,((l.zipIdx k).foldl (λcs (x:Value × Nat)=>cs.setIfInBounds (off+x.2) x.1) cs)[j]?=if off+k≤j∧j < off+k+l.length then l[j - (off+k)]? else cs[j]?:=by
  intro l
  induction l with
  | nil=>intro k cs _ j;simp;omega
  | cons x l ih =>
    intro k cs hle j;simp only [List.length_cons] at hle;simp only [List.zipIdx_cons,List.foldl_cons,List.length_cons];rw [ih (k+1) _ (by simp;omega) j];by_cases h1:off+(k+1)≤j∧j < off+(k+1)+l.length
    ·rw [if_pos h1,if_pos (by omega)];have:j - (off+k)=(j - (off+(k+1)))+1:=by omega
     rw [this,List.getElem?_cons_succ]
    ·rw [if_neg h1,Array.getElem?_setIfInBounds];by_cases h2:off+k=j
     ·subst h2;rw [if_pos rfl,if_pos (by omega),if_pos (by omega)];simp
     ·rw [if_neg h2,if_neg (by omega)]
 have:=key vs.toList 0 cs (by simpa using h) j;rw [←Array.foldl_toList,Array.toList_zipIdx]
 simpa using this
theorem Zk0 (off:Nat) (vs:Array Value) (cs:Array Value):(vs.zipIdx.foldl (λcs (x:Value × Nat)=>cs.setIfInBounds (off+x.2) x.1) cs).size=cs.size:=by
 rw [←Array.foldl_toList];generalize vs.zipIdx.toList=l
 induction l generalizing cs with
 | nil=>rfl
 | cons x l ih=>simp only [List.foldl_cons];rw [ih];simp
section
variable {P:Program} {c:Cx} {n tok:Nat} {st:St} {a:Act} {w:World} {imm:Imm} {K:St→Prop} {o:Oper} {Q:Exit→Act→World→Prop}
theorem Zk1 {place:Nat→Option (Nat × Nat)} {R:List AV→Res} {dst:Option Nat}:∀(parts:List (Nat × AV)) (vals:List (Nat × Value)) (cs:List AV) (vs:Array Value),
 CL w imm cs vs→parts.length=vals.length→(∀(j:Nat) (p:Nat × AV) (q:Nat × Value),parts[j]?=some p→vals[j]?=some q→p.1=q.1∧Rs w imm p.2 q.2) →
 aRes P tok dst (Zus place cs parts R) K st→∃cs' vs',Instr.fill place vs vals=some vs'∧CL w imm cs' vs'∧aRes P tok dst (R cs') K st
 | [],[],cs,vs,hcl,_,_,hK=>⟨cs,vs,rfl,hcl,hK⟩
 | [],q :: vals,_,_,_,hl,_,_=>by simp at hl
 | (i,b) :: parts,[],_,_,_,hl,_,_=>by simp at hl
 | (i,b) :: parts,q :: vals,cs,vs,hcl,hl,hr,hK=>by
   obtain⟨h1,h2⟩:=hr 0 (i,b) q rfl rfl;simp only at h1 h2;subst h1;simp only [Zus] at hK
   cases hp:place q.1 with
   | none=>rw [hp] at hK;exact hK.elim
   | some os =>
     obtain⟨off,sz⟩:=os;rw [hp] at hK;obtain⟨⟨hok,hsz,hfit⟩,hK⟩:=hK;obtain⟨hlc,hrc,_⟩:=h2.cells_of hok;have hfit':off+b.cells.length≤cs.length:=by omega
     obtain⟨cs',vs',e1,e2,e3⟩:=Zk1 parts vals (Zee cs off b.cells) (q.2.cells.zipIdx.foldl (λcs (x:Value × Nat)=>cs.setIfInBounds (off+x.2) x.1) vs)
      ⟨by rw [Zeg hfit',Zk0];exact hcl.1,λj x y hx hy=>by
       rw [Zg9 hfit'] at hx;rw [Zpf off q.2.cells vs (by rw [←hcl.1,←hlc];exact hfit'),←hlc] at hy;split at hx
       ·rename_i hc;rw [if_pos hc] at hy;exact hrc _ x y hx hy
       ·rename_i hc;rw [if_neg hc] at hy;exact hcl.2 j x y hx hy⟩ (by simpa using hl) (λj p q' hp hq=>hr (j+1) p q' (by simpa using hp) (by simpa using hq)) hK
     refine⟨cs',vs',?_,e2,e3⟩;simp only [Instr.fill,hp];have h5:=hcl.1;rw [if_neg (by simp;omega)];exact e1
theorem Zok {parts:Array (Nat × Operand)} (h:Rel c n st a w imm):((parts.toList.map λp=>(p.1,st.ev p.2)).length=(parts.map fun(i,x)=>(i,a.eval x)).toList.length) ∧
 ∀(j:Nat) (p:Nat × AV) (q:Nat × Value),(parts.toList.map λp=>(p.1,st.ev p.2))[j]?=some p→(parts.map fun(i,x)=>(i,a.eval x)).toList[j]?=some q→p.1=q.1∧Rs w imm p.2 q.2:=by
 refine⟨by simp,λj p q hp hq=>?_⟩;simp only [Array.toList_map,List.getElem?_map] at hp hq;rcases hx:parts.toList[j]? with _ | x
 ·rw [hx] at hp;cases hp
 ·rw [hx] at hp hq;simp only [Option.map_some,Option.some.injEq] at hp hq;subst hp;subst hq;exact⟨rfl,h.ev _⟩
theorem Zq1 {fields:Array Field} (hall:(fields.toList.all λf=>(szOf P f.type).isSome)=true) :
 (fields.mapM λf=>(do pure (f.offset,←sizeOf f.type):Sem (Nat × Nat))).run P w=.ok (fields.map λf=>(f.offset,(szOf P f.type).getD 0)) w:=by
 have key:∀(l:List Field),(∀f∈l,(szOf P f.type).isSome=true)→(l.mapM λf=>(do pure (f.offset,←sizeOf f.type):Sem (Nat × Nat))).run P w=.ok (l.map λf=>(f.offset,(szOf P f.type).getD 0)) w:=by
  intro l
  induction l with
  | nil=>intro _;rfl
  | cons f l ih =>
    intro hl;have h1:=hl f (List.mem_cons_self ..);obtain⟨s,hs⟩:=Option.isSome_iff_exists.1 h1;have h2:=ih λg hg=>hl g (List.mem_cons_of_mem _ hg);rw [List.mapM_cons];simp only [Sem.run_bind,Zac hs,Result.andThen_ok,Sem.run_pure,h2,List.map_cons,hs,Option.getD_some]
 have h:=key fields.toList λf hf=>List.all_eq_true.1 hall f hf;rw [Array.mapM_eq_mapM_toList];simp only [Sem.run_map,h,Result.andThen_ok];congr 1;apply Array.ext';simp
theorem s_build {t:TypeId} {parts:Array (Nat × Operand)} (h:Rel c n st a w imm) (hd:∀d,o.dst=some d→d < n) (hK:aRes P tok o.dst (Zj4 P t (parts.toList.map λp=>(p.1,st.ev p.2))) K st) :
 o.upon P a (Zb2 c n K) Q (((do pure (Next.value (←Instr.build t (parts.map fun(i,x)=>(i,a.eval x))))):Sem Next).run P w):=by
 obtain⟨hpl,hpr⟩:=Zok (parts:=parts) h;unfold Zj4 at hK;split at hK
 ·rename_i fields z hu hz;obtain⟨hall,hK⟩:=hK
  have hpe:(λi:Nat=>(fields[i]?).bind λf:Field=>(szOf P f.type).map λs=>(f.offset,s))=λi:Nat=>((fields.map λf:Field=>(f.offset,(szOf P f.type).getD 0))[i]?):=by
   funext i
   rw [Array.getElem?_map];rcases hf:fields[i]? with _ | f
   ·rfl
   ·have:(szOf P f.type).isSome=true:=List.all_eq_true.1 hall f (by
     have:=Array.mem_of_getElem? hf;exact Array.mem_toList_iff.2 this)
    obtain⟨s,hs⟩:=Option.isSome_iff_exists.1 this;simp [hs]
  rw [hpe] at hK;obtain⟨cs',vs',e1,e2,e3⟩:=Zk1 _ _ _ _ (Zf9 z) hpl hpr hK;refine Zad h hd e3 (x:=.agg vs') ?_ (.agg _ _ e2.1 e2.2);simp only [Instr.build,Sem.run_bind,Zab hz,Result.andThen_ok,run_underlying hu,Zq1 hall,e1,Sem.run_pure]
 ·rename_i len e z hu hz;split at hK
  ·rename_i sz hsz;obtain⟨cs',vs',e1,e2,e3⟩:=Zk1 _ _ _ _ (Zf9 z) hpl hpr hK;refine Zad h hd e3 (x:=.agg vs') ?_ (.agg _ _ e2.1 e2.2);simp only [Instr.build,Sem.run_bind,Zab hz,Result.andThen_ok,run_underlying hu,Zac hsz,e1,Sem.run_pure]
  ·exact hK.elim
 ·exact hK.elim
theorem Zl1 {σ:Mem} {m:Nat} {R:List AV→Res} {dst:Option Nat} (hm:Mx c σ w imm):∀(parts:List (Nat × AV)) (vals:List (Nat × Value)) (es:List AV) (vs:Array Value),
 (∀e∈es,e.cells.length=m)→(∀e∈es,e.ok=true)→(flat es).length=vs.size→(∀(j:Nat) (b:AV) (y:Value),(flat es)[j]?=some b→vs[j]?=some y→Rd w imm b y) →
 parts.length=vals.length→(∀(j:Nat) (p:Nat × AV) (q:Nat × Value),parts[j]?=some p→vals[j]?=some q→p.1=q.1∧Rs w imm p.2 q.2) →
 aRes P tok dst (Zpg σ m es parts R) K st→∃es' vs',Instr.fill (λi=>some (i*m,m)) vs vals=some vs'∧es'.length=es.length∧(∀e∈es',e.cells.length=m)∧(∀e∈es',e.ok=true)∧vs'.size=vs.size ∧
  (∀(j:Nat) (b:AV) (y:Value),(flat es')[j]?=some b→vs'[j]?=some y→Rd w imm b y)∧aRes P tok dst (R es') K st
 | [],[],es,vs,h1,h2,_,h4,_,_,hK=>⟨es,vs,rfl,rfl,h1,h2,rfl,h4,hK⟩
 | [],q :: vals,_,_,_,_,_,_,hl,_,_=>by simp at hl
 | (i,b) :: parts,[],_,_,_,_,_,_,hl,_,_=>by simp at hl
 | (i,b) :: parts,q :: vals,es,vs,h1,h2,h3,h4,hl,hr,hK=>by
   obtain⟨e1,e2⟩:=hr 0 (i,b) q rfl rfl;simp only at e1 e2;subst e1;simp only [Zpg] at hK;obtain⟨⟨hok,hsz,hi,hpo⟩,hK⟩:=hK;obtain⟨hpok,hpl⟩:=pub_ok hpo hok;have hrd:=Zgt hm e2 hpo;obtain⟨hlc,_,_⟩:=(Rs.pure hrd).cells_of hpok;have hel:(pubV σ b).cells.length=m:=by omega
   have hfl:=Zbb h1
   have him:q.1*m+m≤es.length*m:=by
    have:(q.1+1)*m≤es.length*m:=Nat.mul_le_mul_right _ hi
    rwa [Nat.add_mul,Nat.one_mul] at this
   have hs1:∀e∈es.set q.1 (pubV σ b),e.cells.length=m:=λy hy=>by
    rcases List.mem_or_eq_of_mem_set hy with h5 | rfl
    ·exact h1 y h5
    ·exact hel
   obtain⟨es',vs',f1,f2,f3,f4,f5,f6,f7⟩:=Zl1 hm parts vals (es.set q.1 (pubV σ b)) (q.2.cells.zipIdx.foldl (λcs (x:Value × Nat)=>cs.setIfInBounds (q.1*m+x.2) x.1) vs) hs1
    (λy hy=>by
     rcases List.mem_or_eq_of_mem_set hy with h5 | rfl
     ·exact h2 y h5
     ·exact hpok)
    (by rw [Zbb hs1,Zk0,←h3,hfl,List.length_set])
    (λj x y hx hy=>by
     rw [Znh h1 _ hi hel] at hx;rw [Zpf (q.1*m) q.2.cells vs (by omega),←hlc,hel] at hy;split at hx
     ·rename_i hc;rw [if_pos hc] at hy;exact Zls hrd hpok _ x hx y hy
     ·rename_i hc;rw [if_neg hc] at hy;exact h4 j x y hx hy)
    (by simpa using hl) (λj p q' hp hq=>hr (j+1) p q' (by simpa using hp) (by simpa using hq)) hK
   refine⟨es',vs',?_,by rw [f2,List.length_set],f3,f4,by rw [f5,Zk0],f6,f7⟩;simp only [Instr.fill];rw [if_neg (by simp;omega)];exact f1
theorem Zlc {t e:TypeId} {len m:Nat} {z:Value} {vals:Array (Nat × Value)} {vs':Array Value} (hu:P.underlying t=some (.slice e)) (hsz:szOf P e=some m) (hz:Zau P e=some z) (hlim:len*m≤16777216)
 (f1:Instr.fill (λi=>some (i*m,m)) ((Array.range (len*m)).map (z.cells[·%z.cells.size]!)) vals.toList=some vs') :
 (Instr.buildSlice t len vals).run P w=.ok (.slice (some ⟨w.heap.size,0,none⟩) len len) (w.alloc (.cells vs' e)):=by
 have hlim':¬(len*m > 2 ^ 24):=by omega
 simp only [Instr.buildSlice,Sem.run_bind,run_underlying hu,Result.andThen_ok,Zac hsz,if_neg hlim'];by_cases h0:len*m=0
 ·have h1:Array.range (len*m)=#[]:=by rw [h0];rfl
  rw [h1] at f1;simp only [Array.map_empty] at f1;simp only [if_pos h0,Sem.run_bind,Sem.run_pure,Result.andThen_ok,h1,Array.map_empty,f1,newRow,run_newObj];rfl
 ·simp only [if_neg h0,Sem.run_bind,Zab hz,Sem.run_pure,Result.andThen_ok,f1,newRow,run_newObj];rfl
theorem Zoa {t:TypeId} {len:Nat} {parts:Array (Nat × Operand)} (h:Rel c n st a w imm) (hd:∀d,o.dst=some d→d < n) (hK:aRes P tok o.dst (Zei P st t len (parts.toList.map λp=>(p.1,st.ev p.2))) K st) :
 o.upon P a (Zb2 c n K) Q (((do pure (Next.value (←Instr.buildSlice t len (parts.map fun(i,x)=>(i,a.eval x))))):Sem Next).run P w):=by
 unfold Zei at hK;split at hK
 ·rename_i e hu;split at hK
  ·rename_i m z hsz hz;obtain⟨⟨hlim,hlim2,hzl,hzok⟩,hK⟩:=hK;generalize hks:AV.toksL ((parts.toList.map λp=>(p.1,st.ev p.2)).map (·.2))=ks at hK;obtain⟨i',hm',hk'⟩:=Zc0 ks h.mem;obtain⟨hpl,hpr⟩:=Zok (parts:=parts) h;have hrep1:∀y∈List.replicate len (AV.ofVal z),y.cells.length=m:=λy hy=>by rw [List.eq_of_mem_replicate hy];exact hzl
   have hzsz:z.cells.size=m:=by rw [←hzl];exact(Zf9 (w:=w) (imm:=imm) z).1.symm
   obtain⟨es',vs',f1,f2,f3,f4,f5,f6,f7⟩:=Zl1 hm' _ _ _ ((Array.range (len*m)).map (z.cells[·%z.cells.size]!)) hrep1 (λy hy=>by rw [List.eq_of_mem_replicate hy];exact hzok)
    (by rw [Zbb hrep1];simp) (λj b y hb hy=>by
     have hj:j < len*m:=by
      have:=Zbp hb
      rwa [Zbb hrep1,List.length_replicate] at this
     have hm0:0 < m:=by
      rcases Nat.eq_zero_or_pos m with h4 | h4
      ·rw [h4] at hj;omega
      ·exact h4
     have hdm:j=(j/m)*m+j%m:=by rw [Nat.mul_comm];exact(Nat.div_add_mod j m).symm
     have hq:j/m < len:=by rw [Nat.div_lt_iff_lt_mul hm0];exact hj
     have hfg:=Zdx hrep1 (j/m) (j%m) (Nat.mod_lt _ hm0) (by simpa using hq);rw [←hdm,hb] at hfg;rw [List.getD_eq_getElem?_getD,List.getElem?_replicate,if_pos hq] at hfg;simp only [Option.getD_some] at hfg;have hlt:j%m < z.cells.size:=by rw [hzsz];exact Nat.mod_lt _ hm0
     have hy2:y=z.cells[j%m]:=by
      rw [Array.getElem?_map,Array.getElem?_range,if_pos hj] at hy;simp only [Option.map_some,Option.some.injEq,hzsz] at hy;rw [←hy];simp [hlt]
     rw [hy2];have h8:=(Zf9 (w:=w) (imm:=i') z).2 (j%m) b _ hfg.symm (Array.getElem?_eq_getElem hlt)
     have h9:∃y,b=.v y:=by
      cases z<;>first
       | (simp only [AV.ofVal,AV.cells] at hfg
          have:j%m=0:=by
           have:=Zbp hfg.symm;simp at this;omega
          rw [this] at hfg;simp at hfg;exact⟨_,hfg⟩)
       | (simp only [AV.ofVal,AV.cells,List.getElem?_map] at hfg
          rename_i cs;rcases hc:cs.toList[j%m]? with _ | y
          ·rw [hc] at hfg;cases hfg
          ·rw [hc] at hfg;simp only [Option.map_some,Option.some.injEq] at hfg;exact⟨y,hfg⟩)
     obtain⟨y',rfl⟩:=h9;rw [h8.v_inv];exact .v _)
    hpl (λj p q h1 h2=>⟨(hpr j p q h1 h2).1,hk'.rs (hpr j p q h1 h2).2⟩) hK
   have hlen:es'.length=len:=by rw [f2,List.length_replicate]
   have hrun:=Zlc (w:=w) hu hsz hz hlim f1;rw [Zjp hrun];have:=Zn0 (Q:=Q) (cap:=len) (vs:=vs') h hd f7 hm' hk' (by omega) ?_ (by rw [f5];simp) f3 f4 f6
   ·rwa [hlen] at this
   ·simp only [maxLen];omega
  ·exact hK.elim
 ·exact hK.elim
end
section
variable {P:Program} {c:Cx} {n tok:Nat} {st:St} {a:Act} {w:World} {imm:Imm} {K:St→Prop} {o:Oper} {Q:Exit→Act→World→Prop}
theorem Zyt {xs:Array Operand} (h:Rel c n st a w imm):(xs.toList.map st.ev).length=(xs.map a.eval).size∧∀(j:Nat) (b:AV) (y:Value),(xs.toList.map st.ev)[j]?=some b→(xs.map a.eval)[j]?=some y→Rs w imm b y:=by
 refine⟨by simp,λj b y hb hy=>?_⟩;rw [List.getElem?_map,Array.getElem?_toList] at hb;rw [Array.getElem?_map] at hy;rcases hx:xs[j]? with _ | x
 ·rw [hx] at hb;cases hb
 ·rw [hx] at hb hy;simp only [Option.map_some,Option.some.injEq] at hb hy;subst hb;subst hy;exact h.ev x
theorem s_len {t ty:TypeId} {xv:AV} {x:Value} {d:TypeDesc} (h:Rel c n st a w imm) (hd:∀d,o.dst=some d→d < n) (hu:P.underlying t=some d) (hK:aRes P tok o.dst (Zlz st d xv) K st) (hx:Rs w imm xv x) :
 o.upon P a (Zb2 c n K) Q (((do pure (Next.value (←Builtin.len_ #[t] ty #[x]))):Sem Next).run P w):=by
 unfold Zlz at hK;split at hK
 ·obtain⟨A,cap,f,rfl,_⟩:=hx.sl_inv;exact Zad h hd hK (by simp [Builtin.len_,run_underlying hu,goInt]) (.pure (.v _))
 ·split at hK
  ·rename_i sv' e' m es pub hk;obtain⟨rfl,hK⟩:=hK;have:=hx.own_inv;subst this;obtain⟨A,cp,xs,hsrc,_,_⟩:=Zkb h.mem hk;have hv:=hsrc.val;subst hv;exact Zad h hd hK (by simp [Builtin.len_,run_underlying hu,goInt]) (.pure (.v _))
  ·exact hK.elim
 ·rcases hx.view_inv with⟨_,_,rfl,rfl⟩ | ⟨g,nn,cc,off,cap,_,rfl,_⟩
  ·simp_all only
   exact Zad h hd hK (by simp [Builtin.len_,run_underlying hu,goInt]) (.pure (.v _))
  ·exact Zad h hd hK (by simp [Builtin.len_,run_underlying hu,goInt]) (.pure (.v _))
 ·have:=hx.v_inv;subst this;exact Zad h hd hK (by simp [Builtin.len_,run_underlying hu,goInt]) (.pure (.v _))
 ·have:=hx.v_inv;subst this;exact Zad h hd hK (by simp [Builtin.len_,run_underlying hu,goInt]) (.pure (.v _))
 ·split at hK
  ·rename_i h' es hk;obtain⟨rfl,hK⟩:=hK;have:=hx.mp_inv;subst this;obtain⟨arr,clock,hh,hB,hl,hr,hbo,hp⟩:=h.mem.ok.ent _ _ hk;exact Zad h hd hK (by simp [Builtin.len_,run_underlying hu,goInt,MapKept.run_getObj_map hh,hl]) (.pure (.v _))
  ·exact hK.elim
 ·exact Zad h hd hK (by simp [Builtin.len_,run_underlying hu,goInt]) (.pure (.v _))
 ·exact hK.elim
theorem s_cap {t ty:TypeId} {xv:AV} {x:Value} {d:TypeDesc} (h:Rel c n st a w imm) (hd:∀d,o.dst=some d→d < n) (hu:P.underlying t=some d) (hK:aRes P tok o.dst (Zto d xv) K st) (hx:Rs w imm xv x) :
 o.upon P a (Zb2 c n K) Q (((do pure (Next.value (←Builtin.cap_ #[t] ty #[x]))):Sem Next).run P w):=by
 unfold Zto at hK;split at hK
 ·have:=hx.v_inv;subst this;exact Zad h hd hK (by simp [Builtin.cap_,run_underlying hu,goInt]) (.pure (.v _))
 ·exact hK.elim
theorem Zhb {cl:Call} {ty:TypeId} {b:Builtin} (hb:cl.callee=.builtin b):((do let d ←resolve a.eval cl ty;invoke d.target d.args):Sem Next).run P w=(builtin b cl.argTypes ty (cl.args.map fun | .const _=>true | _=>false) (cl.args.map a.eval)).run P w:=by
 simp [resolve,hb,invoke];rfl
theorem map1 (f:Operand→Value) (x:Operand):(#[x]:Array Operand).map f=#[f x]:=by simp
theorem map2 (f:Operand→Value) (x y:Operand):(#[x,y]:Array Operand).map f=#[f x,f y]:=by simp
theorem list1 {α:Type} {xs:Array α} {x:α} (h:xs.toList=[x]):xs=#[x]:=by rw [←Array.toArray_toList (xs:=xs),h]
theorem list2 {α:Type} {xs:Array α} {x y:α} (h:xs.toList=[x,y]):xs=#[x,y]:=by rw [←Array.toArray_toList (xs:=xs),h]
theorem s_call {cl:Call} {ty:TypeId} (h:Rel c n st a w imm) (hd:∀d,o.dst=some d→d < n) (hK:aRes P tok o.dst (Zcl P st cl) K st) :
 o.upon P a (Zb2 c n K) Q (((do let d ←resolve a.eval cl ty;invoke d.target d.args):Sem Next).run P w):=by
 unfold Zcl at hK;split at hK
 ·rename_i hc;split at hK
  ·rename_i x t hx ht;rw [Zhb hc,list1 hx,list1 ht,map1 a.eval];split at hK
   ·rename_i d hu;exact s_len h hd hu hK (h.ev x)
   ·exact hK.elim
  ·exact hK.elim
 ·rename_i hc;split at hK
  ·rename_i x t hx ht;rw [Zhb hc,list1 hx,list1 ht,map1 a.eval];split at hK
   ·rename_i d hu;exact s_cap h hd hu hK (h.ev x)
   ·exact hK.elim
  ·exact hK.elim
 ·rename_i hc;split at hK
  ·rename_i s x t t' hx ht;rw [Zhb hc,list2 hx,list2 ht,map2 a.eval];exact s_append h hd hK (h.ev s) (h.ev x)
  ·exact hK.elim
 ·rename_i hc;split at hK
  ·rename_i s x t t' hx ht;rw [Zhb hc,list2 hx,list2 ht,map2 a.eval];exact s_copy h hd hK (h.ev s) (h.ev x)
  ·exact hK.elim
 ·rename_i hc;rw [Zhb hc];generalize hl:cl.args.toList=l at hK;have hal:cl.args=l.toArray:=by rw [←hl]
  rw [hal]
  match l,hK with
  | [x,y],hK =>
    unfold Zku at hK;simp only [List.map_cons,List.map_nil] at hK;split at hK
    ·rename_i k i k' j heq;simp only [List.cons.injEq,and_true] at heq;obtain⟨rfl,hK⟩:=hK;have e1:=h.ev x;rw [heq.1] at e1;have e2:=h.ev y;rw [heq.2] at e2;refine Zad h hd hK ?_ (.pure (.v _));simp [e1.v_inv,e2.v_inv,Builtin.max_,Builtin.max2]
    ·rename_i heq;simp at heq
    ·exact hK.elim
  | [x,y,z],hK =>
    unfold Zku at hK;simp only [List.map_cons,List.map_nil] at hK;split at hK
    ·rename_i heq;simp at heq
    ·rename_i k i k' j k'' j2 heq;simp only [List.cons.injEq,and_true] at heq;obtain⟨⟨rfl,rfl⟩,hK⟩:=hK;have e1:=h.ev x;rw [heq.1] at e1;have e2:=h.ev y;rw [heq.2.1] at e2;have e3:=h.ev z;rw [heq.2.2] at e3;refine Zad h hd hK ?_ (.pure (.v _));simp [e1.v_inv,e2.v_inv,e3.v_inv,Builtin.max_,Builtin.max2]
    ·exact hK.elim
  | [],hK=>exact hK.elim
  | [x],hK=>simp [Zku,aRes] at hK
  | x :: y :: z :: u :: r,hK=>simp [Zku,aRes] at hK
 ·rename_i hc;rw [Zhb hc];generalize hl:cl.args.toList=l at hK;have hal:cl.args=l.toArray:=by rw [←hl]
  rw [hal]
  match l,hK with
  | [x,y],hK =>
    unfold Zku at hK;simp only [List.map_cons,List.map_nil] at hK;split at hK
    ·rename_i k i k' j heq;simp only [List.cons.injEq,and_true] at heq;obtain⟨rfl,hK⟩:=hK;have e1:=h.ev x;rw [heq.1] at e1;have e2:=h.ev y;rw [heq.2] at e2;refine Zad h hd hK ?_ (.pure (.v _));simp [e1.v_inv,e2.v_inv,Builtin.min_,Builtin.min2]
    ·rename_i heq;simp at heq
    ·exact hK.elim
  | [x,y,z],hK =>
    unfold Zku at hK;simp only [List.map_cons,List.map_nil] at hK;split at hK
    ·rename_i heq;simp at heq
    ·rename_i k i k' j k'' j2 heq;simp only [List.cons.injEq,and_true] at heq;obtain⟨⟨rfl,rfl⟩,hK⟩:=hK;have e1:=h.ev x;rw [heq.1] at e1;have e2:=h.ev y;rw [heq.2.1] at e2;have e3:=h.ev z;rw [heq.2.2] at e3;refine Zad h hd hK ?_ (.pure (.v _));simp [e1.v_inv,e2.v_inv,e3.v_inv,Builtin.min_,Builtin.min2]
    ·exact hK.elim
  | [],hK=>exact hK.elim
  | [x],hK=>simp [Zku,aRes] at hK
  | x :: y :: z :: u :: r,hK=>simp [Zku,aRes] at hK
 ·rename_i f hc;split at hK
  ·rename_i g caps hf;have hfv:=h.ev f;rw [hf] at hfv;obtain⟨vs,hv,hl,hr⟩:=hfv.fn_inv;obtain⟨hal,har⟩:=Zyt (xs:=cl.args) h
   have hrun:((do let d ←resolve a.eval cl ty;invoke d.target d.args):Sem Next).run P w=.ok (.enter g (cl.args.map a.eval++vs)) w:=by
    simp only [resolve,hc,hv,Deferred.ofValue,Sem.run_bind,Sem.run_pure,Result.andThen_ok,invoke,Array.empty_append];exact hK.1 _ _
   rw [hrun];refine Zvg h hd hK (by simp [hl]) λj b y hb hy=>?_;rcases Nat.lt_or_ge j cl.args.size with hj | hj
   ·rw [List.getElem?_append_left (by simpa using hj)] at hb;rw [Array.getElem?_append_left (by simpa using hj)] at hy;exact har j b y hb hy
   ·rw [List.getElem?_append_right (by simpa using hj)] at hb;rw [Array.getElem?_append_right (by simpa using hj)] at hy;simp only [List.length_map,Array.length_toList] at hb;simp only [Array.size_map] at hy;exact hr _ b y hb hy
  ·exact hK.elim
 ·exact hK.elim
theorem Born.push {es:Array MapEntry} {clock:Nat} (h:Born es clock) (key val:Value):Born (es.push { key,val,born:=clock }) (clock+1):=by
 refine⟨λx hx=>?_,?_⟩
 ·simp only [Array.toList_push,List.mem_append,List.mem_singleton] at hx;rcases hx with hx | rfl
  ·exact Nat.lt_succ_of_lt (h.1 x hx)
  ·exact Nat.lt_succ_self _
 ·simp only [Array.toList_push,List.map_append,List.map_cons,List.map_nil];refine List.nodup_append.2 ⟨h.2,by simp,λa ha b hb=>?_⟩;obtain⟨x,hx,rfl⟩:=List.mem_map.1 ha;have:=h.1 x hx;simp only [List.mem_singleton] at hb;omega
theorem Born.modify {es:Array MapEntry} {clock:Nat} (h:Born es clock) (i:Nat) (f:MapEntry→MapEntry) (hf:∀e,(f e).born=e.born):Born (es.modify i f) clock:=by
 have hb:(es.modify i f).toList.map (·.born)=es.toList.map (·.born):=by
  apply List.ext_getElem?;intro j;simp only [List.getElem?_map,Array.getElem?_toList,Array.getElem?_modify];split
  ·cases es[j]?<;>simp [hf]
  ·rfl
 refine⟨λx hx=>?_,by rw [hb];exact h.2⟩;have:x.born∈(es.modify i f).toList.map (·.born):=List.mem_map.2 ⟨x,hx,rfl⟩;rw [hb] at this;obtain⟨y,hy,e⟩:=List.mem_map.1 this;rw [←e];exact h.1 y hy
def Zz4 (P:Program) (kt:TypeId):MKey→Prop
 | .s _=>P.underlying kt=some .string
 | .l ns=>stI P kt ns.length=true
theorem Zs4:∀{cs:List AV} {ns:List Int} {vs:List Value},Zo9 cs=some ns→cs.length=vs.length→(∀(j:Nat) (a:AV) (y:Value),cs[j]?=some a→vs[j]?=some y→Rs w imm a y)→vs=ns.map (Value.int .i64)
 | [],ns,vs,h,hl,hr=>by
   cases h;exact List.length_eq_zero_iff.1 hl.symm
 | b :: cs,ns,[],h,hl,hr=>by simp at hl
 | b :: cs,ns,v :: vs,h,hl,hr=>by
   unfold Zo9 at h;split at h
   ·rename_i heq;cases heq
   ·rename_i i r heq;cases heq;obtain⟨ms,h1,rfl⟩:=Option.map_eq_some_iff.1 h;have:=(hr 0 _ v rfl rfl).v_inv;subst this;have e:vs=ms.map (Value.int .i64):=Zs4 h1 (by simpa using hl) λj a y ha hy=>hr (j+1) a y (by simpa using ha) (by simpa using hy);rw [e];rfl
   ·cases h
theorem mk_of {kt:TypeId} {k:AV} {κ:MKey} {x:Value} (h:mkOf P kt k=some κ) (hx:Rs w imm k x):x=κ.val∧Zz4 P kt κ:=by
 unfold mkOf at h;split at h
 ·rename_i hu;cases h;exact⟨hx.v_inv,hu⟩
 ·rename_i fs cs hu;split at h
  ·rename_i ns hn;split at h
   ·rename_i hs;cases h;obtain⟨vs,rfl,hl,hr⟩:=hx.agg_inv;refine⟨?_,hs⟩;have:vs.toList=ns.map (Value.int .i64):=Zs4 hn (by simpa using hl) λj a y ha hy=>hr j a y ha (by simpa using hy);show Value.agg vs=.agg (ns.map (Value.int .i64)).toArray;rw [←this]
   ·cases h
  ·cases h
 ·cases h
theorem Zv1 {kt : TypeId} {n : Nat} (h : stI P kt n = true) : P.stoodInHeld kt = false ∧ ∃ fs, P.underlying kt = some (.struct fs) ∧ fs.toList.map (·.offset) = List.range n ∧ ∀ f ∈ fs.toList, f.name ≠ "_" ∧ P.underlying f.type = some (.int .i64) ∧ f.offset < n := by
 unfold stI at h;split at h
 ·rename_i fs hu;simp only [Bool.and_eq_true,Bool.not_eq_true',decide_eq_true_eq,List.all_eq_true,bne_iff_ne,ne_eq] at h;obtain⟨h0,h1,h2⟩:=h;refine⟨h0,fs,hu,h1,λf hf=>⟨(h2 f hf).1,?_,?_⟩⟩
  ·have:=(h2 f hf).2;split at this
   ·assumption
   ·cases this
  ·have:f.offset∈fs.toList.map (·.offset):=List.mem_map.2 ⟨f,hf,rfl⟩;rw [h1] at this;exact List.mem_range.1 this
 ·simp at h
theorem Zx8 (ns:List Int) {j:Nat} (h:j < ns.length):(ns.map (Value.int .i64)).toArray[j]?=some (.int .i64 (ns.getD j 0)):=by
 rw [List.getElem?_toArray,List.getElem?_map,List.getElem?_eq_getElem h,List.getD_eq_getElem?_getD,List.getElem?_eq_getElem h];rfl
theorem Zim {kt:TypeId} {κ:MKey} (h:Zz4 P kt κ) (b:Bool):(Instr.checkKey b 10000 kt κ.val).run P w=.ok () w:=by
 cases κ with
 | s t=>exact MapKept.run_checkKey (k:=.string t) h (by trivial) _ 9999
 | l ns =>
   obtain⟨-,fs,hu,-,hf⟩:=Zv1 h;show(Instr.checkKey b 10000 kt (.agg (ns.map (Value.int .i64)).toArray)).run P w=_;unfold Instr.checkKey;simp only [Sem.run_bind,run_underlying hu,Result.andThen_ok,←Array.forIn_toList];generalize fs.toList=gs at hf
   induction gs with
   | nil=>rfl
   | cons f gs ih =>
     obtain⟨a1,a2,a3⟩:=hf f (.head _);have hp:(part f.type (ns.map (Value.int .i64)).toArray f.offset).run P w=.ok (.int .i64 (ns.getD f.offset 0)) w:=Zc9 a2 rfl (Zx8 ns a3)
     have hc:(Instr.checkKey b 9999 f.type (.int .i64 (ns.getD f.offset 0))).run P w=.ok () w:=by
      unfold Instr.checkKey;simp [run_underlying a2]
     simp only [List.forIn_cons,a1,ne_eq,not_false_eq_true,if_true,Sem.run_bind,hp,hc,Result.andThen_ok,Sem.run_pure];exact ih λg hg=>hf g (.tail _ hg)
theorem key_eq {kt:TypeId} {ns ms:List Int} (h:stI P kt ns.length=true) (hl:ms.length=ns.length):(Op.equal kt (MKey.l ns).val (MKey.l ms).val).run P w=.ok (decide (ns=ms)) w:=by
 obtain⟨h0,fs,hu,ho,hf⟩:=Zv1 h;have hfo:P.fieldsOf kt=fs:=by simp [Program.fieldsOf,hu]
 have hnm : (fs.toList.all fun f => f.name != "_") = true := List.all_eq_true.2 fun f hf' => by simpa using (hf f hf').1
 show(Op.equalIn 10000 kt (.agg (ns.map (Value.int .i64)).toArray) (.agg (ms.map (Value.int .i64)).toArray)).run P w=_;rw [show(10000:Nat)=9999+1 from rfl,run_equalIn_agg (P:=P) w 9999 kt _ _ (by rw [hfo];exact hu) h0,hfo,Zg0 _ hnm]
 have key:∀(gs:List Field),(∀f∈gs,P.underlying f.type=some (.int .i64)∧f.offset < ns.length)→(Zlf 9999 (ns.map (Value.int .i64)).toArray (ms.map (Value.int .i64)).toArray (gs.map λf=>(f.type,f.offset))).run P w=.ok (gs.all λf=>ns.getD f.offset 0 == ms.getD f.offset 0) w:=by
  intro gs hg
  induction gs with
  | nil=>rfl
  | cons f gs ih =>
    obtain⟨a2,a3⟩:=hg f (.head _);have e1:(part f.type (ns.map (Value.int .i64)).toArray f.offset).run P w=.ok (.int .i64 (ns.getD f.offset 0)) w:=Zc9 a2 rfl (Zx8 ns a3);have e2:(part f.type (ms.map (Value.int .i64)).toArray f.offset).run P w=.ok (.int .i64 (ms.getD f.offset 0)) w:=Zc9 a2 rfl (Zx8 ms (by omega));have e3:=run_equalIn_int (P:=P) w 9998 f.type .i64 .i64 (ns.getD f.offset 0) (ms.getD f.offset 0) a2;have ih:=ih λg hg'=>hg g (.tail _ hg');simp only [List.map_cons,Zlf,Sem.run_bind,e1,e2,e3,Result.andThen_ok,List.all_cons]
    cases ns.getD f.offset 0 == ms.getD f.offset 0 with
    | true=>simpa only [if_true,Bool.true_and] using ih
    | false=>simp only [Bool.false_eq_true,if_false,Bool.false_and,Sem.run_pure]
 rw [key _ λf hf'=>(hf f hf').2];congr 1;rw [Bool.eq_iff_iff,List.all_eq_true,decide_eq_true_eq];constructor
 ·intro g;refine List.ext_getElem hl.symm λi h1 h2=>?_;have:i∈fs.toList.map (·.offset):=by rw [ho];exact List.mem_range.2 h1
  obtain⟨f,hf',rfl⟩:=List.mem_map.1 this;have:=g f hf';rw [List.getD_eq_getElem?_getD,List.getD_eq_getElem?_getD,List.getElem?_eq_getElem h1,List.getElem?_eq_getElem h2] at this
  simpa using this
 ·rintro rfl f -
  simp
theorem Zo7 (κ:MKey):(Instr.keyThatStays κ.val κ.val).run P w=.ok κ.val w:=by
 have:Instr.sameBits 10000 κ.val κ.val=true:=by
  cases κ with
  | s t=>exact(MapKept.bytes_beq _ _).2 rfl
  | l ns =>
    have h:∀l:List Int,((l.map (Value.int .i64)).zip (l.map (Value.int .i64))).all (fun(x,y)=>Instr.sameBits 9999 x y)=true:=λl=>by
     induction l with
     | nil=>rfl
     | cons i l ih=>simp [Instr.sameBits,ih]
    show((ns.map (Value.int .i64)).toArray.size == (ns.map (Value.int .i64)).toArray.size && ((ns.map (Value.int .i64)).toArray.toList.zip (ns.map (Value.int .i64)).toArray.toList).all fun(x,y)=>Instr.sameBits 9999 x y)=true;rw [h ns,beq_self_eq_true];rfl
 unfold Instr.keyThatStays;rw [if_pos this];rfl
theorem find_s {w:World} {imm:Imm} (s:ByteArray):∀(l:List MapEntry) (es:List (MKey × AV)) (i:Nat),es.length=l.length→Zev (.s s) es=true →
 (∀(j:Nat) (a:MKey × AV) (x:MapEntry),es[j]?=some a→l[j]?=some x→x.key=a.1.val∧Rd w imm a.2 x.val) →
 (Instr.findNow .string (.string s) l i=some none∧Zb8 (.s s) es=none∧∀y,Zcj (.s s) y es=es++[(.s s,y)]) ∨
 ∃(j:Nat) (x:MapEntry) (v:AV),Instr.findNow .string (.string s) l i=some (some (i+j,x.val))∧l[j]?=some x∧x.key=.string s∧Zb8 (.s s) es=some v∧Rd w imm v x.val∧j < es.length∧∀y,Zcj (.s s) y es=es.set j (.s s,y)
 | [],[],i,_,_,_=>.inl ⟨rfl,rfl,λ_=>rfl⟩
 | [],a :: r,_,hl,_,_=>by simp at hl
 | x :: l,[],_,hl,_,_=>by simp at hl
 | x :: l,a :: es,i,hl,ha,hr=>by
   obtain⟨hk,hv⟩:=hr 0 a x rfl rfl;obtain⟨κ,v⟩:=a;have ha':(MKey.like (.s s) κ && Zev (.s s) es)=true:=ha;rw [Bool.and_eq_true] at ha';have ih:=find_s s l es (i+1) (by simpa using hl) ha'.2 λj b y h1 h2=>hr (j+1) b y (by simpa using h1) (by simpa using h2)
   cases κ with
   | l ns=>cases ha'.1
   | s t =>
   replace hk:x.key=.string t:=hk
   by_cases h:t=s
   ·subst h;refine .inr ⟨0,x,v,?_,rfl,hk,by simp [Zb8],hv,by simp,λy=>by simp [Zcj]⟩;unfold Instr.findNow;rw [hk];have hb:(t == t)=true:=(MapKept.bytes_beq _ _).2 rfl;simp [Instr.sameNow,hb]
   ·have hb:(s == t)=false:=by
     cases hh:(s == t) with
     | false=>rfl
     | true=>exact absurd ((MapKept.bytes_beq _ _).1 hh).symm h
    have hs:Instr.findNow .string (.string s) (x :: l) i=Instr.findNow .string (.string s) l (i+1):=by
     conv=>lhs;unfold Instr.findNow
     rw [hk];simp [Instr.sameNow,hb]
    have h':¬MKey.s t=MKey.s s:=λg=>h (by cases g;rfl);rcases ih with⟨h1,h2,h3⟩ | ⟨j,y,v,h1,h2,h3,h4,h5,h6,h7⟩
    ·exact .inl ⟨by rw [hs,h1],by simp [Zb8,h',h2],λz=>by simp [Zcj,h',h3 z]⟩
    ·exact .inr ⟨j+1,y,v,by rw [hs,h1];congr 3;omega,by simpa using h2,h3,by simp [Zb8,h',h4],h5,by simp;omega,λz=>by simp [Zcj,h',h7 z]⟩
theorem find_l {w:World} {imm:Imm} {kt:TypeId} {ns:List Int} (hk:stI P kt ns.length=true):∀(l:List MapEntry) (es:List (MKey × AV)) (i:Nat),es.length=l.length→Zev (.l ns) es=true →
 (∀(j:Nat) (a:MKey × AV) (x:MapEntry),es[j]?=some a→l[j]?=some x→x.key=a.1.val∧Rd w imm a.2 x.val) →
 ((Instr.findAsking kt (MKey.l ns).val l i).run P w=.ok none w∧Zb8 (.l ns) es=none∧∀y,Zcj (.l ns) y es=es++[(.l ns,y)]) ∨
 ∃(j:Nat) (x:MapEntry) (v:AV),(Instr.findAsking kt (MKey.l ns).val l i).run P w=.ok (some (i+j,x.val)) w∧l[j]?=some x∧x.key=(MKey.l ns).val∧Zb8 (.l ns) es=some v∧Rd w imm v x.val∧j < es.length∧∀y,Zcj (.l ns) y es=es.set j (.l ns,y)
 | [],[],i,_,_,_=>.inl ⟨rfl,rfl,λ_=>rfl⟩
 | [],a :: r,_,hl,_,_=>by simp at hl
 | x :: l,[],_,hl,_,_=>by simp at hl
 | x :: l,a :: es,i,hl,ha,hr=>by
   obtain⟨hkx,hv⟩:=hr 0 a x rfl rfl;obtain⟨κ,v⟩:=a;have ha':(MKey.like (.l ns) κ && Zev (.l ns) es)=true:=ha;rw [Bool.and_eq_true] at ha';have ih:=find_l hk l es (i+1) (by simpa using hl) ha'.2 λj b y h1 h2=>hr (j+1) b y (by simpa using h1) (by simpa using h2)
   cases κ with
   | s t=>cases ha'.1
   | l ms =>
   have hlen:ms.length=ns.length:=(beq_iff_eq.1 (show(ns.length == ms.length)=true from ha'.1)).symm
   replace hkx:x.key=(MKey.l ms).val:=hkx
   have he:=key_eq (P:=P) (w:=w) hk hlen;by_cases h:ns=ms
   ·subst h;rw [decide_eq_true rfl] at he;refine .inr ⟨0,x,v,?_,rfl,hkx,by simp [Zb8],hv,by simp,λy=>by simp [Zcj]⟩;simp only [Instr.findAsking,Sem.run_bind,hkx,he,Result.andThen_ok,if_true,Sem.run_pure,Nat.add_zero]
   ·rw [decide_eq_false h] at he
    have hs:(Instr.findAsking kt (MKey.l ns).val (x :: l) i).run P w=(Instr.findAsking kt (MKey.l ns).val l (i+1)).run P w:=by
     simp only [Instr.findAsking,Sem.run_bind,hkx,he,Result.andThen_ok,Bool.false_eq_true,if_false]
    have h':¬MKey.l ms=MKey.l ns:=λg=>h (by cases g;rfl);rcases ih with⟨h1,h2,h3⟩ | ⟨j,y,v,h1,h2,h3,h4,h5,h6,h7⟩
    ·exact .inl ⟨by rw [hs,h1],by simp [Zb8,h',h2],λz=>by simp [Zcj,h',h3 z]⟩
    ·exact .inr ⟨j+1,y,v,by rw [hs,h1];congr 3;omega,by simpa using h2,h3,by simp [Zb8,h',h4],h5,by simp;omega,λz=>by simp [Zcj,h',h7 z]⟩
theorem Zir {w:World} {imm:Imm} {kt:TypeId} (κ:MKey) (hk:Zz4 P kt κ) (l:List MapEntry) (es:List (MKey × AV)) (hl:es.length=l.length) (ha:Zev κ es=true)
 (hr:∀(j:Nat) (a:MKey × AV) (x:MapEntry),es[j]?=some a→l[j]?=some x→x.key=a.1.val∧Rd w imm a.2 x.val) :
 ((Instr.findKey kt κ.val l).run P w=.ok none w∧Zb8 κ es=none∧∀y,Zcj κ y es=es++[(κ,y)]) ∨
 ∃(j:Nat) (x:MapEntry) (v:AV),(Instr.findKey kt κ.val l).run P w=.ok (some (j,x.val)) w∧l[j]?=some x∧x.key=κ.val∧Zb8 κ es=some v∧Rd w imm v x.val∧j < es.length∧∀y,Zcj κ y es=es.set j (κ,y):=by
 cases κ with
 | s t =>
   rcases find_s (w:=w) (imm:=imm) t l es 0 hl ha hr with⟨f1,f2⟩ | ⟨j,x,v,f1,f2⟩
   ·exact .inl ⟨MapKept.run_findKey hk f1,f2⟩
   ·exact .inr ⟨j,x,v,by rw [Nat.zero_add] at f1;exact MapKept.run_findKey hk f1,f2⟩
 | l ns =>
   obtain⟨-,fs,hu,-⟩:=Zv1 hk
   have hrun:(Instr.findKey kt (MKey.l ns).val l).run P w=(Instr.findAsking kt (MKey.l ns).val l 0).run P w:=by
    cases l with
    | nil=>simp [Instr.findKey,run_underlying hu,Instr.findNow,Instr.findAsking]
    | cons x l=>simp [Instr.findKey,run_underlying hu,Instr.findNow,Instr.sameNow]
   rw [hrun];rcases find_l hk l es 0 hl ha hr with⟨f1,f2⟩ | ⟨j,x,v,f1,f2⟩
   ·exact .inl ⟨f1,f2⟩
   ·exact .inr ⟨j,x,v,by rw [Nat.zero_add] at f1;exact f1,f2⟩
theorem s_lookup {t:TypeId} {m k:Operand} {ok:Bool} (h:Rel c n st a w imm) (hd:∀d,o.dst=some d→d < n) (hK:aRes P tok o.dst (Zij P st t (st.ev m) (st.ev k) ok) K st) :
 o.upon P a (Zb2 c n K) Q ((do let v ←Instr.lookup t (a.eval m) (a.eval k) ok;pure (.value v):Sem Next).run P w):=by
 unfold Zij at hK;split at hK
 ·rename_i kt et hu;split at hK
  ·rename_i κ tk g hmk hm;split at hK
   ·rename_i g' es z hmem hz;obtain⟨⟨rfl,hall⟩,hK⟩:=hK;have em:=h.ev m;rw [hm] at em;have em:=em.mp_inv;obtain⟨ek,hko⟩:=mk_of hmk (h.ev k);obtain⟨arr,clock,hh,hB,hl,hr,hbo,hp⟩:=h.mem.ok.ent tk _ hmem;have hzr:(zeroValue et).run P w=.ok z w:=Zab hz;have hck:=Zim (P:=P) (w:=w) hko arr.isEmpty;have hval:∀(av:AV) (x:Value),Rs w imm av x→∀b,Rs w imm (if ok then .tup [av,.v (.bool b)] else av) (if ok then .tuple #[x,.bool b] else x):=λav x hx b=>by
     cases ok with
     | false=>exact hx
     | true =>
       refine .tup _ _ rfl λj a y h1 h2=>?_
       match j with
       | 0=>simp at h1 h2;subst h1;subst h2;exact hx
       | 1=>simp at h1 h2;subst h1;subst h2;exact .pure (.v _)
       | j+2=>simp at h1
    rcases Zir (w:=w) (imm:=imm) κ hko arr.toList es (by simpa using hl) hall (λj b x h1 h2=>hr j b x h1 (by simpa using h2)) with⟨f1,f2,-⟩ | ⟨j,x,v,f1,-,-,f4,f5,-⟩
    ·rw [f2] at hK;refine Zad h hd hK ?_ (hval (AV.ofVal z) z (h.ev (.const z)) false);simp only [Instr.lookup,em,ek,Sem.run_bind,run_underlying hu,Result.andThen_ok,MapKept.run_getObj_map hh,Sem.run_pure,hck,f1,hzr]
    ·rw [f4] at hK;refine Zad h hd hK ?_ (hval v x.val (.pure f5) true);simp only [Instr.lookup,em,ek,Sem.run_bind,run_underlying hu,Result.andThen_ok,MapKept.run_getObj_map hh,Sem.run_pure,hck,f1]
   ·exact hK.elim
  ·exact hK.elim
 ·exact hK.elim
theorem Zp6 {t:TypeId} {m k x:Operand} (h:Rel c n st a w imm) (hd:∀d,o.dst=some d→d < n) (hK:aRes P tok o.dst (Zii P st t (st.ev m) (st.ev k) (st.ev x)) K st) :
 o.upon P a (Zb2 c n K) Q ((do Instr.mapUpdate t (a.eval m) (a.eval k) (a.eval x);pure .skip:Sem Next).run P w):=by
 unfold Zii at hK;split at hK
 ·rename_i kt et hu;split at hK
  ·rename_i κ tk g hmk hm;split at hK
   ·rename_i g' es hmem;obtain⟨⟨rfl,hall,hpo⟩,hK⟩:=hK;have em:=h.ev m;rw [hm] at em;have em:=em.mp_inv;obtain⟨ek,hko⟩:=mk_of hmk (h.ev k);obtain⟨i0,hm0,hk0⟩:=Zc0 (st.ev x).toks h.mem;obtain⟨arr,clock,hh,hB,hl,hr,hbo,hp⟩:=hm0.ok.ent tk _ hmem;have hlt:g < w.heap.size:=(Array.getElem?_eq_some_iff.1 hh).1;have hck:=Zim (P:=P) (w:=w) hko false;have hset:∀o':Obj,(setObj g o').run P w=.ok () { w with heap:=w.heap.setIfInBounds g o' }:=λo'=>MapKept.run_setObj_map o' hh;have hgrow:∀o':Obj,w.grownBy { w with heap:=w.heap.setIfInBounds g o' } (some g):=λo'=>by
     refine⟨rfl,rfl,rfl,by simp,λk hk hne=>?_⟩;simp only;rw [Array.getElem?_setIfInBounds_ne (λh9=>hne (by rw [h9]))]
    have fin:∀(arr':Array MapEntry) (clock':Nat),Born arr' clock'→(Zcj κ (pubV (marks st.mem (st.ev x).toks) (st.ev x)) es).length=arr'.size →
     (∀(imm':Imm),Rd w imm' (pubV (marks st.mem (st.ev x).toks) (st.ev x)) (a.eval x)→(∀(j:Nat) (b:MKey × AV) (y:MapEntry),es[j]?=some b→arr[j]?=some y→y.key=b.1.val∧Rd w imm' b.2 y.val) →
      ∀(j:Nat) (b:MKey × AV) (y:MapEntry),(Zcj κ (pubV (marks st.mem (st.ev x).toks) (st.ev x)) es)[j]?=some b→arr'[j]?=some y→y.key=b.1.val∧Rd w imm' b.2 y.val) →
     (Instr.mapUpdate t (a.eval m) (a.eval k) (a.eval x)).run P w=.ok () { w with heap:=w.heap.setIfInBounds g (.map arr' clock') } →
     o.upon P a (Zb2 c n K) Q ((do Instr.mapUpdate t (a.eval m) (a.eval k) (a.eval x);pure .skip:Sem Next).run P w):=λarr' clock' hbn h1 h2 h3=>by
     simp only [Sem.run_bind,h3,Result.andThen_ok,Sem.run_pure];refine Zia (x:=undef) h hd hK (.inr ⟨rfl,rfl⟩) λimm' hm' hk'=>?_;obtain⟨arr2,clock2,hh2,hB2,hl2,hr2,hbo2,hp2⟩:=hm'.ok.ent tk _ hmem;rw [hh] at hh2;cases hh2;have hcell:∀ad,imm' ad→World.cell? { w with heap:=w.heap.setIfInBounds g (.map arr' clock') } ad=w.cell? ad:=λad h9=>Zc5 (hgrow _) (hm'.ok.lt ad h9) (λh8=>hp2 ad h9 (by cases h8;rfl));have hkeep:Keeps w imm' { w with heap:=w.heap.setIfInBounds g (.map arr' clock') } imm':=λad h9=>⟨h9,hcell ad h9⟩;have hx:=Zgt hm' (hk'.rs (h.ev x)) hpo;obtain⟨q1,q2⟩:=Zdf hm' (hgrow (.map arr' clock')) (Nat.le_refl _) (λg' hg'=>by cases hg';exact hB2) hcell tk (.map g (Zcj κ (pubV (marks st.mem (st.ev x).toks) (st.ev x)) es))
      ⟨arr',clock',by simp [hlt],hB2,h1,λj b y k1 k2=>⟨(h2 imm' hx hr2 j b y k1 k2).1,hkeep.rd (h2 imm' hx hr2 j b y k1 k2).2⟩,hbn,hp2⟩
      (λj e2 b hj hje hb=>⟨λe=>hj (hm'.ok.apart j tk e2 _ b hje hmem hb (by rw [Ent.blk,e])),λe=>hj (hm'.ok.apart j tk e2 _ b hje hmem hb (by simpa [Ent.blk] using e))⟩)
     exact⟨q1,q2,.pure (.u _)⟩
    rcases Zir (w:=w) (imm:=i0) κ hko arr.toList es (by simpa using hl) hall (λj b x h1 h2=>hr j b x h1 (by simpa using h2)) with⟨f1,-,f3⟩ | ⟨j,y,v,f1,f2,fk,-,-,f6,f7⟩
    ·refine fin (arr.push { key:=κ.val,val:=a.eval x,born:=clock }) (clock+1) (hbo.push _ _) (by rw [f3];simp [hl]) (λimm' hx hr' j b y k1 k2=>?_) ?_
     ·rw [f3] at k1;by_cases hj:j < es.length
      ·rw [List.getElem?_append_left hj] at k1;rw [Array.getElem?_push,if_neg (by omega)] at k2;exact hr' j b y k1 k2
      ·rw [List.getElem?_append_right (by omega)] at k1
       have hje:j=es.length:=by
        rcases Nat.lt_or_ge (j - es.length) 1 with h9 | h9
        ·omega
        ·rw [List.getElem?_eq_none (by simpa using h9)] at k1;cases k1
       subst hje;rw [Nat.sub_self] at k1;simp only [List.getElem?_cons_zero,Option.some.injEq] at k1;rw [Array.getElem?_push,if_pos hl] at k2;simp only [Option.some.injEq] at k2;subst k1;subst k2;exact⟨rfl,hx⟩
     ·simp only [Instr.mapUpdate,em,ek,Sem.run_bind,run_underlying hu,Result.andThen_ok,MapKept.run_getObj_map hh,hck,f1,hset]
    ·have f2':arr[j]?=some y:=by simpa using f2
     have hjs:j < arr.size:=(Array.getElem?_eq_some_iff.1 f2').1;refine fin (arr.modify j λe=>{ e with key:=κ.val,val:=a.eval x }) clock (hbo.modify _ _ λ_=>rfl) (by rw [f7];simp [hl]) (λimm' hx hr' j' b z k1 k2=>?_) ?_
     ·rw [f7,List.getElem?_set] at k1;rw [Array.getElem?_modify] at k2;by_cases hj:j=j'
      ·subst hj;rw [if_pos rfl,if_pos f6] at k1;rw [if_pos rfl,f2'] at k2;simp only [Option.map_some,Option.some.injEq] at k1 k2;subst k1;subst k2;exact⟨rfl,hx⟩
      ·rw [if_neg hj] at k1;rw [if_neg hj] at k2;exact hr' j' b z k1 k2
     ·have hst:(Instr.keyThatStays (((arr[j]?).map (·.key)).getD κ.val) κ.val).run P w=.ok κ.val w:=by
       rw [f2'];simp only [Option.map_some,Option.getD_some,fk];exact Zo7 κ
      simp only [Instr.mapUpdate,em,ek,Sem.run_bind,run_underlying hu,Result.andThen_ok,MapKept.run_getObj_map hh,hck,f1,hst,hset]
   ·exact hK.elim
  ·rename_i tk g ka i kb j hmk hm hk;split at hK
   ·rename_i g' len et hmem hku;obtain⟨⟨rfl,rfl,hue,rfl,hsz⟩,hK⟩:=hK;have em:=h.ev m;rw [hm] at em;have em:=em.mp_inv;have ek:=h.ev k;rw [hk] at ek;obtain⟨vs,hv,hvl,hvr⟩:=ek.agg_inv
    have hvs:vs=#[.int kb i,.int kb j]:=by
     have hz:vs.size=2:=by simpa using hvl.symm
     refine Array.ext (by simp [hz]) λq q1 q2=>?_;have hq:q < 2:=by omega
     match q,hq with
     | 0,_=>have:=hvr 0 _ vs[0] rfl (Array.getElem?_eq_getElem (by omega));simpa using this.v_inv
     | 1,_=>have:=hvr 1 _ vs[1] rfl (Array.getElem?_eq_getElem (by omega));simpa using this.v_inv
    subst hvs;obtain⟨arr,clock,hh,hB,hl,hr,hbo,hp⟩:=h.mem.ok.ent tk _ hmem
    have harr:arr=#[]:=by
     have:arr.size=0:=by simpa using hl.symm
     exact Array.eq_empty_of_size_eq_zero this
    subst harr;have hag:(isAgg et).run P w=.ok false w:=by simp [isAgg,run_underlying hue]
    have hszr:=Zac (w:=w) hsz;have hp0:(part et #[.int kb i,.int kb j] 0).run P w=.ok (.int kb i) w:=by simp [part,hag]
    have hp1:(part et #[.int kb i,.int kb j] 1).run P w=.ok (.int kb j) w:=by simp [part,hag]
    have hci:∀x:Value,(Instr.checkKey false 9999 et x).run P w=.ok () w:=λx=>by
     unfold Instr.checkKey;simp [run_underlying hue]
    have hck:(Instr.checkKey false 10000 kt (.agg #[.int kb i,.int kb j])).run P w=.ok () w:=by
     unfold Instr.checkKey;simp [run_underlying hku,hszr,hp0,hp1,hci,show List.range' 0 2=[0,1] from rfl]
    have hset:∀o':Obj,(setObj g o').run P w=.ok () { w with heap:=w.heap.setIfInBounds g o' }:=λo'=>MapKept.run_setObj_map o' hh;have hgrow:∀o':Obj,w.grownBy { w with heap:=w.heap.setIfInBounds g o' } (some g):=λo'=>by
     refine⟨rfl,rfl,rfl,by simp,λk hk hne=>?_⟩;simp only;rw [Array.getElem?_setIfInBounds_ne (λh9=>hne (by rw [h9]))]
    have hrun:(Instr.mapUpdate t (a.eval m) (a.eval k) (a.eval x)).run P w=.ok () { w with heap:=w.heap.setIfInBounds g (.map #[{ key:=.agg #[.int kb i,.int kb j],val:=a.eval x,born:=clock }] (clock+1)) }:=by
     simp only [Instr.mapUpdate,em,hv,Sem.run_bind,run_underlying hu,Result.andThen_ok,MapKept.run_getObj_map hh,hck,MapKept.run_findKey hku (show Instr.findNow _ _ (#[]:Array MapEntry).toList 0=some none from rfl),hset];rfl
    simp only [Sem.run_bind,hrun,Result.andThen_ok,Sem.run_pure];refine Zia (x:=undef) h hd hK (.inr ⟨rfl,rfl⟩) λimm' hm' hk'=>?_;obtain⟨arr2,clock2,hh2,hB2,hl2,hr2,hbo2,hp2⟩:=hm'.ok.ent tk _ hmem;have hcell:∀o',∀ad,imm' ad→World.cell? { w with heap:=w.heap.setIfInBounds g o' } ad=w.cell? ad:=λo' ad h9=>Zc5 (hgrow _) (hm'.ok.lt ad h9) (λh8=>hp2 ad h9 (by cases h8;rfl));obtain⟨q1,q2⟩:=Zdf hm' (hgrow _) (Nat.le_refl _) (λg' hg'=>by cases hg';exact hB2) (hcell _) tk (.row (.slice none 0 0) 0 0 [] 0) ⟨[],World.ownsRow_nil _ c.B 0 0,by simp,by simp,by simp [flat],by simp,λad _ h2=>by simp [Value.ownBlock] at h2,λg off h1 _=>by simp [Value.ownBlock] at h1⟩
     (λj e2 b hj hje hb=>⟨λe=>hj (hm'.ok.apart j tk e2 _ b hje hmem hb (by rw [Ent.blk,e])),by simp [Ent.blk,Value.ownBlock]⟩)
    exact⟨q1,q2,.pure (.u _)⟩
   ·exact hK.elim
  ·exact hK.elim
 ·exact hK.elim
end
section
variable {P:Program} {c:Cx} {n tok:Nat} {st:St} {a:Act} {w:World} {imm:Imm} {K:St→Prop} {o:Oper} {Q:Exit→Act→World→Prop}
theorem s_nil {x:Operand} (h:Rel c n st a w imm) (hd:∀d,o.dst=some d→d < n) (hK:aRes P tok o.dst (Zlv (st.ev x)) K st) (ho:o.op=.nilCheck x) :
 o.upon P a (Zb2 c n K) Q ((execOp a.eval o).run P w):=by
 have hx:=h.ev x;unfold Zlv at hK;split at hK
 ·rename_i cs he;rw [he] at hx;obtain⟨ad,f,hv,_⟩:=hx.pimm_inv;simp only [execOp,ho,hv,Sem.run_pure];exact Zcz h hd hK λ_ _ hk=>hk.rs (hv ▸ hx)
 ·rename_i k g off he;rw [he] at hx;have hv:=hx.pbox_inv;simp only [execOp,ho,hv,Sem.run_pure];exact Zcz h hd hK λ_ _ hk=>hk.rs (hv ▸ hx)
 ·rename_i k sv m i off he;rw [he] at hx;obtain⟨g,nn,cc,e1,hv⟩:=hx.prow_inv;simp only [execOp,ho,hv,Sem.run_pure];exact Zcz h hd hK λ_ _ hk=>hk.rs (hv ▸ hx)
 ·rename_i f cs he;rw [he] at hx;obtain⟨vs,hv,_⟩:=hx.fn_inv;simp only [execOp,ho,hv,Sem.run_pure];exact Zcz h hd hK λ_ _ hk=>hk.rs (hv ▸ hx)
 ·exact hK.elim
theorem run_box {e:TypeId} {z:Value}:(Instr.box e z).run P w=.ok (.pointer (some ⟨w.heap.size,0,none⟩)) (w.alloc (.cells z.cells e)):=by
 simp only [Instr.box,newVar,newRow,Sem.run_bind,run_newObj,Result.andThen_ok,Sem.run_pure];rfl
theorem Zdc (h:Rel c n st a w imm) (hd:∀d,o.dst=some d→d < n) (hK:aRes P tok o.dst (Zak P st o.op) K st):o.wp P a w (Zb2 c n K) Q:=by
 unfold Oper.wp;have same:∀{x:Operand},aRes P tok o.dst (.val (st.ev x) []) K st→o.upon P a (Zb2 c n K) Q (.ok (.value (a.eval x)) w):=λhK=>Zcz h hd hK λ_ _ hk=>hk.rs (h.ev _)
 cases ho:o.op with
 | move x=>simp only [Zak,ho] at hK;simp only [execOp,ho,Sem.run_pure];exact same hK
 | assign x=>simp only [Zak,ho] at hK;simp only [execOp,ho,Sem.run_pure];exact same hK
 | pick cc x y =>
   simp only [Zak,ho,Zkp] at hK;split at hK
   ·rename_i t hc;have hcv:=h.ev cc;rw [hc] at hcv;have hv:=hcv.v_inv
    have hrun:(execOp a.eval o).run P w=.ok (.value (if t then a.eval x else a.eval y)) w:=by
     simp only [execOp,ho,hv,asBool,Sem.run_bind,Sem.run_pure,Result.andThen_ok]
    rw [hrun];unfold Zwx at hK;split at hK
    ·rename_i p q hp hq;have e1:=h.ev x;rw [hp] at e1;have e2:=h.ev y;rw [hq] at e2;refine Zcz h hd hK λ_ _ hk=>?_;rw [e1.v_inv,e2.v_inv];cases t<;>exact .pure (.v _)
    ·refine Zcz h hd hK λ_ _ hk=>?_;cases t
     ·exact hk.rs (h.ev y)
     ·exact hk.rs (h.ev x)
   ·exact hK.elim
 | alloc e =>
   simp only [Zak,ho,aZero] at hK
   cases hz:Zau P e with
   | none=>rw [hz] at hK;exact hK.elim
   | some z =>
     rw [hz] at hK;obtain⟨hok,hK⟩:=hK;obtain⟨hl,hr,h1⟩:=(Zsl w imm z).cells_of hok
     have hrun:(execOp a.eval o).run P w=.ok (.value (.pointer (some ⟨w.heap.size,0,none⟩))) (w.alloc (.cells z.cells e)):=by
      simp only [execOp,ho,Instr.alloc,Sem.run_bind,Zab hz,Result.andThen_ok,newVar,newRow,run_newObj,Sem.run_pure];rfl
     rw [hrun];exact Zrq h hd hK hl h1 hr
 | box e x =>
   simp only [Zak,ho] at hK;obtain⟨hok,hK⟩:=hK;obtain⟨hl,hr,h1⟩:=(h.ev x).cells_of hok
   have hrun:(execOp a.eval o).run P w=.ok (.value (.pointer (some ⟨w.heap.size,0,none⟩))) (w.alloc (.cells (a.eval x).cells e)):=by
    simp only [execOp,ho,Sem.run_bind,run_box,Result.andThen_ok,Sem.run_pure]
   rw [hrun];exact Zrq h hd hK hl h1 hr
 | build t parts=>simp only [Zak,ho] at hK;simp only [execOp,ho];exact s_build h hd hK
 | buildSlice t len parts=>simp only [Zak,ho] at hK;simp only [execOp,ho];exact Zoa h hd hK
 | load t x=>simp only [Zak,ho] at hK;simp only [execOp,ho];exact s_load h hd hK (h.ev x)
 | store t p x=>simp only [Zak,ho] at hK;simp only [execOp,ho];exact s_store h hd hK (h.ev p) (h.ev x)
 | nilCheck x=>simp only [Zak,ho] at hK;exact s_nil h hd hK ho
 | binOp op t x y u=>simp only [Zak,ho] at hK;simp only [execOp,ho];exact s_bin h hd hK (h.ev x) (h.ev y)
 | unOp op t x=>simp only [Zak,ho] at hK;simp only [execOp,ho];exact s_un h hd hK (h.ev x)
 | convert s d x=>simp only [Zak,ho] at hK;simp only [execOp,ho];exact s_conv h hd hK (h.ev x)
 | makeFunc fn first caps =>
   simp only [Zak,ho] at hK
   cases fn with
   | func f =>
     obtain⟨h0,hK⟩:=hK
     have hf:first=#[]:=by
      have:first.toList=[]:=List.eq_nil_of_length_eq_zero h0
      rw [←Array.toArray_toList (xs:=first),this]
     obtain⟨hal,har⟩:=Zyt (xs:=caps) h
     have hrun:(execOp a.eval o).run P w=.ok (.value (.func (.func f) #[] (caps.map a.eval))) w:=by
      simp only [execOp,ho,Instr.makeFunc,Sem.run_bind,Sem.run_pure,Result.andThen_ok,hf,Array.map_empty]
     rw [hrun];exact Zcz h hd hK λ_ _ hk=>hk.rs (.fn f _ _ hal har)
   | _=>exact hK.elim
 | makeSlice t l cp=>simp only [Zak,ho] at hK;simp only [execOp,ho];exact s_make h hd hK (h.ev l) (h.ev cp)
 | slice t x lo hi mx=>simp only [Zak,ho] at hK;simp only [execOp,ho];exact s_slice h hd hK
 | fieldAddr s x f=>simp only [Zak,ho] at hK;simp only [execOp,ho];exact s_field h hd hK (h.ev x)
 | field s x f =>
   simp only [Zak,ho] at hK;simp only [execOp,ho];split at hK
   ·rename_i fields cs hu hx;split at hK
    ·rename_i fd hf;have hxv:=h.ev x;rw [hx] at hxv;obtain⟨vs,hv,hl,hr⟩:=hxv.agg_inv
     have e1:(Instr.field s (a.eval x) f).run P w=(part fd.type vs fd.offset).run P w:=by
      simp only [Instr.field,Sem.run_bind,run_underlying hu,Result.andThen_ok,hf,hv,asAgg,Sem.run_pure]
     have:=Zjd (o:=o) (Q:=Q) h hd hK hl hr;simp only [Sem.run_bind] at this ⊢;rw [e1];exact this
    ·exact hK.elim
   ·exact hK.elim
 | indexAddr t x i=>simp only [Zak,ho] at hK;simp only [execOp,ho];exact Zp7 h hd hK (h.ev x) (h.ev i)
 | index t x i=>simp only [Zak,ho] at hK;simp only [execOp,ho];exact s_index h hd hK (h.ev x) (h.ev i)
 | extract x i =>
   simp only [Zak,ho] at hK;split at hK
   ·rename_i cs hx;split at hK
    ·rename_i b hb;have hxv:=h.ev x;rw [hx] at hxv;obtain⟨vs,hv,hl,hr⟩:=hxv.tup_inv;have hlt:i < vs.size:=by rw [←hl];exact Zbp hb
     have hrun:(execOp a.eval o).run P w=.ok (.value vs[i]) w:=by
      simp only [execOp,ho,Instr.extract,hv,Array.getElem?_eq_getElem hlt,Sem.run_bind,Sem.run_pure,Result.andThen_ok]
     rw [hrun];exact Zcz h hd hK λ_ _ hk=>hk.rs (hr i b _ hb (Array.getElem?_eq_getElem hlt))
    ·exact hK.elim
   ·exact hK.elim
 | makeInterface t x =>
   simp only [Zak,ho] at hK
   cases hu:P.underlying t with
   | none=>rw [hu] at hK;exact hK.elim
   | some d =>
     rw [hu] at hK
     have hrun:∀(hd:∀ms,d≠.interface ms),(execOp a.eval o).run P w=.ok (.value (.iface t (a.eval x))) w:=by
      intro hdd;simp only [execOp,ho,Instr.makeInterface,Sem.run_bind,run_underlying hu,Result.andThen_ok];cases d<;>first
       | exact absurd rfl (hdd _)
       | simp only [Sem.run_pure,Result.andThen_ok]
     cases d<;>first
      | exact hK.elim
      | (rw [hrun (λ_ h=>by cases h)]
         exact Zcz h hd hK λ_ _ hk=>.ifc t _ _ (hk.rs (h.ev x)))
 | makeMap t r =>
   cases r with
   | none =>
     simp only [Zak,ho] at hK
     have hrun:(execOp a.eval o).run P w=.ok (.value (.map (some w.heap.size))) (w.alloc (.map #[] 0)):=by
      simp only [execOp,ho];rfl
     rw [hrun];exact Zvf h hd hK
   | some r=>simp only [Zak,ho] at hK;exact hK.elim
 | lookup t m k ok=>simp only [Zak,ho] at hK;simp only [execOp,ho];exact s_lookup h hd hK
 | mapUpdate t m k x=>simp only [Zak,ho] at hK;simp only [execOp,ho];exact Zp6 h hd hK
 | call cl=>simp only [Zak,ho] at hK;simp only [execOp,ho];exact s_call h hd hK
 | _=>simp only [Zak,ho] at hK;exact hK.elim
end
def Zgl:AV→Prop
 | .v _=>True
 | _=>False
def says:AV→Bool→Bool
 | .v (.bool b),w=>b == w
 | _,_=>false
def Zbm (all:List Oper) (st:St) (j:Nat):AV :=
 match (all[j]?).bind (·.dst) with
 | some d=>st.env d
 | none=>.u
def Zbi (P:Program) (tok:Nat) (all:List Oper):List Oper→(St→Prop)→St→Prop
 | [],K,st=>K st
 | o :: r,K,st=>match o.guard with
   | none=>aRes P (tok+o.dst.getD 0) o.dst (Zak P st o.op) (Zbi P tok all r K) st
   | some (j,want)=>Zgl (Zbm all st j)∧if says (Zbm all st j) want=true then aRes P (tok+o.dst.getD 0) o.dst (Zak P st o.op) (Zbi P tok all r K) st else Zbi P tok all r K (st.put o.dst (.v (.tuple #[])))
theorem Zz3 {P:Program} {tok:Nat} {all:List Oper} {K:St→Prop} {st:St}:Zbi P tok all [] K st=K st:=rfl
theorem Zc7 {P:Program} {tok:Nat} {all:List Oper} {K:St→Prop} {st:St} {d:Option Tmp} {op:Op} {t:TypeId} {pos:String} {af:Array Edge} {r:List Oper} :
 Zbi P tok all (⟨d,op,t,pos,af,none⟩ :: r) K st=aRes P (tok+d.getD 0) d (Zak P st op) (Zbi P tok all r K) st:=rfl
theorem Zi9 {P:Program} {tok:Nat} {all:List Oper} {K:St→Prop} {st:St} {d:Option Tmp} {op:Op} {t:TypeId} {pos:String} {af:Array Edge} {r:List Oper} {j:Nat} {want:Bool} :
 Zbi P tok all (⟨d,op,t,pos,af,some (j,want)⟩ :: r) K st=(Zgl (Zbm all st j)∧if says (Zbm all st j) want=true then aRes P (tok+d.getD 0) d (Zak P st op) (Zbi P tok all r K) st else Zbi P tok all r K (st.put d (.v (.tuple #[])))):=rfl
def Zef (n:Nat) (o:Oper):Bool:=o.dst.all (λd=>decide (d < n))
inductive AE where
 | normal
 | exit (id:Nat)
 | ret
def AE.to:AE→Exit
 | .normal=>.normal
 | .exit id=>.exit id
 | .ret=>.ret
def post (c:Cx) (n:Nat) (Q:AE→St→Prop):Exit→Act→World→Prop:=λe a w=>∃ae st imm,e=ae.to∧Q ae st∧Rel c n st a w imm
def AWP (P:Program) (n:Nat) (code:Code) (Q:AE→St→Prop) (st:St):Prop:=∀(c:Cx) (a:Act) (w:World) (imm:Imm),Rel c n st a w imm→code.wp P (post c n Q) a w
section
variable {P:Program} {c:Cx} {n tok:Nat}
theorem Zh8 (all:List Oper) {Q:AE→St→Prop}:∀(l:List Oper) (st:St) (a:Act) (w:World) (imm:Imm),Rel c n st a w imm→l.all (Zef n)=true→Zbi P tok all l (Q .normal) st→wpList P all.toArray (post c n Q) l a w
 | [],st,a,w,imm,h,_,hK=>⟨.normal,st,imm,rfl,hK,h⟩
 | o :: r,st,a,w,imm,h,hf,hK=>by
   simp only [List.all_cons,Bool.and_eq_true] at hf
   have hd:∀d,o.dst=some d→d < n:=by
    intro d hdd;have:=hf.1;rw [Zef,hdd] at this
    simpa using this
   have yes:aRes P (tok+o.dst.getD 0) o.dst (Zak P st o.op) (Zbi P tok all r (Q .normal)) st→o.wp P a w (wpList P all.toArray (post c n Q) r) (post c n Q):=λhy =>
    Oper.wp_mono (λa' w' hg=>by
     obtain⟨st',imm',hk,hr⟩:=hg;exact Zh8 all r st' a' w' imm' hr hf.2 hk) (Zdc h hd hy)
   have no:Zbi P tok all r (Q .normal) (st.put o.dst (.v (.tuple #[])))→wpList P all.toArray (post c n Q) r (a.put o.dst undef) w:=λhn =>
    Zh8 all r _ _ w imm (h.step (Keeps.refl _ _) h.mem hd (.pure (.v _))) hf.2 hn
   unfold wpList;unfold Zbi at hK
   cases hg:o.guard with
   | none =>
     rw [hg] at hK;rw [if_pos (by simp [Region.wanted,hg])];exact .inl (yes hK)
   | some jw =>
     obtain⟨j,want⟩:=jw;rw [hg] at hK;simp only at hK;obtain⟨hB,hK⟩:=hK;unfold Zbm at hB hK;split at hB
     ·rename_i d hdj;rw [hdj] at hK;simp only at hK
      cases hb:st.env d with
      | v x =>
        have hv:=h.env d;rw [hb] at hv;have hv:=hv.v_inv;have hdj':((all.toArray[j]?).bind (·.dst))=some d:=by simpa using hdj
        by_cases hx:∃b,x=.bool b
        ·obtain⟨b,rfl⟩:=hx
         have hlt:d < a.tmps.size:=by
          rcases Nat.lt_or_ge d a.tmps.size with h1 | h1
          ·exact h1
          ·rw [Array.getD_eq_getD_getElem?,Array.getElem?_eq_none h1] at hv;simp [undef] at hv
         have hget:a.tmps[d]?=some (.bool b):=by
          rw [Array.getElem?_eq_getElem hlt];rw [Array.getD_eq_getD_getElem?,Array.getElem?_eq_getElem hlt] at hv
          simpa using hv
         have hy:yielded all.toArray a.tmps j=some b:=by
          unfold yielded;rw [hdj'];simp [hget]
         have hbo:says (st.env d) want=(b == want):=by rw [hb];rfl
         by_cases hbw:b=want
         ·rw [if_pos (by simp [Region.wanted,hg,hy,hbw])];rw [if_pos (by rw [hbo,hbw];simp)] at hK;exact .inl (yes hK)
         ·rw [if_neg (by simp [Region.wanted,hg,hy,hbw])];rw [if_neg (by rw [hbo];simpa using hbw)] at hK;exact no hK
        ·have hy:yielded all.toArray a.tmps j=none:=by
          unfold yielded;rw [hdj'];simp only [Option.bind_some];rcases ht:a.tmps[d]? with _ | y
          ·rfl
          ·rw [Array.getD_eq_getD_getElem?,ht] at hv;simp only [Option.getD_some] at hv;subst hv;split
           ·rename_i b heq;simp only [Option.some.injEq] at heq;exact absurd ⟨b,heq⟩ hx
           ·rfl
         have hbo:says (st.env d) want=false:=by
          rw [hb];cases x<;>first|rfl|exact absurd ⟨_,rfl⟩ hx
         rw [if_neg (by simp [Region.wanted,hg,hy])];rw [if_neg (by rw [hbo];simp)] at hK;exact no hK
      | _=>rw [hb] at hB;exact hB.elim
     ·exact hB.elim
def Zbj (n:Nat):Code→Bool
 | .region _ ops _=>ops.toList.all (Zef n)
 | .seq x y=>Zbj n x && Zbj n y
 | .cond _ x y=>Zbj n x && Zbj n y
 | .block _ x=>Zbj n x
 | .loop x=>Zbj n x
 | _=>true
def AE.inBlock (id:Nat) (Q:AE→St→Prop):AE→St→Prop
 | .exit i,st=>if i=id then Q .normal st else Q (.exit i) st
 | .normal,st=>Q .normal st
 | .ret,st=>Q .ret st
def AE.then (next:St→Prop) (Q:AE→St→Prop):AE→St→Prop
 | .normal,st=>next st
 | .exit i,st=>Q (.exit i) st
 | .ret,st=>Q .ret st
def Za3 (P:Program) (tok n:Nat):Code→(AE→St→Prop)→St→Prop
 | .skip,Q,st=>Q .normal st
 | .region id ops false,Q,st=>Zbi P tok ops.toList ops.toList (Q .normal) st
 | .seq x y,Q,st=>Za3 P tok n x (AE.then (Za3 P tok n y Q) Q) st
 | .cond o x y,Q,st=>match st.ev o with
   | .v (.bool t)=>(t=true→Za3 P tok n x Q st)∧(t=false→Za3 P tok n y Q st)
   | _=>False
 | .block id x,Q,st=>Za3 P tok n x (AE.inBlock id Q) st
 | .exit id,Q,st=>Q (.exit id) st
 | .ret,Q,st=>Q .ret st
 | code,Q,st=>AWP P n code Q st
theorem Zww {Q Q':AE→St→Prop} (h:∀e st,Q e st→Q' e st) {e:Exit} {a:Act} {w:World}:post c n Q e a w→post c n Q' e a w:=fun⟨ae,st,imm,h1,h2,h3⟩=>⟨ae,st,imm,h1,h _ _ h2,h3⟩
theorem Zbc:∀(code:Code) (Q:AE→St→Prop) (st:St),Zbj n code=true→Za3 P tok n code Q st→AWP P n code Q st
 | .skip,Q,st,_,h=>λc a w imm hr=>wp_skip ⟨.normal,st,imm,rfl,h,hr⟩
 | .region id ops false,Q,st,hf,h=>λc a w imm hr=>by
   have:=Zh8 (c:=c) ops.toList ops.toList st a w imm hr hf h;simp only [Array.toArray_toList] at this;exact wp_region_list this
 | .seq x y,Q,st,hf,h=>λc a w imm hr=>by
   simp only [Zbj,Bool.and_eq_true] at hf;refine wp_seq (Code.wp_mono (λe a' w' hp=>?_) (Zbc x _ st hf.1 h c a w imm hr));obtain⟨ae,st',imm',rfl,h2,h3⟩:=hp
   cases ae with
   | normal=>exact Zbc y _ st' hf.2 h2 c a' w' imm' h3
   | exit id=>exact⟨.exit id,st',imm',rfl,h2,h3⟩
   | ret=>exact⟨.ret,st',imm',rfl,h2,h3⟩
 | .cond o x y,Q,st,hf,h=>λc a w imm hr=>by
   simp only [Zbj,Bool.and_eq_true] at hf;simp only [Za3] at h;split at h
   ·rename_i t ht;have hv:=hr.ev o;rw [ht] at hv;exact wp_cond_split hv.v_inv (λe=>Zbc x _ st hf.1 (h.1 e) c a w imm hr) (λe=>Zbc y _ st hf.2 (h.2 e) c a w imm hr)
   ·exact h.elim
 | .block id x,Q,st,hf,h=>λc a w imm hr=>by
   refine wp_block (Code.wp_mono (λe a' w' hp=>?_) (Zbc x _ st hf h c a w imm hr));obtain⟨ae,st',imm',rfl,h2,h3⟩:=hp
   cases ae with
   | normal=>exact⟨.normal,st',imm',rfl,h2,h3⟩
   | exit i =>
     simp only [AE.inBlock] at h2;by_cases hi:i=id
     ·rw [if_pos hi] at h2;simp only [AE.to,Exit.inBlock,hi,if_true];exact⟨.normal,st',imm',rfl,h2,h3⟩
     ·rw [if_neg hi] at h2;simp only [AE.to,Exit.inBlock,hi,if_false];exact⟨.exit i,st',imm',rfl,h2,h3⟩
   | ret=>exact⟨.ret,st',imm',rfl,h2,h3⟩
 | .exit id,Q,st,_,h=>λc a w imm hr=>wp_exit ⟨.exit id,st,imm,rfl,h,hr⟩
 | .ret,Q,st,_,h=>λc a w imm hr=>wp_ret ⟨.ret,st,imm,rfl,h,hr⟩
 | .region id ops true,Q,st,_,h=>h
 | .loop x,Q,st,_,h=>h
 | .rangeFunc ..,Q,st,_,h=>h
 | .scope x,Q,st,_,h=>h
 | .label l,Q,st,_,h=>h
 | .goto l,Q,st,_,h=>h
 | .refuse y,Q,st,_,h=>h
theorem awp_loop {ι:Type} {body:Code} {Q:AE→St→Prop} (I:ι→St→Prop) (μ:ι→Nat) (hf:Zbj n body=true)
 (round:∀i st,I i st→Za3 P tok n body (AE.then (λst'=>∃i',I i' st'∧μ i' < μ i) Q) st) {i:ι} {st:St} (h0:I i st):AWP P n (.loop body) Q st:=by
 intro c a w imm hr b k cs;have key:∀m i st a w imm,μ i=m→I i st→Rel c n st a w imm →
  ∃e a' w',post c n Q e a' w'∧Arrives P (lone (b.at a (.code body :: .inLoop body :: k)) cs w) b k cs e a' w':=by
  intro m
  induction m using Nat.strongRecOn with
  | _ m ih =>
    intro i st a w imm hm hI hr;obtain⟨e,a₁,w₁,hq,harr⟩:=Zbc body _ st hf (round i st hI) c a w imm hr b (.inLoop body :: k) cs;obtain⟨ae,st',imm',rfl,h2,h3⟩:=hq
    cases ae with
    | normal =>
      obtain⟨i',hI',hlt⟩:=h2;obtain⟨e₂,a₂,w₂,hq₂,harr₂⟩:=ih (μ i') (hm ▸ hlt) i' st' a₁ w₁ imm' rfl hI' h3;exact⟨e₂,a₂,w₂,hq₂,.of_steps (Steps.trans harr (.one step_inLoop)) harr₂⟩
    | exit id=>exact⟨_,a₁,w₁,⟨.exit id,st',imm',rfl,h2,h3⟩,.pass (x:=.inLoop body) rfl (λ_ _=>.inl (by simp [AE.to])) harr⟩
    | ret=>exact⟨_,a₁,w₁,⟨.ret,st',imm',rfl,h2,h3⟩,.pass (x:=.inLoop body) rfl (λ_ _=>.inl (by simp [AE.to])) harr⟩
 obtain⟨e,a',w',hq,harr⟩:=key _ i st a w imm rfl h0 hr;exact⟨e,a',w',hq,.of_steps (.one step_loop) harr⟩
end
def Pure (P:Program) (f:FuncId) (args:List AV) (r:AV):Prop :=
 (∀(vs:Array Value) (w:World),(callFunc f vs).run P w=.ok (.enter f vs) w) ∧
 ∀(w:World) (imm:Imm) (vs:Array Value),(∀ad,imm ad→ad.block < w.heap.size∧ad.spot=none)→args.length=vs.size→(∀(j:Nat) (a:AV) (x:Value),args[j]?=some a→vs[j]?=some x→Rd w imm a x) →
  Calls P f vs w λe w'=>∃x imm',e=.returned x∧Rd w' imm' r x∧(∀ad,imm ad→imm' ad)∧(∀ad,imm' ad→(imm ad∨w.heap.size≤ad.block)∧ad.block < w'.heap.size∧ad.spot=none)∧Blw w.heap.size w w'
theorem Zi7 {P:Program} {f:FuncId} {args args':List AV} {r:AV} {σ:Mem} {R:AV→Mem→Prop} (h:Pure P f args' r) (ho:Zdl (marks σ (AV.toksL args)) args) (ha:Zdq (marks σ (AV.toksL args)) args=args')
 (hR:R r (marks σ (AV.toksL args))):ACall P f args σ R:=by
 refine⟨h.1,λc w imm vs hm hl hr=>?_⟩;obtain⟨i1,hm1,hk1⟩:=Zc0 (AV.toksL args) hm;refine(h.2 w i1 vs (λad h1=>⟨hm1.ok.lt ad h1,hm1.ok.spot ad h1⟩) (by rw [←ha,Zbt];exact hl) λj a x h1 h2=>?_).mono λe w' he=>?_
 ·rw [←ha] at h1;obtain⟨b,hb,rfl⟩:=Zeh j a h1;exact Zgt hm1 (hk1.rs (hr j b x hb h2)) (Zda ho j b hb)
 ·obtain⟨x,i2,rfl,hrd,hi,hn,hb⟩:=he;have hg:w.grownBy w' none:=⟨hb.os,hb.tape,hb.output,hb.size,λk hk _=>hb.block k hk⟩;have hcell:∀ad,i1 ad→w'.cell? ad=w.cell? ad:=λad h1=>hb.cell (hm1.ok.lt ad h1);refine⟨r,_,i2,x,rfl,hR,.pure hrd,⟨⟨λk e hk=>?_,hm1.ok.apart,λad h1=>(hn ad h1).2.1,λad h1=>(hn ad h1).2.2⟩,hm1.below.trans (hb.mono hm1.lt),Nat.le_trans hm1.lt hb.size,λad h1=>hi _ (hm1.old ad h1),λad h1=>?_,λad h1=>(hcell ad (hm1.old ad h1)).trans (hm1.cells ad h1)⟩,
   hk1.trans λad h1=>⟨hi ad h1,hcell ad h1⟩⟩
  ·refine(hm1.ok.ent k e hk).keep hg ?_ hi hcell λad h1=>?_
   ·rcases hbk:e.blk with _ | b
    ·exact .inl rfl
    ·exact .inr (by simp)
   ·rcases (hn ad h1).1 with h2 | h2
    ·exact .inl h2
    ·refine .inr λh3=>?_;have:=((hm1.ok.ent k e hk).blk_lt h3).2;omega
  ·rcases (hn ad h1).1 with h2 | h2
   ·exact hm1.new ad h2
   ·exact .inr (Nat.le_trans hm1.lt h2)
def resK:Res→(AV→Prop)→Prop
 | .val x [],K=>K x
 | .need p r,K=>p∧resK r K
 | _,_=>False
def Zr5 (P:Program) (st:St):ResultVar→(AV→Prop)→Prop
 | .tmp t,K=>K (st.env t)
 | .cell a t,K=>resK (Zcw P st t (st.env a)) K
def Zmp (P:Program) (st:St):List ResultVar→(List AV→Prop)→Prop
 | [],K=>K []
 | v :: r,K=>Zr5 P st v λa=>Zmp P st r λaS=>K (a :: aS)
def Zmo (P:Program) (st:St) (rs:List ResultVar) (K:AV→Prop):Prop :=
 Zmp P st rs λaS=>K (match aS with | [a]=>a | aS=>.tup aS)
section
variable {P:Program} {c:Cx} {n tok:Nat} {st:St} {a:Act} {w:World} {imm:Imm}
theorem Zem {t:TypeId} {cs:List AV} {ad:Addr} {K:AV→Prop} (hK:resK (Zhu P t cs) K) (hc:CellsAt w imm ad cs):∃y b,(loadVar t ad).run P w=.ok y w∧K b∧Rs w imm b y:=by
 unfold Zhu at hK
 cases hu:P.underlying t with
 | none=>rw [hu] at hK;exact hK.elim
 | some d =>
   rw [hu] at hK
   have hag:(isAgg t).run P w=.ok (Zfw d) w:=by
    simp only [isAgg,Sem.run_bind,run_underlying hu,Result.andThen_ok];cases d<;>rfl
   cases hb:Zfw d with
   | false =>
     rw [hb] at hag;simp only [hb,Bool.false_eq_true,if_false] at hK
     cases cs with
     | nil=>exact hK.elim
     | cons x r =>
       obtain⟨y,hy,hr⟩:=hc 0 x rfl;have:ad.add 0=ad:=by simp [Addr.add]
       rw [this] at hy;exact⟨y,x,by simp [loadVar,hag,hy],hK,hr⟩
   | true =>
     rw [hb] at hag;simp only [hb,if_true] at hK;unfold Zix at hK
     cases hs:szOf P t with
     | none=>rw [hs] at hK;exact hK.elim
     | some k =>
       rw [hs] at hK;obtain⟨hle,hK⟩:=hK
       have hex:∀j,j < k→∃x,w.cell? (ad.add j)=some x∧∀b,cs[j]?=some b→Rs w imm b x:=by
        intro j hj;obtain⟨x,h1,h2⟩:=hc j cs[j] (List.getElem?_eq_getElem (by omega));exact⟨x,h1,λb hb=>by rw [List.getElem?_eq_getElem (by omega)] at hb;simp only [Option.some.injEq] at hb;exact hb ▸ h2⟩
       let f:Nat→Value:=λj=>(w.cell? (ad.add j)).getD undef
       have hf:∀j,j < k→w.cell? (ad.add j)=some (f j):=by
        intro j hj;obtain⟨x,h1,_⟩:=hex j hj;simp [f,h1]
       have hl:=run_loadCells (P:=P) w ad k f hf;refine⟨.agg ((List.range k).map f).toArray,_,by simp [loadVar,hag,Zac hs,hl],hK,.agg _ _ (by simp [hle]) λj b x h1 h2=>?_⟩;rw [List.getElem?_take] at h1;split at h1
       ·rename_i hj;obtain⟨y,h3,h4⟩:=hex j hj
        have:f j=x:=by
         have h2':((List.range k).map f)[j]?=some x:=by simpa using h2
         simpa [List.getElem?_map,List.getElem?_range hj] using h2'
        rw [←this];simp only [f,h3,Option.getD_some];exact h4 b h1
       ·cases h1
def Zp8 (a:Act):ResultVar→Sem Value
 | .tmp t=>pure (a.tmps.getD t undef)
 | .cell x t=>do loadVar t (←asAddr (a.tmps.getD x undef))
theorem Zt7 {rv:ResultVar} {K:AV→Prop} (h:Rel c n st a w imm) (hK:Zr5 P st rv K) :
 ∃y b,(Zp8 a rv).run P w=.ok y w∧K b∧Rs w imm b y:=by
 cases rv with
 | tmp t=>exact⟨_,_,rfl,hK,h.env t⟩
 | cell x t =>
   simp only [Zr5] at hK;have hx:=h.env x
   cases hxx:st.env x with
   | pbox k g off =>
     rw [hxx] at hK hx;have hv:=hx.pbox_inv;simp only [Zp8,hv];unfold Zcw at hK;simp only at hK
     cases hk:st.mem k with
     | none=>simp only [hk] at hK;exact hK.elim
     | some e =>
       cases e with
       | row=>simp only [hk] at hK;exact hK.elim
       | map=>simp only [hk] at hK;exact hK.elim
       | box g' e cs pub =>
         simp only [hk] at hK;obtain⟨rfl,hK⟩:=hK;have hca:=(Zk8 h.mem hk).drop off;rw [Addr.add_lit,Nat.zero_add] at hca;obtain⟨y,b,h1,h2,h3⟩:=Zem hK hca;exact⟨y,b,by simp only [asAddr,Sem.run_bind,Sem.run_pure,Result.andThen_ok];exact h1,h2,h3⟩
   | pimm cs =>
     rw [hxx] at hK hx;obtain⟨ad,f,hv,h1,h2⟩:=hx.pimm_inv;simp only [Zp8,hv];obtain⟨y,b,h3,h4,h5⟩:=Zem (ad:=ad) hK λj b hb=>⟨f j,(h1 j (Zbp hb)).2,.pure (h2 j b hb)⟩;exact⟨y,b,by simp only [asAddr,Sem.run_bind,Sem.run_pure,Result.andThen_ok];exact h3,h4,h5⟩
   | prow k sv m i off =>
     rw [hxx] at hK hx;obtain⟨g,nn,cc,e1,hv⟩:=hx.prow_inv;subst e1;simp only [Zp8,hv];unfold Zcw at hK;simp only at hK
     cases hk:st.mem k with
     | none=>simp only [hk] at hK;exact hK.elim
     | some e =>
       cases e with
       | box=>simp only [hk] at hK;exact hK.elim
       | map=>simp only [hk] at hK;exact hK.elim
       | row sv' e m' es pub =>
         simp only [hk] at hK;obtain⟨⟨rfl,rfl,hi⟩,hK⟩:=hK;have hca:=(Zkg h.mem hk hi).drop off;rw [Addr.add_lit] at hca;obtain⟨y,b,h1,h2,h3⟩:=Zem hK hca;exact⟨y,b,by simp only [asAddr,Sem.run_bind,Sem.run_pure,Result.andThen_ok];exact h1,h2,h3⟩
   | _=>rw [hxx] at hK;exact hK.elim
theorem Zkh:∀(rs:List ResultVar) {K:List AV→Prop},Rel c n st a w imm→Zmp P st rs K →
 ∃ys bs,(rs.mapM λrv=>Zp8 a rv).run P w=.ok ys w∧K bs∧bs.length=ys.length ∧
  ∀(j:Nat) (b:AV) (y:Value),bs[j]?=some b→ys[j]?=some y→Rs w imm b y
 | [],K,h,hK=>⟨[],[],rfl,hK,rfl,by simp⟩
 | rv :: rs,K,h,hK=>by
   obtain⟨y,b,h1,h2,h3⟩:=Zt7 h hK;obtain⟨ys,bs,h4,h5,h6,h7⟩:=Zkh rs h h2;refine⟨y :: ys,b :: bs,?_,h5,by simp [h6],λj b' y' hb hy=>?_⟩
   ·rw [List.mapM_cons];simp only [Sem.run_bind,h1,h4,Result.andThen_ok,Sem.run_pure]
   ·match j with
    | 0=>simp at hb hy;subst hb;subst hy;exact h3
    | j+1=>exact h7 j b' y' (by simpa using hb) (by simpa using hy)
theorem Zqa {fn:Func} {rs:List ResultVar} {K:AV→Prop} (hrs:fn.results=rs.toArray) (h:Rel c n st a w imm) (hK:Zmo P st rs K):∃y b,(results fn a.tmps).run P w=.ok y w∧K b∧Rs w imm b y:=by
 obtain⟨ys,bs,h1,h2,h3,h4⟩:=Zkh rs h hK
 have hm:(fn.results.mapM λrv=>Zp8 a rv).run P w=.ok ys.toArray w:=by
  rw [hrs,Array.mapM_eq_mapM_toList];simp only [Sem.run_map,h1,Result.andThen_ok]
 have hr:(results fn a.tmps).run P w=.ok (if h:ys.toArray.size=1 then ys.toArray[0] else .tuple ys.toArray) w:=by
  have e:results fn a.tmps=(do let vs ←fn.results.mapM (Zp8 a);pure (if h:vs.size=1 then vs[0] else .tuple vs)):=by
   unfold results;congr 1
  rw [e];simp only [Sem.run_bind,hm,Result.andThen_ok,Sem.run_pure]
 match bs,ys,h3,h4,h2,hr with
 | [b],[y],_,h4,h2,hr=>exact⟨y,b,by simpa using hr,h2,h4 0 b y rfl rfl⟩
 | [],[],_,h4,h2,hr=>exact⟨_,_,hr,h2,.tup _ _ rfl (by simp)⟩
 | b1 :: b2 :: bs,y1 :: y2 :: ys,h3,h4,h2,hr=>exact⟨_,_,hr,h2,by simpa using Rs.tup _ (y1 :: y2 :: ys).toArray (by simpa using h3) (λj b y hb hy=>h4 j b y hb (by simpa using hy))⟩
end
def Zwu (st:St) (r:AV) (b:AV):Prop:=Zf8 (marks st.mem b.toks) b∧pubV (marks st.mem b.toks) b=r
def Done (P:Program) (rs:List ResultVar) (K:St→AV→Prop):AE→St→Prop
 | .exit _,_=>False
 | .normal,st=>Zmo P st rs (K st)
 | .ret,st=>Zmo P st rs (K st)
theorem Znm {P:Program} {rs:List ResultVar} {K:St→AV→Prop} {ae:AE} {st:St} (h:Done P rs K ae st):Zmo P st rs (K st):=by
 cases ae with
 | exit=>exact h.elim
 | normal=>exact h
 | ret=>exact h
theorem Zaa {P:Program} {f n tok:Nat} {fn:Func} {code:Code} {rs:List ResultVar} {args:List AV} {r:AV} (hf:P.funcs[f]?=some fn) (hb:fn.body=some code) (hn:fn.ntmps=n) (hrs:fn.results=rs.toArray)
 (hc:∀(vs:Array Value) (w:World),(callFunc f vs).run P w=.ok (.enter f vs) w) (hfit:Zbj n code=true) (hal:args.length≤n)
 (h:Za3 P tok n code (Done P rs λst=>Zwu st r) ⟨λt=>args.getD t .u,Zag⟩):Pure P f args r:=by
 refine⟨hc,λw imm vs himm hl hr=>?_⟩;refine calls_of_wp hf hb ?_
 let c:Cx:=⟨w.heap.size,w,imm⟩
 have hrel:Rel c n ⟨λt=>args.getD t .u,Zag⟩ { tmps:=vs++Array.replicate (fn.ntmps - vs.size) undef,defers:=[] } w imm:=by
  refine⟨λt=>?_,by simp [hn];omega,rfl,⟨⟨λk e hk=>by simp [Zag] at hk,λk k' e e' b hk=>by simp [Zag] at hk,λad h1=>(himm ad h1).1,λad h1=>(himm ad h1).2⟩,Blw.refl _ _,Nat.le_refl _,λ_ h1=>h1,λ_ h1=>.inl h1,λ_ _=>rfl⟩⟩;simp only [List.getD_eq_getElem?_getD];rcases Nat.lt_or_ge t args.length with ht | ht
  ·have ht2:t < vs.size:=by omega
   rw [List.getElem?_eq_getElem ht,Array.getD_eq_getD_getElem?,Array.getElem?_append_left ht2,Array.getElem?_eq_getElem ht2];exact .pure (hr t _ _ (List.getElem?_eq_getElem ht) (Array.getElem?_eq_getElem ht2))
  ·rw [List.getElem?_eq_none ht];exact .pure (.u _)
 refine Code.wp_mono (λe a' w' hp=>?_) (Zbc code _ _ hfit h c _ w imm hrel);obtain⟨ae,st',imm',rfl,hdone,hrel'⟩:=hp;have hret:=Znm hdone;have hae:∀id,ae≠.exit id:=by rintro id rfl;exact hdone
 obtain⟨y,b,hrun,⟨hpo,hpv⟩,hrs'⟩:=Zqa hrs hrel' hret;obtain⟨i2,hm2,hk2⟩:=Zc0 b.toks hrel'.mem;have hrd:=Zgt hm2 (hk2.rs hrs') hpo;rw [hpv] at hrd;have fin:a'.defers=[]∧∃v,(results fn a'.tmps).run P w'=.ok v w'∧(λe w'=>∃x imm',e=Ending.returned x∧Rd w' imm' r x∧(∀ad,imm ad→imm' ad)∧(∀ad,imm' ad→(imm ad∨w.heap.size≤ad.block)∧ad.block < w'.heap.size∧ad.spot=none)∧Blw w.heap.size w w') (Ending.returned v) w' :=
  ⟨hrel'.defers,y,hrun,y,i2,rfl,hrd,hm2.old,λad h1=>⟨hm2.new ad h1,hm2.ok.lt ad h1,hm2.ok.spot ad h1⟩,hm2.below⟩
 cases ae with
 | normal=>exact fin
 | ret=>exact fin
 | exit id=>exact absurd rfl (hae id)
theorem Zbu {P:Program} {f n tok:Nat} {fn:Func} {code:Code} {rs:List ResultVar} {args:List AV} {σ:Mem} {R:AV→Mem→Prop} (hf:P.funcs[f]?=some fn) (hb:fn.body=some code) (hn:fn.ntmps=n) (hrs:fn.results=rs.toArray)
 (hc:∀(vs:Array Value) (w:World),(callFunc f vs).run P w=.ok (.enter f vs) w) (hfit:Zbj n code=true) (hal:args.length≤n)
 (h:Za3 P tok n code (Done P rs λst b=>R b st.mem) ⟨λt=>args.getD t .u,σ⟩):ACall P f args σ R:=by
 refine⟨hc,λc w imm vs hm hl hr=>?_⟩;refine calls_of_wp hf hb ?_
 have hrel:Rel ⟨c.B,w,imm⟩ n ⟨λt=>args.getD t .u,σ⟩ { tmps:=vs++Array.replicate (fn.ntmps - vs.size) undef,defers:=[] } w imm:=by
  refine⟨λt=>?_,by simp [hn];omega,rfl,⟨hm.ok,Blw.refl _ _,hm.lt,λ_ h1=>h1,λ_ h1=>.inl h1,λ_ _=>rfl⟩⟩;simp only [List.getD_eq_getElem?_getD];rcases Nat.lt_or_ge t args.length with ht | ht
  ·have ht2:t < vs.size:=by omega
   rw [List.getElem?_eq_getElem ht,Array.getD_eq_getD_getElem?,Array.getElem?_append_left ht2,Array.getElem?_eq_getElem ht2];exact hr t _ _ (List.getElem?_eq_getElem ht) (Array.getElem?_eq_getElem ht2)
  ·rw [List.getElem?_eq_none ht];exact .pure (.u _)
 refine Code.wp_mono (λe a' w' hp=>?_) (Zbc code _ _ hfit h _ _ w imm hrel);obtain⟨ae,st',imm',rfl,hdone,hrel'⟩:=hp;have hret:=Znm hdone;have hae:∀id,ae≠.exit id:=by rintro id rfl;exact hdone
 obtain⟨y,b,hrun,hR,hrs'⟩:=Zqa hrs hrel' hret;have hm':=hrel'.mem;have fin:a'.defers=[]∧∃v,(results fn a'.tmps).run P w'=.ok v w'∧(λe w'=>∃r σ' imm' x,e=Ending.returned x∧R r σ'∧Rs w' imm' r x∧Mx c σ' w' imm'∧Keeps w imm w' imm') (Ending.returned v) w' :=
  ⟨hrel'.defers,y,hrun,b,st'.mem,imm',y,rfl,hR,hrs',⟨hm'.ok,hm.below.trans hm'.below,hm'.lt,λad h1=>hm'.old ad (hm.old ad h1),λad h1=>(hm'.new ad h1).elim (hm.new ad) .inr,λad h1=>(hm'.cells ad (hm.old ad h1)).trans (hm.cells ad h1)⟩,
   λad h1=>⟨hm'.old ad h1,hm'.cells ad h1⟩⟩
 cases ae with
 | normal=>exact fin
 | ret=>exact fin
 | exit id=>exact absurd rfl (hae id)
theorem ACall.mono {P:Program} {f:FuncId} {args:List AV} {σ:Mem} {R R':AV→Mem→Prop} (h:ACall P f args σ R) (hR:∀r σ',R r σ'→R' r σ'):ACall P f args σ R' :=
 ⟨h.1,λc w imm vs hm hl hr=>(h.2 c w imm vs hm hl hr).mono λe w' ⟨r,σ',imm',x,h1,h2,h3⟩=>⟨r,σ',imm',x,h1,hR r σ' h2,h3⟩⟩
def Sub (a b:AV):Prop:=∀(w:World) (imm:Imm) (x:Value),Rs w imm a x→Rs w imm b x
theorem Sub.refl (a:AV):Sub a a:=λ_ _ _ h=>h
theorem Sub.own (k k':Nat) (sv:Value):Sub (.own k sv) (.own k' sv):=λ_ _ _ h=>by
 have h1:=h.own_inv;subst h1;exact .own _ _ h.own_one
theorem Sub.mp (k k' g:Nat):Sub (.mp k g) (.mp k' g):=λ_ _ _ h=>by rw [h.mp_inv];exact .mp _ _
theorem Sub.view (k k':Nat) (sv:Value) (m i len:Nat):Sub (.view k sv m i len) (.view k' sv m i len):=λ_ _ _ h=>.view _ _ _ _ _ _ h.view_inv
theorem Sub.pbox (k k' g off:Nat):Sub (.pbox k g off) (.pbox k' g off):=λ_ _ _ h=>by
 have h1:=h.pbox_inv;subst h1;exact .pbox _ _ _
theorem Sub.prow (k k':Nat) (sv:Value) (m i off:Nat):Sub (.prow k sv m i off) (.prow k' sv m i off):=λ_ _ _ h=>by
 obtain⟨g,n,c,rfl,rfl⟩:=h.prow_inv;exact .prow _ _ _ _ _ g n c rfl
theorem Sub.tup (aS bs:List AV) (hl:aS.length=bs.length) (h:∀(j:Nat) (a b:AV),aS[j]?=some a→bs[j]?=some b→Sub a b):Sub (.tup aS) (.tup bs):=λw imm x hx=>by
 obtain⟨vs,rfl,h1,h2⟩:=hx.tup_inv;refine .tup _ _ (by omega) λj b y hb hy=>?_;have hj:j < aS.length:=by rw [hl];exact(List.getElem?_eq_some_iff.1 hb).1
 exact h j aS[j] b (List.getElem?_eq_getElem hj) hb w imm y (h2 j aS[j] y (List.getElem?_eq_getElem hj) hy)
inductive Subs:List AV→List AV→Prop
 | nil:Subs [] []
 | cons {a b:AV} {aS bs:List AV} (h:Sub a b) (t:Subs aS bs):Subs (a :: aS) (b :: bs)
theorem Subs.len {aS bs:List AV} (h:Subs aS bs):aS.length=bs.length:=by
 induction h with
 | nil=>rfl
 | cons _ _ ih=>simp [ih]
theorem Subs.get {aS bs:List AV} (h:Subs aS bs):∀(j:Nat) (a b:AV),aS[j]?=some a→bs[j]?=some b→Sub a b:=by
 induction h with
 | nil=>intro j a b h1;simp at h1
 | cons h1 _ ih =>
   intro j a b h2 h3
   cases j with
   | zero=>simp at h2 h3;subst h2;subst h3;exact h1
   | succ j=>exact ih j a b (by simpa using h2) (by simpa using h3)
theorem Mx.rename {c:Cx} {σ σ':Mem} {w:World} {imm:Imm} (h:Mx c σ w imm) (ρ:Nat→Nat) (hs:∀k e,σ' k=some e→σ (ρ k)=some e) (hi:∀k k',σ' k≠none→σ' k'≠none→ρ k=ρ k'→k=k'):Mx c σ' w imm :=
 ⟨⟨λk e hk=>h.ok.ent (ρ k) e (hs k e hk),λk k' e e' b h1 h2 h3 h4=>hi k k' (by rw [h1];simp) (by rw [h2];simp) (h.ok.apart (ρ k) (ρ k') e e' b (hs k e h1) (hs k' e' h2) h3 h4),h.ok.lt,h.ok.spot⟩,h.below,h.lt,h.old,h.new,h.cells⟩
def lent (σ:Mem):Mem:=λk=>if k < 1000 then none else σ (k - 1000)
def Back (R:AV→Mem→Prop) (b:AV) (m:Mem):Prop:=∃(r:AV) (σ':Mem) (ρ:Nat→Nat),Sub b r∧R r σ'∧(∀k e,σ' k=some e→m (ρ k)=some e)∧(∀k k',σ' k≠none→σ' k'≠none→ρ k=ρ k'→k=k')
theorem Zpp {R:AV→Mem→Prop} {b r:AV} {m σ':Mem} (hs:Sub b r) (hR:R r σ') (hm:∀k,σ' k≠none→m (k+1000)=σ' k):Back R b m :=
 ⟨r,σ',λk=>k+1000,hs,hR,λk e h=>by rw [hm k (by rw [h];simp),h],λk k' _ _ h=>by simpa using h⟩
theorem Zhl {P:Program} {f n:Nat} {fn:Func} {code:Code} {rs:List ResultVar} {args args':List AV} {σ:Mem} {R:AV→Mem→Prop} (hf:P.funcs[f]?=some fn) (hb:fn.body=some code) (hn:fn.ntmps=n) (hrs:fn.results=rs.toArray)
 (hc:∀(vs:Array Value) (w:World),(callFunc f vs).run P w=.ok (.enter f vs) w) (hfit:Zbj n code=true) (hal:args'.length≤n) (hsub:Subs args args')
 (h:Za3 P 0 n code (Done P rs λst b=>Back R b st.mem) ⟨λt=>args'.getD t .u,lent σ⟩):ACall P f args σ R:=by
 have key:=Zbu (σ:=lent σ) (R:=Back R) hf hb hn hrs hc hfit hal h;refine⟨hc,λc w imm vs hm hl hr=>?_⟩;have hm':Mx c (lent σ) w imm:=hm.rename (λk=>k - 1000) (λk e hk=>by
  unfold lent at hk;split at hk
  ·cases hk
  ·exact hk) λk k' h1 h2 h3=>by
  unfold lent at h1 h2;split at h1<;>split at h2<;>first|omega|exact absurd rfl h1|exact absurd rfl h2
 refine(key.2 c w imm vs hm' (by rw [←hsub.len];exact hl) λj a x h1 h2=>?_).mono λe w' he=>?_
 ·have hj:j < args.length:=by rw [hsub.len];exact(List.getElem?_eq_some_iff.1 h1).1
  exact hsub.get j args[j] a (List.getElem?_eq_getElem hj) h1 w imm x (hr j args[j] x (List.getElem?_eq_getElem hj) h2)
 ·obtain⟨b,m,imm',x,rfl,⟨r,σ',ρ,h1,h2,h3,h4⟩,h5,h6,h7⟩:=he;exact⟨r,σ',imm',x,rfl,h2,h1 _ _ _ h5,h6.rename ρ h3 h4,h7⟩
section
variable {P:Program} {tok n:Nat} {Q:AE→St→Prop} {st:St}
theorem r_seq {x y:Code} (h:Za3 P tok n x (AE.then (Za3 P tok n y Q) Q) st):Za3 P tok n (.seq x y) Q st:=h
theorem r_skip (h:Q .normal st):Za3 P tok n .skip Q st:=h
theorem r_ret (h:Q .ret st):Za3 P tok n .ret Q st:=h
theorem r_exit {id:Nat} (h:Q (.exit id) st):Za3 P tok n (.exit id) Q st:=h
theorem r_block {id:Nat} {x:Code} (h:Za3 P tok n x (AE.inBlock id Q) st):Za3 P tok n (.block id x) Q st:=h
theorem r_cond {o:Operand} {x y:Code} {t:Bool} (ht:st.ev o=.v (.bool t)) (h1:t=true→Za3 P tok n x Q st) (h2:t=false→Za3 P tok n y Q st):Za3 P tok n (.cond o x y) Q st:=by
 unfold Za3;rw [ht];exact⟨h1,h2⟩
theorem r_loop {ι:Type} {body:Code} (I:ι→St→Prop) (μ:ι→Nat) (i:ι) (hf:Zbj n body=true)
 (round:∀i st,I i st→Za3 P tok n body (AE.then (λst'=>∃i',I i' st'∧μ i' < μ i) Q) st) (h0:I i st):Za3 P tok n (.loop body) Q st:=awp_loop (tok:=tok) I μ hf round h0
theorem t_then {next:St→Prop} (h:next st):AE.then next Q .normal st:=h
theorem Zt1 {next:St→Prop} (h:Q .ret st):AE.then next Q .ret st:=h
theorem Zpz {next:St→Prop} {i:Nat} (h:Q (.exit i) st):AE.then next Q (.exit i) st:=h
theorem t_done {rs:List ResultVar} {K:St→AV→Prop} (h:Zmo P st rs (K st)):Done P rs K .ret st:=h
theorem t_done' {rs:List ResultVar} {K:St→AV→Prop} (h:Zmo P st rs (K st)):Done P rs K .normal st:=h
theorem t_in {id:Nat} (h:Q .normal st):AE.inBlock id Q .normal st:=h
theorem t_in_ret {id:Nat} (h:Q .ret st):AE.inBlock id Q .ret st:=h
theorem Zn3 {id:Nat} (h:Q .normal st):AE.inBlock id Q (.exit id) st:=by simp only [AE.inBlock,if_true];exact h
theorem Zaj {id i:Nat} (hi:i≠id) (h:Q (.exit i) st):AE.inBlock id Q (.exit i) st:=by simp only [AE.inBlock,if_neg hi];exact h
end
theorem Zta {α:Type} {f:α→AV} {l:List α} {k:Nat} {x:α} (h:k < l.length):(l.map f).getD k .u=f (l.getD k x):=by
 simp [List.getD_eq_getElem?_getD,List.getElem?_eq_getElem h]
theorem Zzm (cs:List AV):(AV.agg cs).cells=cs:=rfl
theorem cells_v (x:Value):(AV.v x).cells=[.v x]:=rfl
theorem cells_sl (m:Nat) (es:List AV):(AV.sl m es).cells=[.sl m es]:=rfl
theorem Zzl (k:Nat) (sv:Value):(AV.own k sv).cells=[.own k sv]:=rfl
theorem Zu5 (cs:List AV):(AV.pimm cs).cells=[.pimm cs]:=rfl
theorem Zu6 (k g o:Nat):(AV.pbox k g o).cells=[.pbox k g o]:=rfl
theorem Zu4 (k:Nat) (sv:Value) (m i len:Nat):(AV.view k sv m i len).cells=[.view k sv m i len]:=rfl
theorem cells_fn (f:FuncId) (cs:List AV):(AV.fn f cs).cells=[.fn f cs]:=rfl
theorem wrap_i64 {x:Int} (h1:-9223372036854775808≤x) (h2:x≤9223372036854775807):IntKind.i64.wrap x=x:=IntWalk.i64_in x ⟨h1,h2⟩
theorem Zwb (b w:Bool):says (.v (.bool b)) w=(b == w):=rfl
theorem Zt6 (w:Bool):says (.v (.tuple #[])) w=false:=rfl
theorem known_v (x:Value):Zgl (.v x)=True:=rfl
attribute [go_sem] Zmc Zmi Zex Zrg Zz3 Zc7 Zi9 Zbm Zwb Zt6 known_v aRes Zak St.ev St.put Zam marks mark AV.ofVal Zcl Zlz Zl8 Zs6 Zry Ztz Zno Zkp Zwx Zbg Zj0 Zcw Zhu Zfw Zky Zix Zjr Zol
 Zto Zg3 Zdt Znn Zha Zd8 Zc8 Zhi Zus Zj4 Zpg Zei Zfa Zij Zii mkOf Zo9 Zxs Zqu Ze6 putEl Zlv Zku aZero Zee Zzm cells_v cells_sl Zzl Zu5 Zu6 Zu4 cells_fn
 AV.toks AV.toksL Ent.mark Zgi Zld Zjz Zf8 Zdl pubV Zdq AV.ok AV.one Value.oneCell' Zwu Zmo Zmp Zr5 resK
end Go.Pg
