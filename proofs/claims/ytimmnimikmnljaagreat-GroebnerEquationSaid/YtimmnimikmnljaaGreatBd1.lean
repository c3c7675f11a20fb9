/- Contracts of the functions that the law reaches, and the rules by which they are walked. They say what a call hands back for every input within the bounds that each names; no other condition. -/
import Derived.Below
import Derived.Laws.OwnMore
import Derived.Laws.Cells
import Derived.Deep.AppendLies
import Derived.Deep.Draws
import Derived.WalkKit
import Derived.WalkSpells
import Derived.WalkLawsBesides
import Derived.Lib.Hide
import Derived.Maps.AppendAt
set_option linter.unusedSimpArgs false
set_option linter.unusedVariables false
set_option maxRecDepth 20000
set_option maxHeartbeats 16000000
namespace Go.Pg
open Go Go.RowKit
inductive AV where
 | v (x:Value)
 | sl (m:Nat) (es:List AV)
 | agg (cs:List AV)
 | tup (vs:List AV)
 | pimm (cs:List AV)
 | fn (f:FuncId) (caps:List AV)
 | ifc (t:TypeId) (x:AV)
 | own (k:Nat) (sv:Value)
 | prow (k:Nat) (sv:Value) (m i off:Nat)
 | pbox (k g off:Nat)
 | view (k:Nat) (sv:Value) (m i len:Nat)
 | mp (k h:Nat)
 | u
 deriving Inhabited
def AV.cells:AV→List AV
 | .agg cs=>cs
 | x=>[x]
def flat (es:List AV):List AV:=es.flatMap AV.cells
def AV.one:AV→Bool
 | .v x=>x.oneCell'
 | .agg _ | .tup _ | .u=>false
 | _=>true
def AV.ok:AV→Bool
 | .agg cs=>cs.all AV.one
 | x=>x.one
abbrev Imm:=Addr→Prop
inductive Rd (w:World) (imm:Imm):AV→Value→Prop
 | v (x:Value):Rd w imm (.v x) x
 | u (x:Value):Rd w imm .u x
 | sl (m:Nat) (es:List AV) (A:Option Addr) (cap:Nat) (f:Nat→Value) (hm:∀e∈es,e.cells.length=m) (hok:∀e∈es,e.ok=true)
  (hcap:es.length≤cap) (hn:0 < es.length→A≠none)
  (hA:∀j,j < es.length*m→∃ad,A=some ad∧imm (ad.add j)∧w.cell? (ad.add j)=some (f j))
  (hr:∀(j:Nat) (a:AV),(flat es)[j]?=some a→Rd w imm a (f j)):Rd w imm (.sl m es) (.slice A es.length cap)
 | agg (cs:List AV) (vs:Array Value) (hl:cs.length=vs.size) (hr:∀(j:Nat) (a:AV) (x:Value),cs[j]?=some a→vs[j]?=some x→Rd w imm a x):Rd w imm (.agg cs) (.agg vs)
 | tup (cs:List AV) (vs:Array Value) (hl:cs.length=vs.size) (hr:∀(j:Nat) (a:AV) (x:Value),cs[j]?=some a→vs[j]?=some x→Rd w imm a x):Rd w imm (.tup cs) (.tuple vs)
 | pimm (cs:List AV) (ad:Addr) (f:Nat→Value) (hA:∀j,j < cs.length→imm (ad.add j)∧w.cell? (ad.add j)=some (f j))
  (hr:∀(j:Nat) (a:AV),cs[j]?=some a→Rd w imm a (f j)):Rd w imm (.pimm cs) (.pointer (some ad))
 | fn (f:FuncId) (cs:List AV) (vs:Array Value) (hl:cs.length=vs.size) (hr:∀(j:Nat) (a:AV) (x:Value),cs[j]?=some a→vs[j]?=some x→Rd w imm a x):Rd w imm (.fn f cs) (.func (.func f) #[] vs)
 | ifc (t:TypeId) (a:AV) (x:Value) (h:Rd w imm a x):Rd w imm (.ifc t a) (.iface t x)
 | own (k:Nat) (sv:Value) (h:sv.oneCell'=true):Rd w imm (.own k sv) sv
theorem Rd.keep {w w':World} {imm imm':Imm} {a:AV} {x:Value} (h:Rd w imm a x) (hi:∀ad,imm ad→imm' ad) (hw:∀ad,imm ad→w'.cell? ad=w.cell? ad):Rd w' imm' a x:=by
 induction h with
 | v x=>exact .v x
 | u x=>exact .u x
 | sl m es A cap f hm hok hcap hn hA _ ih =>
   exact .sl m es A cap f hm hok hcap hn (λj hj=>by
    obtain⟨ad,e,h1,h2⟩:=hA j hj;exact⟨ad,e,hi _ h1,(hw _ h1).trans h2⟩) ih
 | agg cs vs hl _ ih=>exact .agg cs vs hl ih
 | tup cs vs hl _ ih=>exact .tup cs vs hl ih
 | pimm cs ad f hA _ ih=>exact .pimm cs ad f (λj hj=>⟨hi _ (hA j hj).1,(hw _ (hA j hj).1).trans (hA j hj).2⟩) ih
 | fn f cs vs hl _ ih=>exact .fn f cs vs hl ih
 | ifc t a x _ ih=>exact .ifc t a x ih
 | own k sv h=>exact .own k sv h
def ViewOk (sv:Value) (m i len:Nat) (y:Value):Prop :=
 (sv=.slice none 0 0∧i=0∧len=0∧y=sv) ∨
 ∃g n c off cap,sv=.slice (some ⟨g,0,none⟩) n c∧y=.slice (some ⟨g,off,none⟩) len cap∧i+len≤n∧len≤cap∧(0 < len→off=i*m)∧(i=0→off=0∧cap=c)
theorem ViewOk.one {sv:Value} {m i len:Nat} {y:Value} (h:ViewOk sv m i len y):y.oneCell'=true:=by
 rcases h with⟨rfl,_,_,rfl⟩ | ⟨g,n,c,off,cap,_,rfl,_⟩<;>rfl
inductive Rs (w:World) (imm:Imm):AV→Value→Prop
 | pure {a:AV} {x:Value} (h:Rd w imm a x):Rs w imm a x
 | own (k:Nat) (sv:Value) (h:sv.oneCell'=true):Rs w imm (.own k sv) sv
 | prow (k:Nat) (sv:Value) (m i off g n c:Nat) (h:sv=.slice (some ⟨g,0,none⟩) n c):Rs w imm (.prow k sv m i off) (.pointer (some ⟨g,i*m+off,none⟩))
 | pbox (k g off:Nat):Rs w imm (.pbox k g off) (.pointer (some ⟨g,off,none⟩))
 | view (k:Nat) (sv:Value) (m i len:Nat) (y:Value) (h:ViewOk sv m i len y):Rs w imm (.view k sv m i len) y
 | mp (k h:Nat):Rs w imm (.mp k h) (.map (some h))
 | agg (cs:List AV) (vs:Array Value) (hl:cs.length=vs.size) (hr:∀(j:Nat) (a:AV) (x:Value),cs[j]?=some a→vs[j]?=some x→Rs w imm a x):Rs w imm (.agg cs) (.agg vs)
 | tup (cs:List AV) (vs:Array Value) (hl:cs.length=vs.size) (hr:∀(j:Nat) (a:AV) (x:Value),cs[j]?=some a→vs[j]?=some x→Rs w imm a x):Rs w imm (.tup cs) (.tuple vs)
 | fn (f:FuncId) (cs:List AV) (vs:Array Value) (hl:cs.length=vs.size) (hr:∀(j:Nat) (a:AV) (x:Value),cs[j]?=some a→vs[j]?=some x→Rs w imm a x):Rs w imm (.fn f cs) (.func (.func f) #[] vs)
 | ifc (t:TypeId) (a:AV) (x:Value) (h:Rs w imm a x):Rs w imm (.ifc t a) (.iface t x)
theorem Rs.keep {w w':World} {imm imm':Imm} {a:AV} {x:Value} (h:Rs w imm a x) (hi:∀ad,imm ad→imm' ad) (hw:∀ad,imm ad→w'.cell? ad=w.cell? ad):Rs w' imm' a x:=by
 induction h with
 | pure h=>exact .pure (h.keep hi hw)
 | own k sv h=>exact .own k sv h
 | prow k sv m i off g n c h=>exact .prow k sv m i off g n c h
 | pbox k g off=>exact .pbox k g off
 | view k sv m i len y h=>exact .view k sv m i len y h
 | mp k h=>exact .mp k h
 | agg cs vs hl _ ih=>exact .agg cs vs hl ih
 | tup cs vs hl _ ih=>exact .tup cs vs hl ih
 | fn f cs vs hl _ ih=>exact .fn f cs vs hl ih
 | ifc t a x _ ih=>exact .ifc t a x ih
section inv
variable {w:World} {imm:Imm}
theorem Rs.v_inv {x y:Value} (h:Rs w imm (.v x) y):y=x:=by
 cases h with
 | pure h=>cases h;rfl
theorem Rs.own_inv {k:Nat} {sv y:Value} (h:Rs w imm (.own k sv) y):y=sv:=by
 cases h with
 | pure h=>cases h;rfl
 | own=>rfl
theorem Rs.own_one {k:Nat} {sv y:Value} (h:Rs w imm (.own k sv) y):sv.oneCell'=true:=by
 cases h with
 | pure h=>cases h with | own _ _ h=>exact h
 | own _ _ h=>exact h
theorem Rs.pbox_inv {k g off:Nat} {y:Value} (h:Rs w imm (.pbox k g off) y):y=.pointer (some ⟨g,off,none⟩):=by
 cases h with
 | pure h=>cases h
 | pbox=>rfl
theorem Rs.view_inv {k m i len:Nat} {sv y:Value} (h:Rs w imm (.view k sv m i len) y):ViewOk sv m i len y:=by
 cases h with
 | pure h=>cases h
 | view _ _ _ _ _ _ h=>exact h
theorem Rs.mp_inv {k g:Nat} {y:Value} (h:Rs w imm (.mp k g) y):y=.map (some g):=by
 cases h with
 | pure h=>cases h
 | mp=>rfl
theorem Rs.prow_inv {k m i off:Nat} {sv y:Value} (h:Rs w imm (.prow k sv m i off) y):∃g n c,sv=.slice (some ⟨g,0,none⟩) n c∧y=.pointer (some ⟨g,i*m+off,none⟩):=by
 cases h with
 | pure h=>cases h
 | prow _ _ _ _ _ g n c h=>exact⟨g,n,c,h,rfl⟩
theorem Rs.agg_inv {cs:List AV} {y:Value} (h:Rs w imm (.agg cs) y):∃vs,y=.agg vs∧cs.length=vs.size∧∀(j:Nat) (a:AV) (x:Value),cs[j]?=some a→vs[j]?=some x→Rs w imm a x:=by
 cases h with
 | pure h=>cases h with
   | agg _ vs hl hr=>exact⟨vs,rfl,hl,λj a x h1 h2=>.pure (hr j a x h1 h2)⟩
 | agg _ vs hl hr=>exact⟨vs,rfl,hl,hr⟩
theorem Rs.tup_inv {cs:List AV} {y:Value} (h:Rs w imm (.tup cs) y):∃vs,y=.tuple vs∧cs.length=vs.size∧∀(j:Nat) (a:AV) (x:Value),cs[j]?=some a→vs[j]?=some x→Rs w imm a x:=by
 cases h with
 | pure h=>cases h with
   | tup _ vs hl hr=>exact⟨vs,rfl,hl,λj a x h1 h2=>.pure (hr j a x h1 h2)⟩
 | tup _ vs hl hr=>exact⟨vs,rfl,hl,hr⟩
theorem Rs.fn_inv {f:FuncId} {cs:List AV} {y:Value} (h:Rs w imm (.fn f cs) y):∃vs,y=.func (.func f) #[] vs∧cs.length=vs.size∧∀(j:Nat) (a:AV) (x:Value),cs[j]?=some a→vs[j]?=some x→Rs w imm a x:=by
 cases h with
 | pure h=>cases h with
   | fn _ _ vs hl hr=>exact⟨vs,rfl,hl,λj a x h1 h2=>.pure (hr j a x h1 h2)⟩
 | fn _ _ vs hl hr=>exact⟨vs,rfl,hl,hr⟩
theorem Rs.ifc_inv {t:TypeId} {a:AV} {y:Value} (h:Rs w imm (.ifc t a) y):∃x,y=.iface t x∧Rs w imm a x:=by
 cases h with
 | pure h=>cases h with
   | ifc _ _ x h=>exact⟨x,rfl,.pure h⟩
 | ifc _ _ x h=>exact⟨x,rfl,h⟩
theorem Rs.sl_inv {m:Nat} {es:List AV} {y:Value} (h:Rs w imm (.sl m es) y):∃(A:Option Addr) (cap:Nat) (f:Nat→Value),y=.slice A es.length cap∧es.length≤cap∧(∀e∈es,e.cells.length=m)∧(∀e∈es,e.ok=true)∧(0 < es.length→A≠none) ∧
 (∀j,j < es.length*m→∃ad,A=some ad∧imm (ad.add j)∧w.cell? (ad.add j)=some (f j))∧(∀(j:Nat) (a:AV),(flat es)[j]?=some a→Rd w imm a (f j)):=by
 cases h with
 | pure h=>cases h with
   | sl _ _ A cap f hm hok hcap hn hA hr=>exact⟨A,cap,f,rfl,hcap,hm,hok,hn,hA,hr⟩
theorem Rs.pimm_inv {cs:List AV} {y:Value} (h:Rs w imm (.pimm cs) y):∃(ad:Addr) (f:Nat→Value),y=.pointer (some ad)∧(∀j,j < cs.length→imm (ad.add j)∧w.cell? (ad.add j)=some (f j))∧(∀(j:Nat) (a:AV),cs[j]?=some a→Rd w imm a (f j)):=by
 cases h with
 | pure h=>cases h with
   | pimm _ ad f hA hr=>exact⟨ad,f,rfl,hA,hr⟩
end inv
inductive Ent where
 | row (sv:Value) (e:TypeId) (m:Nat) (es:List AV) (pub:Nat)
 | box (g:Nat) (e:TypeId) (cs:List AV) (pub:Bool)
 | map (h:Nat) (es:List (ByteArray × AV))
def Ent.blk:Ent→Option Nat
 | .row sv _ _ _ _=>sv.ownBlock
 | .box g _ _ _=>some g
 | .map h _=>some h
def EntOk (B:Nat) (w:World) (imm:Imm):Ent→Prop
 | .row sv e m es pub=>∃xs:List Value,w.ownsRow B e m sv es.length xs∧(∀x∈es,x.cells.length=m)∧(∀x∈es,x.ok=true)∧(∀(j:Nat) (a:AV) (x:Value),(flat es)[j]?=some a→xs[j]?=some x→Rd w imm a x) ∧
  pub≤es.length∧(∀ad,imm ad→sv.ownBlock=some ad.block→ad.off < pub*m)∧(∀g off,sv.ownBlock=some g→off < pub*m→imm ⟨g,off,none⟩)
 | .box g e cs pub=>∃cur:Array Value,w.heap[g]?=some (.cells cur e (0,0))∧B≤g∧cs.length=cur.size∧(∀x∈cs,x.one=true)∧(∀(j:Nat) (a:AV) (x:Value),cs[j]?=some a→cur[j]?=some x→Rs w imm a x) ∧
  (∀ad,imm ad→ad.block=g→pub=true)∧(pub=true→∀off,off < cs.length→imm ⟨g,off,none⟩)
 | .map h es=>∃(arr:Array MapEntry) (clock:Nat),w.heap[h]?=some (.map arr clock)∧B≤h∧es.length=arr.size∧(∀(j:Nat) (a:ByteArray × AV) (x:MapEntry),es[j]?=some a→arr[j]?=some x→x.key=.string a.1∧Rd w imm a.2 x.val) ∧
  (∀ad,imm ad→ad.block≠h)
abbrev Mem:=Nat→Option Ent
structure MemOk (B:Nat) (σ:Mem) (w:World) (imm:Imm):Prop where
 ent:∀k e,σ k=some e→EntOk B w imm e
 apart:∀k k' e e' b,σ k=some e→σ k'=some e'→e.blk=some b→e'.blk=some b→k=k'
 lt:∀ad,imm ad→ad.block < w.heap.size
 spot:∀ad,imm ad→ad.spot=none
theorem EntOk.blk_lt {B:Nat} {w:World} {imm:Imm} {e:Ent} (h:EntOk B w imm e) {b:Nat} (hb:e.blk=some b):B≤b∧b < w.heap.size:=by
 cases e with
 | row sv e m es pub =>
   obtain⟨xs,hown,_⟩:=h;exact hown.lt b hb
 | box g e cs pub =>
   obtain⟨cur,hh,hB,_⟩:=h;have:g=b:=by simpa [Ent.blk] using hb
   subst this;refine⟨hB,?_⟩;rcases Nat.lt_or_ge g w.heap.size with hlt | hge
   ·exact hlt
   ·rw [Array.getElem?_eq_none hge] at hh;cases hh
 | map g es =>
   obtain⟨arr,clock,hh,hB,_⟩:=h;have:g=b:=by simpa [Ent.blk] using hb
   subst this;refine⟨hB,?_⟩;rcases Nat.lt_or_ge g w.heap.size with hlt | hge
   ·exact hlt
   ·rw [Array.getElem?_eq_none hge] at hh;cases hh
theorem Zfg {w w':World} {row:Option Nat} (hg:w.grownBy w' row) {ad:Addr} (hlt:ad.block < w.heap.size) (hne:some ad.block≠row):w'.cell? ad=w.cell? ad :=
 World.cell?_of_block (hg.block _ hlt hne)
theorem EntOk.keep {B:Nat} {w w':World} {imm imm':Imm} {e:Ent} (h:EntOk B w imm e) {row:Option Nat} (hg:w.grownBy w' row) (hne:e.blk=none∨e.blk≠row)
 (hi:∀ad,imm ad→imm' ad) (hw:∀ad,imm ad→w'.cell? ad=w.cell? ad) (hnew:∀ad,imm' ad→imm ad∨e.blk≠some ad.block):EntOk B w' imm' e:=by
 cases e with
 | row sv e m es pub =>
   obtain⟨xs,hown,hm,hok,hr,hpl,hp,hq⟩:=h;refine⟨xs,hown.kept hg hne,hm,hok,λj a x h1 h2=>(hr j a x h1 h2).keep hi hw,hpl,λad h1 h2=>?_,λg off h1 h2=>hi _ (hq g off h1 h2)⟩;rcases hnew ad h1 with h3 | h3
   ·exact hp ad h3 h2
   ·exact absurd h2 h3
 | box g e cs pub =>
   have hlt:=h.blk_lt (b:=g) rfl;obtain⟨cur,hh,hB,hl,hone,hr,hp,hq⟩:=h;refine⟨cur,?_,hB,hl,hone,λj a x h1 h2=>(hr j a x h1 h2).keep hi hw,λad h1 h2=>?_,λh1 off h2=>hi _ (hq h1 off h2)⟩
   ·rw [hg.block g hlt.2 (by rcases hne with hne | hne;exact absurd hne (by simp [Ent.blk]);exact hne)];exact hh
   ·rcases hnew ad h1 with h3 | h3
    ·exact hp ad h3 h2
    ·exact absurd (by simp [Ent.blk,h2]) h3
 | map g es =>
   have hlt:=h.blk_lt (b:=g) rfl;obtain⟨arr,clock,hh,hB,hl,hr,hp⟩:=h;refine⟨arr,clock,?_,hB,hl,λj a x h1 h2=>⟨(hr j a x h1 h2).1,(hr j a x h1 h2).2.keep hi hw⟩,λad h1 h2=>?_⟩
   ·rw [hg.block g hlt.2 (by rcases hne with hne | hne;exact absurd hne (by simp [Ent.blk]);exact hne)];exact hh
   ·rcases hnew ad h1 with h3 | h3
    ·exact hp ad h3 h2
    ·exact absurd (by simp [Ent.blk,h2]) h3
theorem Zia {P:Program} (w:World) (base:Nat) (t ty e:TypeId) (i:TypeInfo) (z:Value) (ht:P.underlying t=some (.slice e)) (hi:P.info? e=some i) (hz:i.zero=some z)
 (hzs:z.cells.size=i.size) (v:Value) (n:Nat) (xs:List Value) (hown:w.ownsRow base e i.size v n xs)
 (A:Option Addr) (m c:Nat) (news:List Value) (hl:news.length=m*i.size) (hA:0 < m→A≠none) (hnews:∀ad,A=some ad→∀(j:Nat) (u:Value),news[j]?=some u→w.cell? (ad.add j)=some u) (h1:∀u∈news,u.oneCell'=true)
 (h63:n+m≤maxLen) (hbytes:(n+m)*i.bytes≤140737488355328) (hbase:base≤w.heap.size) :
 ∃v' w',(Builtin.append_ #[t,t] ty #[v,.slice A m c]).run P w=.ok v' w'∧w'.ownsRow base e i.size v' (n+m) (xs++news)∧w.grownBy w' v.ownBlock ∧
  (v'.ownBlock=v.ownBlock∨v'.ownBlock=some w.heap.size)∧(∀g j,v.ownBlock=some g→j < n*i.size→w'.cell? ⟨g,j,none⟩=w.cell? ⟨g,j,none⟩):=by
 have hself:m=0→A=none→∃v' w',(Builtin.append_ #[t,t] ty #[v,.slice A m c]).run P w=.ok v' w'∧w'.ownsRow base e i.size v' (n+m) (xs++news)∧w.grownBy w' v.ownBlock ∧
  (v'.ownBlock=v.ownBlock∨v'.ownBlock=some w.heap.size)∧(∀g j,v.ownBlock=some g→j < n*i.size→w'.cell? ⟨g,j,none⟩=w.cell? ⟨g,j,none⟩):=by
  intro hm hA0;subst hm;subst hA0;have hn:news=[]:=List.eq_nil_of_length_eq_zero (by simpa using hl);subst hn;refine⟨v,w,?_,by simpa using hown,World.grownBy.refl w _,.inl rfl,λ_ _ _ _=>rfl⟩;rcases hown.2 with⟨rfl,rfl⟩ | ⟨g,cap,cur,rfl,_,_,hnc,_⟩
  ·simp [Builtin.append_,run_underlying ht,sizeOf,typeInfo,hi,Builtin.lenOf,Builtin.firstCells]
  ·simp [Builtin.append_,run_underlying ht,sizeOf,typeInfo,hi,Builtin.lenOf,Builtin.firstCells,hnc,storeCells]
 rcases A with _ | ad
 ·exact hself (by rcases Nat.eq_zero_or_pos m with h | h;exact h;exact absurd rfl (hA h)) rfl
 have hnews:=hnews ad rfl;by_cases hroom:∃g cap,v=.slice (some ⟨g,0,none⟩) n cap∧n+m≤cap
 ·obtain⟨g,cap,rfl,hroom⟩:=hroom;obtain⟨w',hr,ho,hg⟩:=run_append_fits (P:=P) w base t ty e i i.size ht hi rfl g n cap xs hown ad m c news hl hnews h1 hroom;refine⟨_,w',hr,ho,hg,.inl rfl,λg' j hg' hj=>?_⟩;have:g=g':=by simpa [Value.ownBlock] using hg'
  subst this;rw [ho.cellAt j (Nat.lt_of_lt_of_le hj (Nat.mul_le_mul_right _ (Nat.le_add_right _ _))),hown.cellAt j hj,List.getElem?_append_left (by rw [hown.1];exact hj)]
 ·by_cases hm:m=0∧v=.slice none 0 0
  ·obtain⟨rfl,rfl⟩:=hm;have hn:news=[]:=List.eq_nil_of_length_eq_zero (by simpa using hl);subst hn;refine⟨.slice none 0 0,w,?_,by simpa using hown,World.grownBy.refl w _,.inl rfl,λg j hg=>by simp [Value.ownBlock] at hg⟩;simp [Builtin.append_,run_underlying ht,sizeOf,typeInfo,hi,Builtin.lenOf,Builtin.firstCells,loadCells,loadCellsFrom]
  ·
   have h63':n+m≤9223372036854775807:=by simp only [maxLen] at h63;omega
   have key:∀(old:Nat),old < n+m→∀w2:World,w2=w.drew.alloc (.cells (xs.toArray++news.toArray++Builtin.zeroCells z.cells (grownCap w (n+m) old e - (n+m))) e) →
    w2.ownsRow base e i.size (.slice (some ⟨w.heap.size,0,none⟩) (n+m) (grownCap w (n+m) old e)) (n+m) (xs++news)∧(∀row,w.grownBy w2 row)∧∀g j,v.ownBlock=some g→w2.cell? ⟨g,j,none⟩=w.cell? ⟨g,j,none⟩:=by
    rintro old hold w2 rfl
    have hlen:(xs++news).length=(n+m)*i.size:=by rw [List.length_append,hown.1,hl,Nat.add_mul]
    have hge:=grownCap_ge w (n+m) old e;refine⟨⟨hlen,.inr ⟨w.heap.size,_,_,rfl,hbase,heap_alloc_new w.drew _,hge,grownCap_le_maxLen w (n+m) old e h63,?_,?_⟩⟩,λrow=>⟨rfl,rfl,rfl,by simp,λk hk _=>Below.heap_alloc w.drew _ k hk⟩,λg j hg=>?_⟩
    ·have hz2:=size_zeroCells z.cells (grownCap w (n+m) old e - (n+m));have hsum:n+m+(grownCap w (n+m) old e - (n+m))=grownCap w (n+m) old e:=by omega
     rw [Array.size_append,Array.size_append,hz2,hzs];simp only [List.size_toArray];rw [hown.1,hl,←Nat.add_mul,←Nat.add_mul,hsum]
    ·rw [←hlen];simp only [Array.toList_append,List.append_assoc];rw [←List.append_assoc];exact List.take_left
    ·exact World.cell?_alloc_lt w.drew _ ⟨g,j,none⟩ (hown.lt g hg).2
   rcases hown.2 with⟨rfl,rfl⟩ | ⟨g,cap,cur,rfl,hbg,hg,hnc,hcm,hcs,htake⟩
   ·have hx:xs=[]:=List.eq_nil_of_length_eq_zero (by simpa using hown.1);subst hx;have hm0:0 < m:=by rcases Nat.eq_zero_or_pos m with h | h;exact absurd ⟨h,rfl⟩ hm;exact h
    have hr:=run_append_nil (P:=P) w t ty e i z ht hi hz ad m c news hl hnews hm0 (by omega) (by have hb:=hbytes;simp only [Nat.zero_add] at hb;omega);have hk:=key 0 (by omega) _ rfl;simp only [Nat.zero_add,List.nil_append,Array.empty_append] at hk ⊢;exact⟨_,_,hr,hk.1,hk.2.1 _,.inr rfl,λg j hg _=>hk.2.2 g j hg⟩
   ·have hnr:¬n+m≤cap:=λh=>hroom ⟨g,cap,rfl,h⟩;have holds:∀(j:Nat) (u:Value),xs[j]?=some u→w.cell? ((⟨g,0,none⟩:Addr).add j)=some u:=hown.cells (g:=g) rfl;have hr:=run_append_grow (P:=P) w t ty e i z ht hi hz ⟨g,0,none⟩ n cap xs hown.1 holds ad m c news hl hnews (by omega) (by omega) (growslice_fits (by omega) hbytes);have hk:=key cap (by omega) _ rfl;exact⟨_,_,hr,hk.1,hk.2.1 _,.inr rfl,λg j hg _=>hk.2.2 g j hg⟩
def upd {α:Type} (f:Nat→α) (k:Nat) (v:α):Nat→α:=λn=>if n=k then v else f n
theorem Zaz {α:Type} (f:Nat→α) (k:Nat) (v:α) (n:Nat):upd f k v n=if n=k then v else f n:=rfl
structure St where
 env:Nat→AV
 mem:Mem
def St.put (st:St) (d:Option Nat) (a:AV):St :=
 match d with
 | some d=>⟨upd st.env d a,st.mem⟩
 | none=>st
def Zan:Mem:=λ_=>none
def AV.ofVal:Value→AV
 | .agg cs=>.agg (cs.toList.map AV.v)
 | x=>.v x
def St.ev (st:St):Operand→AV
 | .tmp t=>st.env t
 | .const v=>AV.ofVal v
 | .global g=>.v (.pointer (some ⟨g,0,none⟩))
 | .func f=>.fn f []
def szOf (P:Program) (t:TypeId):Option Nat:=(P.info? t).map (·.size)
def Zio (P:Program) (t:TypeId):Option Nat:=(P.info? t).map (·.bytes)
def Zb4 (P:Program) (t:TypeId):Option Value:=(P.info? t).bind (·.zero)
def Ent.mark:Ent→Ent
 | .row sv e m es _=>.row sv e m es es.length
 | .box g e cs _=>.box g e cs true
 | .map h es=>.map h es
def mark (σ:Mem) (k:Nat):Mem:=upd σ k ((σ k).map Ent.mark)
def marks (σ:Mem):List Nat→Mem
 | []=>σ
 | k :: ks=>marks (mark σ k) ks
mutual
def AV.toks:AV→List Nat
 | .own k _=>[k]
 | .prow k _ _ _ _=>[k]
 | .pbox k _ _=>[k]
 | .view k _ _ _ _=>[k]
 | .mp k _=>[k]
 | .agg cs=>AV.toksL cs
 | .tup cs=>AV.toksL cs
 | .fn _ cs=>AV.toksL cs
 | .ifc _ x=>AV.toks x
 | _=>[]
def AV.toksL:List AV→List Nat
 | []=>[]
 | a :: r=>AV.toks a++AV.toksL r
end
def Zfe (σ:Mem):AV→Prop
 | .own k sv=>match σ k with
   | some (.row sv' _ _ es pub)=>sv=sv'∧pub=es.length
   | _=>False
 | .view k sv m _ _=>match σ k with
   | some (.row sv' _ m' es pub)=>sv=sv'∧m=m'∧pub=es.length
   | _=>False
 | .v _ | .sl _ _ | .pimm _ | .u=>True
 | _=>False
def Zjt (σ:Mem):AV→AV
 | .own k _=>match σ k with
   | some (.row _ _ m es _)=>.sl m es
   | _=>.u
 | .view k _ _ i len=>match σ k with
   | some (.row _ _ m es _)=>.sl m ((es.take (i+len)).drop i)
   | _=>.u
 | x=>x
def Ziv (σ:Mem):List AV→Prop
 | []=>True
 | a :: r=>Zfe σ a∧Ziv σ r
mutual
def Zer (σ:Mem):AV→Prop
 | .own k sv=>Zfe σ (.own k sv)
 | .view k sv m i len=>Zfe σ (.view k sv m i len)
 | .pbox k g off=>match σ k with
   | some (.box g' _ cs pub)=>g=g'∧pub=true∧off≤cs.length∧Ziv σ cs
   | _=>False
 | .prow _ _ _ _ _=>False
 | .mp _ _=>False
 | .agg cs=>Zdv σ cs
 | .tup cs=>Zdv σ cs
 | .fn _ cs=>Zdv σ cs
 | .ifc _ x=>Zer σ x
 | _=>True
def Zdv (σ:Mem):List AV→Prop
 | []=>True
 | a :: r=>Zer σ a∧Zdv σ r
end
mutual
def pubV (σ:Mem):AV→AV
 | .own k sv=>Zjt σ (.own k sv)
 | .view k sv m i len=>Zjt σ (.view k sv m i len)
 | .pbox k _ off=>match σ k with
   | some (.box _ _ cs _)=>.pimm ((cs.map (Zjt σ)).drop off)
   | _=>.u
 | .agg cs=>.agg (Zdt σ cs)
 | .tup cs=>.tup (Zdt σ cs)
 | .fn f cs=>.fn f (Zdt σ cs)
 | .ifc t x=>.ifc t (pubV σ x)
 | x=>x
def Zdt (σ:Mem):List AV→List AV
 | []=>[]
 | a :: r=>pubV σ a :: Zdt σ r
end
inductive Res where
 | val (a:AV) (ks:List Nat)
 | box (e:TypeId) (cs:List AV)
 | row (e:TypeId) (m:Nat) (es:List AV) (ks:List Nat)
 | app (k:Nat) (news:List AV) (ks:List Nat)
 | appv (k n:Nat) (news:List AV)
 | sto (a:AV) (k:Nat) (ent:Ent) (ks:List Nat)
 | call (f:FuncId) (args:List AV)
 | mapn
 | need (p:Prop) (r:Res)
 | bad
structure Cx where
 B:Nat
 w0:World
 imm0:Imm
structure Mx (c:Cx) (σ:Mem) (w:World) (imm:Imm):Prop where
 ok:MemOk c.B σ w imm
 below:Below c.B c.w0 w
 lt:c.B≤w.heap.size
 old:∀ad,c.imm0 ad→imm ad
 new:∀ad,imm ad→c.imm0 ad∨c.B≤ad.block
 cells:∀ad,c.imm0 ad→w.cell? ad=c.w0.cell? ad
structure Rel (c:Cx) (n:Nat) (st:St) (a:Act) (w:World) (imm:Imm):Prop where
 env:∀t,Rs w imm (st.env t) (a.tmps.getD t undef)
 size:a.tmps.size=n
 defers:a.defers=[]
 mem:Mx c st.mem w imm
def Keeps (w:World) (imm:Imm) (w':World) (imm':Imm):Prop:=∀ad,imm ad→imm' ad∧w'.cell? ad=w.cell? ad
theorem Keeps.rs {w w':World} {imm imm':Imm} (h:Keeps w imm w' imm') {a:AV} {x:Value} (hr:Rs w imm a x):Rs w' imm' a x:=hr.keep (λad h1=>(h ad h1).1) (λad h1=>(h ad h1).2)
theorem Keeps.rd {w w':World} {imm imm':Imm} (h:Keeps w imm w' imm') {a:AV} {x:Value} (hr:Rd w imm a x):Rd w' imm' a x:=hr.keep (λad h1=>(h ad h1).1) (λad h1=>(h ad h1).2)
theorem Keeps.refl (w:World) (imm:Imm):Keeps w imm w imm:=λ_ h=>⟨h,rfl⟩
theorem Keeps.trans {w w1 w2:World} {i i1 i2:Imm} (h:Keeps w i w1 i1) (k:Keeps w1 i1 w2 i2):Keeps w i w2 i2:=λad h1=>⟨(k ad (h ad h1).1).1,(k ad (h ad h1).1).2.trans (h ad h1).2⟩
def ACall (P:Program) (f:FuncId) (args:List AV) (σ:Mem) (R:AV→Mem→Prop):Prop :=
 (∀(vs:Array Value) (w:World),(callFunc f vs).run P w=.ok (.enter f vs) w) ∧
 ∀(c:Cx) (w:World) (imm:Imm) (vs:Array Value),Mx c σ w imm→args.length=vs.size→(∀(j:Nat) (a:AV) (x:Value),args[j]?=some a→vs[j]?=some x→Rs w imm a x) →
  Calls P f vs w λe w'=>∃r σ' imm' x,e=.returned x∧R r σ'∧Rs w' imm' r x∧Mx c σ' w' imm'∧Keeps w imm w' imm'
def aRes (P:Program) (tok:Nat) (dst:Option Nat):Res→(St→Prop)→St→Prop
 | .val a ks,K,st=>K (St.put ⟨st.env,marks st.mem ks⟩ dst a)
 | .box e cs,K,st=>∀g:Nat,K (St.put ⟨st.env,upd st.mem tok (some (.box g e cs false))⟩ dst (.pbox tok g 0))
 | .row e m es ks,K,st=>∀sv:Value,K (St.put ⟨st.env,upd (marks st.mem ks) tok (some (.row sv e m es 0))⟩ dst (.own tok sv))
 | .app k news ks,K,st=>match marks st.mem ks k with
   | some (.row _ e m es pub)=>∀sv:Value,K (St.put ⟨st.env,upd (marks st.mem ks) k (some (.row sv e m (es++news) pub))⟩ dst (.own k sv))
   | _=>False
 | .appv k n news,K,st=>match st.mem k with
   | some (.row _ e m es pub)=>∀sv:Value,K (St.put ⟨st.env,upd st.mem k (some (.row sv e m (es.take n++news) pub))⟩ dst (.own k sv))
   | _=>False
 | .sto a k ent ks,K,st=>K (St.put ⟨st.env,upd (marks st.mem ks) k (some ent)⟩ dst a)
 | .call f args,K,st=>ACall P f args st.mem λr σ'=>K (St.put ⟨st.env,σ'⟩ dst r)
 | .mapn,K,st=>∀h:Nat,K (St.put ⟨st.env,upd st.mem tok (some (.map h []))⟩ dst (.mp tok h))
 | .need p r,K,st=>p∧aRes P tok dst r K st
 | .bad,_,_=>False
theorem Act.put_getD (a:Act) (d:Nat) (v:Value) (hd:d < a.tmps.size) (t:Nat):(a.put (some d) v).tmps.getD t undef=if t=d then v else a.tmps.getD t undef:=by
 simp only [Act.put,Array.getD_eq_getD_getElem?,Array.getElem?_setIfInBounds];by_cases h:d=t
 ·subst h;simp [hd]
 ·simp [h,Ne.symm h]
theorem Act.put_size (a:Act) (d:Option Nat) (v:Value):(a.put d v).tmps.size=a.tmps.size:=by cases d<;>simp [Act.put]
theorem Act.put_defers' (a:Act) (d:Option Nat) (v:Value):(a.put d v).defers=a.defers:=by cases d<;>rfl
theorem Rel.step {c:Cx} {n:Nat} {st:St} {a:Act} {w w':World} {imm imm':Imm} (h:Rel c n st a w imm) (hk:Keeps w imm w' imm') {σ':Mem} (hm:Mx c σ' w' imm')
 {dst:Option Nat} (hd:∀d,dst=some d→d < n) {av:AV} {x:Value} (hx:Rs w' imm' av x):Rel c n (St.put ⟨st.env,σ'⟩ dst av) (a.put dst x) w' imm':=by
 cases dst with
 | none=>exact⟨λt=>hk.rs (h.env t),h.size,h.defers,hm⟩
 | some d =>
   refine⟨λt=>?_,by rw [Act.put_size];exact h.size,by rw [Act.put_defers'];exact h.defers,hm⟩;rw [Act.put_getD a d x (by rw [h.size];exact hd d rfl)];show Rs w' imm' (upd st.env d av t) _;rw [Zaz];split
   ·exact hx
   ·exact hk.rs (h.env t)
theorem Rel.ev {c:Cx} {n:Nat} {st:St} {a:Act} {w:World} {imm:Imm} (h:Rel c n st a w imm) (x:Operand):Rs w imm (st.ev x) (a.eval x):=by
 cases x with
 | tmp t=>exact h.env t
 | const v =>
   show Rs w imm (AV.ofVal v) v;cases v<;>first
    | exact .pure (.v _)
    | (rename_i cs
       refine .pure (.agg _ cs (by simp) λj a x h1 h2=>?_);simp only [List.getElem?_map,Array.getElem?_toList,h2,Option.map_some,Option.some.injEq] at h1;subst h1;exact .v _)
 | global g=>exact .pure (.v _)
 | func f=>exact .pure (.fn f [] #[] rfl λj a x h1 _=>by simp at h1)
def Ent.len:Ent→Nat
 | .row _ _ m es _=>es.length*m
 | .box _ _ cs _=>cs.length
 | .map _ _=>0
theorem Ent.mark_blk (e:Ent):e.mark.blk=e.blk:=by cases e<;>rfl
theorem EntOk.mark {B:Nat} {w:World} {imm imm':Imm} {e:Ent} (h:EntOk B w imm e) (hi:∀ad,imm ad→imm' ad) (hs:∀ad,imm' ad→imm ad∨(e.blk=some ad.block→ad.off < e.len))
 (hall:∀g off,e.blk=some g→off < e.len→imm' ⟨g,off,none⟩):EntOk B w imm' e.mark:=by
 cases e with
 | row sv e m es pub =>
   obtain⟨xs,hown,hm,hok,hr,hpl,hp,hq⟩:=h;refine⟨xs,hown,hm,hok,λj a x h1 h2=>(hr j a x h1 h2).keep hi (λ_ _=>rfl),Nat.le_refl _,λad h1 h2=>?_,λg off h1 h2=>hall g off h1 h2⟩;rcases hs ad h1 with h3 | h3
   ·exact Nat.lt_of_lt_of_le (hp ad h3 h2) (Nat.mul_le_mul_right _ hpl)
   ·exact h3 h2
 | box g e cs pub =>
   obtain⟨cur,hh,hB,hl,hone,hr,hp,hq⟩:=h;exact⟨cur,hh,hB,hl,hone,λj a x h1 h2=>(hr j a x h1 h2).keep hi (λ_ _=>rfl),λ_ _ _=>rfl,λ_ off h2=>hall g off rfl h2⟩
 | map g es =>
   obtain⟨arr,clock,hh,hB,hl,hr,hp⟩:=h;refine⟨arr,clock,hh,hB,hl,λj a x h1 h2=>⟨(hr j a x h1 h2).1,(hr j a x h1 h2).2.keep hi (λ_ _=>rfl)⟩,λad h1 h2=>?_⟩;rcases hs ad h1 with h3 | h3
   ·exact hp ad h3 h2
   ·exact absurd (h3 (by simp [Ent.blk,h2])) (by simp [Ent.len])
theorem Zl0 {c:Cx} {σ:Mem} {w:World} {imm:Imm} (h:Mx c σ w imm) (k:Nat):∃imm',Mx c (mark σ k) w imm'∧Keeps w imm w imm':=by
 cases hk:σ k with
 | none =>
   have:mark σ k=σ:=by
    funext j
    simp only [mark,Zaz,hk,Option.map_none];split
    ·subst_vars;exact hk.symm
    ·rfl
   rw [this];exact⟨imm,h,Keeps.refl w imm⟩
 | some e =>
   have hlt:=λb hb=>(h.ok.ent k e hk).blk_lt (b:=b) hb
   let imm':Imm:=λad=>imm ad∨(e.blk=some ad.block∧ad.off < e.len∧ad.spot=none)
   have hi:∀ad,imm ad→imm' ad:=λad h1=>.inl h1;refine⟨imm',⟨⟨λj e' hj=>?_,λj j' e1 e2 b h1 h2 h3 h4=>?_,λad h1=>?_,λad h1=>h1.elim (h.ok.spot ad) λh2=>h2.2.2⟩,h.below,h.lt,λad h1=>.inl (h.old ad h1),λad h1=>?_,h.cells⟩,λad h1=>⟨.inl h1,rfl⟩⟩
   ·simp only [mark,Zaz] at hj;by_cases hjk:j=k
    ·subst hjk;rw [if_pos rfl,hk] at hj;simp only [Option.map_some,Option.some.injEq] at hj;subst hj;exact(h.ok.ent _ e hk).mark hi (λad h1=>h1.imp id λh2 _=>h2.2.1) (λg off h1 h2=>.inr ⟨h1,h2,rfl⟩)
    ·rw [if_neg hjk] at hj;refine(h.ok.ent j e' hj).keep (World.grownBy.refl w none) ?_ hi (λ_ _=>rfl) λad h1=>?_
     ·rcases hb:e'.blk with _ | b
      ·exact .inl rfl
      ·exact .inr (by simp)
     ·rcases h1 with h1 | ⟨h1,_⟩
      ·exact .inl h1
      ·exact .inr λh2=>hjk (h.ok.apart j k e' e _ hj hk h2 h1)
   ·have conv:∀(i:Nat) (e':Ent),mark σ k i=some e'→∃e'',σ i=some e''∧e''.blk=e'.blk:=by
     intro i e' hi;simp only [mark,Zaz] at hi;by_cases hik:i=k
     ·rw [if_pos hik,hk] at hi;simp only [Option.map_some,Option.some.injEq] at hi;exact⟨e,hik ▸ hk,by rw [←hi,Ent.mark_blk]⟩
     ·rw [if_neg hik] at hi;exact⟨e',hi,rfl⟩
    obtain⟨a1,p1,q1⟩:=conv j e1 h1
    obtain⟨a2,p2,q2⟩:=conv j' e2 h2
    exact h.ok.apart j j' a1 a2 b p1 p2 (q1.trans h3) (q2.trans h4)
   ·rcases h1 with h1 | ⟨h1,_⟩
    ·exact h.ok.lt ad h1
    ·exact(hlt _ h1).2
   ·rcases h1 with h1 | ⟨h1,_⟩
    ·exact h.new ad h1
    ·exact .inr (hlt _ h1).1
theorem Zdp {c:Cx} {w:World} (ks:List Nat):∀{σ:Mem} {imm:Imm},Mx c σ w imm→∃imm',Mx c (marks σ ks) w imm'∧Keeps w imm w imm':=by
 induction ks with
 | nil=>exact λh=>⟨_,h,Keeps.refl w _⟩
 | cons k ks ih =>
   intro σ imm h;obtain⟨i1,h1,k1⟩:=Zl0 h k;obtain⟨i2,h2,k2⟩:=ih h1;exact⟨i2,h2,k1.trans k2⟩
theorem Zbd {m:Nat}:∀{l:List AV},(∀x∈l,x.cells.length=m)→(flat l).length=l.length*m
 | [],_=>by simp [flat]
 | a :: r,hl=>by
   have h1:=Zbd (l:=r) λx hx=>hl x (List.mem_cons_of_mem _ hx);have h2:=hl a (List.mem_cons_self ..);simp only [flat,List.flatMap_cons,List.length_append,List.length_cons] at h1 ⊢;rw [h1,h2,Nat.add_mul,Nat.one_mul,Nat.add_comm]
theorem Zcw (a b:List AV):flat (a++b)=flat a++flat b:=by simp [flat]
theorem Zma {m:Nat} {es:List AV} (hm:∀x∈es,x.cells.length=m) {l hh:Nat} (h1:l≤hh) (h2:hh≤es.length) (j:Nat) (b:AV) (hb:(flat ((es.take hh).drop l))[j]?=some b):(flat es)[l*m+j]?=some b:=by
 have e1:flat es=flat (es.take l)++(flat ((es.take hh).drop l)++flat (es.drop hh)):=by
  rw [←Zcw,←Zcw];congr 1;have e2:es.take l=(es.take hh).take l:=by rw [List.take_take,Nat.min_eq_left h1]
  rw [e2,←List.append_assoc,List.take_append_drop,List.take_append_drop]
 have hl1:(flat (es.take l)).length=l*m:=by
  rw [Zbd λe he=>hm e (List.mem_of_mem_take he),List.length_take,Nat.min_eq_left (by omega)]
 have hj:=(List.getElem?_eq_some_iff.1 hb).1;rw [e1,List.getElem?_append_right (by omega),hl1,Nat.add_sub_cancel_left,List.getElem?_append_left hj];exact hb
theorem view_rd {w:World} {imm:Imm} {m:Nat} {es:List AV} {sv y:Value} {i len:Nat} (h:Rd w imm (.sl m es) sv) (hv:ViewOk sv m i len y):Rd w imm (.sl m ((es.take (i+len)).drop i)) y:=by
 obtain⟨A,cap',f,hval,hcap,hm,hok,hn,hA,hr⟩:=(Rs.pure h).sl_inv;rcases hv with⟨rfl,rfl,rfl,rfl⟩ | ⟨g,n,c,off,cap,rfl,rfl,hle,hlc,hoff,_⟩
 ·exact .sl m [] none 0 (λ_=>undef) (by simp) (by simp) (Nat.le_refl _) (by simp) (by simp) (by simp [flat])
 ·cases hval;have hlen:((es.take (i+len)).drop i).length=len:=by simp;omega
  have hsub:∀e∈(es.take (i+len)).drop i,e∈es:=λe he=>List.mem_of_mem_take (List.mem_of_mem_drop he);have key:=Rd.sl (w:=w) (imm:=imm) m ((es.take (i+len)).drop i) (some ⟨g,off,none⟩) cap (λj=>f (i*m+j)) (λe he=>hm e (hsub e he)) (λe he=>hok e (hsub e he)) (by rw [hlen];exact hlc) (λ_=>by simp) (λj hj=>?_) (λj b hb=>hr _ b (Zma hm (by omega) hle j b hb))
  ·rwa [hlen] at key
  ·rw [hlen] at hj
   have hl0:0 < len:=by
    rcases Nat.eq_zero_or_pos len with h5 | h5
    ·rw [h5] at hj;omega
    ·exact h5
   have hmul:i*m+len*m≤es.length*m:=by rw [←Nat.add_mul];exact Nat.mul_le_mul_right _ hle
   obtain⟨ad,h5,h6,h7⟩:=hA (i*m+j) (by omega);cases h5;rw [Addr.add_lit,Nat.zero_add] at h6 h7;rw [hoff hl0];exact⟨_,rfl,by rw [Addr.add_lit];exact h6,by rw [Addr.add_lit];exact h7⟩
theorem Zp1 {c:Cx} {σ:Mem} {w:World} {imm:Imm} (h:Mx c σ w imm) {k:Nat} {sv:Value} {e:TypeId} {m:Nat} {es:List AV} {pub:Nat} (hk:σ k=some (.row sv e m es pub)) (hp:pub=es.length) :
 Rd w imm (.sl m es) sv:=by
 obtain⟨xs,hown,hm,hok,hr,hpl,_,hq⟩:=h.ok.ent k _ hk
 have hfl:(flat es).length=es.length*m:=by
  have:∀l:List AV,(∀x∈l,x.cells.length=m)→(flat l).length=l.length*m:=by
   intro l
   induction l with
   | nil=>intro _;simp [flat]
   | cons a r ih =>
     intro hl;have h1:=ih λx hx=>hl x (List.mem_cons_of_mem _ hx);have h2:=hl a (List.mem_cons_self ..);simp only [flat,List.flatMap_cons,List.length_append,List.length_cons] at h1 ⊢;rw [h1,h2,Nat.add_mul,Nat.one_mul,Nat.add_comm]
  exact this es hm
 rcases hown.2 with⟨rfl,hn⟩ | ⟨g,cap,cur,rfl,hB,hh,hnc,hcm,hcs,htake⟩
 ·have:es=[]:=List.eq_nil_of_length_eq_zero hn;subst this;exact .sl m [] none 0 (λ_=>undef) (by simp) (by simp) (by simp) (by simp) (by simp) (by simp [flat])
 ·refine .sl m es (some ⟨g,0,none⟩) cap (λj=>xs.getD j undef) hm hok hnc (by simp) (λj hj=>?_) (λj a ha=>?_)
  ·have hx:j < xs.length:=by rw [hown.1];exact hj
   refine⟨_,rfl,?_,?_⟩
   ·rw [Addr.add_lit,Nat.zero_add];exact hq g j rfl (by rw [hp];exact hj)
   ·rw [Addr.add_lit,Nat.zero_add,hown.cellAt j hj,List.getElem?_eq_getElem hx];simp [List.getD_eq_getElem?_getD,List.getElem?_eq_getElem hx]
  ·have hj:j < xs.length:=by
    rw [hown.1,←hfl];rcases Nat.lt_or_ge j (flat es).length with h1 | h1
    ·exact h1
    ·rw [List.getElem?_eq_none h1] at ha;cases ha
   have:=hr j a xs[j] ha (List.getElem?_eq_getElem hj)
   simpa [List.getD_eq_getElem?_getD,List.getElem?_eq_getElem hj] using this
theorem Zl1 {c:Cx} {σ:Mem} {w:World} {imm:Imm} (h:Mx c σ w imm) {a:AV} {x:Value} (hr:Rs w imm a x) (ho:Zfe σ a):Rd w imm (Zjt σ a) x:=by
 cases a with
 | own k sv =>
   have hx:=hr.own_inv;subst hx;simp only [Zfe,Zjt] at ho ⊢;split at ho
   ·rename_i sv' e m es pub hk;obtain⟨rfl,hp⟩:=ho;exact Zp1 h hk hp
   ·exact ho.elim
 | view k sv m i len =>
   have hx:=hr.view_inv;simp only [Zfe,Zjt] at ho ⊢;split at ho
   ·rename_i sv' e m' es pub hk;obtain⟨rfl,rfl,hp⟩:=ho;exact view_rd (Zp1 h hk hp) hx
   ·exact ho.elim
 | v y=>cases hr with | pure h=>exact h
 | sl m es=>cases hr with | pure h=>exact h
 | pimm cs=>cases hr with | pure h=>exact h
 | u=>exact .u x
 | _=>simp [Zfe] at ho
theorem Zns {σ:Mem}:∀{l:List AV},Ziv σ l→∀(j:Nat) (a:AV),l[j]?=some a→Zfe σ a
 | [],_,j,a,h=>by simp at h
 | b :: r,ho,0,a,h=>by simp at h;subst h;exact ho.1
 | b :: r,ho,j+1,a,h=>Zns ho.2 j a (by simpa using h)
theorem Zex {σ:Mem}:∀{l:List AV} (j:Nat) (a:AV),(Zdt σ l)[j]?=some a→∃b,l[j]?=some b∧a=pubV σ b
 | [],j,a,h=>by simp [Zdt] at h
 | b :: r,0,a,h=>by simp [Zdt] at h;exact⟨b,rfl,h.symm⟩
 | b :: r,j+1,a,h=>Zex (l:=r) j a (by simpa [Zdt] using h)
theorem Zdu {σ:Mem}:∀{l:List AV},Zdv σ l→∀(j:Nat) (a:AV),l[j]?=some a→Zer σ a
 | [],_,j,a,h=>by simp at h
 | b :: r,ho,0,a,h=>by simp at h;subst h;exact ho.1
 | b :: r,ho,j+1,a,h=>Zdu (l:=r) ho.2 j a (by simpa using h)
theorem Zca (σ:Mem):∀l:List AV,(Zdt σ l).length=l.length
 | []=>rfl
 | a :: r=>by simp [Zdt,Zca σ r]
theorem Zhp {c:Cx} {σ:Mem} {w:World} {imm:Imm} (h:Mx c σ w imm) {a:AV} {x:Value} (hr:Rs w imm a x) (ho:Zer σ a):Rd w imm (pubV σ a) x:=by
 induction hr with
 | pure hr =>
   rename_i a x
   induction hr with
   | v x=>exact .v x
   | u x=>exact .u x
   | sl m es A cap f hm hok hcap hn hA hr _=>exact .sl m es A cap f hm hok hcap hn hA hr
   | agg cs vs hl hr ih =>
     refine .agg _ vs (by rw [Zca];exact hl) λj a x h1 h2=>?_;obtain⟨b,hb,rfl⟩:=Zex j a h1;exact ih j b x hb h2 (Zdu ho j b hb)
   | tup cs vs hl hr ih =>
     refine .tup _ vs (by rw [Zca];exact hl) λj a x h1 h2=>?_;obtain⟨b,hb,rfl⟩:=Zex j a h1;exact ih j b x hb h2 (Zdu ho j b hb)
   | pimm cs ad f hA hr _=>exact .pimm cs ad f hA hr
   | fn f cs vs hl hr ih =>
     refine .fn f _ vs (by rw [Zca];exact hl) λj a x h1 h2=>?_;obtain⟨b,hb,rfl⟩:=Zex j a h1;exact ih j b x hb h2 (Zdu ho j b hb)
   | ifc t a x _ ih=>exact .ifc t _ x (ih ho)
   | own k sv h1=>exact Zl1 h (Rs.own k sv h1) ho
 | own k sv h1 =>
   have:=Zl1 h (Rs.own k sv h1) ho;exact this
 | view k sv m i len y h1 =>
   have:=Zl1 h (Rs.view k sv m i len y h1) ho;exact this
 | prow k sv m i off g n c h=>exact ho.elim
 | mp k g=>exact ho.elim
 | pbox k g off =>
   simp only [Zer,pubV] at ho ⊢;split at ho
   ·rename_i g' e cs pub hk;obtain⟨rfl,rfl,hoff,hl⟩:=ho;obtain⟨cur,hh,hB,hlen,hone,hrs,_,hq⟩:=h.ok.ent k _ hk;refine .pimm _ ⟨g,off,none⟩ (λj=>cur.getD (off+j) undef) (λj hj=>?_) (λj a ha=>?_)
    ·simp only [List.length_drop,List.length_map] at hj;rw [Addr.add_lit];refine⟨hq rfl _ (by omega),?_⟩;rw [cell_of_row w g (off+j) cur e (0,0) hh];have:off+j < cur.size:=by omega
     simp [Array.getD_eq_getD_getElem?,Array.getElem?_eq_getElem this]
    ·rw [List.getElem?_drop,List.getElem?_map] at ha;rcases hb:cs[off+j]? with _ | b
     ·rw [hb] at ha;cases ha
     ·rw [hb] at ha;simp only [Option.map_some,Option.some.injEq] at ha;subst ha
      have hlt:off+j < cur.size:=by
       rw [←hlen];rcases Nat.lt_or_ge (off+j) cs.length with h1 | h1
       ·exact h1
       ·rw [List.getElem?_eq_none h1] at hb;cases hb
      have h2:=hrs (off+j) b cur[off+j] hb (Array.getElem?_eq_getElem hlt);have h3:=Zl1 h h2 (Zns hl (off+j) b hb)
      simpa [Array.getD_eq_getD_getElem?,Array.getElem?_eq_getElem hlt] using h3
   ·exact ho.elim
 | agg cs vs hl hr ih =>
   refine .agg _ vs (by rw [Zca];exact hl) λj a x h1 h2=>?_;obtain⟨b,hb,rfl⟩:=Zex j a h1;exact ih j b x hb h2 (Zdu ho j b hb)
 | tup cs vs hl hr ih =>
   refine .tup _ vs (by rw [Zca];exact hl) λj a x h1 h2=>?_;obtain⟨b,hb,rfl⟩:=Zex j a h1;exact ih j b x hb h2 (Zdu ho j b hb)
 | fn f cs vs hl hr ih =>
   refine .fn f _ vs (by rw [Zca];exact hl) λj a x h1 h2=>?_;obtain⟨b,hb,rfl⟩:=Zex j a h1;exact ih j b x hb h2 (Zdu ho j b hb)
 | ifc t a x _ ih=>exact .ifc t _ x (ih ho)
theorem Zqm {c:Cx} {σ:Mem} {w w':World} {imm imm':Imm} (h:Mx c σ w imm) {row:Option Nat} (hg:w.grownBy w' row) (hB:∀g,row=some g→c.B≤g) (hcell:∀ad,imm ad→w'.cell? ad=w.cell? ad)
 (k:Nat) (e':Ent) (he:EntOk c.B w' imm' e') (hi:∀ad,imm ad→imm' ad) (hnew:∀ad,imm' ad→imm ad∨(e'.blk=some ad.block∧ad.spot=none))
 (hoth:∀j e2 b,j≠k→σ j=some e2→e2.blk=some b→some b≠row∧e'.blk≠some b):Mx c (upd σ k (some e')) w' imm'∧Keeps w imm w' imm':=by
 refine⟨⟨⟨λj e2 hj=>?_,λj j' e1 e2 b h1 h2 h3 h4=>?_,λad h1=>?_,λad h1=>(hnew ad h1).elim (h.ok.spot ad) λh2=>h2.2⟩,h.below.grown hg h.lt (λg hg'=>hB g hg'),Nat.le_trans h.lt hg.size,λad h1=>hi _ (h.old ad h1),λad h1=>?_,λad h1=>(hcell ad (h.old ad h1)).trans (h.cells ad h1)⟩,λad h1=>⟨hi _ h1,hcell ad h1⟩⟩
 ·rw [Zaz] at hj;by_cases hjk:j=k
  ·rw [if_pos hjk] at hj;simp only [Option.some.injEq] at hj;exact hj ▸ he
  ·rw [if_neg hjk] at hj;refine(h.ok.ent j e2 hj).keep hg ?_ hi hcell λad h1=>?_
   ·rcases hb:e2.blk with _ | b
    ·exact .inl rfl
    ·exact .inr (hoth j e2 b hjk hj hb).1
   ·rcases hnew ad h1 with h2 | h2
    ·exact .inl h2
    ·exact .inr λh3=>(hoth j e2 _ hjk hj h3).2 h2.1
 ·rw [Zaz] at h1 h2;by_cases hjk:j=k<;>by_cases hjk':j'=k
  ·rw [hjk,hjk']
  ·rw [if_pos hjk] at h1;rw [if_neg hjk'] at h2;simp only [Option.some.injEq] at h1;exact absurd (h1 ▸ h3) (hoth j' e2 b hjk' h2 h4).2
  ·rw [if_neg hjk] at h1;rw [if_pos hjk'] at h2;simp only [Option.some.injEq] at h2;exact absurd (h2 ▸ h4) (hoth j e1 b hjk h1 h3).2
  ·rw [if_neg hjk] at h1;rw [if_neg hjk'] at h2;exact h.ok.apart j j' e1 e2 b h1 h2 h3 h4
 ·rcases hnew ad h1 with h2 | h2
  ·exact Nat.lt_of_lt_of_le (h.ok.lt ad h2) hg.size
  ·exact(he.blk_lt h2.1).2
 ·rcases hnew ad h1 with h2 | h2
  ·exact h.new ad h2
  ·exact .inr (he.blk_lt h2.1).1
theorem Ze7 {c:Cx} {σ:Mem} {w w':World} {imm:Imm} (h:Mx c σ w imm) {row:Option Nat} (hg:w.grownBy w' row) (hB:∀g,row=some g→c.B≤g) (hcell:∀ad,imm ad→w'.cell? ad=w.cell? ad)
 (k:Nat) (e':Ent) (he:EntOk c.B w' imm e') (hoth:∀j e2 b,j≠k→σ j=some e2→e2.blk=some b→some b≠row∧e'.blk≠some b):Mx c (upd σ k (some e')) w' imm∧Keeps w imm w' imm :=
 Zqm h hg hB hcell k e' he (λ_ h1=>h1) (λ_ h1=>.inl h1) hoth
theorem Zmm {c:Cx} {σ:Mem} {w w':World} {imm:Imm} (h:Mx c σ w imm) {k:Nat} {sv v':Value} {e:TypeId} {m:Nat} {es news:List AV} {xs xn:List Value} {pub:Nat}
 (hown':w'.ownsRow c.B e m v' (es.length+news.length) (xs++xn)) (hxl:xs.length=es.length*m)
 (hg:w.grownBy w' sv.ownBlock) (hat:v'.ownBlock=sv.ownBlock∨v'.ownBlock=some w.heap.size)
 (hsame:∀g j,sv.ownBlock=some g→j < es.length*m→w'.cell? ⟨g,j,none⟩=w.cell? ⟨g,j,none⟩)
 (hm:∀x∈es++news,x.cells.length=m) (hok:∀x∈es++news,x.ok=true)
 (hr1:∀(j:Nat) (a:AV) (x:Value),(flat es)[j]?=some a→xs[j]?=some x→Rd w imm a x) (hr2:∀(j:Nat) (a:AV) (x:Value),(flat news)[j]?=some a→xn[j]?=some x→Rd w imm a x)
 (hpl:pub≤es.length) (hB:∀g,sv.ownBlock=some g→c.B≤g) (hp:∀ad,imm ad→sv.ownBlock=some ad.block→ad.off < pub*m)
 (hoth:∀j e2 b,j≠k→σ j=some e2→e2.blk=some b→some b≠sv.ownBlock) :
 ∃imm',Mx c (upd σ k (some (.row v' e m (es++news) pub))) w' imm'∧Keeps w imm w' imm':=by
 have hpm:pub*m≤es.length*m:=Nat.mul_le_mul_right _ hpl
 have hcell:∀ad,imm ad→w'.cell? ad=w.cell? ad:=by
  intro ad h1;by_cases hb:sv.ownBlock=some ad.block
  ·have hs:=h.ok.spot ad h1;have:=hsame ad.block ad.off hb (Nat.lt_of_lt_of_le (hp ad h1 hb) hpm);obtain⟨b,o,s⟩:=ad;simp only at hs;subst hs;exact this
  ·exact Zfg hg (h.ok.lt ad h1) (λh2=>hb h2.symm)
 let imm':Imm:=λad=>imm ad∨(v'.ownBlock=some ad.block∧ad.off < pub*m∧ad.spot=none)
 have hi:∀ad,imm ad→imm' ad:=λad h1=>.inl h1;have hk:∀(a:AV) (x:Value),Rd w imm a x→Rd w' imm' a x:=λa x hr=>hr.keep hi hcell;have hfl:(flat es).length=es.length*m:=Zbd λx hx=>hm x (List.mem_append_left _ hx);refine⟨imm',Zqm h hg hB hcell k _ ⟨xs++xn,by rw [List.length_append];exact hown',hm,hok,λj a x h1 h2=>?_,by simp;omega,λad h1 h2=>?_,λg off h1 h2=>.inr ⟨h1,h2,rfl⟩⟩ hi (λad h1=>h1.imp id λh2=>⟨h2.1,h2.2.2⟩) λj e2 b h1 h2 h3=>⟨hoth j e2 b h1 h2 h3,?_⟩⟩
 ·rw [Zcw] at h1;rcases Nat.lt_or_ge j (es.length*m) with hlt | hge
  ·rw [List.getElem?_append_left (by rw [hfl];exact hlt)] at h1;rw [List.getElem?_append_left (by rw [hxl];exact hlt)] at h2;exact hk a x (hr1 j a x h1 h2)
  ·rw [List.getElem?_append_right (by rw [hfl];exact hge),hfl] at h1;rw [List.getElem?_append_right (by rw [hxl];exact hge),hxl] at h2;exact hk a x (hr2 _ a x h1 h2)
 ·rcases h1 with h1 | h1
  ·rcases hat with h3 | h3
   ·exact hp ad h1 (h3.symm.trans h2)
   ·have:=h.ok.lt ad h1;rw [h3] at h2;simp only [Option.some.injEq] at h2;omega
  ·exact h1.2.1
 ·simp only [Ent.blk];rcases hat with h4 | h4
  ·rw [h4];exact λh5=>hoth j e2 b h1 h2 h3 h5.symm
  ·rw [h4];have:=(h.ok.ent j e2 h2).blk_lt h3;simp only [ne_eq,Option.some.injEq];omega
def Zcc (c:Cx) (n:Nat) (K:St→Prop):Act→World→Prop:=λa w=>∃st imm,K st∧Rel c n st a w imm
section
variable {P:Program} {c:Cx} {n tok:Nat} {st:St} {a:Act} {w:World} {imm:Imm} {K:St→Prop} {o:Oper} {Q:Exit→Act→World→Prop}
theorem Zc2 {av:AV} {ks:List Nat} {x:Value} (h:Rel c n st a w imm) (hd:∀d,o.dst=some d→d < n) (hK:aRes P tok o.dst (.val av ks) K st)
 (hx:∀imm',Mx c (marks st.mem ks) w imm'→Keeps w imm w imm'→Rs w imm' av x):o.upon P a (Zcc c n K) Q (.ok (.value x) w):=by
 obtain⟨i',hm,hk⟩:=Zdp ks h.mem;exact⟨_,i',hK,h.step hk hm hd (hx i' hm hk)⟩
theorem Zpq {e:TypeId} {cs:List AV} {vs:Array Value} (h:Rel c n st a w imm) (hd:∀d,o.dst=some d→d < n) (hK:aRes P tok o.dst (.box e cs) K st)
 (hl:cs.length=vs.size) (hone:∀x∈cs,x.one=true) (hr:∀(j:Nat) (a:AV) (x:Value),cs[j]?=some a→vs[j]?=some x→Rs w imm a x) :
 o.upon P a (Zcc c n K) Q (.ok (.value (.pointer (some ⟨w.heap.size,0,none⟩))) (w.alloc (.cells vs e))):=by
 have hcell:∀ad,imm ad→(w.alloc (.cells vs e)).cell? ad=w.cell? ad:=λad h1=>World.cell?_alloc_lt w _ ad (h.mem.ok.lt ad h1);have hkeep:Keeps w imm (w.alloc (.cells vs e)) imm:=λad h1=>⟨h1,hcell ad h1⟩;obtain⟨hm,hk⟩:=Ze7 h.mem (World.grownBy_alloc w (.cells vs e) none) (by simp) hcell tok (.box w.heap.size e cs false)
  ⟨vs,heap_alloc_new w _,h.mem.lt,hl,hone,λj a x h1 h2=>hkeep.rs (hr j a x h1 h2),λad h1 h2=>absurd (h.mem.ok.lt ad h1) (by omega),λh1=>by cases h1⟩
  (λj e2 b _ hj hb=>⟨by simp,by have:=(h.mem.ok.ent j e2 hj).blk_lt hb;simp [Ent.blk];omega⟩)
 exact⟨_,imm,hK w.heap.size,h.step hk hm hd (.pbox tok w.heap.size 0)⟩
theorem Zr2 (h:Rel c n st a w imm) (hd:∀d,o.dst=some d→d < n) (hK:aRes P tok o.dst .mapn K st) :
 o.upon P a (Zcc c n K) Q (.ok (.value (.map (some w.heap.size))) (w.alloc (.map #[] 0))):=by
 have hcell:∀ad,imm ad→(w.alloc (.map #[] 0)).cell? ad=w.cell? ad:=λad h1=>World.cell?_alloc_lt w _ ad (h.mem.ok.lt ad h1);obtain⟨hm,hk⟩:=Ze7 h.mem (World.grownBy_alloc w (.map #[] 0) none) (by simp) hcell tok (.map w.heap.size [])
  ⟨#[],0,heap_alloc_new w _,h.mem.lt,rfl,λj a x h1 h2=>by simp at h1,λad h1 h2=>absurd (h.mem.ok.lt ad h1) (by omega)⟩
  (λj e2 b _ hj hb=>⟨by simp,by have:=(h.mem.ok.ent j e2 hj).blk_lt hb;simp [Ent.blk];omega⟩)
 exact⟨_,imm,hK w.heap.size,h.step hk hm hd (.mp tok w.heap.size)⟩
theorem Zmp {e:TypeId} {m:Nat} {es:List AV} {ks:List Nat} {vs:Array Value} {cap:Nat} {i':Imm} (h:Rel c n st a w imm) (hd:∀d,o.dst=some d→d < n) (hK:aRes P tok o.dst (.row e m es ks) K st)
 (hmx:Mx c (marks st.mem ks) w i') (hk1:Keeps w imm w i')
 (hcap:es.length≤cap) (hmax:cap≤maxLen) (hsz:vs.size=cap*m) (hm:∀x∈es,x.cells.length=m) (hok:∀x∈es,x.ok=true)
 (hr:∀(j:Nat) (a:AV) (x:Value),(flat es)[j]?=some a→vs[j]?=some x→Rd w i' a x) :
 o.upon P a (Zcc c n K) Q (.ok (.value (.slice (some ⟨w.heap.size,0,none⟩) es.length cap)) (w.alloc (.cells vs e))):=by
 have hcell:∀ad,i' ad→(w.alloc (.cells vs e)).cell? ad=w.cell? ad:=λad h1=>World.cell?_alloc_lt w _ ad (hmx.ok.lt ad h1);have hkeep:Keeps w i' (w.alloc (.cells vs e)) i':=λad h1=>⟨h1,hcell ad h1⟩;have hle:es.length*m≤cap*m:=Nat.mul_le_mul_right _ hcap;obtain⟨hmm,hk⟩:=Ze7 hmx (World.grownBy_alloc w (.cells vs e) none) (by simp) hcell tok (.row (.slice (some ⟨w.heap.size,0,none⟩) es.length cap) e m es 0)
  ⟨vs.toList.take (es.length*m),⟨by rw [List.length_take,show vs.toList.length=cap*m by rw [←hsz];rfl];exact Nat.min_eq_left hle,.inr ⟨w.heap.size,cap,vs,rfl,hmx.lt,heap_alloc_new w _,hcap,hmax,hsz,rfl⟩⟩,hm,hok,
   λj a x h1 h2=>hkeep.rd (hr j a x h1 (by
    rw [List.getElem?_take] at h2;split at h2
    ·simpa using h2
    ·cases h2)),Nat.zero_le _,λad h1 h2=>by
     have:=hmx.ok.lt ad h1;simp [Value.ownBlock] at h2;omega,λg off _ h2=>by simp at h2⟩
  (λj e2 b _ hj hb=>⟨by simp,by have:=(hmx.ok.ent j e2 hj).blk_lt hb;simp [Ent.blk,Value.ownBlock];omega⟩)
 exact⟨_,i',hK _,h.step (hk1.trans hk) hmm hd (.own tok _ rfl)⟩
theorem upon_row {e:TypeId} {m:Nat} {es:List AV} {ks:List Nat} {vs:Array Value} {cap:Nat} (h:Rel c n st a w imm) (hd:∀d,o.dst=some d→d < n) (hK:aRes P tok o.dst (.row e m es ks) K st)
 (hcap:es.length≤cap) (hmax:cap≤maxLen) (hsz:vs.size=cap*m) (hm:∀x∈es,x.cells.length=m) (hok:∀x∈es,x.ok=true)
 (hr:∀imm',Mx c (marks st.mem ks) w imm'→Keeps w imm w imm'→∀(j:Nat) (a:AV) (x:Value),(flat es)[j]?=some a→vs[j]?=some x→Rd w imm' a x) :
 o.upon P a (Zcc c n K) Q (.ok (.value (.slice (some ⟨w.heap.size,0,none⟩) es.length cap)) (w.alloc (.cells vs e))):=by
 obtain⟨i',hmx,hk1⟩:=Zdp ks h.mem;exact Zmp h hd hK hmx hk1 hcap hmax hsz hm hok (hr i' hmx hk1)
theorem Zhi {av:AV} {k:Nat} {ent:Ent} {ks:List Nat} {nx:Next} {x:Value} {w':World} (h:Rel c n st a w imm) (hd:∀d,o.dst=some d→d < n) (hK:aRes P tok o.dst (.sto av k ent ks) K st)
 (hnx:nx=.value x∨(nx=.skip∧x=undef))
 (hm:∀imm',Mx c (marks st.mem ks) w imm'→Keeps w imm w imm'→Mx c (upd (marks st.mem ks) k (some ent)) w' imm'∧Keeps w imm' w' imm'∧Rs w' imm' av x) :
 o.upon P a (Zcc c n K) Q (.ok nx w'):=by
 obtain⟨i',hmx,hk1⟩:=Zdp ks h.mem;obtain⟨h1,h2,h3⟩:=hm i' hmx hk1;rcases hnx with rfl | ⟨rfl,rfl⟩
 ·exact⟨_,i',hK,h.step (hk1.trans h2) h1 hd h3⟩
 ·exact⟨_,i',hK,h.step (hk1.trans h2) h1 hd h3⟩
theorem Zr3 {f:FuncId} {args:List AV} {vs:Array Value} (h:Rel c n st a w imm) (hd:∀d,o.dst=some d→d < n) (hK:aRes P tok o.dst (.call f args) K st)
 (hl:args.length=vs.size) (hr:∀(j:Nat) (a:AV) (x:Value),args[j]?=some a→vs[j]?=some x→Rs w imm a x) :
 o.upon P a (Zcc c n K) Q (.ok (.enter f vs) w):=by
 refine(hK.2 c w imm vs h.mem hl hr).mono λe w' he=>?_;obtain⟨r,σ',imm',x,rfl,hR,hx,hm,hk⟩:=he;exact⟨_,imm',hR,h.step hk hm hd hx⟩
end
def Zd1 (cs:List AV) (off:Nat) (new:List AV):List AV:=cs.take off++new++cs.drop (off+new.length)
def Zjx:List AV→Res
 | x :: _=>.val x []
 | []=>.bad
def Zh1 (P:Program) (t:TypeId) (cs:List AV):Res :=
 match szOf P t with
 | some n=>.need (n≤cs.length) (.val (.agg (cs.take n)) [])
 | none=>.bad
def Zgb:TypeDesc→Bool
 | .struct _ | .array _ _=>true
 | _=>false
def Zg1 (P:Program) (t:TypeId) (cs:List AV):Res :=
 match P.underlying t with
 | some d=>if Zgb d then Zh1 P t cs else Zjx cs
 | none=>.bad
def Zis (P:Program) (t:TypeId) (cs:List AV) (off:Nat):Res :=
 match szOf P t with
 | some n=>.val (.agg ((cs.drop off).take n)) []
 | none=>.bad
def Zm6 (P:Program) (t:TypeId) (cs:List AV) (off:Nat):Res :=
 match P.underlying t with
 | some d=>if Zgb d then Zis P t cs off else Zjx (cs.drop off)
 | none=>.bad
def andI (k:IntKind) (a b:Int):Int:=k.wrap ((BitVec.ofInt k.bits a &&& BitVec.ofInt k.bits b).toNat)
def orI (k:IntKind) (a b:Int):Int:=k.wrap ((BitVec.ofInt k.bits a ||| BitVec.ofInt k.bits b).toNat)
def xorI (k:IntKind) (a b:Int):Int:=k.wrap ((BitVec.ofInt k.bits a ^^^ BitVec.ofInt k.bits b).toNat)
def shlI (k:IntKind) (a b:Int):Int:=k.wrap (a*2 ^ (min b.toNat k.bits))
def shrI (k:IntKind) (a b:Int):Int:=a.fdiv (2 ^ (min b.toNat k.bits))
def Zqn (op:BinOp) (k:IntKind) (a b:Int):Res :=
 match op with
 | .add=>.val (.v (.int k (k.wrap (a+b)))) []
 | .sub=>.val (.v (.int k (k.wrap (a - b)))) []
 | .mul=>.val (.v (.int k (k.wrap (a*b)))) []
 | .quo=>.need (b≠0) (.val (.v (.int k (k.wrap (a.tdiv b)))) [])
 | .rem=>.need (b≠0) (.val (.v (.int k (a.tmod b))) [])
 | .and=>.val (.v (.int k (andI k a b))) []
 | .or=>.val (.v (.int k (orI k a b))) []
 | .xor=>.val (.v (.int k (xorI k a b))) []
 | .eql=>.val (.v (.bool (a == b))) []
 | .neq=>.val (.v (.bool (a != b))) []
 | .lss=>.val (.v (.bool (decide (a < b)))) []
 | .leq=>.val (.v (.bool (decide (a≤b)))) []
 | .gtr=>.val (.v (.bool (decide (b < a)))) []
 | .geq=>.val (.v (.bool (decide (b≤a)))) []
 | _=>.bad
def Zpy (op:BinOp) (a b:ByteArray):Res :=
 match op with
 | .add=>.need (((a.size+b.size:Nat):Int)≤9223372036854775807) (.val (.v (.string (a++b))) [])
 | .eql=>.val (.v (.bool (a.toList == b.toList))) []
 | .neq=>.val (.v (.bool (!(a.toList == b.toList)))) []
 | .lss=>.val (.v (.bool (Op.bytesLess a.toList b.toList))) []
 | .leq=>.val (.v (.bool (Op.bytesLess a.toList b.toList || a.toList == b.toList))) []
 | .gtr=>.val (.v (.bool (!(Op.bytesLess a.toList b.toList || a.toList == b.toList)))) []
 | .geq=>.val (.v (.bool (!Op.bytesLess a.toList b.toList))) []
 | _=>.bad
def Zen (P:Program):List (TypeId × Nat)→List AV→List AV→(Bool→Res)→Res
 | [],_,_,R=>R true
 | (t,off) :: r,xs,ys,R=>match P.underlying t,xs.drop off,ys.drop off with
   | some .bool,.v (.bool a) :: _,.v (.bool b) :: _=>Zen P r xs ys λc=>R ((a == b) && c)
   | some (.int _),.v (.int k a) :: _,.v (.int k' b) :: _=>.need (k=k') (Zen P r xs ys λc=>R ((a == b) && c))
   | some .string,.v (.string a) :: _,.v (.string b) :: _=>Zen P r xs ys λc=>R ((a.toList == b.toList) && c)
   | _,_,_=>.bad
def eqTy (P:Program) (t:TypeId):Bool:=!P.eqGuardType P.depth t && match P.underlying t with
 | some (.struct fs) => !P.stoodInHeld t && fs.toList.all fun f => f.name != "_"
 | some (.array _ _)=>true
 | _=>false
def Zpm (P:Program) (t:TypeId) (xs ys:List AV) (R:Bool→Res):Res :=
 match P.underlying t with
 | some (.struct fs)=>.need (eqTy P t=true) (Zen P (fs.toList.map λf=>(f.type,f.offset)) xs ys R)
 | some (.array n e)=>match szOf P e with
   | some sz=>.need (eqTy P t=true) (Zen P ((List.range n).map λi=>(e,i*sz)) xs ys R)
   | none=>.bad
 | _=>.bad
def Zk4 (P:Program) (op:BinOp) (t:TypeId) (x y:AV):Res :=
 match x,y with
 | .v (.int k a),.v (.int k' b)=>match op with
   | .shl=>.need (0≤b) (.val (.v (.int k (shlI k a b))) [])
   | .shr=>.need (0≤b) (.val (.v (.int k (shrI k a b))) [])
   | op=>.need (k=k') (Zqn op k a b)
 | .v (.string a),.v (.string b)=>Zpy op a b
 | .v (.bool a),.v (.bool b)=>match op,P.underlying t with
   | .eql,some .bool=>.val (.v (.bool (a == b))) []
   | .neq,some .bool=>.val (.v (.bool (!(a == b)))) []
   | _,_=>.bad
 | .agg xs,.agg ys=>match op with
   | .eql=>Zpm P t xs ys λc=>.val (.v (.bool c)) []
   | .neq=>Zpm P t xs ys λc=>.val (.v (.bool (!c))) []
   | _=>.bad
 | .sl _ es,.v (.slice none 0 0)=>match op,P.underlying t with
   | .eql,some (.slice _)=>.need (0 < es.length) (.val (.v (.bool false)) [])
   | _,_=>.bad
 | .v (.slice none 0 0),.v (.slice none 0 0)=>match op,P.underlying t with
   | .eql,some (.slice _)=>.val (.v (.bool true)) []
   | _,_=>.bad
 | _,_=>.bad
def Zqz (op:UnOp) (x:AV):Res :=
 match op,x with
 | .not,.v (.bool b)=>.val (.v (.bool (!b))) []
 | .neg,.v (.int k n)=>.val (.v (.int k (k.wrap (0 - n)))) []
 | _,_=>.bad
def aZero (P:Program) (t:TypeId):Option AV:=(Zb4 P t).map AV.ofVal
def Zdm (σ:Mem) (m:Nat):AV→(List AV→Res)→Res
 | .sl m' es,R=>.need (m'=m) (R es)
 | .own k sv,R=>match σ k with
   | some (.row sv' _ m' es _)=>.need (sv=sv'∧m'=m) (R es)
   | _=>.bad
 | .view k sv m' i len,R=>match σ k with
   | some (.row sv' _ m'' es _)=>.need (sv=sv'∧m'=m∧m''=m) (R ((es.take (i+len)).drop i))
   | _=>.bad
 | .v (.slice none 0 0),R=>R []
 | _,_=>.bad
def Zq0:List AV→Option (List Int)
 | []=>some []
 | .v (.int .u8 n) :: r=>(Zq0 r).map (n :: ·)
 | _=>none
def strOf (ns:List Int):ByteArray:=ns.foldl (λr n=>r.push (UInt8.ofNat n.toNat)) ByteArray.empty
def Zld (es:List AV):Res:=match Zq0 es with
 | some ns=>.val (.v (.string (strOf ns))) []
 | none=>.bad
def Zmh (P:Program) (σ:Mem) (src dst:TypeId) (x:AV):Res :=
 match P.underlying src,P.underlying dst,x with
 | some _,some (.int k),.v (.int _ n)=>.val (.v (.int k (k.wrap n))) []
 | some _,some .string,.v (.string s)=>.val (.v (.string s)) []
 | some (.slice e),some .string,x=>match P.underlying e with
   | some (.int .u8)=>Zdm σ 1 x Zld
   | _=>.bad
 | _,_,_=>.bad
def Zky (st:St) (d:TypeDesc) (x:AV):Res :=
 match d,x with
 | .slice _,.sl _ es=>.val (.v (.int .i64 es.length)) []
 | .slice _,.own k sv=>match st.mem k with
   | some (.row sv' _ _ es _)=>.need (sv=sv') (.val (.v (.int .i64 es.length)) [])
   | _=>.bad
 | .slice _,.view _ _ _ _ len=>.val (.v (.int .i64 len)) []
 | .slice _,.v (.slice none 0 0)=>.val (.v (.int .i64 0)) []
 | .string,.v (.string s)=>.val (.v (.int .i64 s.size)) []
 | .map _ _,.mp k h=>match st.mem k with
   | some (.map h' es)=>.need (h=h') (.val (.v (.int .i64 es.length)) [])
   | _=>.bad
 | .array n _,_=>.val (.v (.int .i64 n)) []
 | _,_=>.bad
def Zqw (d:TypeDesc) (x:AV):Res :=
 match d,x with
 | .slice _,.v (.slice none 0 0)=>.val (.v (.int .i64 0)) []
 | _,_=>.bad
def Zge (P:Program) (st:St) (t t':TypeId) (s x:AV):Res :=
 match P.underlying t with
 | some (.slice e)=>match szOf P e,Zio P e,Zb4 P e with
   | some m,some by_,some z=>match s with
     | .own k sv=>match st.mem k with
       | some (.row sv' e' m' es _)=>.need (t=t'∧sv=sv'∧e'=e∧m'=m∧z.cells.size=m) (Zdm st.mem m x λnews =>
        .need (es.length+news.length≤9223372036854775807∧(es.length+news.length)*by_≤140737488355328) (.app k news []))
       | _=>.bad
     | .view k sv m₁ i n=>match st.mem k with
       | some (.row sv' e' m' es pub)=>.need (t=t'∧sv=sv'∧e'=e∧m₁=m∧m'=m∧i=0∧pub≤n∧n≤es.length∧z.cells.size=m) (Zdm st.mem m x λnews =>
        .need (n+news.length≤9223372036854775807∧(n+news.length)*by_≤140737488355328) (.appv k n news))
       | _=>.bad
     | .v (.slice none 0 0)=>match x with
       | .v (.int .i64 n)=>.need (P.underlying t'=some (.int .i64)∧z.cells.size=m∧0 < m∧0 < n∧n≤9223372036854775807∧n.toNat*by_≤140737488355328∧(AV.ofVal z).cells.length=m∧(AV.ofVal z).ok=true) (.row e m (List.replicate n.toNat (AV.ofVal z)) [])
       | x=>.need (t=t'∧z.cells.size=m) (Zdm st.mem m x λnews =>
           .need (news.length≤9223372036854775807∧news.length*by_≤140737488355328) (.row e m news []))
     | _=>.bad
   | _,_,_=>.bad
 | _=>.bad
def Zmg (P:Program) (st:St) (t:TypeId) (d x:AV):Res :=
 match P.underlying t with
 | some (.slice e)=>match szOf P e with
   | some m=>match d with
     | .own k sv=>match st.mem k with
       | some (.row sv' e' m' es pub)=>.need (sv=sv'∧e'=e∧m'=m∧pub=0) (Zdm st.mem m x λnews =>
        .sto (.v (.int .i64 (min news.length es.length:Nat))) k (.row sv' e' m' (news.take es.length++es.drop news.length) pub) [])
       | _=>.bad
     | _=>.bad
   | none=>.bad
 | _=>.bad
def Zdx (lo:Option AV) (K:Int→Res):Res :=
 match lo with
 | none=>K 0
 | some (.v (.int _ l))=>K l
 | some _=>.bad
def Zdb (len:Nat) (hi:Option AV) (K:Int→Res):Res :=
 match hi with
 | none=>K len
 | some (.v (.int _ h))=>K h
 | some _=>.bad
def Zgi (P:Program) (st:St) (t:TypeId) (x:AV) (lo hi mx:Option AV):Res :=
 match P.underlying t,x with
 | some .string,.v (.string s)=>match mx with
   | none=>Zdx lo λl=>Zdb s.size hi λh=>.need (0≤l∧l≤h∧h≤s.size) (.val (.v (.string (s.extract l.toNat h.toNat))) [])
   | some _=>.bad
 | some (.slice e),.sl m es=>match szOf P e with
   | some m'=>Zdx lo λl=>Zdb es.length hi λh=>Zdb es.length mx λm₂ =>
    .need (m'=m∧0≤l∧l≤h∧h≤m₂∧m₂≤es.length∧(mx.isSome=true→hi.isSome=true)) (.val (.sl m ((es.take h.toNat).drop l.toNat)) [])
   | none=>.bad
 | some (.slice e),.own k sv=>match st.mem k,szOf P e with
   | some (.row sv' _ m es _),some m'=>match mx with
     | none=>Zdx lo λl=>Zdb es.length hi λh=>.need (sv=sv'∧m'=m∧0≤l∧l≤h∧h≤es.length) (.val (.view k sv m l.toNat (h.toNat - l.toNat)) [])
     | some _=>.bad
   | _,_=>.bad
 | some (.slice e),.view k sv m i len=>match szOf P e,mx with
   | some m',none=>Zdx lo λl=>Zdb len hi λh=>.need (m'=m∧0≤l∧l≤h∧h≤len) (.val (.view k sv m (i+l.toNat) (h.toNat - l.toNat)) [])
   | _,_=>.bad
 | some (.slice e),.v (.slice none 0 0)=>match szOf P e with
   | some _=>Zdx lo λl=>Zdb 0 hi λh=>Zdb 0 mx λm₂=>.need (l=0∧h=0∧m₂=0∧(mx.isSome=true→hi.isSome=true)) (.val (.v (.slice none 0 0)) [])
   | none=>.bad
 | some (.array nn e),.pbox k g off=>match lo,hi,mx,szOf P e,pubV (marks st.mem [k]) (.pbox k g off) with
   | none,none,none,some m,.pimm cs=>.need (m=1∧cs.length=nn∧0 < nn∧Zer (marks st.mem [k]) (.pbox k g off)∧cs.all AV.one=true) (.val (.sl 1 cs) [k])
   | _,_,_,_,_=>.bad
 | _,_=>.bad
def Zgt (P:Program) (s:TypeId) (x:AV) (f:Nat):Res :=
 match P.underlying s with
 | some (.struct fields)=>match fields[f]? with
   | some fd=>match szOf P fd.type with
     | some sz=>.need (sz≠0) (match x with
       | .pimm cs=>.val (.pimm (cs.drop fd.offset)) []
       | .pbox k g off=>.val (.pbox k g (off+fd.offset)) []
       | .prow k sv m i off=>.val (.prow k sv m i (off+fd.offset)) []
       | _=>.bad)
     | none=>.bad
   | none=>.bad
 | _=>.bad
def Zbh (P:Program) (st:St) (t:TypeId) (x i:AV):Res :=
 match P.underlying t,i with
 | some (.slice e),.v (.int _ j)=>match szOf P e with
   | some sz=>match x with
     | .sl m es=>.need (sz=m∧0≤j∧j < es.length) (.val (.pimm (es.getD j.toNat .u).cells) [])
     | .own k sv=>match st.mem k with
       | some (.row sv' _ m es _)=>.need (sv=sv'∧sz=m∧0≤j∧j < es.length) (.val (.prow k sv m j.toNat 0) [])
       | _=>.bad
     | .view k sv m i len=>.need (sz=m∧0≤j∧j < len) (.val (.prow k sv m (i+j.toNat) 0) [])
     | _=>.bad
   | none=>.bad
 | some (.array len e),.v (.int _ j)=>match szOf P e with
   | some sz=>.need (0≤j∧j < len) (match x with
     | .pimm cs=>.val (.pimm (cs.drop (j.toNat*sz))) []
     | .pbox k g off=>.val (.pbox k g (off+j.toNat*sz)) []
     | .prow k sv m i off=>.val (.prow k sv m i (off+j.toNat*sz)) []
     | _=>.bad)
   | none=>.bad
 | _,_=>.bad
def Ziw (P:Program) (t:TypeId) (x i:AV):Res :=
 match P.underlying t,x,i with
 | some (.array len e),.agg cs,.v (.int _ j)=>match szOf P e with
   | some sz=>.need (0≤j∧j < len) (Zm6 P e cs (j.toNat*sz))
   | none=>.bad
 | some .string,.v (.string s),.v (.int _ j)=>.need (0≤j∧j < s.size) (.val (.v (.int .u8 (s.data.toList.getD j.toNat 0).toNat)) [])
 | _,_,_=>.bad
def Zro (place:Nat→Option (Nat × Nat)) (cs:List AV):List (Nat × AV)→(List AV→Res)→Res
 | [],R=>R cs
 | (i,a) :: r,R=>match place i with
   | some (off,sz)=>.need (a.ok=true∧a.cells.length=sz∧off+sz≤cs.length) (Zro place (Zd1 cs off a.cells) r R)
   | none=>.bad
def Zix (P:Program) (t:TypeId) (parts:List (Nat × AV)):Res :=
 match P.underlying t,Zb4 P t with
 | some (.struct fields),some z=>.need ((fields.toList.all λf=>(szOf P f.type).isSome)=true) (Zro (λi=>(fields[i]?).bind λf=>(szOf P f.type).map λs=>(f.offset,s)) (AV.ofVal z).cells parts λcs=>.val (.agg cs) [])
 | some (.array _ e),some z=>match szOf P e with
   | some sz=>Zro (λi=>some (i*sz,sz)) (AV.ofVal z).cells parts λcs=>.val (.agg cs) []
   | none=>.bad
 | _,_=>.bad
def Znz (σ:Mem) (m:Nat) (es:List AV):List (Nat × AV)→(List AV→Res)→Res
 | [],R=>R es
 | (i,a) :: r,R=>.need (a.ok=true∧a.cells.length=m∧i < es.length∧Zer σ a) (Znz σ m (es.set i (pubV σ a)) r R)
def Zd7 (P:Program) (st:St) (t:TypeId) (len:Nat) (parts:List (Nat × AV)):Res :=
 match P.underlying t with
 | some (.slice e)=>match szOf P e,Zb4 P e with
   | some m,some z=>.need (len*m≤16777216∧len≤16777216∧(AV.ofVal z).cells.length=m∧(AV.ofVal z).ok=true) (
    Znz (marks st.mem (AV.toksL (parts.map (·.2)))) m (List.replicate len (AV.ofVal z)) parts λes=>.row e m es (AV.toksL (parts.map (·.2))))
   | _,_=>.bad
 | _=>.bad
def Zey (P:Program) (t:TypeId) (l cp:AV):Res :=
 match P.underlying t,l,cp with
 | some (.slice e),.v (.int _ n),.v (.int _ cap)=>match szOf P e,Zio P e,Zb4 P e with
   | some m,some by_,some z=>.need (0≤n∧n≤cap∧cap≤9223372036854775807∧(by_:Int)*cap≤281474976710656∧(AV.ofVal z).cells.length=m∧(AV.ofVal z).ok=true) (.row e m (List.replicate n.toNat (AV.ofVal z)) [])
   | _,_,_=>.bad
 | _,_,_=>.bad
def Zc6 (P:Program) (st:St) (t:TypeId):AV→Res
 | .pimm cs=>Zg1 P t cs
 | .pbox k g off=>match st.mem k with
   | some (.box g' _ cs _)=>.need (g=g') (Zg1 P t (cs.drop off))
   | _=>.bad
 | .prow k sv m i off=>match st.mem k with
   | some (.row sv' _ m' es _)=>.need (sv=sv'∧m=m'∧i < es.length) (Zg1 P t ((es.getD i .u).cells.drop off))
   | _=>.bad
 | _=>.bad
def putEl (σ:Mem) (m off n:Nat) (es:List AV) (i:Nat) (x:AV) (R:List AV→Res):Res :=
 if m=1 then .need (off=0∧x.one=true) (R (es.set i (pubV σ x)))
 else match es.getD i .u with
  | .agg ecs=>.need (off+n≤m) (R (es.set i (.agg (Zd1 ecs off (pubV σ x).cells))))
  | _=>.bad
def Zeu (P:Program) (st:St) (t:TypeId) (p x:AV):Res :=
 match szOf P t with
 | some n=>match p with
   | .pbox k g off=>match st.mem k with
     | some (.box g' e cs false)=>.need (g=g'∧x.ok=true∧x.cells.length=n∧off+n≤cs.length) (.sto .u k (.box g' e (Zd1 cs off x.cells) false) [])
     | _=>.bad
   | .prow k sv m i off=>match marks st.mem x.toks k with
     | some (.row sv' e m' es pub)=>.need (sv=sv'∧m=m'∧pub≤i∧i < es.length∧x.ok=true∧x.cells.length=n∧Zer (marks st.mem x.toks) x)
      (putEl (marks st.mem x.toks) m' off n es i x λes'=>.sto .u k (.row sv' e m' es' pub) x.toks)
     | _=>.bad
   | _=>.bad
 | none=>.bad
def Zku:AV→Res
 | .pimm cs=>.val (.pimm cs) []
 | .pbox k g off=>.val (.pbox k g off) []
 | .prow k sv m i off=>.val (.prow k sv m i off) []
 | .fn f cs=>.val (.fn f cs) []
 | _=>.bad
def Zjo (mx:Bool):List AV→Res
 | [.v (.int k a),.v (.int k' b)]=>.need (k=k') (.val (.v (.int k (if mx then (if b > a then b else a) else (if b < a then b else a)))) [])
 | [.v (.int k a),.v (.int k' b),.v (.int k'' c)]=>.need (k=k'∧k=k'') (.val (.v (.int k (if mx then (if c > (if b > a then b else a) then c else (if b > a then b else a)) else (if c < (if b < a then b else a) then c else (if b < a then b else a))))) [])
 | _=>.bad
def Zcp (P:Program) (st:St) (c:Call):Res :=
 match c.callee with
 | .builtin .len=>match c.args.toList,c.argTypes.toList with
   | [x],[t]=>match P.underlying t with
     | some d=>Zky st d (st.ev x)
     | none=>.bad
   | _,_=>.bad
 | .builtin .cap=>match c.args.toList,c.argTypes.toList with
   | [x],[t]=>match P.underlying t with
     | some d=>Zqw d (st.ev x)
     | none=>.bad
   | _,_=>.bad
 | .builtin .append=>match c.args.toList,c.argTypes.toList with
   | [s,x],[t,t']=>Zge P st t t' (st.ev s) (st.ev x)
   | _,_=>.bad
 | .builtin .copy=>match c.args.toList,c.argTypes.toList with
   | [d,x],[t,_]=>Zmg P st t (st.ev d) (st.ev x)
   | _,_=>.bad
 | .builtin .max=>Zjo true (c.args.toList.map st.ev)
 | .builtin .min=>Zjo false (c.args.toList.map st.ev)
 | .value f=>match st.ev f with
   | .fn g caps=>.call g (c.args.toList.map st.ev++caps)
   | _=>.bad
 | _=>.bad
def Zpa (s:ByteArray):List (ByteArray × AV)→Option AV
 | []=>none
 | a :: r=>if a.1=s then some a.2 else Zpa s r
def Zkg (s:ByteArray) (x:AV):List (ByteArray × AV)→List (ByteArray × AV)
 | []=>[(s,x)]
 | a :: r=>if a.1=s then (s,x) :: r else a :: Zkg s x r
def mpRes (ok:Bool) (z:AV):Option AV→AV
 | some v=>if ok then .tup [v,.v (.bool true)] else v
 | none=>if ok then .tup [z,.v (.bool false)] else z
def Zhv (P:Program) (st:St) (t:TypeId) (m k:AV) (ok:Bool):Res :=
 match P.underlying t with
 | some (.map kt et)=>match P.underlying kt,m,k with
   | some .string,.mp tk h,.v (.string s)=>match st.mem tk,Zb4 P et with
     | some (.map h' es),some z=>.need (h=h') (.val (mpRes ok (AV.ofVal z) (Zpa s es)) [])
     | _,_=>.bad
   | _,_,_=>.bad
 | _=>.bad
def Zhu (P:Program) (st:St) (t:TypeId) (m k x:AV):Res :=
 match P.underlying t with
 | some (.map kt _)=>match P.underlying kt,m,k with
   | some .string,.mp tk h,.v (.string s)=>match marks st.mem x.toks tk with
     | some (.map h' es)=>.need (h=h'∧Zer (marks st.mem x.toks) x) (.sto .u tk (.map h (Zkg s (pubV (marks st.mem x.toks) x) es)) x.toks)
     | _=>.bad
   | some (.array n et),.mp tk h,.agg [.v (.int a i),.v (.int b j)]=>match st.mem tk with
     | some (.map h' [])=>.need (h=h'∧n=2∧P.underlying et=some (.int a)∧b=a∧szOf P et=some 1) (.sto .u tk (.row (.slice none 0 0) 0 0 [] 0) [])
     | _=>.bad
   | _,_,_=>.bad
 | _=>.bad
def Zsw (t:Bool) (a b:AV):Res :=
 match a,b with
 | .v (.bool x),.v (.bool y)=>.val (.v (.bool (if t then x else y))) []
 | a,b=>.val (if t then a else b) []
def Zjc (st:St) (c a b:Operand):Res :=
 match st.ev c with
 | .v (.bool t)=>Zsw t (st.ev a) (st.ev b)
 | _=>.bad
def Zal (P:Program) (st:St):Op→Res
 | .move x | .assign x=>.val (st.ev x) []
 | .pick c a b=>Zjc st c a b
 | .alloc e=>match aZero P e with
   | some z=>.need (z.ok=true) (.box e z.cells)
   | none=>.bad
 | .box e x=>.need ((st.ev x).ok=true) (.box e (st.ev x).cells)
 | .build t parts=>Zix P t (parts.toList.map λp=>(p.1,st.ev p.2))
 | .buildSlice t len parts=>Zd7 P st t len (parts.toList.map λp=>(p.1,st.ev p.2))
 | .load t x=>Zc6 P st t (st.ev x)
 | .store t p x=>Zeu P st t (st.ev p) (st.ev x)
 | .nilCheck x=>Zku (st.ev x)
 | .binOp op t x y _=>Zk4 P op t (st.ev x) (st.ev y)
 | .unOp op _ x=>Zqz op (st.ev x)
 | .convert s d x=>Zmh P st.mem s d (st.ev x)
 | .makeFunc (.func f) first caps=>.need (first.toList.length=0) (.val (.fn f (caps.toList.map st.ev)) [])
 | .makeSlice t l cp=>Zey P t (st.ev l) (st.ev cp)
 | .makeMap _ none=>.mapn
 | .lookup t m k ok=>Zhv P st t (st.ev m) (st.ev k) ok
 | .mapUpdate t m k x=>Zhu P st t (st.ev m) (st.ev k) (st.ev x)
 | .slice t x lo hi mx=>Zgi P st t (st.ev x) (lo.map st.ev) (hi.map st.ev) (mx.map st.ev)
 | .fieldAddr s x f=>Zgt P s (st.ev x) f
 | .field s x f=>match P.underlying s,st.ev x with
   | some (.struct fields),.agg cs=>match fields[f]? with
     | some fd=>Zm6 P fd.type cs fd.offset
     | none=>.bad
   | _,_=>.bad
 | .indexAddr t x i=>Zbh P st t (st.ev x) (st.ev i)
 | .index t x i=>Ziw P t (st.ev x) (st.ev i)
 | .extract x i=>match st.ev x with
   | .tup vs=>match vs[i]? with
     | some a=>.val a []
     | none=>.bad
   | _=>.bad
 | .makeInterface t x=>match P.underlying t with
   | some (.interface _) | none=>.bad
   | some _=>.val (.ifc t (st.ev x)) []
 | .call cl=>Zcp P st cl
 | _=>.bad
section runs
variable {P:Program} {w:World}
theorem Zba {t:TypeId} {n:Nat} (h:szOf P t=some n):(sizeOf t).run P w=.ok n w:=by
 unfold szOf at h
 cases hi:P.info? t with
 | none=>rw [hi] at h;cases h
 | some i =>
   rw [hi] at h;simp only [Option.map_some,Option.some.injEq] at h;simp [sizeOf,typeInfo,hi,h]
theorem Zcy {t:TypeId} {z:Value} (h:Zb4 P t=some z):(zeroValue t).run P w=.ok z w:=by
 unfold Zb4 at h
 cases hi:P.info? t with
 | none=>rw [hi] at h;cases h
 | some i =>
   rw [hi] at h;simp only [Option.bind_some] at h;simp [zeroValue,typeInfo,hi,h]
theorem Zk0 {t:TypeId} {n b:Nat} {z:Value} (hs:szOf P t=some n) (hb:Zio P t=some b) (hz:Zb4 P t=some z):∃i,P.info? t=some i∧i.size=n∧i.bytes=b∧i.zero=some z:=by
 unfold szOf at hs;unfold Zio at hb;unfold Zb4 at hz
 cases hi:P.info? t with
 | none=>rw [hi] at hs;cases hs
 | some i =>
   rw [hi] at hs hb hz;simp only [Option.map_some,Option.some.injEq,Option.bind_some] at hs hb hz;exact⟨i,rfl,hs,hb,hz⟩
end runs
theorem Zeb (a:Addr) (i j:Nat):(a.add i).add j=a.add (i+j):=by
 unfold Addr.add;by_cases hi:i=0<;>by_cases hj:j=0<;>simp [hi,hj,Nat.add_assoc]
def CellsAt (w:World) (imm:Imm) (ad:Addr) (cs:List AV):Prop:=∀(j:Nat) (a:AV),cs[j]?=some a→∃x,w.cell? (ad.add j)=some x∧Rs w imm a x
theorem CellsAt.drop {w:World} {imm:Imm} {ad:Addr} {cs:List AV} (h:CellsAt w imm ad cs) (k:Nat):CellsAt w imm (ad.add k) (cs.drop k):=by
 intro j a ha;rw [List.getElem?_drop] at ha;rw [Zeb];exact h _ a ha
theorem Rd.one_of {w:World} {imm:Imm} {a:AV} {x:Value} (h:Rd w imm a x) (ho:a.one=true):x.oneCell'=true:=by
 cases h<;>simp_all [AV.one,Value.oneCell']
theorem Rs.one_of {w:World} {imm:Imm} {a:AV} {x:Value} (h:Rs w imm a x) (ho:a.one=true):x.oneCell'=true:=by
 cases h with
 | pure h=>exact h.one_of ho
 | own k sv h1=>exact h1
 | view k sv m i len y h1=>exact h1.one
 | _=>simp_all [AV.one,Value.oneCell']
theorem Zik {x:Value} (h:x.oneCell'=true):x.cells=#[x]:=by
 cases x<;>first|rfl|cases h
theorem Rs.cells_of {w:World} {imm:Imm} {a:AV} {x:Value} (h:Rs w imm a x) (ho:a.ok=true):a.cells.length=x.cells.size∧(∀(j:Nat) (b:AV) (y:Value),a.cells[j]?=some b→x.cells[j]?=some y→Rs w imm b y)∧(∀b∈a.cells,b.one=true):=by
 have leaf:a.cells=[a]→x.cells=#[x]→a.one=true→a.cells.length=x.cells.size∧(∀(j:Nat) (b:AV) (y:Value),a.cells[j]?=some b→x.cells[j]?=some y→Rs w imm b y)∧(∀b∈a.cells,b.one=true):=by
  intro h1 h2 h3;rw [h1,h2];refine⟨rfl,λj b y hb hy=>?_,by simpa using h3⟩
  match j with
  | 0=>simp at hb hy;subst hb;subst hy;exact h
  | j+1=>simp at hb
 cases a with
 | agg cs =>
   obtain⟨vs,rfl,hl,hr⟩:=h.agg_inv;exact⟨hl,hr,λb hb=>List.all_eq_true.1 ho b hb⟩
 | tup cs=>simp [AV.ok,AV.one] at ho
 | u=>simp [AV.ok,AV.one] at ho
 | _ =>
   have h1:x.oneCell'=true:=h.one_of ho;exact leaf rfl (Zik h1) ho
section
variable {P:Program} {c:Cx} {n tok:Nat} {st:St} {a:Act} {w:World} {imm:Imm} {K:St→Prop} {o:Oper} {Q:Exit→Act→World→Prop}
theorem Zlf {s:Sem Value} {x:Value} {w':World} (h:s.run P w=.ok x w'):((do pure (Next.value (←s))):Sem Next).run P w=.ok (.value x) w':=by simp [h]
theorem Zah {s:Sem Value} {x:Value} {av:AV} (h:Rel c n st a w imm) (hd:∀d,o.dst=some d→d < n) (hK:aRes P tok o.dst (.val av []) K st) (hs:s.run P w=.ok x w) (hx:Rs w imm av x) :
 o.upon P a (Zcc c n K) Q (((do pure (Next.value (←s))):Sem Next).run P w):=by
 rw [Zlf hs];exact Zc2 h hd hK λ_ _ hk=>hk.rs hx
theorem Zf8 {t:TypeId} {cs:List AV} {ad:Addr} (h:Rel c n st a w imm) (hd:∀d,o.dst=some d→d < n) (hK:aRes P tok o.dst (Zg1 P t cs) K st) (hc:CellsAt w imm ad cs) :
 o.upon P a (Zcc c n K) Q (((do pure (Next.value (←loadVar t ad))):Sem Next).run P w):=by
 have scalar:(isAgg t).run P w=.ok false w→aRes P tok o.dst (Zjx cs) K st→o.upon P a (Zcc c n K) Q (((do pure (Next.value (←loadVar t ad))):Sem Next).run P w):=by
  intro hag hK
  cases cs with
  | nil=>exact hK.elim
  | cons x r =>
    obtain⟨y,hy,hr⟩:=hc 0 x rfl;have:ad.add 0=ad:=by simp [Addr.add]
    rw [this] at hy;refine Zah h hd hK ?_ hr;simp [loadVar,hag,hy]
 have aggr:(isAgg t).run P w=.ok true w→aRes P tok o.dst (Zh1 P t cs) K st→o.upon P a (Zcc c n K) Q (((do pure (Next.value (←loadVar t ad))):Sem Next).run P w):=by
  intro hag hK;unfold Zh1 at hK
  cases hs:szOf P t with
  | none=>rw [hs] at hK;exact hK.elim
  | some k =>
    rw [hs] at hK;obtain⟨hle,hK⟩:=hK
    have hex:∀j,j < k→∃x,w.cell? (ad.add j)=some x∧∀b,cs[j]?=some b→Rs w imm b x:=by
     intro j hj;obtain⟨x,h1,h2⟩:=hc j cs[j] (List.getElem?_eq_getElem (by omega));exact⟨x,h1,λb hb=>by rw [List.getElem?_eq_getElem (by omega)] at hb;simp only [Option.some.injEq] at hb;exact hb ▸ h2⟩
    let f:Nat→Value:=λj=>(w.cell? (ad.add j)).getD undef
    have hf:∀j,j < k→w.cell? (ad.add j)=some (f j):=by
     intro j hj;obtain⟨x,h1,_⟩:=hex j hj;simp [f,h1]
    have hl:=run_loadCells (P:=P) w ad k f hf;refine Zah h hd hK (x:=.agg ((List.range k).map f).toArray) ?_ ?_
    ·simp [loadVar,hag,Zba hs,hl]
    ·refine .agg _ _ (by simp [hle]) λj b x h1 h2=>?_;rw [List.getElem?_take] at h1;split at h1
     ·rename_i hj;obtain⟨y,h3,h4⟩:=hex j hj
      have:f j=x:=by
       have h2':((List.range k).map f)[j]?=some x:=by simpa using h2
       simpa [List.getElem?_map,List.getElem?_range hj] using h2'
      rw [←this];simp only [f,h3,Option.getD_some];exact h4 b h1
     ·cases h1
 unfold Zg1 at hK
 cases hu:P.underlying t with
 | none=>rw [hu] at hK;exact hK.elim
 | some d =>
   rw [hu] at hK
   have hag:(isAgg t).run P w=.ok (Zgb d) w:=by
    simp only [isAgg,Sem.run_bind,run_underlying hu,Result.andThen_ok];cases d<;>rfl
   cases hb:Zgb d with
   | true=>rw [hb] at hag;simp only [hb,if_true] at hK;exact aggr hag hK
   | false=>rw [hb] at hag;simp only [hb,Bool.false_eq_true,if_false] at hK;exact scalar hag hK
theorem Zie {t:TypeId} {cs:List AV} {vs:Array Value} {off:Nat} (h:Rel c n st a w imm) (hd:∀d,o.dst=some d→d < n) (hK:aRes P tok o.dst (Zm6 P t cs off) K st)
 (hl:cs.length=vs.size) (hr:∀(j:Nat) (a:AV) (x:Value),cs[j]?=some a→vs[j]?=some x→Rs w imm a x) :
 o.upon P a (Zcc c n K) Q (((do pure (Next.value (←part t vs off))):Sem Next).run P w):=by
 have scalar:(isAgg t).run P w=.ok false w→aRes P tok o.dst (Zjx (cs.drop off)) K st→o.upon P a (Zcc c n K) Q (((do pure (Next.value (←part t vs off))):Sem Next).run P w):=by
  intro hag hK
  cases hcs:cs.drop off with
  | nil=>rw [hcs] at hK;exact hK.elim
  | cons x r =>
    rw [hcs] at hK
    have hx:cs[off]?=some x:=by
     have:=congrArg (λl=>l[0]?) hcs
     simpa [List.getElem?_drop] using this
    have hlt:off < vs.size:=by
     rw [←hl];rcases Nat.lt_or_ge off cs.length with h1 | h1
     ·exact h1
     ·rw [List.getElem?_eq_none h1] at hx;cases hx
    have hv:vs[off]?=some vs[off]:=Array.getElem?_eq_getElem hlt;refine Zah h hd hK (x:=vs[off]) ?_ (hr off x _ hx hv);simp [part,hag,hv]
 have aggr:(isAgg t).run P w=.ok true w→aRes P tok o.dst (Zis P t cs off) K st→o.upon P a (Zcc c n K) Q (((do pure (Next.value (←part t vs off))):Sem Next).run P w):=by
  intro hag hK;unfold Zis at hK
  cases hs:szOf P t with
  | none=>rw [hs] at hK;exact hK.elim
  | some k =>
    rw [hs] at hK;refine Zah h hd hK (x:=.agg (vs.extract off (off+k))) ?_ ?_
    ·simp [part,hag,Zba hs]
    ·refine .agg _ _ (by simp [hl];omega) λj b x h1 h2=>?_;rw [List.getElem?_take] at h1;split at h1
     ·rw [List.getElem?_drop] at h1;refine hr (off+j) b x h1 ?_;rw [Array.getElem?_extract] at h2;split at h2
      ·exact h2
      ·cases h2
     ·cases h1
 unfold Zm6 at hK
 cases hu:P.underlying t with
 | none=>rw [hu] at hK;exact hK.elim
 | some d =>
   rw [hu] at hK
   have hag:(isAgg t).run P w=.ok (Zgb d) w:=by
    simp only [isAgg,Sem.run_bind,run_underlying hu,Result.andThen_ok];cases d<;>rfl
   cases hb:Zgb d with
   | true=>rw [hb] at hag;simp only [hb,if_true] at hK;exact aggr hag hK
   | false=>rw [hb] at hag;simp only [hb,Bool.false_eq_true,if_false] at hK;exact scalar hag hK
end
theorem Ze1 {m:Nat}:∀{es:List AV},(∀x∈es,x.cells.length=m)→∀(i j:Nat),j < m→i < es.length→(flat es)[i*m+j]?=(es.getD i .u).cells[j]?
 | [],_,i,j,_,h=>by simp at h
 | a :: r,hl,0,j,hj,_=>by
   have ha:=hl a (List.mem_cons_self ..);simp only [flat,List.flatMap_cons,Nat.zero_mul,Nat.zero_add,List.getD_cons_zero];rw [List.getElem?_append_left (by rw [ha];exact hj)]
 | a :: r,hl,i+1,j,hj,h=>by
   have ha:=hl a (List.mem_cons_self ..);have ih:=Ze1 (es:=r) (λx hx=>hl x (List.mem_cons_of_mem _ hx)) i j hj (by simpa using h);simp only [flat,List.flatMap_cons,List.getD_cons_succ] at ih ⊢;have e:(i+1)*m+j=m+(i*m+j):=by rw [Nat.add_mul,Nat.one_mul];omega
   rw [e,List.getElem?_append_right (by omega),ha,Nat.add_sub_cancel_left];exact ih
theorem Zgh {cs new:List AV} {off:Nat} (h:off+new.length≤cs.length) (j:Nat):(Zd1 cs off new)[j]?=if off≤j∧j < off+new.length then new[j - off]? else cs[j]?:=by
 unfold Zd1;have hl:(cs.take off).length=off:=by simp;omega
 by_cases h1:j < off
 ·rw [if_neg (by omega),List.append_assoc,List.getElem?_append_left (by omega),List.getElem?_take,if_pos h1]
 ·rw [List.append_assoc,List.getElem?_append_right (by omega),hl];by_cases h2:j < off+new.length
  ·rw [if_pos (by omega),List.getElem?_append_left (by omega)]
  ·rw [if_neg (by omega),List.getElem?_append_right (by omega),List.getElem?_drop];congr 1;omega
theorem Zd3 {cs new:List AV} {off:Nat} (h:off+new.length≤cs.length):(Zd1 cs off new).length=cs.length:=by
 simp [Zd1];omega
theorem Zha {cs new:List Value} {off:Nat} (h:off+new.length≤cs.length) (j:Nat):(cs.take off++new++cs.drop (off+new.length))[j]?=if off≤j∧j < off+new.length then new[j - off]? else cs[j]?:=by
 have hl:(cs.take off).length=off:=by simp;omega
 by_cases h1:j < off
 ·rw [if_neg (by omega),List.append_assoc,List.getElem?_append_left (by omega),List.getElem?_take,if_pos h1]
 ·rw [List.append_assoc,List.getElem?_append_right (by omega),hl];by_cases h2:j < off+new.length
  ·rw [if_pos (by omega),List.getElem?_append_left (by omega)]
  ·rw [if_neg (by omega),List.getElem?_append_right (by omega),List.getElem?_drop];congr 1;omega
theorem Zew (w:World) (g:Nat) (cs:Array Value):w.grownBy (w.setRow g cs) (some g) :=
 ⟨rfl,rfl,rfl,by simp,λk _ hk=>setRow_other w g k cs (λe=>hk (by rw [e]))⟩
section
variable {P:Program} {c:Cx} {n tok:Nat} {st:St} {a:Act} {w:World} {imm:Imm} {K:St→Prop} {o:Oper} {Q:Exit→Act→World→Prop}
theorem Zkb {σ:Mem} (h:Mx c σ w imm) {k g:Nat} {e:TypeId} {cs:List AV} {pub:Bool} (hk:σ k=some (.box g e cs pub)):CellsAt w imm ⟨g,0,none⟩ cs:=by
 obtain⟨cur,hh,_,hl,_,hr,_⟩:=h.ok.ent k _ hk;intro j b hb
 have hlt:j < cur.size:=by
  rw [←hl];rcases Nat.lt_or_ge j cs.length with h1 | h1
  ·exact h1
  ·rw [List.getElem?_eq_none h1] at hb;cases hb
 refine⟨cur[j],?_,hr j b _ hb (Array.getElem?_eq_getElem hlt)⟩;rw [Addr.add_lit,Nat.zero_add,cell_of_row w g j cur e (0,0) hh];exact Array.getElem?_eq_getElem hlt
theorem Zi6 {σ:Mem} (h:Mx c σ w imm) {k g:Nat} {e:TypeId} {m nn cc pub:Nat} {es:List AV} (hk:σ k=some (.row (.slice (some ⟨g,0,none⟩) nn cc) e m es pub)) {i:Nat} (hi:i < es.length) :
 CellsAt w imm ⟨g,i*m,none⟩ (es.getD i .u).cells:=by
 obtain⟨xs,hown,hm,hok,hr,_⟩:=h.ok.ent k _ hk;intro j b hb
 have hel:(es.getD i .u).cells.length=m:=by
  rw [List.getD_eq_getElem?_getD,List.getElem?_eq_getElem hi];exact hm _ (List.getElem_mem _)
 have hj:j < m:=by
  rw [←hel];rcases Nat.lt_or_ge j (es.getD i .u).cells.length with h1 | h1
  ·exact h1
  ·rw [List.getElem?_eq_none h1] at hb;cases hb
 have hf:=Ze1 hm i j hj hi;rw [hb] at hf
 have hlt:i*m+j < es.length*m:=by
  have:(i+1)*m≤es.length*m:=Nat.mul_le_mul_right _ hi;rw [Nat.add_mul,Nat.one_mul] at this;omega
 have hx:i*m+j < xs.length:=by rw [hown.1];exact hlt
 have hn:nn=es.length:=by
  rcases hown.2 with⟨h1,_⟩ | ⟨g',cap,cur,h1,_⟩
  ·cases h1
  ·cases h1;rfl
 subst hn;refine⟨xs[i*m+j],?_,.pure (hr _ b _ hf (List.getElem?_eq_getElem hx))⟩;rw [Addr.add_lit,hown.cellAt _ hlt];exact List.getElem?_eq_getElem hx
theorem s_load {t:TypeId} {av:AV} {x:Value} (h:Rel c n st a w imm) (hd:∀d,o.dst=some d→d < n) (hK:aRes P tok o.dst (Zc6 P st t av) K st) (hx:Rs w imm av x) :
 o.upon P a (Zcc c n K) Q (((do pure (Next.value (←Instr.loadAt t x))):Sem Next).run P w):=by
 cases av with
 | pimm cs =>
   obtain⟨ad,f,rfl,h1,h2⟩:=hx.pimm_inv;refine Zf8 h hd hK (ad:=ad) λj b hb=>?_
   have hj:j < cs.length:=by
    rcases Nat.lt_or_ge j cs.length with h3 | h3
    ·exact h3
    ·rw [List.getElem?_eq_none h3] at hb;cases hb
   exact⟨f j,(h1 j hj).2,.pure (h2 j b hb)⟩
 | pbox k g off =>
   have:=hx.pbox_inv;subst this;unfold Zc6 at hK
   cases hk:st.mem k with
   | none=>simp only [hk] at hK;exact hK.elim
   | some e =>
     cases e with
     | row=>simp only [hk] at hK;exact hK.elim
     | map=>simp only [hk] at hK;exact hK.elim
     | box g' e cs pub =>
       simp only [hk] at hK;obtain⟨rfl,hK⟩:=hK;refine Zf8 h hd hK (ad:=⟨g,off,none⟩) ?_;have:=(Zkb h.mem hk).drop off
       rwa [Addr.add_lit,Nat.zero_add] at this
 | prow k sv m i off =>
   obtain⟨g,nn,cc,rfl,rfl⟩:=hx.prow_inv;unfold Zc6 at hK
   cases hk:st.mem k with
   | none=>simp only [hk] at hK;exact hK.elim
   | some e =>
     cases e with
     | box=>simp only [hk] at hK;exact hK.elim
     | map=>simp only [hk] at hK;exact hK.elim
     | row sv' e m' es pub =>
       simp only [hk] at hK;obtain⟨⟨rfl,rfl,hi⟩,hK⟩:=hK;refine Zf8 h hd hK (ad:=⟨g,i*m+off,none⟩) ?_;have:=(Zi6 h.mem hk hi).drop off
       rwa [Addr.add_lit] at this
 | _=>exact hK.elim
theorem Zua {σ:Mem} (h:Mx c σ w imm) {k g:Nat} {e:TypeId} {cs cs':List AV} (hk:σ k=some (.box g e cs false)) {off:Nat} {vs:List Value} (hl:cs'.length=cs.length) (hfit:off+vs.length≤cs.length)
 (h1:∀v∈vs,v.oneCell'=true) (hone:∀x∈cs',x.one=true)
 (hr:∀(j:Nat) (b:AV),cs'[j]?=some b→if off≤j∧j < off+vs.length then ∀x,vs[j - off]?=some x→Rs w imm b x else cs[j]?=some b) :
 ∃w',(storeCells ⟨g,off,none⟩ vs).run P w=.ok () w'∧Mx c (upd σ k (some (.box g e cs' false))) w' imm∧Keeps w imm w' imm:=by
 obtain⟨cur,hh,hB,hlen,_,hrs,hp,_⟩:=h.ok.ent k _ hk;have hst:=run_storeCells_at P g off e vs 0 cur w hh (by simpa [←hlen] using hfit) h1;simp only [Nat.add_zero] at hst
 have hcell:∀ad,imm ad→(w.setRow g (cur.toList.take off++vs++cur.toList.drop (off+vs.length)).toArray).cell? ad=w.cell? ad:=by
  intro ad h2;have hne:ad.block≠g:=λe=>by have:=hp ad h2 e;cases this
  exact Zfg (Zew w g _) (h.ok.lt ad h2) (by simpa using hne)
 have hkeep:Keeps w imm (w.setRow g (cur.toList.take off++vs++cur.toList.drop (off+vs.length)).toArray) imm:=λad h2=>⟨h2,hcell ad h2⟩;refine⟨_,hst,Ze7 h (Zew w g _) (λg' hg'=>by cases hg';exact hB) hcell k _ ⟨_,setRow_heap w g cur _ e (0,0) hh,hB,?_,hone,λj b x h2 h3=>hkeep.rs ?_,hp,λh2=>by cases h2⟩ λj e2 b h2 h3 h4=>?_⟩
 ·simp only [List.size_toArray,List.length_append,List.length_take,List.length_drop,Array.length_toList];omega
 ·have h5:=hr j b h2;have h6:(cur.toList.take off++vs++cur.toList.drop (off+vs.length))[j]?=some x:=by simpa using h3
  rw [Zha (by have:cur.toList.length=cur.size:=rfl;omega)] at h6;split at h5
  ·rename_i hc;rw [if_pos hc] at h6;exact h5 x h6
  ·rename_i hc;rw [if_neg hc] at h6;exact hrs j b x h5 (by simpa using h6)
 ·have:b≠g:=λe=>h2 (h.ok.apart j k e2 _ g h3 hk (e ▸ h4) rfl);exact⟨by simpa using this,by simpa [Ent.blk] using λe=>this e.symm⟩
theorem Zsh {σ:Mem} (h:Mx c σ w imm) {k g:Nat} {e:TypeId} {m nn cc pub:Nat} {es es':List AV} (hk:σ k=some (.row (.slice (some ⟨g,0,none⟩) nn cc) e m es pub)) {off:Nat} {vs:List Value}
 (hl:es'.length=es.length) (hfit:off+vs.length≤es.length*m) (hpub:pub*m≤off) (h1:∀v∈vs,v.oneCell'=true) (hm':∀x∈es',x.cells.length=m) (hok':∀x∈es',x.ok=true)
 (hr:∀(j:Nat) (b:AV),(flat es')[j]?=some b→if off≤j∧j < off+vs.length then ∀x,vs[j - off]?=some x→Rd w imm b x else (flat es)[j]?=some b) :
 ∃w',(storeCells ⟨g,off,none⟩ vs).run P w=.ok () w'∧Mx c (upd σ k (some (.row (.slice (some ⟨g,0,none⟩) nn cc) e m es' pub))) w' imm∧Keeps w imm w' imm:=by
 obtain⟨xs,hown,hm,hok,hrs,hpl,hp,hq⟩:=h.ok.ent k _ hk;rcases hown.2 with⟨h2,_⟩ | ⟨g',cap,cur,h2,hB,hh,hnc,hcm,hcs,htake⟩
 ·cases h2
 cases h2;have hcl:es.length*m≤cur.size:=by rw [hcs];exact Nat.mul_le_mul_right _ hnc
 have hst:=run_storeCells_at P g off e vs 0 cur w hh (by omega) h1;simp only [Nat.add_zero] at hst
 have hcell:∀ad,imm ad→(w.setRow g (cur.toList.take off++vs++cur.toList.drop (off+vs.length)).toArray).cell? ad=w.cell? ad:=by
  intro ad h2;by_cases hg:ad.block=g
  ·have h3:=hp ad h2 (by simp [Value.ownBlock,hg]);have h4:=h.ok.spot ad h2;obtain⟨b,of,s⟩:=ad;simp only at hg h3 h4;subst hg;subst h4;rw [cell_of_row _ b of _ e (0,0) (setRow_heap w b cur _ e (0,0) hh),cell_of_row w b of cur e (0,0) hh];have:=Zha (cs:=cur.toList) (new:=vs) (off:=off) (by have:cur.toList.length=cur.size:=rfl;omega) of;rw [if_neg (by omega)] at this
   simpa using this
  ·exact Zfg (Zew w g _) (h.ok.lt ad h2) (by simpa using hg)
 have hkeep:Keeps w imm (w.setRow g (cur.toList.take off++vs++cur.toList.drop (off+vs.length)).toArray) imm:=λad h2=>⟨h2,hcell ad h2⟩
 have hlen2:(cur.toList.take off++vs++cur.toList.drop (off+vs.length)).length=cur.size:=by
  simp only [List.length_append,List.length_take,List.length_drop,Array.length_toList];omega
 refine⟨_,hst,Ze7 h (Zew w g _) (λg' hg'=>by cases hg';exact hB) hcell k _
  ⟨(cur.toList.take off++vs++cur.toList.drop (off+vs.length)).take (es.length*m),⟨by rw [List.length_take,hlen2,hl];exact Nat.min_eq_left hcl,.inr ⟨g,_,_,by rw [hl],hB,setRow_heap w g cur _ e (0,0) hh,by rw [hl];exact hnc,hcm,by rw [List.size_toArray,hlen2,hcs],by rw [hl]⟩⟩,hm',hok',
    λj b x h2 h3=>hkeep.rd ?_,by rw [hl];exact hpl,hp,hq⟩ λj e2 b h2 h3 h4=>?_⟩
 ·rw [List.getElem?_take] at h3;split at h3
  ·rename_i hj;rw [Zha (by have:cur.toList.length=cur.size:=rfl;omega)] at h3;have h5:=hr j b h2;split at h5
   ·rename_i hc;rw [if_pos hc] at h3;exact h5 x h3
   ·rename_i hc;rw [if_neg hc] at h3;refine hrs j b x h5 ?_;rw [←htake,List.getElem?_take,if_pos hj];exact h3
  ·cases h3
 ·have:b≠g:=λe=>h2 (h.ok.apart j k e2 _ g h3 hk (e ▸ h4) rfl);exact⟨by simpa using this,by simpa [Ent.blk,Value.ownBlock] using λe=>this e.symm⟩
end
theorem Zf5 {a:AV} (h:a.one=true):a.cells=[a]:=by cases a<;>first|rfl|cases h
theorem one_ok {a:AV} (h:a.one=true):a.ok=true:=by cases a<;>first|exact h|cases h
theorem ok_one {a:AV} (h:a.ok=true):∀b∈a.cells,b.one=true:=by
 cases a with
 | agg cs=>exact λb hb=>List.all_eq_true.1 h b hb
 | _=>intro b hb;simp only [AV.cells,List.mem_singleton] at hb;subst hb;exact h
theorem Zqr {es:List AV} (hok:∀e∈es,e.ok=true):∀b∈flat es,b.one=true:=by
 intro b hb;simp only [flat,List.mem_flatMap] at hb;obtain⟨e,he,hb⟩:=hb;exact ok_one (hok e he) b hb
theorem Zou {σ:Mem} {a:AV} (ho:Zer σ a) (h:a.one=true):(pubV σ a).one=true:=by
 cases a with
 | own k sv =>
   simp only [Zer,pubV,Zfe,Zjt] at ho ⊢;split at ho
   ·rfl
   ·exact ho.elim
 | view k sv m i len =>
   simp only [Zer,pubV,Zfe,Zjt] at ho ⊢;split at ho
   ·rfl
   ·exact ho.elim
 | pbox k g off =>
   simp only [Zer,pubV] at ho ⊢;split at ho
   ·rfl
   ·exact ho.elim
 | prow=>exact ho.elim
 | v x=>exact h
 | _=>first|rfl|cases h
theorem Zm3 {σ:Mem}:∀{l:List AV},Zdv σ l→(∀b∈l,b.one=true)→∀b∈Zdt σ l,b.one=true
 | [],_,_,b,hb=>by simp [Zdt] at hb
 | a :: r,ho,h,b,hb=>by
   simp only [Zdt,List.mem_cons] at hb;rcases hb with rfl | hb
   ·exact Zou ho.1 (h a (List.mem_cons_self ..))
   ·exact Zm3 ho.2 (λc hc=>h c (List.mem_cons_of_mem _ hc)) b hb
theorem pub_ok {σ:Mem} {a:AV} (ho:Zer σ a) (h:a.ok=true):(pubV σ a).ok=true∧(pubV σ a).cells.length=a.cells.length:=by
 cases ha:a with
 | agg cs =>
   subst ha;exact⟨List.all_eq_true.2 (Zm3 ho λb hb=>List.all_eq_true.1 h b hb),Zca σ cs⟩
 | tup cs=>subst ha;cases h
 | u=>subst ha;cases h
 | _ =>
   have h1:a.one=true:=by rw [ha] at h ⊢;exact h
   have h2:=Zou ho h1;rw [←ha];exact⟨one_ok h2,by rw [Zf5 h2,Zf5 h1];rfl⟩
theorem Zkr {w:World} {imm:Imm} {a:AV} {x:Value} (h:Rd w imm a x) (ho:a.ok=true) (j:Nat) (b:AV) (hb:a.cells[j]?=some b) (y:Value) (hy:x.cells[j]?=some y):Rd w imm b y:=by
 cases ha:a with
 | agg cs =>
   subst ha
   cases h with
   | agg _ vs hl hr=>exact hr j b y hb hy
 | tup cs=>subst ha;cases ho
 | u=>subst ha;cases ho
 | _ =>
   have h1:a.one=true:=by rw [ha] at ho ⊢;exact ho
   rw [Zf5 h1] at hb;rw [Zik (h.one_of h1)] at hy
   match j with
   | 0=>simp at hb hy;subst hb;subst hy;exact h
   | j+1=>simp at hb
theorem Zl9 {m:Nat} {el:AV}:∀{es:List AV},(∀x∈es,x.cells.length=m)→∀(i:Nat),i < es.length→el.cells.length=m→∀j,(flat (es.set i el))[j]?=if i*m≤j∧j < i*m+m then el.cells[j - i*m]? else (flat es)[j]?
 | [],_,i,h,_,_=>by simp at h
 | a :: r,hl,0,_,he,j=>by
   have ha:=hl a (List.mem_cons_self ..);simp only [flat,List.set_cons_zero,List.flatMap_cons,Nat.zero_mul,Nat.zero_add,Nat.zero_le,true_and,Nat.sub_zero];by_cases hj:j < m
   ·rw [if_pos hj,List.getElem?_append_left (by omega)]
   ·rw [if_neg hj,List.getElem?_append_right (by omega),List.getElem?_append_right (by omega),he,ha]
 | a :: r,hl,i+1,h,he,j=>by
   have ha:=hl a (List.mem_cons_self ..);have ih:=Zl9 (es:=r) (λx hx=>hl x (List.mem_cons_of_mem _ hx)) i (by simpa using h) he (j - m);have e:(i+1)*m=m+i*m:=by rw [Nat.add_mul,Nat.one_mul,Nat.add_comm]
   simp only [flat,List.set_cons_succ,List.flatMap_cons] at ih ⊢;by_cases hj:j < m
   ·rw [List.getElem?_append_left (by omega),List.getElem?_append_left (by omega),if_neg (by omega)]
   ·rw [List.getElem?_append_right (by omega),List.getElem?_append_right (by omega),ha,ih];by_cases hc:i*m≤j - m∧j - m < i*m+m
    ·rw [if_pos hc,if_pos (by omega)];congr 1;omega
    ·rw [if_neg hc,if_neg (by omega)]
section
variable {P:Program} {c:Cx} {n tok:Nat} {st:St} {a:Act} {w:World} {imm:Imm} {K:St→Prop} {o:Oper} {Q:Exit→Act→World→Prop}
theorem Zi5 {t:TypeId} {ad:Addr} {x:Value} {w':World} {k:Nat} (hs:szOf P t=some k) (hk:x.cells.size=k) (hr:(storeCells ad x.cells.toList).run P w=.ok () w') :
 ((do Instr.storeAt t (.pointer (some ad)) x;pure Next.skip):Sem Next).run P w=.ok .skip w':=by
 have:Instr.storeAt t (.pointer (some ad)) x=storeVar t ad x:=rfl;rw [this];simp [storeVar,Zba hs,hk,hr]
theorem Zj9 {a:AV} {x:Value} (h:Rs w imm a x) (ho:a.ok=true):∀v∈x.cells.toList,v.oneCell'=true:=by
 obtain⟨hl,hr,h1⟩:=h.cells_of ho;intro v hv;obtain⟨j,hj⟩:=List.getElem?_of_mem hv
 have hlt:j < a.cells.length:=by
  rw [hl];rcases Nat.lt_or_ge j x.cells.toList.length with h2 | h2
  ·simpa using h2
  ·rw [List.getElem?_eq_none h2] at hj;cases hj
 exact(hr j _ v (List.getElem?_eq_getElem hlt) (by simpa using hj)).one_of (h1 _ (List.getElem_mem hlt))
theorem s_store {t:TypeId} {pv av:AV} {p x:Value} (h:Rel c n st a w imm) (hd:∀d,o.dst=some d→d < n) (hK:aRes P tok o.dst (Zeu P st t pv av) K st) (hp:Rs w imm pv p) (hx:Rs w imm av x) :
 o.upon P a (Zcc c n K) Q (((do Instr.storeAt t p x;pure Next.skip):Sem Next).run P w):=by
 unfold Zeu at hK
 cases hs:szOf P t with
 | none=>simp only [hs] at hK;exact hK.elim
 | some sz =>
   simp only [hs] at hK
   cases pv with
   | pbox k g off =>
     have:=hp.pbox_inv;subst this
     cases hk:st.mem k with
     | none=>simp only [hk] at hK;exact hK.elim
     | some e =>
       cases e with
       | row=>simp only [hk] at hK;exact hK.elim
       | map=>simp only [hk] at hK;exact hK.elim
       | box g' e cs pub =>
         cases pub with
         | true=>simp only [hk] at hK;exact hK.elim
         | false =>
           simp only [hk] at hK;obtain⟨⟨rfl,hok,hlen,hfit⟩,hK⟩:=hK;obtain⟨hl,hr,h1⟩:=hx.cells_of hok;have hfit':off+av.cells.length≤cs.length:=by omega
           obtain⟨w',hrun,hm,hkp⟩:=Zua h.mem hk (off:=off) (vs:=x.cells.toList) (cs':=Zd1 cs off av.cells) (Zd3 hfit') (by simp [←hl];omega) (Zj9 hx hok)
            (λb hb=>by
             simp only [Zd1,List.mem_append] at hb;obtain⟨cur,_,_,_,hone,_⟩:=h.mem.ok.ent k _ hk;rcases hb with(hb | hb) | hb
             ·exact hone b (List.mem_of_mem_take hb)
             ·exact h1 b hb
             ·exact hone b (List.mem_of_mem_drop hb))
            (λj b hb=>by
             rw [Zgh hfit'] at hb;simp only [Array.length_toList,←hl];split
             ·rename_i hc;rw [if_pos hc] at hb;exact λy hy=>hr _ b y hb (by simpa using hy)
             ·rename_i hc
              rwa [if_neg hc] at hb)
           rw [Zi5 hs (by omega) hrun];refine Zhi h hd hK (.inr ⟨rfl,rfl⟩) λi' hm' hk'=>?_;obtain⟨w2,hrun2,hm2,hkp2⟩:=Zua hm' hk (off:=off) (vs:=x.cells.toList) (cs':=Zd1 cs off av.cells) (Zd3 hfit') (by simp [←hl];omega) (Zj9 hx hok)
            (λb hb=>by
             simp only [Zd1,List.mem_append] at hb;obtain⟨cur,_,_,_,hone,_⟩:=h.mem.ok.ent k _ hk;rcases hb with(hb | hb) | hb
             ·exact hone b (List.mem_of_mem_take hb)
             ·exact h1 b hb
             ·exact hone b (List.mem_of_mem_drop hb))
            (λj b hb=>by
             rw [Zgh hfit'] at hb;simp only [Array.length_toList,←hl];split
             ·rename_i hc;rw [if_pos hc] at hb;exact λy hy=>hk'.rs (hr _ b y hb (by simpa using hy))
             ·rename_i hc
              rwa [if_neg hc] at hb)
           rw [hrun] at hrun2;cases hrun2;exact⟨hm2,hkp2,.pure (.u _)⟩
   | prow k sv m i off =>
     obtain⟨g,nn,cc,rfl,rfl⟩:=hp.prow_inv
     cases hk:marks st.mem av.toks k with
     | none=>simp only [hk] at hK;exact hK.elim
     | some e =>
       cases e with
       | box=>simp only [hk] at hK;exact hK.elim
       | map=>simp only [hk] at hK;exact hK.elim
       | row sv' e m' es pub =>
         simp only [hk] at hK;obtain⟨⟨rfl,rfl,hpi,hi,hok,hlen,hpo⟩,hK⟩:=hK;obtain⟨i',hm',hk'⟩:=Zdp av.toks h.mem;have hrd:=Zhp hm' (hk'.rs hx) hpo;obtain⟨hpok,hplen⟩:=pub_ok hpo hok;obtain⟨hl,hr,h1⟩:=(Rs.pure hrd).cells_of hpok;obtain⟨xs,hown,hmm,hokk,_⟩:=hm'.ok.ent k _ hk;have hvl:x.cells.toList.length=sz:=by simp [←hl];omega
         have key:∀(es':List AV) (el:AV),es'=es.set i el→el.cells.length=m→el.ok=true→off+sz≤m →
          (∀(j:Nat) (b:AV),el.cells[j]?=some b→if off≤j∧j < off+sz then (pubV (marks st.mem av.toks) av).cells[j - off]?=some b else (es.getD i .u).cells[j]?=some b) →
          aRes P tok o.dst (.sto .u k (.row (.slice (some ⟨g,0,none⟩) nn cc) e m es' pub) av.toks) K st→o.upon P a (Zcc c n K) Q (((do Instr.storeAt t (.pointer (some ⟨g,i*m+off,none⟩)) x;pure Next.skip):Sem Next).run P w):=by
          rintro es' el rfl hel helok hfit hcells hK
          have him:i*m+m≤es.length*m:=by
           have:(i+1)*m≤es.length*m:=Nat.mul_le_mul_right _ hi
           rwa [Nat.add_mul,Nat.one_mul] at this
          have hpim:pub*m≤i*m:=Nat.mul_le_mul_right _ hpi
          have put:∀i2,Mx c (marks st.mem av.toks) w i2→Keeps w imm w i2→∃w',(storeCells ⟨g,i*m+off,none⟩ x.cells.toList).run P w=.ok () w'∧Mx c (upd (marks st.mem av.toks) k (some (.row (.slice (some ⟨g,0,none⟩) nn cc) e m (es.set i el) pub))) w' i2∧Keeps w i2 w' i2:=by
           intro i2 hm2 hk2;have hrd2:=Zhp hm2 (hk2.rs hx) hpo;refine Zsh hm2 hk (off:=i*m+off) (vs:=x.cells.toList) (by simp) (by omega) (by omega) (Zj9 (.pure hrd2) hpok) (λy hy=>?_) (λy hy=>?_) λj b hb=>?_
           ·rcases List.mem_or_eq_of_mem_set hy with h2 | rfl
            ·exact hmm y h2
            ·exact hel
           ·rcases List.mem_or_eq_of_mem_set hy with h2 | rfl
            ·exact hokk y h2
            ·exact helok
           ·rw [Zl9 hmm i hi hel] at hb;rw [hvl];by_cases hc:i*m≤j∧j < i*m+m
            ·rw [if_pos hc] at hb;have h4:=hcells _ b hb;by_cases hc2:i*m+off≤j∧j < i*m+off+sz
             ·rw [if_pos hc2];rw [if_pos (by omega)] at h4;intro y hy;have e1:j - i*m - off=j - (i*m+off):=by omega
              rw [e1] at h4;exact Zkr hrd2 hpok _ _ h4 _ (by simpa using hy)
             ·rw [if_neg hc2];rw [if_neg (by omega)] at h4;have h5:=Ze1 hmm i (j - i*m) (by omega) hi;have e1:i*m+(j - i*m)=j:=by omega
              rw [e1] at h5;rw [h5];exact h4
            ·rw [if_neg hc] at hb;rw [if_neg (by omega)];exact hb
          obtain⟨w',hrun,hm2,hk2⟩:=put i' hm' hk';rw [Zi5 hs (by simpa using hvl) hrun];refine Zhi h hd hK (.inr ⟨rfl,rfl⟩) λi2 hmi hki=>?_;obtain⟨w2,hrun2,hm3,hk3⟩:=put i2 hmi hki;rw [hrun] at hrun2;cases hrun2;exact⟨hm3,hk3,.pure (.u _)⟩
         unfold putEl at hK
         have hgel:(es.getD i .u).cells.length=m:=by
          rw [List.getD_eq_getElem?_getD,List.getElem?_eq_getElem hi];exact hmm _ (List.getElem_mem _)
         by_cases hm1:m=1
         ·rw [if_pos hm1] at hK;obtain⟨⟨rfl,hone⟩,hK⟩:=hK;have h2:=Zou hpo hone;have h3:=Zf5 h2;have h4:sz=1:=by rw [←hlen,Zf5 hone];rfl
          refine key _ _ rfl (by rw [h3,hm1];rfl) (one_ok h2) (by omega) (λj b hb=>?_) hK;rw [h3] at hb
          match j with
          | 0=>rw [if_pos (by omega),h3];exact hb
          | j+1=>simp at hb
         ·rw [if_neg hm1] at hK
          cases hge:es.getD i .u with
          | agg ecs =>
            rw [hge] at hK hgel;obtain⟨hfit,hK⟩:=hK;change ecs.length=m at hgel;have hf2:off+(pubV (marks st.mem av.toks) av).cells.length≤ecs.length:=by omega
            refine key _ (.agg (Zd1 ecs off (pubV (marks st.mem av.toks) av).cells)) rfl ((Zd3 hf2).trans hgel) ?_ hfit (λj b hb=>?_) hK
            ·have hgok:(AV.agg ecs).ok=true:=by
              rw [←hge,List.getD_eq_getElem?_getD,List.getElem?_eq_getElem hi];exact hokk _ (List.getElem_mem _)
             refine List.all_eq_true.2 λb hb=>?_;simp only [Zd1,List.mem_append] at hb;rcases hb with(hb | hb) | hb
             ·exact List.all_eq_true.1 hgok b (List.mem_of_mem_take hb)
             ·exact ok_one hpok b hb
             ·exact List.all_eq_true.1 hgok b (List.mem_of_mem_drop hb)
            ·change (Zd1 ecs off (pubV (marks st.mem av.toks) av).cells)[j]?=some b at hb;rw [Zgh hf2,hplen,hlen] at hb;rw [hge];split
             ·rename_i hc
              rwa [if_pos hc] at hb
             ·rename_i hc
              rwa [if_neg hc] at hb
          | _=>rw [hge] at hK;exact hK.elim
   | _=>exact hK.elim
end
end Go.Pg
