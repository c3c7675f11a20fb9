/- Contracts of the functions that the law reaches, and the rules by which they are walked. They say what a call hands back for every input within the bounds that each names; no other condition. -/
import Derived.Below
import Derived.Laws.OwnMore
import Derived.Laws.Cells
import Derived.Deep.AppendLies
import Derived.Deep.Draws
import Derived.WalkKit
import Derived.WalkSpells
import Derived.WalkLawsBesides
import Derived.Lib.Hide
import Derived.Maps.AppendAt
import Derived.Lib.AppendStr
import Derived.Lib.AppendZeros
set_option linter.unusedSimpArgs false
set_option linter.unusedVariables false
set_option maxRecDepth 20000
set_option maxHeartbeats 16000000
theorem zo {p:Prop} (h:p:=by omega):p:=h
theorem zd {p:Prop} (h:p:=by decide):p:=h
theorem zs {p:Prop} (h:p:=by simp):p:=h
theorem zr {p:Prop} (h:p:=by rfl):p:=h
theorem zk {p:Prop} (h:p:=by kernel_rfl):p:=h
abbrev Zyj:=@if_neg
abbrev Zyk:=@if_pos
abbrev Zyl:=@decide_eq_false
abbrev Zym:=@List.getElem?_eq_getElem
abbrev Zyn:=@List.length_map
abbrev Zyo:=@decide_eq_true
abbrev Zyp:=@Nat.le_refl
abbrev Zyq:=@Bool.and_eq_decide
abbrev Zyr:=@Bool.or_eq_decide
abbrev Zys:=@Bool.decide_beq_decide
abbrev Zyt:=@decide_eq_decide
abbrev Zyu:=@List.getD_eq_getElem?_getD
abbrev Zyv:=@Nat.zero_le
abbrev Zyw:=@Int.zero_add
abbrev Zyx:=@List.length_cons
abbrev Zyy:=@Bool.false_eq_true
abbrev Zyz:=@Nat.le_trans
abbrev Zy0:=@List.length_nil
abbrev Zy1:=@List.length_take
abbrev Zy2:=@Go.Result.andThen_ok
abbrev Zy3:=@Go.Sem.run_bind
abbrev Zy4:=@Go.run_underlying
abbrev Zy5:=@Nat.lt_or_ge
abbrev Zy6:=@List.getElem_mem
abbrev Zy7:=@Bool.and_eq_true
abbrev Zy8:=@if_false
abbrev Zy9:=@Go.Sem.run_pure
abbrev Zza:=@List.length_append
abbrev Zzb:=@if_true
abbrev Zzc:=@Bool.false_and
abbrev Zzd:=@Nat.zero_add
abbrev Zze:=@Nat.add_mul
abbrev Zzf:=@Nat.mul_le_mul_right
abbrev Zzg:=@Bool.eq_iff_iff
abbrev Zzh:=@List.map_append
abbrev Zzi:=@decide_eq_true_eq
abbrev Zzj:=@Nat.mul_comm
abbrev Zzk:=@Nat.mul_add
abbrev Zzl:=@Array.getElem?_eq_getElem
abbrev Zzm:=@Nat.add_zero
abbrev Zzn:=@iff_true
abbrev Zzo:=@true_iff
abbrev Zzp:=@iff_false
abbrev Zzq:=@false_iff
abbrev Zzr:=@List.getElem?_append_left
abbrev Zzs:=@Nat.mod_lt
abbrev Zzt:=@List.append_assoc
abbrev Zzu:=@List.getElem?_map
abbrev Zzv:=@List.getElem?_append_right
abbrev Zzw:=@List.mem_cons_self
abbrev Zzx:=@List.map_nil
abbrev Zzy:=@List.mem_of_mem_take
abbrev Zzz:=@List.append_nil
abbrev Zz0:=@Nat.eq_zero_or_pos
abbrev Zz1:=@List.getElem?_eq_none
abbrev Zz2:=@List.map_cons
abbrev Zz3:=@Nat.mul_assoc
abbrev Zz4:=@Go.Addr.add_lit
abbrev Zz5:=@Int.toNat_natCast
abbrev Zz6:=@List.drop_eq_nil_of_le
abbrev Zz7:=@Option.map_some
abbrev Zz8:=@List.mem_cons
abbrev Zz9:=@Option.getD_some
abbrev ZAa:=@List.getD_cons_zero
abbrev ZAb:=@List.getD_cons_succ
abbrev ZAc:=@Bool.or_eq_true
abbrev ZAd:=@List.mem_cons_of_mem
abbrev ZAe:=@List.getElem?_take
abbrev ZAf:=@List.take_length
abbrev ZAg:=@List.drop_zero
abbrev ZAh:=@Nat.pow_succ
abbrev ZAi:=@Array.getD_eq_getD_getElem?
abbrev ZAj:=@Nat.one_mul
abbrev ZAk:=@Nat.min_eq_left
abbrev ZAl:=@List.take_of_length_le
abbrev ZAm:=@List.getElem?_toArray
abbrev ZAn:=@beq_iff_eq
abbrev ZAo:=@Go.ready_mono
abbrev ZAp:=@Nat.pow_add
abbrev ZAq:=@Nat.lt_of_lt_of_le
abbrev ZAr:=@List.mem_singleton
abbrev ZAs:=@Bool.not_eq_true'
abbrev ZAt:=@Nat.mod_eq_of_lt
abbrev ZAu:=@Ne.symm
abbrev ZAv:=@Bool.true_and
abbrev ZAw:=@List.take_append_drop
abbrev ZAx:=@List.getElem?_drop
abbrev ZAy:=@Nat.div_add_mod
abbrev ZAz:=@Nat.pos_of_ne_zero
abbrev ZA0:=@Nat.mul_zero
abbrev ZA1:=@Nat.pow_le_pow_right
abbrev ZA2:=@List.mem_of_mem_drop
abbrev ZA3:=@List.all_eq_true
abbrev ZA4:=@Int.natAbs_mul
abbrev ZA5:=@List.length_drop
abbrev ZA6:=@List.mem_of_getElem?
abbrev ZA7:=@Int.natCast_zero
abbrev ZA8:=@Int.natAbs_natCast
abbrev ZA9:=@Bool.and_false
abbrev ZBa:=@Array.getElem?_toList
abbrev ZBb:=@Array.length_toList
abbrev ZBc:=@List.mem_append
abbrev ZBd:=@List.take_zero
abbrev ZBe:=@decide_eq_false_iff_not
abbrev ZBf:=@Nat.mul_le_mul_left
abbrev ZBg:=@Int.toNat_of_nonneg
abbrev ZBh:=@Nat.add_comm
abbrev ZBi:=@Nat.sub_zero
abbrev ZBj:=@List.eq_of_mem_replicate
abbrev ZBk:=@Nat.div_lt_iff_lt_mul
abbrev ZBl:=@List.cons_append
abbrev ZBm:=@List.drop_eq_getElem_cons
abbrev ZBn:=@List.map_congr_left
abbrev ZBo:=@Go.getD_set_ne
abbrev ZBp:=@Int.lt_trichotomy
abbrev ZBq:=@List.eq_nil_of_length_eq_zero
abbrev ZBr:=@List.flatMap_cons
abbrev ZBs:=@Nat.add_sub_cancel_left
abbrev ZBt:=@Nat.mul_one
abbrev ZBu:=@List.drop_drop
abbrev ZBv:=@Go.Code.wp_mono
abbrev ZBw:=@Bool.or_eq_false_iff
abbrev ZBx:=@List.take_succ_eq_append_getElem
abbrev ZBy:=@Int.natCast_nonneg
abbrev ZBz:=@Nat.mul_left_comm
abbrev ZB0:=@Int.sign_eq_neg_one_of_neg
abbrev ZB1:=@Array.getElem?_eq_none
abbrev ZB2:=@List.nil_append
abbrev ZB3:=@List.all_cons
abbrev ZB4:=@Bool.not_true
abbrev ZB5:=@Array.getElem?_append_left
abbrev ZB6:=@List.getElem?_cons_zero
abbrev ZB7:=@Nat.gcd_comm
abbrev ZB8:=@List.take_add_one
abbrev ZB9:=@Nat.dvd_refl
abbrev ZCa:=@Go.World.cell?_alloc_lt
abbrev ZCb:=@Go.World.grownBy_alloc
abbrev ZCc:=@List.length_replicate
abbrev ZCd:=@Nat.div_one
abbrev ZCe:=@Bool.not_false
abbrev ZCf:=@Nat.le_mul_of_pos_right
abbrev ZCg:=@List.drop_length
abbrev ZCh:=@Nat.mul_ne_zero
abbrev ZCi:=@Rat.add_zero
abbrev ZCj:=@Option.bind_some
abbrev ZCk:=@List.getElem?_range
abbrev ZCl:=@List.mem_or_eq_of_mem_set
abbrev ZCm:=@Array.getElem?_map
abbrev ZCn:=@List.getElem?_cons_succ
abbrev ZCo:=@Go.MapKept.run_getObj_map
abbrev ZCp:=@Nat.sub_self
abbrev ZCq:=@Array.setIfInBounds_comm
abbrev ZCr:=@Nat.add_sub_cancel
abbrev ZCs:=@Nat.sub_add_cancel
abbrev ZCt:=@Nat.two_pow_pos
abbrev ZCu:=@Nat.div_le_self
abbrev ZCv:=@Rat.mkRat_self
abbrev ZCw:=@List.size_toArray
abbrev ZCx:=@Nat.add_assoc
abbrev ZCy:=@Int.eq_ofNat_of_zero_le
abbrev ZCz:=@List.getElem?_replicate
abbrev ZC0:=@Array.toArray_toList
abbrev ZC1:=@Nat.lt_of_le_of_lt
abbrev ZC2:=@Nat.div_eq_of_lt
abbrev ZC3:=@Int.sign_eq_one_of_pos
abbrev ZC4:=@Int.mul_ediv_cancel_left
abbrev ZC5:=@Nat.add_le_add
abbrev ZC6:=@Rat.mul_zero
abbrev ZC7:=@Nat.dvd_mul_right
abbrev ZC8:=@Go.World.ownsRow_nil
abbrev ZC9:=@List.foldl_cons
abbrev ZDa:=@Array.getElem?_modify
abbrev ZDb:=@List.take_succ_cons
abbrev ZDc:=@Int.fdiv_eq_ediv_of_nonneg
abbrev ZDd:=@Nat.mul_le_mul
abbrev ZDe:=@Nat.mul_lt_mul_of_pos_right
abbrev ZDf:=@Nat.gcd_pos_of_pos_right
abbrev ZDg:=@Array.getElem?_setIfInBounds
abbrev ZDh:=@Array.getElem?_setIfInBounds_ne
abbrev ZDi:=@List.drop_succ_cons
abbrev ZDj:=@beq_eq_false_iff_ne
abbrev ZDk:=@Nat.div_div_eq_div_mul
namespace Go.Pg
open Go Go.RowKit
inductive AV where
 | v (x:Value)
 | sl (m:Nat) (es:List AV)
 | agg (cs:List AV)
 | tup (vs:List AV)
 | pimm (cs:List AV)
 | fn (f:FuncId) (caps:List AV)
 | ifc (t:TypeId) (x:AV)
 | own (k:Nat) (sv:Value)
 | prow (k:Nat) (sv:Value) (m i off:Nat)
 | pbox (k g off:Nat)
 | view (k:Nat) (sv:Value) (m i len:Nat)
 | mp (k h:Nat)
 | u
 deriving Inhabited
def AV.cells:AV→List AV
 | .agg cs=>cs
 | x=>[x]
def flat (es:List AV):List AV:=es.flatMap AV.cells
def AV.one:AV→Bool
 | .v x=>x.oneCell'
 | .agg _ | .tup _ | .u=>false
 | _=>true
def AV.ok:AV→Bool
 | .agg cs=>cs.all AV.one
 | x=>x.one
abbrev Imm:=Addr→Prop
inductive Rd (w:World) (imm:Imm):AV→Value→Prop
 | v (x:Value):Rd w imm (.v x) x
 | u (x:Value):Rd w imm .u x
 | sl (m:Nat) (es:List AV) (A:Option Addr) (cap:Nat) (f:Nat→Value) (hm:∀e∈es,e.cells.length=m) (hok:∀e∈es,e.ok=true)
  (hcap:es.length≤cap) (hn:0 < es.length→A≠none)
  (hA:∀j,j < es.length*m→∃ad,A=some ad∧imm (ad.add j)∧w.cell? (ad.add j)=some (f j))
  (hr:∀(j:Nat) (a:AV),(flat es)[j]?=some a→Rd w imm a (f j)):Rd w imm (.sl m es) (.slice A es.length cap)
 | agg (cs:List AV) (vs:Array Value) (hl:cs.length=vs.size) (hr:∀(j:Nat) (a:AV) (x:Value),cs[j]?=some a→vs[j]?=some x→Rd w imm a x):Rd w imm (.agg cs) (.agg vs)
 | tup (cs:List AV) (vs:Array Value) (hl:cs.length=vs.size) (hr:∀(j:Nat) (a:AV) (x:Value),cs[j]?=some a→vs[j]?=some x→Rd w imm a x):Rd w imm (.tup cs) (.tuple vs)
 | pimm (cs:List AV) (ad:Addr) (f:Nat→Value) (hA:∀j,j < cs.length→imm (ad.add j)∧w.cell? (ad.add j)=some (f j))
  (hr:∀(j:Nat) (a:AV),cs[j]?=some a→Rd w imm a (f j)):Rd w imm (.pimm cs) (.pointer (some ad))
 | fn (f:FuncId) (cs:List AV) (vs:Array Value) (hl:cs.length=vs.size) (hr:∀(j:Nat) (a:AV) (x:Value),cs[j]?=some a→vs[j]?=some x→Rd w imm a x):Rd w imm (.fn f cs) (.func (.func f) #[] vs)
 | ifc (t:TypeId) (a:AV) (x:Value) (h:Rd w imm a x):Rd w imm (.ifc t a) (.iface t x)
 | own (k:Nat) (sv:Value) (h:sv.oneCell'=true):Rd w imm (.own k sv) sv
theorem Rd.keep {w w':World} {imm imm':Imm} {a:AV} {x:Value} (h:Rd w imm a x) (hi:∀ad,imm ad→imm' ad) (hw:∀ad,imm ad→w'.cell? ad=w.cell? ad):Rd w' imm' a x:=by
 induction h with
 | v x=>exact .v x
 | u x=>exact .u x
 | sl m es A cap f hm hok hcap hn hA _ ih =>
   exact .sl m es A cap f hm hok hcap hn (λj hj=>by
    obtain⟨ad,e,h1,h2⟩:=hA j hj;exact⟨ad,e,hi _ h1,(hw _ h1).trans h2⟩) ih
 | agg cs vs hl _ ih=>exact .agg cs vs hl ih
 | tup cs vs hl _ ih=>exact .tup cs vs hl ih
 | pimm cs ad f hA _ ih=>exact .pimm cs ad f (λj hj=>⟨hi _ (hA j hj).1,(hw _ (hA j hj).1).trans (hA j hj).2⟩) ih
 | fn f cs vs hl _ ih=>exact .fn f cs vs hl ih
 | ifc t a x _ ih=>exact .ifc t a x ih
 | own k sv h=>exact .own k sv h
def ViewOk (sv:Value) (m i len:Nat) (y:Value):Prop :=
 (sv=.slice none 0 0∧i=0∧len=0∧y=sv) ∨
 ∃g n c off cap,sv=.slice (some ⟨g,0,none⟩) n c∧y=.slice (some ⟨g,off,none⟩) len cap∧i+len≤n∧len≤cap∧(0 < len→off=i*m)∧(i=0→off=0∧cap=c)
theorem ViewOk.one {sv:Value} {m i len:Nat} {y:Value} (h:ViewOk sv m i len y):y.oneCell'=true:=by
 rcases h with⟨rfl,_,_,rfl⟩ | ⟨g,n,c,off,cap,_,rfl,_⟩<;>rfl
inductive Rs (w:World) (imm:Imm):AV→Value→Prop
 | pure {a:AV} {x:Value} (h:Rd w imm a x):Rs w imm a x
 | own (k:Nat) (sv:Value) (h:sv.oneCell'=true):Rs w imm (.own k sv) sv
 | prow (k:Nat) (sv:Value) (m i off g n c:Nat) (h:sv=.slice (some ⟨g,0,none⟩) n c):Rs w imm (.prow k sv m i off) (.pointer (some ⟨g,i*m+off,none⟩))
 | pbox (k g off:Nat):Rs w imm (.pbox k g off) (.pointer (some ⟨g,off,none⟩))
 | view (k:Nat) (sv:Value) (m i len:Nat) (y:Value) (h:ViewOk sv m i len y):Rs w imm (.view k sv m i len) y
 | mp (k h:Nat):Rs w imm (.mp k h) (.map (some h))
 | agg (cs:List AV) (vs:Array Value) (hl:cs.length=vs.size) (hr:∀(j:Nat) (a:AV) (x:Value),cs[j]?=some a→vs[j]?=some x→Rs w imm a x):Rs w imm (.agg cs) (.agg vs)
 | tup (cs:List AV) (vs:Array Value) (hl:cs.length=vs.size) (hr:∀(j:Nat) (a:AV) (x:Value),cs[j]?=some a→vs[j]?=some x→Rs w imm a x):Rs w imm (.tup cs) (.tuple vs)
 | fn (f:FuncId) (cs:List AV) (vs:Array Value) (hl:cs.length=vs.size) (hr:∀(j:Nat) (a:AV) (x:Value),cs[j]?=some a→vs[j]?=some x→Rs w imm a x):Rs w imm (.fn f cs) (.func (.func f) #[] vs)
 | ifc (t:TypeId) (a:AV) (x:Value) (h:Rs w imm a x):Rs w imm (.ifc t a) (.iface t x)
theorem Rs.keep {w w':World} {imm imm':Imm} {a:AV} {x:Value} (h:Rs w imm a x) (hi:∀ad,imm ad→imm' ad) (hw:∀ad,imm ad→w'.cell? ad=w.cell? ad):Rs w' imm' a x:=by
 induction h with
 | pure h=>exact .pure (h.keep hi hw)
 | own k sv h=>exact .own k sv h
 | prow k sv m i off g n c h=>exact .prow k sv m i off g n c h
 | pbox k g off=>exact .pbox k g off
 | view k sv m i len y h=>exact .view k sv m i len y h
 | mp k h=>exact .mp k h
 | agg cs vs hl _ ih=>exact .agg cs vs hl ih
 | tup cs vs hl _ ih=>exact .tup cs vs hl ih
 | fn f cs vs hl _ ih=>exact .fn f cs vs hl ih
 | ifc t a x _ ih=>exact .ifc t a x ih
section inv
variable {w:World} {imm:Imm}
theorem Rs.v_inv {x y:Value} (h:Rs w imm (.v x) y):y=x:=by
 cases h with
 | pure h=>cases h;rfl
theorem Rs.own_inv {k:Nat} {sv y:Value} (h:Rs w imm (.own k sv) y):y=sv:=by
 cases h with
 | pure h=>cases h;rfl
 | own=>rfl
theorem Rs.own_one {k:Nat} {sv y:Value} (h:Rs w imm (.own k sv) y):sv.oneCell'=true:=by
 cases h with
 | pure h=>cases h with | own _ _ h=>exact h
 | own _ _ h=>exact h
theorem Rs.pbox_inv {k g off:Nat} {y:Value} (h:Rs w imm (.pbox k g off) y):y=.pointer (some ⟨g,off,none⟩):=by
 cases h with
 | pure h=>cases h
 | pbox=>rfl
theorem Rs.view_inv {k m i len:Nat} {sv y:Value} (h:Rs w imm (.view k sv m i len) y):ViewOk sv m i len y:=by
 cases h with
 | pure h=>cases h
 | view _ _ _ _ _ _ h=>exact h
theorem Rs.mp_inv {k g:Nat} {y:Value} (h:Rs w imm (.mp k g) y):y=.map (some g):=by
 cases h with
 | pure h=>cases h
 | mp=>rfl
theorem Rs.prow_inv {k m i off:Nat} {sv y:Value} (h:Rs w imm (.prow k sv m i off) y):∃g n c,sv=.slice (some ⟨g,0,none⟩) n c∧y=.pointer (some ⟨g,i*m+off,none⟩):=by
 cases h with
 | pure h=>cases h
 | prow _ _ _ _ _ g n c h=>exact⟨g,n,c,h,rfl⟩
theorem Rs.agg_inv {cs:List AV} {y:Value} (h:Rs w imm (.agg cs) y):∃vs,y=.agg vs∧cs.length=vs.size∧∀(j:Nat) (a:AV) (x:Value),cs[j]?=some a→vs[j]?=some x→Rs w imm a x:=by
 cases h with
 | pure h=>cases h with
   | agg _ vs hl hr=>exact⟨vs,rfl,hl,λj a x h1 h2=>.pure (hr j a x h1 h2)⟩
 | agg _ vs hl hr=>exact⟨vs,rfl,hl,hr⟩
theorem Rs.tup_inv {cs:List AV} {y:Value} (h:Rs w imm (.tup cs) y):∃vs,y=.tuple vs∧cs.length=vs.size∧∀(j:Nat) (a:AV) (x:Value),cs[j]?=some a→vs[j]?=some x→Rs w imm a x:=by
 cases h with
 | pure h=>cases h with
   | tup _ vs hl hr=>exact⟨vs,rfl,hl,λj a x h1 h2=>.pure (hr j a x h1 h2)⟩
 | tup _ vs hl hr=>exact⟨vs,rfl,hl,hr⟩
theorem Rs.fn_inv {f:FuncId} {cs:List AV} {y:Value} (h:Rs w imm (.fn f cs) y):∃vs,y=.func (.func f) #[] vs∧cs.length=vs.size∧∀(j:Nat) (a:AV) (x:Value),cs[j]?=some a→vs[j]?=some x→Rs w imm a x:=by
 cases h with
 | pure h=>cases h with
   | fn _ _ vs hl hr=>exact⟨vs,rfl,hl,λj a x h1 h2=>.pure (hr j a x h1 h2)⟩
 | fn _ _ vs hl hr=>exact⟨vs,rfl,hl,hr⟩
theorem Rs.ifc_inv {t:TypeId} {a:AV} {y:Value} (h:Rs w imm (.ifc t a) y):∃x,y=.iface t x∧Rs w imm a x:=by
 cases h with
 | pure h=>cases h with
   | ifc _ _ x h=>exact⟨x,rfl,.pure h⟩
 | ifc _ _ x h=>exact⟨x,rfl,h⟩
theorem Rs.sl_inv {m:Nat} {es:List AV} {y:Value} (h:Rs w imm (.sl m es) y):∃(A:Option Addr) (cap:Nat) (f:Nat→Value),y=.slice A es.length cap∧es.length≤cap∧(∀e∈es,e.cells.length=m)∧(∀e∈es,e.ok=true)∧(0 < es.length→A≠none) ∧
 (∀j,j < es.length*m→∃ad,A=some ad∧imm (ad.add j)∧w.cell? (ad.add j)=some (f j))∧(∀(j:Nat) (a:AV),(flat es)[j]?=some a→Rd w imm a (f j)):=by
 cases h with
 | pure h=>cases h with
   | sl _ _ A cap f hm hok hcap hn hA hr=>exact⟨A,cap,f,rfl,hcap,hm,hok,hn,hA,hr⟩
theorem Rs.pimm_inv {cs:List AV} {y:Value} (h:Rs w imm (.pimm cs) y):∃(ad:Addr) (f:Nat→Value),y=.pointer (some ad)∧(∀j,j < cs.length→imm (ad.add j)∧w.cell? (ad.add j)=some (f j))∧(∀(j:Nat) (a:AV),cs[j]?=some a→Rd w imm a (f j)):=by
 cases h with
 | pure h=>cases h with
   | pimm _ ad f hA hr=>exact⟨ad,f,rfl,hA,hr⟩
end inv
structure Blw (B:Nat) (w w':World):Prop extends Below B w w' where
 drawn:w.drawn≤w'.drawn
theorem Blw.refl (B:Nat) (w:World):Blw B w w:=⟨Below.refl _ _,Zyp _⟩
theorem Blw.trans {B:Nat} {a b c:World} (h:Blw B a b) (k:Blw B b c):Blw B a c:=⟨h.toBelow.trans k.toBelow,Zyz h.drawn k.drawn⟩
theorem Blw.mono {B B':Nat} {w w':World} (h:Blw B w w') (hB:B'≤B):Blw B' w w':=⟨h.toBelow.mono hB,h.drawn⟩
theorem Blw.drew {B:Nat} {a w:World} (h:Blw B a w):Blw B a w.drew:=⟨h.toBelow.drew,Zyz h.drawn (Nat.le_succ _)⟩
theorem Blw.grown {B:Nat} {a w w':World} {row:Option Nat} (h:Blw B a w) (hg:w.grownBy w' row) (hd:w.drawn≤w'.drawn) (hB:B≤w.heap.size) (hr:∀k,row=some k→B≤k):Blw B a w':=⟨h.toBelow.grown hg hB hr,Zyz h.drawn hd⟩
inductive MKey where
 | s (b:ByteArray)
 | l (ns:List Int)
def MKey.val:MKey→Value
 | .s b=>.string b
 | .l ns=>.agg (ns.map (Value.int .i64)).toArray
def MKey.like:MKey→MKey→Bool
 | .s _,.s _=>true
 | .l a,.l b=>a.length == b.length
 | _,_=>false
instance:Coe ByteArray MKey:=⟨.s⟩
instance:DecidableEq MKey:=λa b=>match a,b with
 | .s x,.s y=>if h:x=y then .isTrue (by rw [h]) else .isFalse λg=>by cases g;exact h rfl
 | .l x,.l y=>if h:x=y then .isTrue (by rw [h]) else .isFalse λg=>by cases g;exact h rfl
 | .s _,.l _=>.isFalse λg=>by cases g
 | .l _,.s _=>.isFalse λg=>by cases g
def Born (es:Array MapEntry) (clock:Nat):Prop:=(∀x∈es.toList,x.born < clock)∧(es.toList.map (·.born)).Nodup
inductive Ent where
 | row (sv:Value) (e:TypeId) (m:Nat) (es:List AV) (pub:Nat)
 | box (g:Nat) (e:TypeId) (cs:List AV) (pub:Bool)
 | map (h:Nat) (es:List (MKey × AV))
 | obj (h:Nat) (o:Obj)
def Ent.blk:Ent→Option Nat
 | .row sv _ _ _ _=>sv.ownBlock
 | .box g _ _ _=>some g
 | .map h _=>some h
 | .obj h _=>some h
def EntOk (B:Nat) (w:World) (imm:Imm):Ent→Prop
 | .row sv e m es pub=>∃xs:List Value,w.ownsRow B e m sv es.length xs∧(∀x∈es,x.cells.length=m)∧(∀x∈es,x.ok=true)∧(∀(j:Nat) (a:AV) (x:Value),(flat es)[j]?=some a→xs[j]?=some x→Rd w imm a x) ∧
  pub≤es.length∧(∀ad,imm ad→sv.ownBlock=some ad.block→ad.off < pub*m)∧(∀g off,sv.ownBlock=some g→off < pub*m→imm ⟨g,off,none⟩)
 | .box g e cs pub=>∃cur:Array Value,w.heap[g]?=some (.cells cur e (0,0))∧B≤g∧cs.length=cur.size∧(∀x∈cs,x.one=true)∧(∀(j:Nat) (a:AV) (x:Value),cs[j]?=some a→cur[j]?=some x→Rs w imm a x) ∧
  (∀ad,imm ad→ad.block=g→pub=true)∧(pub=true→∀off,off < cs.length→imm ⟨g,off,none⟩)
 | .map h es=>∃(arr:Array MapEntry) (clock:Nat),w.heap[h]?=some (.map arr clock)∧B≤h∧es.length=arr.size∧(∀(j:Nat) (a:MKey × AV) (x:MapEntry),es[j]?=some a→arr[j]?=some x→x.key=a.1.val∧Rd w imm a.2 x.val)∧Born arr clock ∧
  (∀ad,imm ad→ad.block≠h)
 | .obj h o=>w.heap[h]?=some o∧B≤h∧∀ad,imm ad→ad.block≠h
abbrev Mem:=Nat→Option Ent
structure MemOk (B:Nat) (σ:Mem) (w:World) (imm:Imm):Prop where
 ent:∀k e,σ k=some e→EntOk B w imm e
 apart:∀k k' e e' b,σ k=some e→σ k'=some e'→e.blk=some b→e'.blk=some b→k=k'
 lt:∀ad,imm ad→ad.block < w.heap.size
 spot:∀ad,imm ad→ad.spot=none
theorem EntOk.blk_lt {B:Nat} {w:World} {imm:Imm} {e:Ent} (h:EntOk B w imm e) {b:Nat} (hb:e.blk=some b):B≤b∧b < w.heap.size:=by
 cases e with
 | row sv e m es pub =>
   obtain⟨xs,hown,_⟩:=h;exact hown.lt b hb
 | box g e cs pub =>
   obtain⟨cur,hh,hB,_⟩:=h;have:g=b:=by simpa [Ent.blk] using hb
   subst this;refine⟨hB,?_⟩;rcases Zy5 g w.heap.size with hlt | hge
   ·exact hlt
   ·rw [ZB1 hge] at hh;cases hh
 | map g es =>
   obtain⟨arr,clock,hh,hB,_⟩:=h;have:g=b:=by simpa [Ent.blk] using hb
   subst this;refine⟨hB,?_⟩;rcases Zy5 g w.heap.size with hlt | hge
   ·exact hlt
   ·rw [ZB1 hge] at hh;cases hh
 | obj g o =>
   obtain⟨hh,hB,_⟩:=h;have:g=b:=by simpa [Ent.blk] using hb
   subst this;refine⟨hB,?_⟩;rcases Zy5 g w.heap.size with hlt | hge
   ·exact hlt
   ·rw [ZB1 hge] at hh;cases hh
theorem Zd0 {w w':World} {row:Option Nat} (hg:w.grownBy w' row) {ad:Addr} (hlt:ad.block < w.heap.size) (hne:some ad.block≠row):w'.cell? ad=w.cell? ad :=
 World.cell?_of_block (hg.block _ hlt hne)
theorem EntOk.keep {B:Nat} {w w':World} {imm imm':Imm} {e:Ent} (h:EntOk B w imm e) {row:Option Nat} (hg:w.grownBy w' row) (hne:e.blk=none∨e.blk≠row)
 (hi:∀ad,imm ad→imm' ad) (hw:∀ad,imm ad→w'.cell? ad=w.cell? ad) (hnew:∀ad,imm' ad→imm ad∨e.blk≠some ad.block):EntOk B w' imm' e:=by
 cases e with
 | row sv e m es pub =>
   obtain⟨xs,hown,hm,hok,hr,hpl,hp,hq⟩:=h;refine⟨xs,hown.kept hg hne,hm,hok,λj a x h1 h2=>(hr j a x h1 h2).keep hi hw,hpl,λad h1 h2=>?_,λg off h1 h2=>hi _ (hq g off h1 h2)⟩;rcases hnew ad h1 with h3 | h3
   ·exact hp ad h3 h2
   ·exact absurd h2 h3
 | box g e cs pub =>
   have hlt:=h.blk_lt (b:=g) rfl;obtain⟨cur,hh,hB,hl,hone,hr,hp,hq⟩:=h;refine⟨cur,?_,hB,hl,hone,λj a x h1 h2=>(hr j a x h1 h2).keep hi hw,λad h1 h2=>?_,λh1 off h2=>hi _ (hq h1 off h2)⟩
   ·rw [hg.block g hlt.2 (by rcases hne with hne | hne;exact absurd hne (by simp [Ent.blk]);exact hne)];exact hh
   ·rcases hnew ad h1 with h3 | h3
    ·exact hp ad h3 h2
    ·exact absurd (by simp [Ent.blk,h2]) h3
 | map g es =>
   have hlt:=h.blk_lt (b:=g) rfl;obtain⟨arr,clock,hh,hB,hl,hr,hbo,hp⟩:=h;refine⟨arr,clock,?_,hB,hl,λj a x h1 h2=>⟨(hr j a x h1 h2).1,(hr j a x h1 h2).2.keep hi hw⟩,hbo,λad h1 h2=>?_⟩
   ·rw [hg.block g hlt.2 (by rcases hne with hne | hne;exact absurd hne (by simp [Ent.blk]);exact hne)];exact hh
   ·rcases hnew ad h1 with h3 | h3
    ·exact hp ad h3 h2
    ·exact absurd (by simp [Ent.blk,h2]) h3
 | obj g o =>
   have hlt:=h.blk_lt (b:=g) rfl;obtain⟨hh,hB,hp⟩:=h;refine⟨?_,hB,λad h1 h2=>?_⟩
   ·rw [hg.block g hlt.2 (by rcases hne with hne | hne;exact absurd hne (by simp [Ent.blk]);exact hne)];exact hh
   ·rcases hnew ad h1 with h3 | h3
    ·exact hp ad h3 h2
    ·exact absurd (by simp [Ent.blk,h2]) h3
theorem Zi0 {P:Program} (w:World) (base:Nat) (t ty e:TypeId) (i:TypeInfo) (z:Value) (ht:P.underlying t=some (.slice e)) (hi:P.info? e=some i) (hz:i.zero=some z)
 (hzs:z.cells.size=i.size) (v:Value) (n:Nat) (xs:List Value) (hown:w.ownsRow base e i.size v n xs)
 (A:Option Addr) (m c:Nat) (news:List Value) (hl:news.length=m*i.size) (hA:0 < m→A≠none) (hnews:∀ad,A=some ad→∀(j:Nat) (u:Value),news[j]?=some u→w.cell? (ad.add j)=some u) (h1:∀u∈news,u.oneCell'=true)
 (h63:n+m≤maxLen) (hbytes:(n+m)*i.bytes≤140737488355328) (hbase:base≤w.heap.size) :
 ∃v' w',(Builtin.append_ #[t,t] ty #[v,.slice A m c]).run P w=.ok v' w'∧w'.ownsRow base e i.size v' (n+m) (xs++news)∧w.grownBy w' v.ownBlock∧w.drawn≤w'.drawn ∧
  (v'.ownBlock=v.ownBlock∨v'.ownBlock=some w.heap.size)∧(∀g j,v.ownBlock=some g→j < n*i.size→w'.cell? ⟨g,j,none⟩=w.cell? ⟨g,j,none⟩):=by
 have hself:m=0→A=none→∃v' w',(Builtin.append_ #[t,t] ty #[v,.slice A m c]).run P w=.ok v' w'∧w'.ownsRow base e i.size v' (n+m) (xs++news)∧w.grownBy w' v.ownBlock∧w.drawn≤w'.drawn ∧
  (v'.ownBlock=v.ownBlock∨v'.ownBlock=some w.heap.size)∧(∀g j,v.ownBlock=some g→j < n*i.size→w'.cell? ⟨g,j,none⟩=w.cell? ⟨g,j,none⟩):=by
  intro hm hA0;subst hm;subst hA0;have hn:news=[]:=ZBq (by simpa using hl);subst hn;refine⟨v,w,?_,by simpa using hown,World.grownBy.refl w _,Zyp _,.inl rfl,λ_ _ _ _=>rfl⟩;rcases hown.2 with⟨rfl,rfl⟩ | ⟨g,cap,cur,rfl,_,_,hnc,_⟩
  ·simp [Builtin.append_,Zy4 ht,sizeOf,typeInfo,hi,Builtin.lenOf,Builtin.firstCells]
  ·simp [Builtin.append_,Zy4 ht,sizeOf,typeInfo,hi,Builtin.lenOf,Builtin.firstCells,hnc,storeCells]
 rcases A with _ | ad
 ·exact hself (by rcases Zz0 m with h | h;exact h;exact absurd rfl (hA h)) rfl
 have hnews:=hnews ad rfl;by_cases hroom:∃g cap,v=.slice (some ⟨g,0,none⟩) n cap∧n+m≤cap
 ·obtain⟨g,cap,rfl,hroom⟩:=hroom;obtain⟨w',hr,ho,hg⟩:=run_append_fits (P:=P) w base t ty e i i.size ht hi rfl g n cap xs hown ad m c news hl hnews h1 hroom;refine⟨_,w',hr,ho,hg,?_,.inl rfl,λg' j hg' hj=>?_⟩
  ·rcases hown.2 with⟨h,_⟩ | ⟨g',cap',cur,h,_,hgc,_,_,hcs,_⟩
   ·simp at h
   ·simp only [Value.slice.injEq,Option.some.injEq,Addr.mk.injEq,and_true,true_and] at h;obtain⟨rfl,rfl⟩:=h;have hr2:=run_append_room (P:=P) w t ty e i ht hi g n cap cur hgc ad m c news hl hnews h1 hroom (by rw [hl,hcs,←Zze];exact Zzf _ hroom);rw [hr] at hr2;injection hr2 with _ hr2
    rw [hr2];exact Zyp _
  have:g=g':=by simpa [Value.ownBlock] using hg'
  subst this;rw [ho.cellAt j (ZAq hj (Zzf _ (Nat.le_add_right _ _))),hown.cellAt j hj,Zzr (by rw [hown.1];exact hj)]
 ·by_cases hm:m=0∧v=.slice none 0 0
  ·obtain⟨rfl,rfl⟩:=hm;have hn:news=[]:=ZBq (by simpa using hl);subst hn;refine⟨.slice none 0 0,w,?_,by simpa using hown,World.grownBy.refl w _,Zyp _,.inl rfl,λg j hg=>by simp [Value.ownBlock] at hg⟩;simp [Builtin.append_,Zy4 ht,sizeOf,typeInfo,hi,Builtin.lenOf,Builtin.firstCells,loadCells,loadCellsFrom]
  ·
   have h63':n+m≤9223372036854775807:=by simp only [maxLen] at h63;omega
   have key:∀(old:Nat),old < n+m→∀w2:World,w2=w.drew.alloc (.cells (xs.toArray++news.toArray++Builtin.zeroCells z.cells (grownCap w (n+m) old e - (n+m))) e) →
    w2.ownsRow base e i.size (.slice (some ⟨w.heap.size,0,none⟩) (n+m) (grownCap w (n+m) old e)) (n+m) (xs++news)∧(∀row,w.grownBy w2 row)∧∀g j,v.ownBlock=some g→w2.cell? ⟨g,j,none⟩=w.cell? ⟨g,j,none⟩:=by
    rintro old hold w2 rfl
    have hlen:(xs++news).length=(n+m)*i.size:=by rw [Zza,hown.1,hl,Zze]
    have hge:=grownCap_ge w (n+m) old e;refine⟨⟨hlen,.inr ⟨w.heap.size,_,_,rfl,hbase,heap_alloc_new w.drew _,hge,grownCap_le_maxLen w (n+m) old e h63,?_,?_⟩⟩,λrow=>⟨rfl,rfl,rfl,by simp,λk hk _=>Below.heap_alloc w.drew _ k hk⟩,λg j hg=>?_⟩
    ·have hz2:=size_zeroCells z.cells (grownCap w (n+m) old e - (n+m));have hsum:n+m+(grownCap w (n+m) old e - (n+m))=grownCap w (n+m) old e:=zo;rw [Array.size_append,Array.size_append,hz2,hzs];simp only [ZCw];rw [hown.1,hl,←Zze,←Zze,hsum]
    ·rw [←hlen];simp only [Array.toList_append,Zzt];rw [←Zzt];exact List.take_left
    ·exact ZCa w.drew _ ⟨g,j,none⟩ (hown.lt g hg).2
   rcases hown.2 with⟨rfl,rfl⟩ | ⟨g,cap,cur,rfl,hbg,hg,hnc,hcm,hcs,htake⟩
   ·have hx:xs=[]:=ZBq (by simpa using hown.1);subst hx;have hm0:0 < m:=by rcases Zz0 m with h | h;exact absurd ⟨h,rfl⟩ hm;exact h
    have hr:=run_append_nil (P:=P) w t ty e i z ht hi hz ad m c news hl hnews hm0 zo (by have hb:=hbytes;simp only [Zzd] at hb;omega);have hk:=key 0 zo _ rfl;simp only [Zzd,ZB2,Array.empty_append] at hk ⊢;exact⟨_,_,hr,hk.1,hk.2.1 _,Nat.le_succ _,.inr rfl,λg j hg _=>hk.2.2 g j hg⟩
   ·have hnr:¬n+m≤cap:=λh=>hroom ⟨g,cap,rfl,h⟩;have holds:∀(j:Nat) (u:Value),xs[j]?=some u→w.cell? ((⟨g,0,none⟩:Addr).add j)=some u:=hown.cells (g:=g) rfl;have hr:=run_append_grow (P:=P) w t ty e i z ht hi hz ⟨g,0,none⟩ n cap xs hown.1 holds ad m c news hl hnews zo zo (growslice_fits zo hbytes);have hk:=key cap zo _ rfl;exact⟨_,_,hr,hk.1,hk.2.1 _,Nat.le_succ _,.inr rfl,λg j hg _=>hk.2.2 g j hg⟩
theorem Zq9 {P:Program} (w:World) (base:Nat) (t u ty e:TypeId) (i:TypeInfo) (ht:P.underlying t=some (.slice e)) (hu:P.underlying u=some .string) (hi:P.info? e=some i) (hz:i.zero=some (.int .u8 0))
 (hsize:i.size=1) (hby:i.bytes=1) (v:Value) (n:Nat) (xs:List Value) (hown:w.ownsRow base e 1 v n xs) (s:ByteArray) (h63:n+s.size≤maxLen) (hbytes:n+s.size≤140737488355328) (hbase:base≤w.heap.size) :
 ∃v' w',(Builtin.append_ #[t,u] ty #[v,.string s]).run P w=.ok v' w'∧w'.ownsRow base e 1 v' (n+s.size) (xs++Lib.strCells s)∧w.grownBy w' v.ownBlock∧w.drawn≤w'.drawn ∧
  (v'.ownBlock=v.ownBlock∨v'.ownBlock=some w.heap.size)∧(∀g j,v.ownBlock=some g→j < n*1→w'.cell? ⟨g,j,none⟩=w.cell? ⟨g,j,none⟩):=by
 obtain⟨v',w',hr,ho,hg,hnil⟩:=Lib.run_append_own_string (P:=P) w base t u ty e i ht hu hi hz hsize hby v n xs hown s h63 hbytes hbase;have hxl:xs.length=n:=by simpa using hown.1
 refine⟨v',w',hr,ho,hg,?_⟩;rcases hown.2 with⟨rfl,rfl⟩ | ⟨g,cap,cur,rfl,hbg,hgh,hnc,hcm,hcs,htake⟩
 ·by_cases hm:s.size=0
  ·have hv:=hnil.2 ⟨rfl,hm⟩;have hf:=Lib.run_firstCells_string (P:=P) w 1 s;rw [hm] at hf
   have hr2:(Builtin.append_ #[t,u] ty #[.slice none 0 0,.string s]).run P w=.ok (.slice none 0 0) w:=by
    simp [Builtin.append_,Zy4 ht,Zy4 hu,sizeOf,typeInfo,hi,hsize,Builtin.lenOf,hm,hf]
   rw [hr] at hr2;injection hr2 with hv hw
   subst hv;subst hw;exact⟨Zyp _,.inl rfl,λ_ _ _ _=>rfl⟩
  ·have hr2:=run_append_nil_string (P:=P) w t u ty e i (.int .u8 0) ht hu hi hz s zo (by simp only [maxLen] at h63;omega) (by rw [hby];omega);rw [hr] at hr2;injection hr2 with hv hw
   subst hv;subst hw;exact⟨Nat.le_succ _,.inr rfl,λg j hg'=>by simp [Value.ownBlock] at hg'⟩
 ·by_cases hroom:n+s.size≤cap
  ·have hcs':cur.size=cap:=by simpa using hcs
   have hr2:=Lib.run_append_room_string (P:=P) w t u ty e i ht hu hi hsize g n cap cur hgh s hroom zo;rw [hr] at hr2;injection hr2 with hv hw
   subst hv;refine⟨by rw [hw];exact Zyp _,.inl rfl,λg' j hg' hj=>?_⟩;have:g=g':=by simpa [Value.ownBlock] using hg'
   subst this;rw [ho.cellAt j zo,hown.cellAt j hj,Zzr (by rw [hxl];omega)]
  ·have holds:∀j u,xs[j]?=some u→w.cell? ((⟨g,0,none⟩:Addr).add j)=some u:=hown.cells (g:=g) rfl;have hr2:=Lib.run_append_grow_string (P:=P) w t u ty e i (.int .u8 0) ht hu hi hz ⟨g,0,none⟩ n cap xs (by rw [hsize];simpa using hxl) holds s zo (by simp only [maxLen] at h63;omega) (by rw [hby];exact growslice_fits zo zo);rw [hr] at hr2;injection hr2 with hv hw
   subst hv;subst hw;exact⟨Nat.le_succ _,.inr rfl,λg' j hg' _=>ZCa w.drew _ ⟨g',j,none⟩ (hown.lt g' hg').2⟩
end Go.Pg
namespace Go.Pg
open Go Go.RowKit
attribute [-bool_to_prop] Bool.and_eq_decide Bool.or_eq_decide Bool.decide_beq_decide decide_eq_decide
def Tb (_:World):Prop:=True
def TbB (_:Nat) (_:World):Prop:=True
theorem TbB.out {B:Nat} {w:World} (h:TbB B w):Tb w:=trivial
theorem TbB.keep {B:Nat} {w w':World} (h:TbB B w) (hb:Blw B w w'):TbB B w':=trivial
theorem TbB.same {B:Nat} {w w':World} (h:TbB B w) (hb:∀i,i < B→w'.heap[i]?=w.heap[i]?):TbB B w':=trivial
theorem Tb.here {w:World} (h:Tb w):TbB w.heap.size w:=trivial
theorem Tb.on {w w':World} (h:Tb w) (hb:Blw w.heap.size w w'):Tb w':=trivial
end Go.Pg
namespace Go.Pg
open Go Go.RowKit
def upd {α:Type} (f:Nat→α) (k:Nat) (v:α):Nat→α:=λn=>if n=k then v else f n
theorem Zal {α:Type} (f:Nat→α) (k:Nat) (v:α) (n:Nat):upd f k v n=if n=k then v else f n:=rfl
structure St where
 env:Nat→AV
 mem:Mem
def St.put (st:St) (d:Option Nat) (a:AV):St :=
 match d with
 | some d=>⟨upd st.env d a,st.mem⟩
 | none=>st
def Zac:Mem:=λ_=>none
def AV.ofVal:Value→AV
 | .agg cs=>.agg (cs.toList.map AV.v)
 | x=>.v x
def St.ev (st:St):Operand→AV
 | .tmp t=>st.env t
 | .const v=>AV.ofVal v
 | .global g=>.v (.pointer (some ⟨g,0,none⟩))
 | .func f=>.fn f []
def szOf (P:Program) (t:TypeId):Option Nat:=(P.info? t).map (·.size)
def Zea (P:Program) (t:TypeId):Option Nat:=(P.info? t).map (·.bytes)
def Zaq (P:Program) (t:TypeId):Option Value:=(P.info? t).bind (·.zero)
def Ent.mark:Ent→Ent
 | .row sv e m es _=>.row sv e m es es.length
 | .box g e cs _=>.box g e cs true
 | .map h es=>.map h es
 | .obj h o=>.obj h o
def mark (σ:Mem) (k:Nat):Mem:=upd σ k ((σ k).map Ent.mark)
def marks (σ:Mem):List Nat→Mem
 | []=>σ
 | k :: ks=>marks (mark σ k) ks
mutual
def AV.toks:AV→List Nat
 | .own k _=>[k]
 | .prow k _ _ _ _=>[k]
 | .pbox k _ _=>[k]
 | .view k _ _ _ _=>[k]
 | .mp k _=>[k]
 | .agg cs=>AV.toksL cs
 | .tup cs=>AV.toksL cs
 | .fn _ cs=>AV.toksL cs
 | .ifc _ x=>AV.toks x
 | _=>[]
def AV.toksL:List AV→List Nat
 | []=>[]
 | a :: r=>AV.toks a++AV.toksL r
end
def Zgd (σ:Mem):AV→Prop
 | .own k sv=>match σ k with
   | some (.row sv' _ _ es pub)=>sv=sv'∧pub=es.length
   | _=>False
 | .view k sv m _ _=>match σ k with
   | some (.row sv' _ m' es pub)=>sv=sv'∧m=m'∧pub=es.length
   | _=>False
 | .v _ | .sl _ _ | .pimm _ | .u=>True
 | _=>False
def Zli (σ:Mem):AV→AV
 | .own k _=>match σ k with
   | some (.row _ _ m es _)=>.sl m es
   | _=>.u
 | .view k _ _ i len=>match σ k with
   | some (.row _ _ m es _)=>.sl m ((es.take (i+len)).drop i)
   | _=>.u
 | x=>x
def Zjt (σ:Mem):List AV→Prop
 | []=>True
 | a :: r=>Zgd σ a∧Zjt σ r
mutual
def Zfs (σ:Mem):AV→Prop
 | .own k sv=>Zgd σ (.own k sv)
 | .view k sv m i len=>Zgd σ (.view k sv m i len)
 | .pbox k g off=>match σ k with
   | some (.box g' _ cs pub)=>g=g'∧pub=true∧off≤cs.length∧Zjt σ cs
   | _=>False
 | .prow _ _ _ _ _=>False
 | .mp _ _=>False
 | .agg cs=>Ze3 σ cs
 | .tup cs=>Ze3 σ cs
 | .fn _ cs=>Ze3 σ cs
 | .ifc _ x=>Zfs σ x
 | _=>True
def Ze3 (σ:Mem):List AV→Prop
 | []=>True
 | a :: r=>Zfs σ a∧Ze3 σ r
end
mutual
def pubV (σ:Mem):AV→AV
 | .own k sv=>Zli σ (.own k sv)
 | .view k sv m i len=>Zli σ (.view k sv m i len)
 | .pbox k _ off=>match σ k with
   | some (.box _ _ cs _)=>.pimm ((cs.map (Zli σ)).drop off)
   | _=>.u
 | .agg cs=>.agg (Zeo σ cs)
 | .tup cs=>.tup (Zeo σ cs)
 | .fn f cs=>.fn f (Zeo σ cs)
 | .ifc t x=>.ifc t (pubV σ x)
 | x=>x
def Zeo (σ:Mem):List AV→List AV
 | []=>[]
 | a :: r=>pubV σ a :: Zeo σ r
end
inductive Res where
 | val (a:AV) (ks:List Nat)
 | box (e:TypeId) (cs:List AV)
 | row (e:TypeId) (m:Nat) (es:List AV) (ks:List Nat)
 | app (k:Nat) (news:List AV) (ks:List Nat)
 | appv (k n:Nat) (news:List AV)
 | sto (a:AV) (k:Nat) (ent:Ent) (ks:List Nat)
 | call (f:FuncId) (args:List AV)
 | mapn
 | need (p:Prop) (r:Res)
 | bad
structure Cx where
 B:Nat
 w0:World
 imm0:Imm
 tb:TbB B w0
structure Mx (c:Cx) (σ:Mem) (w:World) (imm:Imm):Prop where
 ok:MemOk c.B σ w imm
 below:Blw c.B c.w0 w
 lt:c.B≤w.heap.size
 old:∀ad,c.imm0 ad→imm ad
 new:∀ad,imm ad→c.imm0 ad∨c.B≤ad.block
 cells:∀ad,c.imm0 ad→w.cell? ad=c.w0.cell? ad
structure Rel (c:Cx) (n:Nat) (st:St) (a:Act) (w:World) (imm:Imm):Prop where
 env:∀t,Rs w imm (st.env t) (a.tmps.getD t undef)
 size:a.tmps.size=n
 defers:a.defers=[]
 mem:Mx c st.mem w imm
def Keeps (w:World) (imm:Imm) (w':World) (imm':Imm):Prop:=∀ad,imm ad→imm' ad∧w'.cell? ad=w.cell? ad
theorem Keeps.rs {w w':World} {imm imm':Imm} (h:Keeps w imm w' imm') {a:AV} {x:Value} (hr:Rs w imm a x):Rs w' imm' a x:=hr.keep (λad h1=>(h ad h1).1) (λad h1=>(h ad h1).2)
theorem Keeps.rd {w w':World} {imm imm':Imm} (h:Keeps w imm w' imm') {a:AV} {x:Value} (hr:Rd w imm a x):Rd w' imm' a x:=hr.keep (λad h1=>(h ad h1).1) (λad h1=>(h ad h1).2)
theorem Keeps.refl (w:World) (imm:Imm):Keeps w imm w imm:=λ_ h=>⟨h,rfl⟩
theorem Keeps.trans {w w1 w2:World} {i i1 i2:Imm} (h:Keeps w i w1 i1) (k:Keeps w1 i1 w2 i2):Keeps w i w2 i2:=λad h1=>⟨(k ad (h ad h1).1).1,(k ad (h ad h1).1).2.trans (h ad h1).2⟩
theorem Mx.tbB {c:Cx} {σ:Mem} {w:World} {imm:Imm} (h:Mx c σ w imm):TbB c.B w:=c.tb.keep h.below
theorem Mx.tb {c:Cx} {σ:Mem} {w:World} {imm:Imm} (h:Mx c σ w imm):Tb w:=h.tbB.out
structure ImOk (w:World) (imm:Imm):Prop where
 at_:∀ad,imm ad→ad.block < w.heap.size∧ad.spot=none
 tb:Tb w
def ACall (P:Program) (f:FuncId) (args:List AV) (σ:Mem) (R:AV→Mem→Prop):Prop :=
 (∀(vs:Array Value) (w:World),(callFunc f vs).run P w=.ok (.enter f vs) w) ∧
 ∀(c:Cx) (w:World) (imm:Imm) (vs:Array Value),Mx c σ w imm→args.length=vs.size→(∀(j:Nat) (a:AV) (x:Value),args[j]?=some a→vs[j]?=some x→Rs w imm a x) →
  Calls P f vs w λe w'=>∃r σ' imm' x,e=.returned x∧R r σ'∧Rs w' imm' r x∧Mx c σ' w' imm'∧Keeps w imm w' imm'
def aRes (P:Program) (tok:Nat) (dst:Option Nat):Res→(St→Prop)→St→Prop
 | .val a ks,K,st=>K (St.put ⟨st.env,marks st.mem ks⟩ dst a)
 | .box e cs,K,st=>∀g:Nat,K (St.put ⟨st.env,upd st.mem tok (some (.box g e cs false))⟩ dst (.pbox tok g 0))
 | .row e m es ks,K,st=>∀sv:Value,K (St.put ⟨st.env,upd (marks st.mem ks) tok (some (.row sv e m es 0))⟩ dst (.own tok sv))
 | .app k news ks,K,st=>match marks st.mem ks k with
   | some (.row _ e m es pub)=>∀sv:Value,K (St.put ⟨st.env,upd (marks st.mem ks) k (some (.row sv e m (es++news) pub))⟩ dst (.own k sv))
   | _=>False
 | .appv k n news,K,st=>match st.mem k with
   | some (.row _ e m es pub)=>∀sv:Value,K (St.put ⟨st.env,upd st.mem k (some (.row sv e m (es.take n++news) pub))⟩ dst (.own k sv))
   | _=>False
 | .sto a k ent ks,K,st=>K (St.put ⟨st.env,upd (marks st.mem ks) k (some ent)⟩ dst a)
 | .call f args,K,st=>ACall P f args st.mem λr σ'=>K (St.put ⟨st.env,σ'⟩ dst r)
 | .mapn,K,st=>∀h:Nat,K (St.put ⟨st.env,upd st.mem tok (some (.map h []))⟩ dst (.mp tok h))
 | .need p r,K,st=>p∧aRes P tok dst r K st
 | .bad,_,_=>False
theorem Act.put_getD (a:Act) (d:Nat) (v:Value) (hd:d < a.tmps.size) (t:Nat):(a.put (some d) v).tmps.getD t undef=if t=d then v else a.tmps.getD t undef:=by
 simp only [Act.put,ZAi,ZDg];by_cases h:d=t
 ·subst h;simp [hd]
 ·simp [h,ZAu h]
theorem Act.put_size (a:Act) (d:Option Nat) (v:Value):(a.put d v).tmps.size=a.tmps.size:=by cases d<;>simp [Act.put]
theorem Act.put_defers' (a:Act) (d:Option Nat) (v:Value):(a.put d v).defers=a.defers:=by cases d<;>rfl
theorem Rel.step {c:Cx} {n:Nat} {st:St} {a:Act} {w w':World} {imm imm':Imm} (h:Rel c n st a w imm) (hk:Keeps w imm w' imm') {σ':Mem} (hm:Mx c σ' w' imm')
 {dst:Option Nat} (hd:∀d,dst=some d→d < n) {av:AV} {x:Value} (hx:Rs w' imm' av x):Rel c n (St.put ⟨st.env,σ'⟩ dst av) (a.put dst x) w' imm':=by
 cases dst with
 | none=>exact⟨λt=>hk.rs (h.env t),h.size,h.defers,hm⟩
 | some d =>
   refine⟨λt=>?_,by rw [Act.put_size];exact h.size,by rw [Act.put_defers'];exact h.defers,hm⟩;rw [Act.put_getD a d x (by rw [h.size];exact hd d rfl)];show Rs w' imm' (upd st.env d av t) _;rw [Zal];split
   ·exact hx
   ·exact hk.rs (h.env t)
theorem Rel.ev {c:Cx} {n:Nat} {st:St} {a:Act} {w:World} {imm:Imm} (h:Rel c n st a w imm) (x:Operand):Rs w imm (st.ev x) (a.eval x):=by
 cases x with
 | tmp t=>exact h.env t
 | const v =>
   show Rs w imm (AV.ofVal v) v;cases v<;>first
    | exact .pure (.v _)
    | (rename_i cs
       refine .pure (.agg _ cs zs λj a x h1 h2=>?_);simp only [Zzu,ZBa,h2,Zz7,Option.some.injEq] at h1;subst h1;exact .v _)
 | global g=>exact .pure (.v _)
 | func f=>exact .pure (.fn f [] #[] rfl λj a x h1 _=>by simp at h1)
def Ent.len:Ent→Nat
 | .row _ _ m es _=>es.length*m
 | .box _ _ cs _=>cs.length
 | .map _ _=>0
 | .obj _ _=>0
theorem Ent.mark_blk (e:Ent):e.mark.blk=e.blk:=by cases e<;>rfl
theorem EntOk.mark {B:Nat} {w:World} {imm imm':Imm} {e:Ent} (h:EntOk B w imm e) (hi:∀ad,imm ad→imm' ad) (hs:∀ad,imm' ad→imm ad∨(e.blk=some ad.block→ad.off < e.len))
 (hall:∀g off,e.blk=some g→off < e.len→imm' ⟨g,off,none⟩):EntOk B w imm' e.mark:=by
 cases e with
 | row sv e m es pub =>
   obtain⟨xs,hown,hm,hok,hr,hpl,hp,hq⟩:=h;refine⟨xs,hown,hm,hok,λj a x h1 h2=>(hr j a x h1 h2).keep hi (λ_ _=>rfl),Zyp _,λad h1 h2=>?_,λg off h1 h2=>hall g off h1 h2⟩;rcases hs ad h1 with h3 | h3
   ·exact ZAq (hp ad h3 h2) (Zzf _ hpl)
   ·exact h3 h2
 | box g e cs pub =>
   obtain⟨cur,hh,hB,hl,hone,hr,hp,hq⟩:=h;exact⟨cur,hh,hB,hl,hone,λj a x h1 h2=>(hr j a x h1 h2).keep hi (λ_ _=>rfl),λ_ _ _=>rfl,λ_ off h2=>hall g off rfl h2⟩
 | map g es =>
   obtain⟨arr,clock,hh,hB,hl,hr,hbo,hp⟩:=h;refine⟨arr,clock,hh,hB,hl,λj a x h1 h2=>⟨(hr j a x h1 h2).1,(hr j a x h1 h2).2.keep hi (λ_ _=>rfl)⟩,hbo,λad h1 h2=>?_⟩;rcases hs ad h1 with h3 | h3
   ·exact hp ad h3 h2
   ·exact absurd (h3 (by simp [Ent.blk,h2])) (by simp [Ent.len])
 | obj g o =>
   obtain⟨hh,hB,hp⟩:=h;refine⟨hh,hB,λad h1 h2=>?_⟩;rcases hs ad h1 with h3 | h3
   ·exact hp ad h3 h2
   ·exact absurd (h3 (by simp [Ent.blk,h2])) (by simp [Ent.len])
theorem Zw5 {c:Cx} {σ:Mem} {w:World} {imm:Imm} (h:Mx c σ w imm) (k:Nat):∃imm',Mx c (mark σ k) w imm'∧Keeps w imm w imm':=by
 cases hk:σ k with
 | none =>
   have:mark σ k=σ:=by
    funext j
    simp only [mark,Zal,hk,Option.map_none];split
    ·subst_vars;exact hk.symm
    ·rfl
   rw [this];exact⟨imm,h,Keeps.refl w imm⟩
 | some e =>
   have hlt:=λb hb=>(h.ok.ent k e hk).blk_lt (b:=b) hb
   let imm':Imm:=λad=>imm ad∨(e.blk=some ad.block∧ad.off < e.len∧ad.spot=none)
   have hi:∀ad,imm ad→imm' ad:=λad h1=>.inl h1;refine⟨imm',⟨⟨λj e' hj=>?_,λj j' e1 e2 b h1 h2 h3 h4=>?_,λad h1=>?_,λad h1=>h1.elim (h.ok.spot ad) λh2=>h2.2.2⟩,h.below,h.lt,λad h1=>.inl (h.old ad h1),λad h1=>?_,h.cells⟩,λad h1=>⟨.inl h1,rfl⟩⟩
   ·simp only [mark,Zal] at hj;by_cases hjk:j=k
    ·subst hjk;rw [Zyk rfl,hk] at hj;simp only [Zz7,Option.some.injEq] at hj;subst hj;exact(h.ok.ent _ e hk).mark hi (λad h1=>h1.imp id λh2 _=>h2.2.1) (λg off h1 h2=>.inr ⟨h1,h2,rfl⟩)
    ·rw [Zyj hjk] at hj;refine(h.ok.ent j e' hj).keep (World.grownBy.refl w none) ?_ hi (λ_ _=>rfl) λad h1=>?_
     ·rcases hb:e'.blk with _ | b
      ·exact .inl rfl
      ·exact .inr zs
     ·rcases h1 with h1 | ⟨h1,_⟩
      ·exact .inl h1
      ·exact .inr λh2=>hjk (h.ok.apart j k e' e _ hj hk h2 h1)
   ·have conv:∀(i:Nat) (e':Ent),mark σ k i=some e'→∃e'',σ i=some e''∧e''.blk=e'.blk:=by
     intro i e' hi;simp only [mark,Zal] at hi;by_cases hik:i=k
     ·rw [Zyk hik,hk] at hi;simp only [Zz7,Option.some.injEq] at hi;exact⟨e,hik ▸ hk,by rw [←hi,Ent.mark_blk]⟩
     ·rw [Zyj hik] at hi;exact⟨e',hi,rfl⟩
    obtain⟨a1,p1,q1⟩:=conv j e1 h1
    obtain⟨a2,p2,q2⟩:=conv j' e2 h2
    exact h.ok.apart j j' a1 a2 b p1 p2 (q1.trans h3) (q2.trans h4)
   ·rcases h1 with h1 | ⟨h1,_⟩
    ·exact h.ok.lt ad h1
    ·exact(hlt _ h1).2
   ·rcases h1 with h1 | ⟨h1,_⟩
    ·exact h.new ad h1
    ·exact .inr (hlt _ h1).1
theorem Zc1 {c:Cx} {w:World} (ks:List Nat):∀{σ:Mem} {imm:Imm},Mx c σ w imm→∃imm',Mx c (marks σ ks) w imm'∧Keeps w imm w imm':=by
 induction ks with
 | nil=>exact λh=>⟨_,h,Keeps.refl w _⟩
 | cons k ks ih =>
   intro σ imm h;obtain⟨i1,h1,k1⟩:=Zw5 h k;obtain⟨i2,h2,k2⟩:=ih h1;exact⟨i2,h2,k1.trans k2⟩
theorem Zaz {m:Nat}:∀{l:List AV},(∀x∈l,x.cells.length=m)→(flat l).length=l.length*m
 | [],_=>by simp [flat]
 | a :: r,hl=>by
   have h1:=Zaz (l:=r) λx hx=>hl x (ZAd _ hx);have h2:=hl a (Zzw ..);simp only [flat,ZBr,Zza,Zyx] at h1 ⊢;rw [h1,h2,Zze,ZAj,ZBh]
theorem Zbk (a b:List AV):flat (a++b)=flat a++flat b:=by simp [flat]
theorem Zng {m:Nat} {es:List AV} (hm:∀x∈es,x.cells.length=m) {l hh:Nat} (h1:l≤hh) (h2:hh≤es.length) (j:Nat) (b:AV) (hb:(flat ((es.take hh).drop l))[j]?=some b):(flat es)[l*m+j]?=some b:=by
 have e1:flat es=flat (es.take l)++(flat ((es.take hh).drop l)++flat (es.drop hh)):=by
  rw [←Zbk,←Zbk];congr 1;have e2:es.take l=(es.take hh).take l:=by rw [List.take_take,ZAk h1]
  rw [e2,←Zzt,ZAw,ZAw]
 have hl1:(flat (es.take l)).length=l*m:=by
  rw [Zaz λe he=>hm e (Zzy he),Zy1,ZAk zo]
 have hj:=(List.getElem?_eq_some_iff.1 hb).1;rw [e1,Zzv zo,hl1,ZBs,Zzr hj];exact hb
theorem view_rd {w:World} {imm:Imm} {m:Nat} {es:List AV} {sv y:Value} {i len:Nat} (h:Rd w imm (.sl m es) sv) (hv:ViewOk sv m i len y):Rd w imm (.sl m ((es.take (i+len)).drop i)) y:=by
 obtain⟨A,cap',f,hval,hcap,hm,hok,hn,hA,hr⟩:=(Rs.pure h).sl_inv;rcases hv with⟨rfl,rfl,rfl,rfl⟩ | ⟨g,n,c,off,cap,rfl,rfl,hle,hlc,hoff,_⟩
 ·exact .sl m [] none 0 (λ_=>undef) zs zs (Zyp _) zs zs (by simp [flat])
 ·cases hval;have hlen:((es.take (i+len)).drop i).length=len:=by simp;omega
  have hsub:∀e∈(es.take (i+len)).drop i,e∈es:=λe he=>Zzy (ZA2 he);have key:=Rd.sl (w:=w) (imm:=imm) m ((es.take (i+len)).drop i) (some ⟨g,off,none⟩) cap (λj=>f (i*m+j)) (λe he=>hm e (hsub e he)) (λe he=>hok e (hsub e he)) (by rw [hlen];exact hlc) (λ_=>by simp) (λj hj=>?_) (λj b hb=>hr _ b (Zng hm zo hle j b hb))
  ·rwa [hlen] at key
  ·rw [hlen] at hj
   have hl0:0 < len:=by
    rcases Zz0 len with h5 | h5
    ·rw [h5] at hj;omega
    ·exact h5
   have hmul:i*m+len*m≤es.length*m:=by rw [←Zze];exact Zzf _ hle
   obtain⟨ad,h5,h6,h7⟩:=hA (i*m+j) zo;cases h5;rw [Zz4,Zzd] at h6 h7;rw [hoff hl0];exact⟨_,rfl,by rw [Zz4];exact h6,by rw [Zz4];exact h7⟩
theorem Zvp {c:Cx} {σ:Mem} {w:World} {imm:Imm} (h:Mx c σ w imm) {k:Nat} {sv:Value} {e:TypeId} {m:Nat} {es:List AV} {pub:Nat} (hk:σ k=some (.row sv e m es pub)) (hp:pub=es.length) :
 Rd w imm (.sl m es) sv:=by
 obtain⟨xs,hown,hm,hok,hr,hpl,_,hq⟩:=h.ok.ent k _ hk
 have hfl:(flat es).length=es.length*m:=by
  have:∀l:List AV,(∀x∈l,x.cells.length=m)→(flat l).length=l.length*m:=by
   intro l
   induction l with
   | nil=>intro _;simp [flat]
   | cons a r ih =>
     intro hl;have h1:=ih λx hx=>hl x (ZAd _ hx);have h2:=hl a (Zzw ..);simp only [flat,ZBr,Zza,Zyx] at h1 ⊢;rw [h1,h2,Zze,ZAj,ZBh]
  exact this es hm
 rcases hown.2 with⟨rfl,hn⟩ | ⟨g,cap,cur,rfl,hB,hh,hnc,hcm,hcs,htake⟩
 ·have:es=[]:=ZBq hn;subst this;exact .sl m [] none 0 (λ_=>undef) zs zs zs zs zs (by simp [flat])
 ·refine .sl m es (some ⟨g,0,none⟩) cap (λj=>xs.getD j undef) hm hok hnc zs (λj hj=>?_) (λj a ha=>?_)
  ·have hx:j < xs.length:=by rw [hown.1];exact hj
   refine⟨_,rfl,?_,?_⟩
   ·rw [Zz4,Zzd];exact hq g j rfl (by rw [hp];exact hj)
   ·rw [Zz4,Zzd,hown.cellAt j hj,Zym hx];simp [Zyu,Zym hx]
  ·have hj:j < xs.length:=by
    rw [hown.1,←hfl];rcases Zy5 j (flat es).length with h1 | h1
    ·exact h1
    ·rw [Zz1 h1] at ha;cases ha
   have:=hr j a xs[j] ha (Zym hj)
   simpa [Zyu,Zym hj] using this
theorem Znc {c:Cx} {σ:Mem} {w:World} {imm:Imm} (h:Mx c σ w imm) {a:AV} {x:Value} (hr:Rs w imm a x) (ho:Zgd σ a):Rd w imm (Zli σ a) x:=by
 cases a with
 | own k sv =>
   have hx:=hr.own_inv;subst hx;simp only [Zgd,Zli] at ho ⊢;split at ho
   ·rename_i sv' e m es pub hk;obtain⟨rfl,hp⟩:=ho;exact Zvp h hk hp
   ·exact ho.elim
 | view k sv m i len =>
   have hx:=hr.view_inv;simp only [Zgd,Zli] at ho ⊢;split at ho
   ·rename_i sv' e m' es pub hk;obtain⟨rfl,rfl,hp⟩:=ho;exact view_rd (Zvp h hk hp) hx
   ·exact ho.elim
 | v y=>cases hr with | pure h=>exact h
 | sl m es=>cases hr with | pure h=>exact h
 | pimm cs=>cases hr with | pure h=>exact h
 | u=>exact .u x
 | _=>simp [Zgd] at ho
theorem Zo3 {σ:Mem}:∀{l:List AV},Zjt σ l→∀(j:Nat) (a:AV),l[j]?=some a→Zgd σ a
 | [],_,j,a,h=>by simp at h
 | b :: r,ho,0,a,h=>by simp at h;subst h;exact ho.1
 | b :: r,ho,j+1,a,h=>Zo3 ho.2 j a (by simpa using h)
theorem Zfe {σ:Mem}:∀{l:List AV} (j:Nat) (a:AV),(Zeo σ l)[j]?=some a→∃b,l[j]?=some b∧a=pubV σ b
 | [],j,a,h=>by simp [Zeo] at h
 | b :: r,0,a,h=>by simp [Zeo] at h;exact⟨b,rfl,h.symm⟩
 | b :: r,j+1,a,h=>Zfe (l:=r) j a (by simpa [Zeo] using h)
theorem Zd9 {σ:Mem}:∀{l:List AV},Ze3 σ l→∀(j:Nat) (a:AV),l[j]?=some a→Zfs σ a
 | [],_,j,a,h=>by simp at h
 | b :: r,ho,0,a,h=>by simp at h;subst h;exact ho.1
 | b :: r,ho,j+1,a,h=>Zd9 (l:=r) ho.2 j a (by simpa using h)
theorem Zb3 (σ:Mem):∀l:List AV,(Zeo σ l).length=l.length
 | []=>rfl
 | a :: r=>by simp [Zeo,Zb3 σ r]
theorem Zgc {c:Cx} {σ:Mem} {w:World} {imm:Imm} (h:Mx c σ w imm) {a:AV} {x:Value} (hr:Rs w imm a x) (ho:Zfs σ a):Rd w imm (pubV σ a) x:=by
 induction hr with
 | pure hr =>
   rename_i a x
   induction hr with
   | v x=>exact .v x
   | u x=>exact .u x
   | sl m es A cap f hm hok hcap hn hA hr _=>exact .sl m es A cap f hm hok hcap hn hA hr
   | agg cs vs hl hr ih =>
     refine .agg _ vs (by rw [Zb3];exact hl) λj a x h1 h2=>?_;obtain⟨b,hb,rfl⟩:=Zfe j a h1;exact ih j b x hb h2 (Zd9 ho j b hb)
   | tup cs vs hl hr ih =>
     refine .tup _ vs (by rw [Zb3];exact hl) λj a x h1 h2=>?_;obtain⟨b,hb,rfl⟩:=Zfe j a h1;exact ih j b x hb h2 (Zd9 ho j b hb)
   | pimm cs ad f hA hr _=>exact .pimm cs ad f hA hr
   | fn f cs vs hl hr ih =>
     refine .fn f _ vs (by rw [Zb3];exact hl) λj a x h1 h2=>?_;obtain⟨b,hb,rfl⟩:=Zfe j a h1;exact ih j b x hb h2 (Zd9 ho j b hb)
   | ifc t a x _ ih=>exact .ifc t _ x (ih ho)
   | own k sv h1=>exact Znc h (Rs.own k sv h1) ho
 | own k sv h1 =>
   have:=Znc h (Rs.own k sv h1) ho;exact this
 | view k sv m i len y h1 =>
   have:=Znc h (Rs.view k sv m i len y h1) ho;exact this
 | prow k sv m i off g n c h=>exact ho.elim
 | mp k g=>exact ho.elim
 | pbox k g off =>
   simp only [Zfs,pubV] at ho ⊢;split at ho
   ·rename_i g' e cs pub hk;obtain⟨rfl,rfl,hoff,hl⟩:=ho;obtain⟨cur,hh,hB,hlen,hone,hrs,_,hq⟩:=h.ok.ent k _ hk;refine .pimm _ ⟨g,off,none⟩ (λj=>cur.getD (off+j) undef) (λj hj=>?_) (λj a ha=>?_)
    ·simp only [ZA5,Zyn] at hj;rw [Zz4];refine⟨hq rfl _ zo,?_⟩;rw [cell_of_row w g (off+j) cur e (0,0) hh];have:off+j < cur.size:=zo;simp [ZAi,Zzl this]
    ·rw [ZAx,Zzu] at ha;rcases hb:cs[off+j]? with _ | b
     ·rw [hb] at ha;cases ha
     ·rw [hb] at ha;simp only [Zz7,Option.some.injEq] at ha;subst ha
      have hlt:off+j < cur.size:=by
       rw [←hlen];rcases Zy5 (off+j) cs.length with h1 | h1
       ·exact h1
       ·rw [Zz1 h1] at hb;cases hb
      have h2:=hrs (off+j) b cur[off+j] hb (Zzl hlt);have h3:=Znc h h2 (Zo3 hl (off+j) b hb)
      simpa [ZAi,Zzl hlt] using h3
   ·exact ho.elim
 | agg cs vs hl hr ih =>
   refine .agg _ vs (by rw [Zb3];exact hl) λj a x h1 h2=>?_;obtain⟨b,hb,rfl⟩:=Zfe j a h1;exact ih j b x hb h2 (Zd9 ho j b hb)
 | tup cs vs hl hr ih =>
   refine .tup _ vs (by rw [Zb3];exact hl) λj a x h1 h2=>?_;obtain⟨b,hb,rfl⟩:=Zfe j a h1;exact ih j b x hb h2 (Zd9 ho j b hb)
 | fn f cs vs hl hr ih =>
   refine .fn f _ vs (by rw [Zb3];exact hl) λj a x h1 h2=>?_;obtain⟨b,hb,rfl⟩:=Zfe j a h1;exact ih j b x hb h2 (Zd9 ho j b hb)
 | ifc t a x _ ih=>exact .ifc t _ x (ih ho)
theorem Zse {c:Cx} {σ:Mem} {w w':World} {imm imm':Imm} (h:Mx c σ w imm) {row:Option Nat} (hg:w.grownBy w' row) (hd:w.drawn≤w'.drawn) (hB:∀g,row=some g→c.B≤g) (hcell:∀ad,imm ad→w'.cell? ad=w.cell? ad)
 (k:Nat) (e':Ent) (he:EntOk c.B w' imm' e') (hi:∀ad,imm ad→imm' ad) (hnew:∀ad,imm' ad→imm ad∨(e'.blk=some ad.block∧ad.spot=none))
 (hoth:∀j e2 b,j≠k→σ j=some e2→e2.blk=some b→some b≠row∧e'.blk≠some b):Mx c (upd σ k (some e')) w' imm'∧Keeps w imm w' imm':=by
 refine⟨⟨⟨λj e2 hj=>?_,λj j' e1 e2 b h1 h2 h3 h4=>?_,λad h1=>?_,λad h1=>(hnew ad h1).elim (h.ok.spot ad) λh2=>h2.2⟩,h.below.grown hg hd h.lt (λg hg'=>hB g hg'),Zyz h.lt hg.size,λad h1=>hi _ (h.old ad h1),λad h1=>?_,λad h1=>(hcell ad (h.old ad h1)).trans (h.cells ad h1)⟩,λad h1=>⟨hi _ h1,hcell ad h1⟩⟩
 ·rw [Zal] at hj;by_cases hjk:j=k
  ·rw [Zyk hjk] at hj;simp only [Option.some.injEq] at hj;exact hj ▸ he
  ·rw [Zyj hjk] at hj;refine(h.ok.ent j e2 hj).keep hg ?_ hi hcell λad h1=>?_
   ·rcases hb:e2.blk with _ | b
    ·exact .inl rfl
    ·exact .inr (hoth j e2 b hjk hj hb).1
   ·rcases hnew ad h1 with h2 | h2
    ·exact .inl h2
    ·exact .inr λh3=>(hoth j e2 _ hjk hj h3).2 h2.1
 ·rw [Zal] at h1 h2;by_cases hjk:j=k<;>by_cases hjk':j'=k
  ·rw [hjk,hjk']
  ·rw [Zyk hjk] at h1;rw [Zyj hjk'] at h2;simp only [Option.some.injEq] at h1;exact absurd (h1 ▸ h3) (hoth j' e2 b hjk' h2 h4).2
  ·rw [Zyj hjk] at h1;rw [Zyk hjk'] at h2;simp only [Option.some.injEq] at h2;exact absurd (h2 ▸ h4) (hoth j e1 b hjk h1 h3).2
  ·rw [Zyj hjk] at h1;rw [Zyj hjk'] at h2;exact h.ok.apart j j' e1 e2 b h1 h2 h3 h4
 ·rcases hnew ad h1 with h2 | h2
  ·exact ZAq (h.ok.lt ad h2) hg.size
  ·exact(he.blk_lt h2.1).2
 ·rcases hnew ad h1 with h2 | h2
  ·exact h.new ad h2
  ·exact .inr (he.blk_lt h2.1).1
theorem Zdy {c:Cx} {σ:Mem} {w w':World} {imm:Imm} (h:Mx c σ w imm) {row:Option Nat} (hg:w.grownBy w' row) (hd:w.drawn≤w'.drawn) (hB:∀g,row=some g→c.B≤g) (hcell:∀ad,imm ad→w'.cell? ad=w.cell? ad)
 (k:Nat) (e':Ent) (he:EntOk c.B w' imm e') (hoth:∀j e2 b,j≠k→σ j=some e2→e2.blk=some b→some b≠row∧e'.blk≠some b):Mx c (upd σ k (some e')) w' imm∧Keeps w imm w' imm :=
 Zse h hg hd hB hcell k e' he (λ_ h1=>h1) (λ_ h1=>.inl h1) hoth
theorem Zlb {c:Cx} {σ:Mem} {w w':World} {imm:Imm} (h:Mx c σ w imm) {k:Nat} {sv v':Value} {e:TypeId} {m:Nat} {es news:List AV} {xs xn:List Value} {pub:Nat}
 (hown':w'.ownsRow c.B e m v' (es.length+news.length) (xs++xn)) (hxl:xs.length=es.length*m)
 (hg:w.grownBy w' sv.ownBlock) (hd:w.drawn≤w'.drawn) (hat:v'.ownBlock=sv.ownBlock∨v'.ownBlock=some w.heap.size)
 (hsame:∀g j,sv.ownBlock=some g→j < es.length*m→w'.cell? ⟨g,j,none⟩=w.cell? ⟨g,j,none⟩)
 (hm:∀x∈es++news,x.cells.length=m) (hok:∀x∈es++news,x.ok=true)
 (hr1:∀(j:Nat) (a:AV) (x:Value),(flat es)[j]?=some a→xs[j]?=some x→Rd w imm a x) (hr2:∀(j:Nat) (a:AV) (x:Value),(flat news)[j]?=some a→xn[j]?=some x→Rd w imm a x)
 (hpl:pub≤es.length) (hB:∀g,sv.ownBlock=some g→c.B≤g) (hp:∀ad,imm ad→sv.ownBlock=some ad.block→ad.off < pub*m)
 (hoth:∀j e2 b,j≠k→σ j=some e2→e2.blk=some b→some b≠sv.ownBlock) :
 ∃imm',Mx c (upd σ k (some (.row v' e m (es++news) pub))) w' imm'∧Keeps w imm w' imm':=by
 have hpm:pub*m≤es.length*m:=Zzf _ hpl
 have hcell:∀ad,imm ad→w'.cell? ad=w.cell? ad:=by
  intro ad h1;by_cases hb:sv.ownBlock=some ad.block
  ·have hs:=h.ok.spot ad h1;have:=hsame ad.block ad.off hb (ZAq (hp ad h1 hb) hpm);obtain⟨b,o,s⟩:=ad;simp only at hs;subst hs;exact this
  ·exact Zd0 hg (h.ok.lt ad h1) (λh2=>hb h2.symm)
 let imm':Imm:=λad=>imm ad∨(v'.ownBlock=some ad.block∧ad.off < pub*m∧ad.spot=none)
 have hi:∀ad,imm ad→imm' ad:=λad h1=>.inl h1;have hk:∀(a:AV) (x:Value),Rd w imm a x→Rd w' imm' a x:=λa x hr=>hr.keep hi hcell;have hfl:(flat es).length=es.length*m:=Zaz λx hx=>hm x (List.mem_append_left _ hx);refine⟨imm',Zse h hg hd hB hcell k _ ⟨xs++xn,by rw [Zza];exact hown',hm,hok,λj a x h1 h2=>?_,by simp;omega,λad h1 h2=>?_,λg off h1 h2=>.inr ⟨h1,h2,rfl⟩⟩ hi (λad h1=>h1.imp id λh2=>⟨h2.1,h2.2.2⟩) λj e2 b h1 h2 h3=>⟨hoth j e2 b h1 h2 h3,?_⟩⟩
 ·rw [Zbk] at h1;rcases Zy5 j (es.length*m) with hlt | hge
  ·rw [Zzr (by rw [hfl];exact hlt)] at h1;rw [Zzr (by rw [hxl];exact hlt)] at h2;exact hk a x (hr1 j a x h1 h2)
  ·rw [Zzv (by rw [hfl];exact hge),hfl] at h1;rw [Zzv (by rw [hxl];exact hge),hxl] at h2;exact hk a x (hr2 _ a x h1 h2)
 ·rcases h1 with h1 | h1
  ·rcases hat with h3 | h3
   ·exact hp ad h1 (h3.symm.trans h2)
   ·have:=h.ok.lt ad h1;rw [h3] at h2;simp only [Option.some.injEq] at h2;omega
  ·exact h1.2.1
 ·simp only [Ent.blk];rcases hat with h4 | h4
  ·rw [h4];exact λh5=>hoth j e2 b h1 h2 h3 h5.symm
  ·rw [h4];have:=(h.ok.ent j e2 h2).blk_lt h3;simp only [ne_eq,Option.some.injEq];omega
def Zbv (c:Cx) (n:Nat) (K:St→Prop):Act→World→Prop:=λa w=>∃st imm,K st∧Rel c n st a w imm
section
variable {P:Program} {c:Cx} {n tok:Nat} {st:St} {a:Act} {w:World} {imm:Imm} {K:St→Prop} {o:Oper} {Q:Exit→Act→World→Prop}
theorem Zc6 {av:AV} {ks:List Nat} {x:Value} (h:Rel c n st a w imm) (hd:∀d,o.dst=some d→d < n) (hK:aRes P tok o.dst (.val av ks) K st)
 (hx:∀imm',Mx c (marks st.mem ks) w imm'→Keeps w imm w imm'→Rs w imm' av x):o.upon P a (Zbv c n K) Q (.ok (.value x) w):=by
 obtain⟨i',hm,hk⟩:=Zc1 ks h.mem;exact⟨_,i',hK,h.step hk hm hd (hx i' hm hk)⟩
theorem Zra {e:TypeId} {cs:List AV} {vs:Array Value} (h:Rel c n st a w imm) (hd:∀d,o.dst=some d→d < n) (hK:aRes P tok o.dst (.box e cs) K st)
 (hl:cs.length=vs.size) (hone:∀x∈cs,x.one=true) (hr:∀(j:Nat) (a:AV) (x:Value),cs[j]?=some a→vs[j]?=some x→Rs w imm a x) :
 o.upon P a (Zbv c n K) Q (.ok (.value (.pointer (some ⟨w.heap.size,0,none⟩))) (w.alloc (.cells vs e))):=by
 have hcell:∀ad,imm ad→(w.alloc (.cells vs e)).cell? ad=w.cell? ad:=λad h1=>ZCa w _ ad (h.mem.ok.lt ad h1);have hkeep:Keeps w imm (w.alloc (.cells vs e)) imm:=λad h1=>⟨h1,hcell ad h1⟩;obtain⟨hm,hk⟩:=Zdy h.mem (ZCb w (.cells vs e) none) (Zyp _) zs hcell tok (.box w.heap.size e cs false)
  ⟨vs,heap_alloc_new w _,h.mem.lt,hl,hone,λj a x h1 h2=>hkeep.rs (hr j a x h1 h2),λad h1 h2=>absurd (h.mem.ok.lt ad h1) zo,λh1=>by cases h1⟩
  (λj e2 b _ hj hb=>⟨by simp,by have:=(h.mem.ok.ent j e2 hj).blk_lt hb;simp [Ent.blk];omega⟩)
 exact⟨_,imm,hK w.heap.size,h.step hk hm hd (.pbox tok w.heap.size 0)⟩
theorem Zut (h:Rel c n st a w imm) (hd:∀d,o.dst=some d→d < n) (hK:aRes P tok o.dst .mapn K st) :
 o.upon P a (Zbv c n K) Q (.ok (.value (.map (some w.heap.size))) (w.alloc (.map #[] 0))):=by
 have hcell:∀ad,imm ad→(w.alloc (.map #[] 0)).cell? ad=w.cell? ad:=λad h1=>ZCa w _ ad (h.mem.ok.lt ad h1);obtain⟨hm,hk⟩:=Zdy h.mem (ZCb w (.map #[] 0) none) (Zyp _) zs hcell tok (.map w.heap.size [])
  ⟨#[],0,heap_alloc_new w _,h.mem.lt,rfl,λj a x h1 h2=>by simp at h1,⟨by simp,by simp⟩,λad h1 h2=>absurd (h.mem.ok.lt ad h1) zo⟩
  (λj e2 b _ hj hb=>⟨by simp,by have:=(h.mem.ok.ent j e2 hj).blk_lt hb;simp [Ent.blk];omega⟩)
 exact⟨_,imm,hK w.heap.size,h.step hk hm hd (.mp tok w.heap.size)⟩
theorem Zns {e:TypeId} {m:Nat} {es:List AV} {ks:List Nat} {vs:Array Value} {cap:Nat} {i':Imm} (h:Rel c n st a w imm) (hd:∀d,o.dst=some d→d < n) (hK:aRes P tok o.dst (.row e m es ks) K st)
 (hmx:Mx c (marks st.mem ks) w i') (hk1:Keeps w imm w i')
 (hcap:es.length≤cap) (hmax:cap≤maxLen) (hsz:vs.size=cap*m) (hm:∀x∈es,x.cells.length=m) (hok:∀x∈es,x.ok=true)
 (hr:∀(j:Nat) (a:AV) (x:Value),(flat es)[j]?=some a→vs[j]?=some x→Rd w i' a x) :
 o.upon P a (Zbv c n K) Q (.ok (.value (.slice (some ⟨w.heap.size,0,none⟩) es.length cap)) (w.alloc (.cells vs e))):=by
 have hcell:∀ad,i' ad→(w.alloc (.cells vs e)).cell? ad=w.cell? ad:=λad h1=>ZCa w _ ad (hmx.ok.lt ad h1);have hkeep:Keeps w i' (w.alloc (.cells vs e)) i':=λad h1=>⟨h1,hcell ad h1⟩;have hle:es.length*m≤cap*m:=Zzf _ hcap;obtain⟨hmm,hk⟩:=Zdy hmx (ZCb w (.cells vs e) none) (Zyp _) zs hcell tok (.row (.slice (some ⟨w.heap.size,0,none⟩) es.length cap) e m es 0)
  ⟨vs.toList.take (es.length*m),⟨by rw [Zy1,show vs.toList.length=cap*m by rw [←hsz];rfl];exact ZAk hle,.inr ⟨w.heap.size,cap,vs,rfl,hmx.lt,heap_alloc_new w _,hcap,hmax,hsz,rfl⟩⟩,hm,hok,
   λj a x h1 h2=>hkeep.rd (hr j a x h1 (by
    rw [ZAe] at h2;split at h2
    ·simpa using h2
    ·cases h2)),Zyv _,λad h1 h2=>by
     have:=hmx.ok.lt ad h1;simp [Value.ownBlock] at h2;omega,λg off _ h2=>by simp at h2⟩
  (λj e2 b _ hj hb=>⟨by simp,by have:=(hmx.ok.ent j e2 hj).blk_lt hb;simp [Ent.blk,Value.ownBlock];omega⟩)
 exact⟨_,i',hK _,h.step (hk1.trans hk) hmm hd (.own tok _ rfl)⟩
theorem upon_row {e:TypeId} {m:Nat} {es:List AV} {ks:List Nat} {vs:Array Value} {cap:Nat} (h:Rel c n st a w imm) (hd:∀d,o.dst=some d→d < n) (hK:aRes P tok o.dst (.row e m es ks) K st)
 (hcap:es.length≤cap) (hmax:cap≤maxLen) (hsz:vs.size=cap*m) (hm:∀x∈es,x.cells.length=m) (hok:∀x∈es,x.ok=true)
 (hr:∀imm',Mx c (marks st.mem ks) w imm'→Keeps w imm w imm'→∀(j:Nat) (a:AV) (x:Value),(flat es)[j]?=some a→vs[j]?=some x→Rd w imm' a x) :
 o.upon P a (Zbv c n K) Q (.ok (.value (.slice (some ⟨w.heap.size,0,none⟩) es.length cap)) (w.alloc (.cells vs e))):=by
 obtain⟨i',hmx,hk1⟩:=Zc1 ks h.mem;exact Zns h hd hK hmx hk1 hcap hmax hsz hm hok (hr i' hmx hk1)
theorem Zf3 {av:AV} {k:Nat} {ent:Ent} {ks:List Nat} {nx:Next} {x:Value} {w':World} (h:Rel c n st a w imm) (hd:∀d,o.dst=some d→d < n) (hK:aRes P tok o.dst (.sto av k ent ks) K st)
 (hnx:nx=.value x∨(nx=.skip∧x=undef))
 (hm:∀imm',Mx c (marks st.mem ks) w imm'→Keeps w imm w imm'→Mx c (upd (marks st.mem ks) k (some ent)) w' imm'∧Keeps w imm' w' imm'∧Rs w' imm' av x) :
 o.upon P a (Zbv c n K) Q (.ok nx w'):=by
 obtain⟨i',hmx,hk1⟩:=Zc1 ks h.mem;obtain⟨h1,h2,h3⟩:=hm i' hmx hk1;rcases hnx with rfl | ⟨rfl,rfl⟩
 ·exact⟨_,i',hK,h.step (hk1.trans h2) h1 hd h3⟩
 ·exact⟨_,i',hK,h.step (hk1.trans h2) h1 hd h3⟩
theorem Znt {f:FuncId} {args:List AV} {vs:Array Value} (h:Rel c n st a w imm) (hd:∀d,o.dst=some d→d < n) (hK:aRes P tok o.dst (.call f args) K st)
 (hl:args.length=vs.size) (hr:∀(j:Nat) (a:AV) (x:Value),args[j]?=some a→vs[j]?=some x→Rs w imm a x) :
 o.upon P a (Zbv c n K) Q (.ok (.enter f vs) w):=by
 refine(hK.2 c w imm vs h.mem hl hr).mono λe w' he=>?_;obtain⟨r,σ',imm',x,rfl,hR,hx,hm,hk⟩:=he;exact⟨_,imm',hR,h.step hk hm hd hx⟩
end
def Zeg (cs:List AV) (off:Nat) (new:List AV):List AV:=cs.take off++new++cs.drop (off+new.length)
def Zku:List AV→Res
 | x :: _=>.val x []
 | []=>.bad
def Zip (P:Program) (t:TypeId) (cs:List AV):Res :=
 match szOf P t with
 | some n=>.need (n≤cs.length) (.val (.agg (cs.take n)) [])
 | none=>.bad
def Zfv:TypeDesc→Bool
 | .struct _ | .array _ _=>true
 | _=>false
def Zhk (P:Program) (t:TypeId) (cs:List AV):Res :=
 match P.underlying t with
 | some d=>if Zfv d then Zip P t cs else Zku cs
 | none=>.bad
def Zjo (P:Program) (t:TypeId) (cs:List AV) (off:Nat):Res :=
 match szOf P t with
 | some n=>.val (.agg ((cs.drop off).take n)) []
 | none=>.bad
def Zog (P:Program) (t:TypeId) (cs:List AV) (off:Nat):Res :=
 match P.underlying t with
 | some d=>if Zfv d then Zjo P t cs off else Zku (cs.drop off)
 | none=>.bad
def andI (k:IntKind) (a b:Int):Int:=k.wrap ((BitVec.ofInt k.bits a &&& BitVec.ofInt k.bits b).toNat)
def orI (k:IntKind) (a b:Int):Int:=k.wrap ((BitVec.ofInt k.bits a ||| BitVec.ofInt k.bits b).toNat)
def xorI (k:IntKind) (a b:Int):Int:=k.wrap ((BitVec.ofInt k.bits a ^^^ BitVec.ofInt k.bits b).toNat)
def shlI (k:IntKind) (a b:Int):Int:=k.wrap (a*2 ^ (min b.toNat k.bits))
def shrI (k:IntKind) (a b:Int):Int:=a.fdiv (2 ^ (min b.toNat k.bits))
def Zsh (op:BinOp) (k:IntKind) (a b:Int):Res :=
 match op with
 | .add=>.val (.v (.int k (k.wrap (a+b)))) []
 | .sub=>.val (.v (.int k (k.wrap (a - b)))) []
 | .mul=>.val (.v (.int k (k.wrap (a*b)))) []
 | .quo=>.need (b≠0) (.val (.v (.int k (k.wrap (a.tdiv b)))) [])
 | .rem=>.need (b≠0) (.val (.v (.int k (a.tmod b))) [])
 | .and=>.val (.v (.int k (andI k a b))) []
 | .or=>.val (.v (.int k (orI k a b))) []
 | .xor=>.val (.v (.int k (xorI k a b))) []
 | .eql=>.val (.v (.bool (a == b))) []
 | .neq=>.val (.v (.bool (a != b))) []
 | .lss=>.val (.v (.bool (decide (a < b)))) []
 | .leq=>.val (.v (.bool (decide (a≤b)))) []
 | .gtr=>.val (.v (.bool (decide (b < a)))) []
 | .geq=>.val (.v (.bool (decide (b≤a)))) []
 | _=>.bad
def Zri (op:BinOp) (a b:ByteArray):Res :=
 match op with
 | .add=>.need (((a.size+b.size:Nat):Int)≤9223372036854775807) (.val (.v (.string (a++b))) [])
 | .eql=>.val (.v (.bool (a.toList == b.toList))) []
 | .neq=>.val (.v (.bool (!(a.toList == b.toList)))) []
 | .lss=>.val (.v (.bool (Op.bytesLess a.toList b.toList))) []
 | .leq=>.val (.v (.bool (Op.bytesLess a.toList b.toList || a.toList == b.toList))) []
 | .gtr=>.val (.v (.bool (!(Op.bytesLess a.toList b.toList || a.toList == b.toList)))) []
 | .geq=>.val (.v (.bool (!Op.bytesLess a.toList b.toList))) []
 | _=>.bad
def Ze6 (P:Program):List (TypeId × Nat)→List AV→List AV→(Bool→Res)→Res
 | [],_,_,R=>R true
 | (t,off) :: r,xs,ys,R=>match P.underlying t,xs.drop off,ys.drop off with
   | some .bool,.v (.bool a) :: _,.v (.bool b) :: _=>Ze6 P r xs ys λc=>R ((a == b) && c)
   | some (.int _),.v (.int k a) :: _,.v (.int k' b) :: _=>.need (k=k') (Ze6 P r xs ys λc=>R ((a == b) && c))
   | some .string,.v (.string a) :: _,.v (.string b) :: _=>Ze6 P r xs ys λc=>R ((a.toList == b.toList) && c)
   | _,_,_=>.bad
def eqTy (P:Program) (t:TypeId):Bool:=!P.eqGuardType P.depth t && match P.underlying t with
 | some (.struct fs) => !P.stoodInHeld t && fs.toList.all fun f => f.name != "_"
 | some (.array _ _)=>true
 | _=>false
def Zq3 (P:Program) (t:TypeId) (xs ys:List AV) (R:Bool→Res):Res :=
 match P.underlying t with
 | some (.struct fs)=>.need (eqTy P t=true) (Ze6 P (fs.toList.map λf=>(f.type,f.offset)) xs ys R)
 | some (.array n e)=>match szOf P e with
   | some sz=>.need (eqTy P t=true) (Ze6 P ((List.range n).map λi=>(e,i*sz)) xs ys R)
   | none=>.bad
 | _=>.bad
def Zma (P:Program) (op:BinOp) (t:TypeId) (x y:AV):Res :=
 match x,y with
 | .v (.int k a),.v (.int k' b)=>match op with
   | .shl=>.need (0≤b) (.val (.v (.int k (shlI k a b))) [])
   | .shr=>.need (0≤b) (.val (.v (.int k (shrI k a b))) [])
   | op=>.need (k=k') (Zsh op k a b)
 | .v (.string a),.v (.string b)=>Zri op a b
 | .v (.bool a),.v (.bool b)=>match op,P.underlying t with
   | .eql,some .bool=>.val (.v (.bool (a == b))) []
   | .neq,some .bool=>.val (.v (.bool (!(a == b)))) []
   | _,_=>.bad
 | .agg xs,.agg ys=>match op with
   | .eql=>Zq3 P t xs ys λc=>.val (.v (.bool c)) []
   | .neq=>Zq3 P t xs ys λc=>.val (.v (.bool (!c))) []
   | _=>.bad
 | .sl _ es,.v (.slice none 0 0)=>match op,P.underlying t with
   | .eql,some (.slice _)=>.need (0 < es.length) (.val (.v (.bool false)) [])
   | _,_=>.bad
 | .v (.slice none 0 0),.v (.slice none 0 0)=>match op,P.underlying t with
   | .eql,some (.slice _)=>.val (.v (.bool true)) []
   | _,_=>.bad
 | _,_=>.bad
def Zs5 (op:UnOp) (x:AV):Res :=
 match op,x with
 | .not,.v (.bool b)=>.val (.v (.bool (!b))) []
 | .neg,.v (.int k n)=>.val (.v (.int k (k.wrap (0 - n)))) []
 | _,_=>.bad
def aZero (P:Program) (t:TypeId):Option AV:=(Zaq P t).map AV.ofVal
def Zd1 (σ:Mem) (m:Nat):AV→(List AV→Res)→Res
 | .sl m' es,R=>.need (m'=m) (R es)
 | .own k sv,R=>match σ k with
   | some (.row sv' _ m' es _)=>.need (sv=sv'∧m'=m) (R es)
   | _=>.bad
 | .view k sv m' i len,R=>match σ k with
   | some (.row sv' _ m'' es _)=>.need (sv=sv'∧m'=m∧m''=m) (R ((es.take (i+len)).drop i))
   | _=>.bad
 | .v (.slice none 0 0),R=>R []
 | _,_=>.bad
def Zs6:List AV→Option (List Int)
 | []=>some []
 | .v (.int .u8 n) :: r=>(Zs6 r).map (n :: ·)
 | _=>none
def strOf (ns:List Int):ByteArray:=ns.foldl (λr n=>r.push (UInt8.ofNat n.toNat)) ByteArray.empty
def Zml (es:List AV):Res:=match Zs6 es with
 | some ns=>.val (.v (.string (strOf ns))) []
 | none=>.bad
def Znl (P:Program) (σ:Mem) (src dst:TypeId) (x:AV):Res :=
 match P.underlying src,P.underlying dst,x with
 | some _,some (.int k),.v (.int _ n)=>.val (.v (.int k (k.wrap n))) []
 | some _,some .string,.v (.string s)=>.val (.v (.string s)) []
 | some (.slice e),some .string,x=>match P.underlying e with
   | some (.int .u8)=>Zd1 σ 1 x Zml
   | _=>.bad
 | _,_,_=>.bad
def Zl2 (st:St) (d:TypeDesc) (x:AV):Res :=
 match d,x with
 | .slice _,.sl _ es=>.val (.v (.int .i64 es.length)) []
 | .slice _,.own k sv=>match st.mem k with
   | some (.row sv' _ _ es _)=>.need (sv=sv') (.val (.v (.int .i64 es.length)) [])
   | _=>.bad
 | .slice _,.view _ _ _ _ len=>.val (.v (.int .i64 len)) []
 | .slice _,.v (.slice none 0 0)=>.val (.v (.int .i64 0)) []
 | .string,.v (.string s)=>.val (.v (.int .i64 s.size)) []
 | .map _ _,.mp k h=>match st.mem k with
   | some (.map h' es)=>.need (h=h') (.val (.v (.int .i64 es.length)) [])
   | _=>.bad
 | .array n _,_=>.val (.v (.int .i64 n)) []
 | _,_=>.bad
def Zst (d:TypeDesc) (x:AV):Res :=
 match d,x with
 | .slice _,.v (.slice none 0 0)=>.val (.v (.int .i64 0)) []
 | _,_=>.bad
def Zgr (P:Program) (st:St) (t t':TypeId) (s x:AV):Res :=
 match P.underlying t with
 | some (.slice e)=>match szOf P e,Zea P e,Zaq P e with
   | some m,some by_,some z=>match s with
     | .own k sv=>match st.mem k with
       | some (.row sv' e' m' es _)=>match x with
         | .v (.string b)=>.need (P.underlying t'=some .string∧sv=sv'∧e'=e∧m'=1∧m=1∧by_=1∧z=.int .u8 0∧es.length+b.size≤140737488355328) (.app k (b.data.toList.map λc=>.v (.int .u8 c.toNat)) [])
         | x=>.need (t=t'∧sv=sv'∧e'=e∧m'=m∧z.cells.size=m) (Zd1 st.mem m x λnews =>
           .need (es.length+news.length≤9223372036854775807∧(es.length+news.length)*by_≤140737488355328) (.app k news []))
       | _=>.bad
     | .view k sv m₁ i n=>match st.mem k with
       | some (.row sv' e' m' es pub)=>.need (t=t'∧sv=sv'∧e'=e∧m₁=m∧m'=m∧i=0∧pub≤n∧n≤es.length∧z.cells.size=m) (Zd1 st.mem m x λnews =>
        .need (n+news.length≤9223372036854775807∧(n+news.length)*by_≤140737488355328) (.appv k n news))
       | _=>.bad
     | .v (.slice none 0 0)=>match x with
       | .v (.int .i64 n)=>.need (P.underlying t'=some (.int .i64)∧z.cells.size=m∧0 < m∧0 < n∧n≤9223372036854775807∧n.toNat*by_≤140737488355328∧(AV.ofVal z).cells.length=m∧(AV.ofVal z).ok=true) (.row e m (List.replicate n.toNat (AV.ofVal z)) [])
       | x=>.need (t=t'∧z.cells.size=m) (Zd1 st.mem m x λnews =>
           .need (news.length≤9223372036854775807∧news.length*by_≤140737488355328) (.row e m news []))
     | _=>.bad
   | _,_,_=>.bad
 | _=>.bad
def Znk (P:Program) (st:St) (t:TypeId) (d x:AV):Res :=
 match P.underlying t with
 | some (.slice e)=>match szOf P e with
   | some m=>match d with
     | .own k sv=>match st.mem k with
       | some (.row sv' e' m' es pub)=>.need (sv=sv'∧e'=e∧m'=m∧pub=0) (Zd1 st.mem m x λnews =>
        .sto (.v (.int .i64 (min news.length es.length:Nat))) k (.row sv' e' m' (news.take es.length++es.drop news.length) pub) [])
       | _=>.bad
     | _=>.bad
   | none=>.bad
 | _=>.bad
def Zjw (P:Program) (st:St) (t:TypeId) (x:AV):Res :=
 match P.underlying t,x with
 | some (.slice e),.view k sv m i len=>match st.mem k,szOf P e,Zaq P e with
   | some (.row sv' e' m' es pub),some m₂,some z=>.need (sv=sv'∧m=m'∧m₂=m∧pub=0∧i+len≤es.length∧0 < m∧z.cells.size=m∧(AV.ofVal z).cells.length=m∧(AV.ofVal z).ok=true)
    (.sto (.v (.tuple #[])) k (.row sv' e' m' (es.take i++List.replicate len (AV.ofVal z)++es.drop (i+len)) pub) [])
   | _,_,_=>.bad
 | _,_=>.bad
def Zed (lo:Option AV) (K:Int→Res):Res :=
 match lo with
 | none=>K 0
 | some (.v (.int _ l))=>K l
 | some _=>.bad
def Zdk (len:Nat) (hi:Option AV) (K:Int→Res):Res :=
 match hi with
 | none=>K len
 | some (.v (.int _ h))=>K h
 | some _=>.bad
def Zgz (P:Program) (st:St) (t:TypeId) (x:AV) (lo hi mx:Option AV):Res :=
 match P.underlying t,x with
 | some .string,.v (.string s)=>match mx with
   | none=>Zed lo λl=>Zdk s.size hi λh=>.need (0≤l∧l≤h∧h≤s.size) (.val (.v (.string (s.extract l.toNat h.toNat))) [])
   | some _=>.bad
 | some (.slice e),.sl m es=>match szOf P e with
   | some m'=>Zed lo λl=>Zdk es.length hi λh=>Zdk es.length mx λm₂ =>
    .need (m'=m∧0≤l∧l≤h∧h≤m₂∧m₂≤es.length∧(mx.isSome=true→hi.isSome=true)) (.val (.sl m ((es.take h.toNat).drop l.toNat)) [])
   | none=>.bad
 | some (.slice e),.own k sv=>match st.mem k,szOf P e with
   | some (.row sv' _ m es _),some m'=>match mx with
     | none=>Zed lo λl=>Zdk es.length hi λh=>.need (sv=sv'∧m'=m∧0≤l∧l≤h∧h≤es.length) (.val (.view k sv m l.toNat (h.toNat - l.toNat)) [])
     | some _=>.bad
   | _,_=>.bad
 | some (.slice e),.view k sv m i len=>match szOf P e,mx with
   | some m',none=>Zed lo λl=>Zdk len hi λh=>.need (m'=m∧0≤l∧l≤h∧h≤len) (.val (.view k sv m (i+l.toNat) (h.toNat - l.toNat)) [])
   | _,_=>.bad
 | some (.slice e),.v (.slice none 0 0)=>match szOf P e with
   | some _=>Zed lo λl=>Zdk 0 hi λh=>Zdk 0 mx λm₂=>.need (l=0∧h=0∧m₂=0∧(mx.isSome=true→hi.isSome=true)) (.val (.v (.slice none 0 0)) [])
   | none=>.bad
 | some (.array nn e),.pbox k g off=>match lo,hi,mx,szOf P e,pubV (marks st.mem [k]) (.pbox k g off) with
   | none,none,none,some m,.pimm cs=>.need (m=1∧cs.length=nn∧0 < nn∧Zfs (marks st.mem [k]) (.pbox k g off)∧cs.all AV.one=true) (.val (.sl 1 cs) [k])
   | _,_,_,_,_=>.bad
 | _,_=>.bad
def Zg7 (P:Program) (s:TypeId) (x:AV) (f:Nat):Res :=
 match P.underlying s with
 | some (.struct fields)=>match fields[f]? with
   | some fd=>match szOf P fd.type with
     | some sz=>.need (sz≠0) (match x with
       | .pimm cs=>.val (.pimm (cs.drop fd.offset)) []
       | .pbox k g off=>.val (.pbox k g (off+fd.offset)) []
       | .prow k sv m i off=>.val (.prow k sv m i (off+fd.offset)) []
       | _=>.bad)
     | none=>.bad
   | none=>.bad
 | _=>.bad
def Zbb (P:Program) (st:St) (t:TypeId) (x i:AV):Res :=
 match P.underlying t,i with
 | some (.slice e),.v (.int _ j)=>match szOf P e with
   | some sz=>match x with
     | .sl m es=>.need (sz=m∧0≤j∧j < es.length) (.val (.pimm (es.getD j.toNat .u).cells) [])
     | .own k sv=>match st.mem k with
       | some (.row sv' _ m es _)=>.need (sv=sv'∧sz=m∧0≤j∧j < es.length) (.val (.prow k sv m j.toNat 0) [])
       | _=>.bad
     | .view k sv m i len=>.need (sz=m∧0≤j∧j < len) (.val (.prow k sv m (i+j.toNat) 0) [])
     | _=>.bad
   | none=>.bad
 | some (.array len e),.v (.int _ j)=>match szOf P e with
   | some sz=>.need (0≤j∧j < len) (match x with
     | .pimm cs=>.val (.pimm (cs.drop (j.toNat*sz))) []
     | .pbox k g off=>.val (.pbox k g (off+j.toNat*sz)) []
     | .prow k sv m i off=>.val (.prow k sv m i (off+j.toNat*sz)) []
     | _=>.bad)
   | none=>.bad
 | _,_=>.bad
def Zju (P:Program) (t:TypeId) (x i:AV):Res :=
 match P.underlying t,x,i with
 | some (.array len e),.agg cs,.v (.int _ j)=>match szOf P e with
   | some sz=>.need (0≤j∧j < len) (Zog P e cs (j.toNat*sz))
   | none=>.bad
 | some .string,.v (.string s),.v (.int _ j)=>.need (0≤j∧j < s.size) (.val (.v (.int .u8 (s.data.toList.getD j.toNat 0).toNat)) [])
 | _,_,_=>.bad
def Zt7 (place:Nat→Option (Nat × Nat)) (cs:List AV):List (Nat × AV)→(List AV→Res)→Res
 | [],R=>R cs
 | (i,a) :: r,R=>match place i with
   | some (off,sz)=>.need (a.ok=true∧a.cells.length=sz∧off+sz≤cs.length) (Zt7 place (Zeg cs off a.cells) r R)
   | none=>.bad
def Zjx (P:Program) (t:TypeId) (parts:List (Nat × AV)):Res :=
 match P.underlying t,Zaq P t with
 | some (.struct fields),some z=>.need ((fields.toList.all λf=>(szOf P f.type).isSome)=true) (Zt7 (λi=>(fields[i]?).bind λf=>(szOf P f.type).map λs=>(f.offset,s)) (AV.ofVal z).cells parts λcs=>.val (.agg cs) [])
 | some (.array _ e),some z=>match szOf P e with
   | some sz=>Zt7 (λi=>some (i*sz,sz)) (AV.ofVal z).cells parts λcs=>.val (.agg cs) []
   | none=>.bad
 | _,_=>.bad
def Zpd (σ:Mem) (m:Nat) (es:List AV):List (Nat × AV)→(List AV→Res)→Res
 | [],R=>R es
 | (i,a) :: r,R=>.need (a.ok=true∧a.cells.length=m∧i < es.length∧Zfs σ a) (Zpd σ m (es.set i (pubV σ a)) r R)
def Zer (P:Program) (st:St) (t:TypeId) (len:Nat) (parts:List (Nat × AV)):Res :=
 match P.underlying t with
 | some (.slice e)=>match szOf P e,Zaq P e with
   | some m,some z=>.need (len*m≤16777216∧len≤16777216∧(AV.ofVal z).cells.length=m∧(AV.ofVal z).ok=true) (
    Zpd (marks st.mem (AV.toksL (parts.map (·.2)))) m (List.replicate len (AV.ofVal z)) parts λes=>.row e m es (AV.toksL (parts.map (·.2))))
   | _,_=>.bad
 | _=>.bad
def Zff (P:Program) (t:TypeId) (l cp:AV):Res :=
 match P.underlying t,l,cp with
 | some (.slice e),.v (.int _ n),.v (.int _ cap)=>match szOf P e,Zea P e,Zaq P e with
   | some m,some by_,some z=>.need (0≤n∧n≤cap∧cap≤9223372036854775807∧(by_:Int)*cap≤281474976710656∧(AV.ofVal z).cells.length=m∧(AV.ofVal z).ok=true) (.row e m (List.replicate n.toNat (AV.ofVal z)) [])
   | _,_,_=>.bad
 | _,_,_=>.bad
def Zdb (P:Program) (st:St) (t:TypeId):AV→Res
 | .pimm cs=>Zhk P t cs
 | .pbox k g off=>match st.mem k with
   | some (.box g' _ cs _)=>.need (g=g') (Zhk P t (cs.drop off))
   | _=>.bad
 | .prow k sv m i off=>match st.mem k with
   | some (.row sv' _ m' es _)=>.need (sv=sv'∧m=m'∧i < es.length) (Zhk P t ((es.getD i .u).cells.drop off))
   | _=>.bad
 | _=>.bad
def putEl (σ:Mem) (m off n:Nat) (es:List AV) (i:Nat) (x:AV) (R:List AV→Res):Res :=
 if m=1 then .need (off=0∧x.one=true) (R (es.set i (pubV σ x)))
 else match es.getD i .u with
  | .agg ecs=>.need (off+n≤m) (R (es.set i (.agg (Zeg ecs off (pubV σ x).cells))))
  | _=>.bad
def Zfb (P:Program) (st:St) (t:TypeId) (p x:AV):Res :=
 match szOf P t with
 | some n=>match p with
   | .pbox k g off=>match st.mem k with
     | some (.box g' e cs false)=>.need (g=g'∧x.ok=true∧x.cells.length=n∧off+n≤cs.length) (.sto .u k (.box g' e (Zeg cs off x.cells) false) [])
     | _=>.bad
   | .prow k sv m i off=>match marks st.mem x.toks k with
     | some (.row sv' e m' es pub)=>.need (sv=sv'∧m=m'∧pub≤i∧i < es.length∧x.ok=true∧x.cells.length=n∧Zfs (marks st.mem x.toks) x)
      (putEl (marks st.mem x.toks) m' off n es i x λes'=>.sto .u k (.row sv' e m' es' pub) x.toks)
     | _=>.bad
   | _=>.bad
 | none=>.bad
def Zl0:AV→Res
 | .pimm cs=>.val (.pimm cs) []
 | .pbox k g off=>.val (.pbox k g off) []
 | .prow k sv m i off=>.val (.prow k sv m i off) []
 | .fn f cs=>.val (.fn f cs) []
 | _=>.bad
def Zkn (mx:Bool):List AV→Res
 | [.v (.int k a),.v (.int k' b)]=>.need (k=k') (.val (.v (.int k (if mx then (if b > a then b else a) else (if b < a then b else a)))) [])
 | [.v (.int k a),.v (.int k' b),.v (.int k'' c)]=>.need (k=k'∧k=k'') (.val (.v (.int k (if mx then (if c > (if b > a then b else a) then c else (if b > a then b else a)) else (if c < (if b < a then b else a) then c else (if b < a then b else a))))) [])
 | _=>.bad
def ivkOf (P:Program) (t:TypeId) (name:String):Option FuncId:=match P.info? t with
 | some i=>match i.methods.find? (·.name == name) with
   | some m=>if m.path.toList.isEmpty then (match m.func,P.underlying t with
     | some (f,false),some (.struct _)=>some f
     | _,_=>none) else none
   | none=>none
 | none=>none
def Zco (P:Program) (st:St) (c:Call):Res :=
 match c.callee with
 | .builtin .len=>match c.args.toList,c.argTypes.toList with
   | [x],[t]=>match P.underlying t with
     | some d=>Zl2 st d (st.ev x)
     | none=>.bad
   | _,_=>.bad
 | .builtin .cap=>match c.args.toList,c.argTypes.toList with
   | [x],[t]=>match P.underlying t with
     | some d=>Zst d (st.ev x)
     | none=>.bad
   | _,_=>.bad
 | .builtin .append=>match c.args.toList,c.argTypes.toList with
   | [s,x],[t,t']=>Zgr P st t t' (st.ev s) (st.ev x)
   | _,_=>.bad
 | .builtin .copy=>match c.args.toList,c.argTypes.toList with
   | [d,x],[t,_]=>Znk P st t (st.ev d) (st.ev x)
   | _,_=>.bad
 | .builtin .clear=>match c.args.toList,c.argTypes.toList with
   | [x],[t]=>Zjw P st t (st.ev x)
   | _,_=>.bad
 | .builtin .max=>Zkn true (c.args.toList.map st.ev)
 | .builtin .min=>Zkn false (c.args.toList.map st.ev)
 | .value f=>match st.ev f with
   | .fn g caps=>.call g (c.args.toList.map st.ev++caps)
   | _=>.bad
 | .invoke r name=>match st.ev r with
   | .ifc t x=>match ivkOf P t name with
     | some g=>.call g (x :: c.args.toList.map st.ev)
     | none=>.bad
   | _=>.bad
 | _=>.bad
def Zif (s:MKey):List (MKey × AV)→Option AV
 | []=>none
 | a :: r=>if a.1=s then some a.2 else Zif s r
def Zgm (s:MKey) (x:AV):List (MKey × AV)→List (MKey × AV)
 | []=>[(s,x)]
 | a :: r=>if a.1=s then (s,x) :: r else a :: Zgm s x r
def mpRes (ok:Bool) (z:AV):Option AV→AV
 | some v=>if ok then .tup [v,.v (.bool true)] else v
 | none=>if ok then .tup [z,.v (.bool false)] else z
def Zo6:List AV→Option (List Int)
 | []=>some []
 | .v (.int .i64 i) :: r=>(Zo6 r).map (i :: ·)
 | _=>none
def stI (P:Program) (kt:TypeId) (n:Nat):Bool:=!P.stoodInHeld kt && match P.underlying kt with
 | some (.struct fs) => decide (fs.toList.map (·.offset) = List.range n) && fs.toList.all fun f => f.name != "_" && (match P.underlying f.type with
   | some (.int .i64)=>true
   | _=>false)
 | _=>false
def mkOf (P:Program) (kt:TypeId) (k:AV):Option MKey:=match P.underlying kt,k with
 | some .string,.v (.string s)=>some (.s s)
 | some (.struct _),.agg cs=>match Zo6 cs with
   | some ns=>if stI P kt ns.length then some (.l ns) else none
   | none=>none
 | _,_=>none
def Zow (κ:MKey) (es:List (MKey × AV)):Bool:=es.all λa=>κ.like a.1
theorem Zw2 (κ:MKey):Zow κ []=true:=rfl
def Zih (P:Program) (st:St) (t:TypeId) (m k:AV) (ok:Bool):Res :=
 match P.underlying t with
 | some (.map kt et)=>match mkOf P kt k,m with
   | some κ,.mp tk h=>match st.mem tk,Zaq P et with
     | some (.map h' es),some z=>.need (h=h'∧Zow κ es=true) (.val (mpRes ok (AV.ofVal z) (Zif κ es)) [])
     | _,_=>.bad
   | _,_=>.bad
 | _=>.bad
def Zig (P:Program) (st:St) (t:TypeId) (m k x:AV):Res :=
 match P.underlying t with
 | some (.map kt _)=>match mkOf P kt k,m,k with
   | some κ,.mp tk h,_=>match marks st.mem x.toks tk with
     | some (.map h' es)=>.need (h=h'∧Zow κ es=true∧Zfs (marks st.mem x.toks) x) (.sto .u tk (.map h (Zgm κ (pubV (marks st.mem x.toks) x) es)) x.toks)
     | _=>.bad
   | none,.mp tk h,.agg [.v (.int a i),.v (.int b j)]=>match st.mem tk,P.underlying kt with
     | some (.map h' []),some (.array n et)=>.need (h=h'∧n=2∧P.underlying et=some (.int a)∧b=a∧szOf P et=some 1) (.sto .u tk (.row (.slice none 0 0) 0 0 [] 0) [])
     | _,_=>.bad
   | _,_,_=>.bad
 | _=>.bad
def Zwh (t:Bool) (a b:AV):Res :=
 match a,b with
 | .v (.bool x),.v (.bool y)=>.val (.v (.bool (if t then x else y))) []
 | a,b=>.val (if t then a else b) []
def Zkh (st:St) (c a b:Operand):Res :=
 match st.ev c with
 | .v (.bool t)=>Zwh t (st.ev a) (st.ev b)
 | _=>.bad
def Zag (P:Program) (st:St):Op→Res
 | .move x | .assign x=>.val (st.ev x) []
 | .pick c a b=>Zkh st c a b
 | .alloc e=>match aZero P e with
   | some z=>.need (z.ok=true) (.box e z.cells)
   | none=>.bad
 | .box e x=>.need ((st.ev x).ok=true) (.box e (st.ev x).cells)
 | .build t parts=>Zjx P t (parts.toList.map λp=>(p.1,st.ev p.2))
 | .buildSlice t len parts=>Zer P st t len (parts.toList.map λp=>(p.1,st.ev p.2))
 | .load t x=>Zdb P st t (st.ev x)
 | .store t p x=>Zfb P st t (st.ev p) (st.ev x)
 | .nilCheck x=>Zl0 (st.ev x)
 | .binOp op t x y _=>Zma P op t (st.ev x) (st.ev y)
 | .unOp op _ x=>Zs5 op (st.ev x)
 | .convert s d x=>Znl P st.mem s d (st.ev x)
 | .makeFunc (.func f) first caps=>.need (first.toList.length=0) (.val (.fn f (caps.toList.map st.ev)) [])
 | .makeSlice t l cp=>Zff P t (st.ev l) (st.ev cp)
 | .makeMap _ none=>.mapn
 | .lookup t m k ok=>Zih P st t (st.ev m) (st.ev k) ok
 | .mapUpdate t m k x=>Zig P st t (st.ev m) (st.ev k) (st.ev x)
 | .slice t x lo hi mx=>Zgz P st t (st.ev x) (lo.map st.ev) (hi.map st.ev) (mx.map st.ev)
 | .fieldAddr s x f=>Zg7 P s (st.ev x) f
 | .field s x f=>match P.underlying s,st.ev x with
   | some (.struct fields),.agg cs=>match fields[f]? with
     | some fd=>Zog P fd.type cs fd.offset
     | none=>.bad
   | _,_=>.bad
 | .indexAddr t x i=>Zbb P st t (st.ev x) (st.ev i)
 | .index t x i=>Zju P t (st.ev x) (st.ev i)
 | .extract x i=>match st.ev x with
   | .tup vs=>match vs[i]? with
     | some a=>.val a []
     | none=>.bad
   | _=>.bad
 | .makeInterface t x=>match P.underlying t with
   | some (.interface _) | none=>.bad
   | some _=>.val (.ifc t (st.ev x)) []
 | .call cl=>Zco P st cl
 | _=>.bad
section runs
variable {P:Program} {w:World}
theorem Zah {t:TypeId} {n:Nat} (h:szOf P t=some n):(sizeOf t).run P w=.ok n w:=by
 unfold szOf at h
 cases hi:P.info? t with
 | none=>rw [hi] at h;cases h
 | some i =>
   rw [hi] at h;simp only [Zz7,Option.some.injEq] at h;simp [sizeOf,typeInfo,hi,h]
theorem Zak {t:TypeId} {z:Value} (h:Zaq P t=some z):(zeroValue t).run P w=.ok z w:=by
 unfold Zaq at h
 cases hi:P.info? t with
 | none=>rw [hi] at h;cases h
 | some i =>
   rw [hi] at h;simp only [ZCj] at h;simp [zeroValue,typeInfo,hi,h]
theorem Zl4 {t:TypeId} {n b:Nat} {z:Value} (hs:szOf P t=some n) (hb:Zea P t=some b) (hz:Zaq P t=some z):∃i,P.info? t=some i∧i.size=n∧i.bytes=b∧i.zero=some z:=by
 unfold szOf at hs;unfold Zea at hb;unfold Zaq at hz
 cases hi:P.info? t with
 | none=>rw [hi] at hs;cases hs
 | some i =>
   rw [hi] at hs hb hz;simp only [Zz7,Option.some.injEq,ZCj] at hs hb hz;exact⟨i,rfl,hs,hb,hz⟩
end runs
theorem Zet (a:Addr) (i j:Nat):(a.add i).add j=a.add (i+j):=by
 unfold Addr.add;by_cases hi:i=0<;>by_cases hj:j=0<;>simp [hi,hj,ZCx]
def CellsAt (w:World) (imm:Imm) (ad:Addr) (cs:List AV):Prop:=∀(j:Nat) (a:AV),cs[j]?=some a→∃x,w.cell? (ad.add j)=some x∧Rs w imm a x
theorem CellsAt.drop {w:World} {imm:Imm} {ad:Addr} {cs:List AV} (h:CellsAt w imm ad cs) (k:Nat):CellsAt w imm (ad.add k) (cs.drop k):=by
 intro j a ha;rw [ZAx] at ha;rw [Zet];exact h _ a ha
theorem Rd.one_of {w:World} {imm:Imm} {a:AV} {x:Value} (h:Rd w imm a x) (ho:a.one=true):x.oneCell'=true:=by
 cases h<;>simp_all [AV.one,Value.oneCell']
theorem Rs.one_of {w:World} {imm:Imm} {a:AV} {x:Value} (h:Rs w imm a x) (ho:a.one=true):x.oneCell'=true:=by
 cases h with
 | pure h=>exact h.one_of ho
 | own k sv h1=>exact h1
 | view k sv m i len y h1=>exact h1.one
 | _=>simp_all [AV.one,Value.oneCell']
theorem Zjg {x:Value} (h:x.oneCell'=true):x.cells=#[x]:=by
 cases x<;>first|rfl|cases h
theorem Rs.cells_of {w:World} {imm:Imm} {a:AV} {x:Value} (h:Rs w imm a x) (ho:a.ok=true):a.cells.length=x.cells.size∧(∀(j:Nat) (b:AV) (y:Value),a.cells[j]?=some b→x.cells[j]?=some y→Rs w imm b y)∧(∀b∈a.cells,b.one=true):=by
 have leaf:a.cells=[a]→x.cells=#[x]→a.one=true→a.cells.length=x.cells.size∧(∀(j:Nat) (b:AV) (y:Value),a.cells[j]?=some b→x.cells[j]?=some y→Rs w imm b y)∧(∀b∈a.cells,b.one=true):=by
  intro h1 h2 h3;rw [h1,h2];refine⟨rfl,λj b y hb hy=>?_,by simpa using h3⟩
  match j with
  | 0=>simp at hb hy;subst hb;subst hy;exact h
  | j+1=>simp at hb
 cases a with
 | agg cs =>
   obtain⟨vs,rfl,hl,hr⟩:=h.agg_inv;exact⟨hl,hr,λb hb=>List.all_eq_true.1 ho b hb⟩
 | tup cs=>simp [AV.ok,AV.one] at ho
 | u=>simp [AV.ok,AV.one] at ho
 | _ =>
   have h1:x.oneCell'=true:=h.one_of ho;exact leaf rfl (Zjg h1) ho
section
variable {P:Program} {c:Cx} {n tok:Nat} {st:St} {a:Act} {w:World} {imm:Imm} {K:St→Prop} {o:Oper} {Q:Exit→Act→World→Prop}
theorem Zht {s:Sem Value} {x:Value} {w':World} (h:s.run P w=.ok x w'):((do pure (Next.value (←s))):Sem Next).run P w=.ok (.value x) w':=by simp [h]
theorem Zae {s:Sem Value} {x:Value} {av:AV} (h:Rel c n st a w imm) (hd:∀d,o.dst=some d→d < n) (hK:aRes P tok o.dst (.val av []) K st) (hs:s.run P w=.ok x w) (hx:Rs w imm av x) :
 o.upon P a (Zbv c n K) Q (((do pure (Next.value (←s))):Sem Next).run P w):=by
 rw [Zht hs];exact Zc6 h hd hK λ_ _ hk=>hk.rs hx
theorem Zgn {t:TypeId} {cs:List AV} {ad:Addr} (h:Rel c n st a w imm) (hd:∀d,o.dst=some d→d < n) (hK:aRes P tok o.dst (Zhk P t cs) K st) (hc:CellsAt w imm ad cs) :
 o.upon P a (Zbv c n K) Q (((do pure (Next.value (←loadVar t ad))):Sem Next).run P w):=by
 have scalar:(isAgg t).run P w=.ok false w→aRes P tok o.dst (Zku cs) K st→o.upon P a (Zbv c n K) Q (((do pure (Next.value (←loadVar t ad))):Sem Next).run P w):=by
  intro hag hK
  cases cs with
  | nil=>exact hK.elim
  | cons x r =>
    obtain⟨y,hy,hr⟩:=hc 0 x rfl;have:ad.add 0=ad:=by simp [Addr.add]
    rw [this] at hy;refine Zae h hd hK ?_ hr;simp [loadVar,hag,hy]
 have aggr:(isAgg t).run P w=.ok true w→aRes P tok o.dst (Zip P t cs) K st→o.upon P a (Zbv c n K) Q (((do pure (Next.value (←loadVar t ad))):Sem Next).run P w):=by
  intro hag hK;unfold Zip at hK
  cases hs:szOf P t with
  | none=>rw [hs] at hK;exact hK.elim
  | some k =>
    rw [hs] at hK;obtain⟨hle,hK⟩:=hK
    have hex:∀j,j < k→∃x,w.cell? (ad.add j)=some x∧∀b,cs[j]?=some b→Rs w imm b x:=by
     intro j hj;obtain⟨x,h1,h2⟩:=hc j cs[j] (Zym zo);exact⟨x,h1,λb hb=>by rw [Zym zo] at hb;simp only [Option.some.injEq] at hb;exact hb ▸ h2⟩
    let f:Nat→Value:=λj=>(w.cell? (ad.add j)).getD undef
    have hf:∀j,j < k→w.cell? (ad.add j)=some (f j):=by
     intro j hj;obtain⟨x,h1,_⟩:=hex j hj;simp [f,h1]
    have hl:=run_loadCells (P:=P) w ad k f hf;refine Zae h hd hK (x:=.agg ((List.range k).map f).toArray) ?_ ?_
    ·simp [loadVar,hag,Zah hs,hl]
    ·refine .agg _ _ (by simp [hle]) λj b x h1 h2=>?_;rw [ZAe] at h1;split at h1
     ·rename_i hj;obtain⟨y,h3,h4⟩:=hex j hj
      have:f j=x:=by
       have h2':((List.range k).map f)[j]?=some x:=by simpa using h2
       simpa [Zzu,ZCk hj] using h2'
      rw [←this];simp only [f,h3,Zz9];exact h4 b h1
     ·cases h1
 unfold Zhk at hK
 cases hu:P.underlying t with
 | none=>rw [hu] at hK;exact hK.elim
 | some d =>
   rw [hu] at hK
   have hag:(isAgg t).run P w=.ok (Zfv d) w:=by
    simp only [isAgg,Zy3,Zy4 hu,Zy2];cases d<;>rfl
   cases hb:Zfv d with
   | true=>rw [hb] at hag;simp only [hb,Zzb] at hK;exact aggr hag hK
   | false=>rw [hb] at hag;simp only [hb,Zyy,Zy8] at hK;exact scalar hag hK
theorem Zi9 {t:TypeId} {cs:List AV} {vs:Array Value} {off:Nat} (h:Rel c n st a w imm) (hd:∀d,o.dst=some d→d < n) (hK:aRes P tok o.dst (Zog P t cs off) K st)
 (hl:cs.length=vs.size) (hr:∀(j:Nat) (a:AV) (x:Value),cs[j]?=some a→vs[j]?=some x→Rs w imm a x) :
 o.upon P a (Zbv c n K) Q (((do pure (Next.value (←part t vs off))):Sem Next).run P w):=by
 have scalar:(isAgg t).run P w=.ok false w→aRes P tok o.dst (Zku (cs.drop off)) K st→o.upon P a (Zbv c n K) Q (((do pure (Next.value (←part t vs off))):Sem Next).run P w):=by
  intro hag hK
  cases hcs:cs.drop off with
  | nil=>rw [hcs] at hK;exact hK.elim
  | cons x r =>
    rw [hcs] at hK
    have hx:cs[off]?=some x:=by
     have:=congrArg (λl=>l[0]?) hcs
     simpa [ZAx] using this
    have hlt:off < vs.size:=by
     rw [←hl];rcases Zy5 off cs.length with h1 | h1
     ·exact h1
     ·rw [Zz1 h1] at hx;cases hx
    have hv:vs[off]?=some vs[off]:=Zzl hlt;refine Zae h hd hK (x:=vs[off]) ?_ (hr off x _ hx hv);simp [part,hag,hv]
 have aggr:(isAgg t).run P w=.ok true w→aRes P tok o.dst (Zjo P t cs off) K st→o.upon P a (Zbv c n K) Q (((do pure (Next.value (←part t vs off))):Sem Next).run P w):=by
  intro hag hK;unfold Zjo at hK
  cases hs:szOf P t with
  | none=>rw [hs] at hK;exact hK.elim
  | some k =>
    rw [hs] at hK;refine Zae h hd hK (x:=.agg (vs.extract off (off+k))) ?_ ?_
    ·simp [part,hag,Zah hs]
    ·refine .agg _ _ (by simp [hl];omega) λj b x h1 h2=>?_;rw [ZAe] at h1;split at h1
     ·rw [ZAx] at h1;refine hr (off+j) b x h1 ?_;rw [Array.getElem?_extract] at h2;split at h2
      ·exact h2
      ·cases h2
     ·cases h1
 unfold Zog at hK
 cases hu:P.underlying t with
 | none=>rw [hu] at hK;exact hK.elim
 | some d =>
   rw [hu] at hK
   have hag:(isAgg t).run P w=.ok (Zfv d) w:=by
    simp only [isAgg,Zy3,Zy4 hu,Zy2];cases d<;>rfl
   cases hb:Zfv d with
   | true=>rw [hb] at hag;simp only [hb,Zzb] at hK;exact aggr hag hK
   | false=>rw [hb] at hag;simp only [hb,Zyy,Zy8] at hK;exact scalar hag hK
end
theorem Zdq {m:Nat}:∀{es:List AV},(∀x∈es,x.cells.length=m)→∀(i j:Nat),j < m→i < es.length→(flat es)[i*m+j]?=(es.getD i .u).cells[j]?
 | [],_,i,j,_,h=>by simp at h
 | a :: r,hl,0,j,hj,_=>by
   have ha:=hl a (Zzw ..);simp only [flat,ZBr,Nat.zero_mul,Zzd,ZAa];rw [Zzr (by rw [ha];exact hj)]
 | a :: r,hl,i+1,j,hj,h=>by
   have ha:=hl a (Zzw ..);have ih:=Zdq (es:=r) (λx hx=>hl x (ZAd _ hx)) i j hj (by simpa using h);simp only [flat,ZBr,ZAb] at ih ⊢;have e:(i+1)*m+j=m+(i*m+j):=by rw [Zze,ZAj];omega
   rw [e,Zzv zo,ha,ZBs];exact ih
theorem Zgy {cs new:List AV} {off:Nat} (h:off+new.length≤cs.length) (j:Nat):(Zeg cs off new)[j]?=if off≤j∧j < off+new.length then new[j - off]? else cs[j]?:=by
 unfold Zeg;have hl:(cs.take off).length=off:=by simp;omega
 by_cases h1:j < off
 ·rw [Zyj zo,Zzt,Zzr zo,ZAe,Zyk h1]
 ·rw [Zzt,Zzv zo,hl];by_cases h2:j < off+new.length
  ·rw [Zyk zo,Zzr zo]
  ·rw [Zyj zo,Zzv zo,ZAx];congr 1;omega
theorem Zen {cs new:List AV} {off:Nat} (h:off+new.length≤cs.length):(Zeg cs off new).length=cs.length:=by
 simp [Zeg];omega
theorem Zhr {cs new:List Value} {off:Nat} (h:off+new.length≤cs.length) (j:Nat):(cs.take off++new++cs.drop (off+new.length))[j]?=if off≤j∧j < off+new.length then new[j - off]? else cs[j]?:=by
 have hl:(cs.take off).length=off:=by simp;omega
 by_cases h1:j < off
 ·rw [Zyj zo,Zzt,Zzr zo,ZAe,Zyk h1]
 ·rw [Zzt,Zzv zo,hl];by_cases h2:j < off+new.length
  ·rw [Zyk zo,Zzr zo]
  ·rw [Zyj zo,Zzv zo,ZAx];congr 1;omega
theorem Zfc (w:World) (g:Nat) (cs:Array Value):w.grownBy (w.setRow g cs) (some g) :=
 ⟨rfl,rfl,rfl,by simp,λk _ hk=>setRow_other w g k cs (λe=>hk (by rw [e]))⟩
section
variable {P:Program} {c:Cx} {n tok:Nat} {st:St} {a:Act} {w:World} {imm:Imm} {K:St→Prop} {o:Oper} {Q:Exit→Act→World→Prop}
theorem Zk9 {σ:Mem} (h:Mx c σ w imm) {k g:Nat} {e:TypeId} {cs:List AV} {pub:Bool} (hk:σ k=some (.box g e cs pub)):CellsAt w imm ⟨g,0,none⟩ cs:=by
 obtain⟨cur,hh,_,hl,_,hr,_⟩:=h.ok.ent k _ hk;intro j b hb
 have hlt:j < cur.size:=by
  rw [←hl];rcases Zy5 j cs.length with h1 | h1
  ·exact h1
  ·rw [Zz1 h1] at hb;cases hb
 refine⟨cur[j],?_,hr j b _ hb (Zzl hlt)⟩;rw [Zz4,Zzd,cell_of_row w g j cur e (0,0) hh];exact Zzl hlt
theorem Zkc {σ:Mem} (h:Mx c σ w imm) {k g:Nat} {e:TypeId} {m nn cc pub:Nat} {es:List AV} (hk:σ k=some (.row (.slice (some ⟨g,0,none⟩) nn cc) e m es pub)) {i:Nat} (hi:i < es.length) :
 CellsAt w imm ⟨g,i*m,none⟩ (es.getD i .u).cells:=by
 obtain⟨xs,hown,hm,hok,hr,_⟩:=h.ok.ent k _ hk;intro j b hb
 have hel:(es.getD i .u).cells.length=m:=by
  rw [Zyu,Zym hi];exact hm _ (Zy6 _)
 have hj:j < m:=by
  rw [←hel];rcases Zy5 j (es.getD i .u).cells.length with h1 | h1
  ·exact h1
  ·rw [Zz1 h1] at hb;cases hb
 have hf:=Zdq hm i j hj hi;rw [hb] at hf
 have hlt:i*m+j < es.length*m:=by
  have:(i+1)*m≤es.length*m:=Zzf _ hi;rw [Zze,ZAj] at this;omega
 have hx:i*m+j < xs.length:=by rw [hown.1];exact hlt
 have hn:nn=es.length:=by
  rcases hown.2 with⟨h1,_⟩ | ⟨g',cap,cur,h1,_⟩
  ·cases h1
  ·cases h1;rfl
 subst hn;refine⟨xs[i*m+j],?_,.pure (hr _ b _ hf (Zym hx))⟩;rw [Zz4,hown.cellAt _ hlt];exact Zym hx
theorem s_load {t:TypeId} {av:AV} {x:Value} (h:Rel c n st a w imm) (hd:∀d,o.dst=some d→d < n) (hK:aRes P tok o.dst (Zdb P st t av) K st) (hx:Rs w imm av x) :
 o.upon P a (Zbv c n K) Q (((do pure (Next.value (←Instr.loadAt t x))):Sem Next).run P w):=by
 cases av with
 | pimm cs =>
   obtain⟨ad,f,rfl,h1,h2⟩:=hx.pimm_inv;refine Zgn h hd hK (ad:=ad) λj b hb=>?_
   have hj:j < cs.length:=by
    rcases Zy5 j cs.length with h3 | h3
    ·exact h3
    ·rw [Zz1 h3] at hb;cases hb
   exact⟨f j,(h1 j hj).2,.pure (h2 j b hb)⟩
 | pbox k g off =>
   have:=hx.pbox_inv;subst this;unfold Zdb at hK
   cases hk:st.mem k with
   | none=>simp only [hk] at hK;exact hK.elim
   | some e =>
     cases e with
     | row=>simp only [hk] at hK;exact hK.elim
     | map=>simp only [hk] at hK;exact hK.elim
     | obj=>simp only [hk] at hK;exact hK.elim
     | box g' e cs pub =>
       simp only [hk] at hK;obtain⟨rfl,hK⟩:=hK;refine Zgn h hd hK (ad:=⟨g,off,none⟩) ?_;have:=(Zk9 h.mem hk).drop off
       rwa [Zz4,Zzd] at this
 | prow k sv m i off =>
   obtain⟨g,nn,cc,rfl,rfl⟩:=hx.prow_inv;unfold Zdb at hK
   cases hk:st.mem k with
   | none=>simp only [hk] at hK;exact hK.elim
   | some e =>
     cases e with
     | box=>simp only [hk] at hK;exact hK.elim
     | map=>simp only [hk] at hK;exact hK.elim
     | obj=>simp only [hk] at hK;exact hK.elim
     | row sv' e m' es pub =>
       simp only [hk] at hK;obtain⟨⟨rfl,rfl,hi⟩,hK⟩:=hK;refine Zgn h hd hK (ad:=⟨g,i*m+off,none⟩) ?_;have:=(Zkc h.mem hk hi).drop off
       rwa [Zz4] at this
 | _=>exact hK.elim
theorem Zx8 {σ:Mem} (h:Mx c σ w imm) {k g:Nat} {e:TypeId} {cs cs':List AV} (hk:σ k=some (.box g e cs false)) {off:Nat} {vs:List Value} (hl:cs'.length=cs.length) (hfit:off+vs.length≤cs.length)
 (h1:∀v∈vs,v.oneCell'=true) (hone:∀x∈cs',x.one=true)
 (hr:∀(j:Nat) (b:AV),cs'[j]?=some b→if off≤j∧j < off+vs.length then ∀x,vs[j - off]?=some x→Rs w imm b x else cs[j]?=some b) :
 ∃w',(storeCells ⟨g,off,none⟩ vs).run P w=.ok () w'∧Mx c (upd σ k (some (.box g e cs' false))) w' imm∧Keeps w imm w' imm:=by
 obtain⟨cur,hh,hB,hlen,_,hrs,hp,_⟩:=h.ok.ent k _ hk;have hst:=run_storeCells_at P g off e vs 0 cur w hh (by simpa [←hlen] using hfit) h1;simp only [Zzm] at hst
 have hcell:∀ad,imm ad→(w.setRow g (cur.toList.take off++vs++cur.toList.drop (off+vs.length)).toArray).cell? ad=w.cell? ad:=by
  intro ad h2;have hne:ad.block≠g:=λe=>by have:=hp ad h2 e;cases this
  exact Zd0 (Zfc w g _) (h.ok.lt ad h2) (by simpa using hne)
 have hkeep:Keeps w imm (w.setRow g (cur.toList.take off++vs++cur.toList.drop (off+vs.length)).toArray) imm:=λad h2=>⟨h2,hcell ad h2⟩;refine⟨_,hst,Zdy h (Zfc w g _) (Zyp _) (λg' hg'=>by cases hg';exact hB) hcell k _ ⟨_,setRow_heap w g cur _ e (0,0) hh,hB,?_,hone,λj b x h2 h3=>hkeep.rs ?_,hp,λh2=>by cases h2⟩ λj e2 b h2 h3 h4=>?_⟩
 ·simp only [ZCw,Zza,Zy1,ZA5,ZBb];omega
 ·have h5:=hr j b h2;have h6:(cur.toList.take off++vs++cur.toList.drop (off+vs.length))[j]?=some x:=by simpa using h3
  rw [Zhr (by have:cur.toList.length=cur.size:=rfl;omega)] at h6;split at h5
  ·rename_i hc;rw [Zyk hc] at h6;exact h5 x h6
  ·rename_i hc;rw [Zyj hc] at h6;exact hrs j b x h5 (by simpa using h6)
 ·have:b≠g:=λe=>h2 (h.ok.apart j k e2 _ g h3 hk (e ▸ h4) rfl);exact⟨by simpa using this,by simpa [Ent.blk] using λe=>this e.symm⟩
theorem Zp2 {σ:Mem} (h:Mx c σ w imm) {k g:Nat} {e:TypeId} {m nn cc pub:Nat} {es es':List AV} (hk:σ k=some (.row (.slice (some ⟨g,0,none⟩) nn cc) e m es pub)) {off:Nat} {vs:List Value}
 (hl:es'.length=es.length) (hfit:off+vs.length≤es.length*m) (hpub:pub*m≤off) (h1:∀v∈vs,v.oneCell'=true) (hm':∀x∈es',x.cells.length=m) (hok':∀x∈es',x.ok=true)
 (hr:∀(j:Nat) (b:AV),(flat es')[j]?=some b→if off≤j∧j < off+vs.length then ∀x,vs[j - off]?=some x→Rd w imm b x else (flat es)[j]?=some b) :
 ∃w',(storeCells ⟨g,off,none⟩ vs).run P w=.ok () w'∧Mx c (upd σ k (some (.row (.slice (some ⟨g,0,none⟩) nn cc) e m es' pub))) w' imm∧Keeps w imm w' imm:=by
 obtain⟨xs,hown,hm,hok,hrs,hpl,hp,hq⟩:=h.ok.ent k _ hk;rcases hown.2 with⟨h2,_⟩ | ⟨g',cap,cur,h2,hB,hh,hnc,hcm,hcs,htake⟩
 ·cases h2
 cases h2;have hcl:es.length*m≤cur.size:=by rw [hcs];exact Zzf _ hnc
 have hst:=run_storeCells_at P g off e vs 0 cur w hh zo h1;simp only [Zzm] at hst
 have hcell:∀ad,imm ad→(w.setRow g (cur.toList.take off++vs++cur.toList.drop (off+vs.length)).toArray).cell? ad=w.cell? ad:=by
  intro ad h2;by_cases hg:ad.block=g
  ·have h3:=hp ad h2 (by simp [Value.ownBlock,hg]);have h4:=h.ok.spot ad h2;obtain⟨b,of,s⟩:=ad;simp only at hg h3 h4;subst hg;subst h4;rw [cell_of_row _ b of _ e (0,0) (setRow_heap w b cur _ e (0,0) hh),cell_of_row w b of cur e (0,0) hh];have:=Zhr (cs:=cur.toList) (new:=vs) (off:=off) (by have:cur.toList.length=cur.size:=rfl;omega) of;rw [Zyj zo] at this
   simpa using this
  ·exact Zd0 (Zfc w g _) (h.ok.lt ad h2) (by simpa using hg)
 have hkeep:Keeps w imm (w.setRow g (cur.toList.take off++vs++cur.toList.drop (off+vs.length)).toArray) imm:=λad h2=>⟨h2,hcell ad h2⟩
 have hlen2:(cur.toList.take off++vs++cur.toList.drop (off+vs.length)).length=cur.size:=by
  simp only [Zza,Zy1,ZA5,ZBb];omega
 refine⟨_,hst,Zdy h (Zfc w g _) (Zyp _) (λg' hg'=>by cases hg';exact hB) hcell k _
  ⟨(cur.toList.take off++vs++cur.toList.drop (off+vs.length)).take (es.length*m),⟨by rw [Zy1,hlen2,hl];exact ZAk hcl,.inr ⟨g,_,_,by rw [hl],hB,setRow_heap w g cur _ e (0,0) hh,by rw [hl];exact hnc,hcm,by rw [ZCw,hlen2,hcs],by rw [hl]⟩⟩,hm',hok',
    λj b x h2 h3=>hkeep.rd ?_,by rw [hl];exact hpl,hp,hq⟩ λj e2 b h2 h3 h4=>?_⟩
 ·rw [ZAe] at h3;split at h3
  ·rename_i hj;rw [Zhr (by have:cur.toList.length=cur.size:=rfl;omega)] at h3;have h5:=hr j b h2;split at h5
   ·rename_i hc;rw [Zyk hc] at h3;exact h5 x h3
   ·rename_i hc;rw [Zyj hc] at h3;refine hrs j b x h5 ?_;rw [←htake,ZAe,Zyk hj];exact h3
  ·cases h3
 ·have:b≠g:=λe=>h2 (h.ok.apart j k e2 _ g h3 hk (e ▸ h4) rfl);exact⟨by simpa using this,by simpa [Ent.blk,Value.ownBlock] using λe=>this e.symm⟩
end
theorem Zgk {a:AV} (h:a.one=true):a.cells=[a]:=by cases a<;>first|rfl|cases h
theorem one_ok {a:AV} (h:a.one=true):a.ok=true:=by cases a<;>first|exact h|cases h
theorem ok_one {a:AV} (h:a.ok=true):∀b∈a.cells,b.one=true:=by
 cases a with
 | agg cs=>exact λb hb=>List.all_eq_true.1 h b hb
 | _=>intro b hb;simp only [AV.cells,ZAr] at hb;subst hb;exact h
theorem Znf {es:List AV} (hok:∀e∈es,e.ok=true):∀b∈flat es,b.one=true:=by
 intro b hb;simp only [flat,List.mem_flatMap] at hb;obtain⟨e,he,hb⟩:=hb;exact ok_one (hok e he) b hb
theorem Zqd {σ:Mem} {a:AV} (ho:Zfs σ a) (h:a.one=true):(pubV σ a).one=true:=by
 cases a with
 | own k sv =>
   simp only [Zfs,pubV,Zgd,Zli] at ho ⊢;split at ho
   ·rfl
   ·exact ho.elim
 | view k sv m i len =>
   simp only [Zfs,pubV,Zgd,Zli] at ho ⊢;split at ho
   ·rfl
   ·exact ho.elim
 | pbox k g off =>
   simp only [Zfs,pubV] at ho ⊢;split at ho
   ·rfl
   ·exact ho.elim
 | prow=>exact ho.elim
 | v x=>exact h
 | _=>first|rfl|cases h
theorem Zoc {σ:Mem}:∀{l:List AV},Ze3 σ l→(∀b∈l,b.one=true)→∀b∈Zeo σ l,b.one=true
 | [],_,_,b,hb=>by simp [Zeo] at hb
 | a :: r,ho,h,b,hb=>by
   simp only [Zeo,Zz8] at hb;rcases hb with rfl | hb
   ·exact Zqd ho.1 (h a (Zzw ..))
   ·exact Zoc ho.2 (λc hc=>h c (ZAd _ hc)) b hb
theorem pub_ok {σ:Mem} {a:AV} (ho:Zfs σ a) (h:a.ok=true):(pubV σ a).ok=true∧(pubV σ a).cells.length=a.cells.length:=by
 cases ha:a with
 | agg cs =>
   subst ha;exact⟨List.all_eq_true.2 (Zoc ho λb hb=>List.all_eq_true.1 h b hb),Zb3 σ cs⟩
 | tup cs=>subst ha;cases h
 | u=>subst ha;cases h
 | _ =>
   have h1:a.one=true:=by rw [ha] at h ⊢;exact h
   have h2:=Zqd ho h1;rw [←ha];exact⟨one_ok h2,by rw [Zgk h2,Zgk h1];rfl⟩
theorem Zlw {w:World} {imm:Imm} {a:AV} {x:Value} (h:Rd w imm a x) (ho:a.ok=true) (j:Nat) (b:AV) (hb:a.cells[j]?=some b) (y:Value) (hy:x.cells[j]?=some y):Rd w imm b y:=by
 cases ha:a with
 | agg cs =>
   subst ha
   cases h with
   | agg _ vs hl hr=>exact hr j b y hb hy
 | tup cs=>subst ha;cases ho
 | u=>subst ha;cases ho
 | _ =>
   have h1:a.one=true:=by rw [ha] at ho ⊢;exact ho
   rw [Zgk h1] at hb;rw [Zjg (h.one_of h1)] at hy
   match j with
   | 0=>simp at hb hy;subst hb;subst hy;exact h
   | j+1=>simp at hb
theorem Zne {m:Nat} {el:AV}:∀{es:List AV},(∀x∈es,x.cells.length=m)→∀(i:Nat),i < es.length→el.cells.length=m→∀j,(flat (es.set i el))[j]?=if i*m≤j∧j < i*m+m then el.cells[j - i*m]? else (flat es)[j]?
 | [],_,i,h,_,_=>by simp at h
 | a :: r,hl,0,_,he,j=>by
   have ha:=hl a (Zzw ..);simp only [flat,List.set_cons_zero,ZBr,Nat.zero_mul,Zzd,Zyv,true_and,ZBi];by_cases hj:j < m
   ·rw [Zyk hj,Zzr zo]
   ·rw [Zyj hj,Zzv zo,Zzv zo,he,ha]
 | a :: r,hl,i+1,h,he,j=>by
   have ha:=hl a (Zzw ..);have ih:=Zne (es:=r) (λx hx=>hl x (ZAd _ hx)) i (by simpa using h) he (j - m);have e:(i+1)*m=m+i*m:=by rw [Zze,ZAj,ZBh]
   simp only [flat,List.set_cons_succ,ZBr] at ih ⊢;by_cases hj:j < m
   ·rw [Zzr zo,Zzr zo,Zyj zo]
   ·rw [Zzv zo,Zzv zo,ha,ih];by_cases hc:i*m≤j - m∧j - m < i*m+m
    ·rw [Zyk hc,Zyk zo];congr 1;omega
    ·rw [Zyj hc,Zyj zo]
section
variable {P:Program} {c:Cx} {n tok:Nat} {st:St} {a:Act} {w:World} {imm:Imm} {K:St→Prop} {o:Oper} {Q:Exit→Act→World→Prop}
theorem Zkb {t:TypeId} {ad:Addr} {x:Value} {w':World} {k:Nat} (hs:szOf P t=some k) (hk:x.cells.size=k) (hr:(storeCells ad x.cells.toList).run P w=.ok () w') :
 ((do Instr.storeAt t (.pointer (some ad)) x;pure Next.skip):Sem Next).run P w=.ok .skip w':=by
 have:Instr.storeAt t (.pointer (some ad)) x=storeVar t ad x:=rfl;rw [this];simp [storeVar,Zah hs,hk,hr]
theorem Zil {a:AV} {x:Value} (h:Rs w imm a x) (ho:a.ok=true):∀v∈x.cells.toList,v.oneCell'=true:=by
 obtain⟨hl,hr,h1⟩:=h.cells_of ho;intro v hv;obtain⟨j,hj⟩:=List.getElem?_of_mem hv
 have hlt:j < a.cells.length:=by
  rw [hl];rcases Zy5 j x.cells.toList.length with h2 | h2
  ·simpa using h2
  ·rw [Zz1 h2] at hj;cases hj
 exact(hr j _ v (Zym hlt) (by simpa using hj)).one_of (h1 _ (Zy6 hlt))
theorem s_store {t:TypeId} {pv av:AV} {p x:Value} (h:Rel c n st a w imm) (hd:∀d,o.dst=some d→d < n) (hK:aRes P tok o.dst (Zfb P st t pv av) K st) (hp:Rs w imm pv p) (hx:Rs w imm av x) :
 o.upon P a (Zbv c n K) Q (((do Instr.storeAt t p x;pure Next.skip):Sem Next).run P w):=by
 unfold Zfb at hK
 cases hs:szOf P t with
 | none=>simp only [hs] at hK;exact hK.elim
 | some sz =>
   simp only [hs] at hK
   cases pv with
   | pbox k g off =>
     have:=hp.pbox_inv;subst this
     cases hk:st.mem k with
     | none=>simp only [hk] at hK;exact hK.elim
     | some e =>
       cases e with
       | row=>simp only [hk] at hK;exact hK.elim
       | map=>simp only [hk] at hK;exact hK.elim
       | obj=>simp only [hk] at hK;exact hK.elim
       | box g' e cs pub =>
         cases pub with
         | true=>simp only [hk] at hK;exact hK.elim
         | false =>
           simp only [hk] at hK;obtain⟨⟨rfl,hok,hlen,hfit⟩,hK⟩:=hK;obtain⟨hl,hr,h1⟩:=hx.cells_of hok;have hfit':off+av.cells.length≤cs.length:=zo;obtain⟨w',hrun,hm,hkp⟩:=Zx8 h.mem hk (off:=off) (vs:=x.cells.toList) (cs':=Zeg cs off av.cells) (Zen hfit') (by simp [←hl];omega) (Zil hx hok)
            (λb hb=>by
             simp only [Zeg,ZBc] at hb;obtain⟨cur,_,_,_,hone,_⟩:=h.mem.ok.ent k _ hk;rcases hb with(hb | hb) | hb
             ·exact hone b (Zzy hb)
             ·exact h1 b hb
             ·exact hone b (ZA2 hb))
            (λj b hb=>by
             rw [Zgy hfit'] at hb;simp only [ZBb,←hl];split
             ·rename_i hc;rw [Zyk hc] at hb;exact λy hy=>hr _ b y hb (by simpa using hy)
             ·rename_i hc
              rwa [Zyj hc] at hb)
           rw [Zkb hs zo hrun];refine Zf3 h hd hK (.inr ⟨rfl,rfl⟩) λi' hm' hk'=>?_;obtain⟨w2,hrun2,hm2,hkp2⟩:=Zx8 hm' hk (off:=off) (vs:=x.cells.toList) (cs':=Zeg cs off av.cells) (Zen hfit') (by simp [←hl];omega) (Zil hx hok)
            (λb hb=>by
             simp only [Zeg,ZBc] at hb;obtain⟨cur,_,_,_,hone,_⟩:=h.mem.ok.ent k _ hk;rcases hb with(hb | hb) | hb
             ·exact hone b (Zzy hb)
             ·exact h1 b hb
             ·exact hone b (ZA2 hb))
            (λj b hb=>by
             rw [Zgy hfit'] at hb;simp only [ZBb,←hl];split
             ·rename_i hc;rw [Zyk hc] at hb;exact λy hy=>hk'.rs (hr _ b y hb (by simpa using hy))
             ·rename_i hc
              rwa [Zyj hc] at hb)
           rw [hrun] at hrun2;cases hrun2;exact⟨hm2,hkp2,.pure (.u _)⟩
   | prow k sv m i off =>
     obtain⟨g,nn,cc,rfl,rfl⟩:=hp.prow_inv
     cases hk:marks st.mem av.toks k with
     | none=>simp only [hk] at hK;exact hK.elim
     | some e =>
       cases e with
       | box=>simp only [hk] at hK;exact hK.elim
       | map=>simp only [hk] at hK;exact hK.elim
       | obj=>simp only [hk] at hK;exact hK.elim
       | row sv' e m' es pub =>
         simp only [hk] at hK;obtain⟨⟨rfl,rfl,hpi,hi,hok,hlen,hpo⟩,hK⟩:=hK;obtain⟨i',hm',hk'⟩:=Zc1 av.toks h.mem;have hrd:=Zgc hm' (hk'.rs hx) hpo;obtain⟨hpok,hplen⟩:=pub_ok hpo hok;obtain⟨hl,hr,h1⟩:=(Rs.pure hrd).cells_of hpok;obtain⟨xs,hown,hmm,hokk,_⟩:=hm'.ok.ent k _ hk;have hvl:x.cells.toList.length=sz:=by simp [←hl];omega
         have key:∀(es':List AV) (el:AV),es'=es.set i el→el.cells.length=m→el.ok=true→off+sz≤m →
          (∀(j:Nat) (b:AV),el.cells[j]?=some b→if off≤j∧j < off+sz then (pubV (marks st.mem av.toks) av).cells[j - off]?=some b else (es.getD i .u).cells[j]?=some b) →
          aRes P tok o.dst (.sto .u k (.row (.slice (some ⟨g,0,none⟩) nn cc) e m es' pub) av.toks) K st→o.upon P a (Zbv c n K) Q (((do Instr.storeAt t (.pointer (some ⟨g,i*m+off,none⟩)) x;pure Next.skip):Sem Next).run P w):=by
          rintro es' el rfl hel helok hfit hcells hK
          have him:i*m+m≤es.length*m:=by
           have:(i+1)*m≤es.length*m:=Zzf _ hi
           rwa [Zze,ZAj] at this
          have hpim:pub*m≤i*m:=Zzf _ hpi
          have put:∀i2,Mx c (marks st.mem av.toks) w i2→Keeps w imm w i2→∃w',(storeCells ⟨g,i*m+off,none⟩ x.cells.toList).run P w=.ok () w'∧Mx c (upd (marks st.mem av.toks) k (some (.row (.slice (some ⟨g,0,none⟩) nn cc) e m (es.set i el) pub))) w' i2∧Keeps w i2 w' i2:=by
           intro i2 hm2 hk2;have hrd2:=Zgc hm2 (hk2.rs hx) hpo;refine Zp2 hm2 hk (off:=i*m+off) (vs:=x.cells.toList) zs zo zo (Zil (.pure hrd2) hpok) (λy hy=>?_) (λy hy=>?_) λj b hb=>?_
           ·rcases ZCl hy with h2 | rfl
            ·exact hmm y h2
            ·exact hel
           ·rcases ZCl hy with h2 | rfl
            ·exact hokk y h2
            ·exact helok
           ·rw [Zne hmm i hi hel] at hb;rw [hvl];by_cases hc:i*m≤j∧j < i*m+m
            ·rw [Zyk hc] at hb;have h4:=hcells _ b hb;by_cases hc2:i*m+off≤j∧j < i*m+off+sz
             ·rw [Zyk hc2];rw [Zyk zo] at h4;intro y hy;have e1:j - i*m - off=j - (i*m+off):=zo;rw [e1] at h4;exact Zlw hrd2 hpok _ _ h4 _ (by simpa using hy)
             ·rw [Zyj hc2];rw [Zyj zo] at h4;have h5:=Zdq hmm i (j - i*m) zo hi;have e1:i*m+(j - i*m)=j:=zo;rw [e1] at h5;rw [h5];exact h4
            ·rw [Zyj hc] at hb;rw [Zyj zo];exact hb
          obtain⟨w',hrun,hm2,hk2⟩:=put i' hm' hk';rw [Zkb hs (by simpa using hvl) hrun];refine Zf3 h hd hK (.inr ⟨rfl,rfl⟩) λi2 hmi hki=>?_;obtain⟨w2,hrun2,hm3,hk3⟩:=put i2 hmi hki;rw [hrun] at hrun2;cases hrun2;exact⟨hm3,hk3,.pure (.u _)⟩
         unfold putEl at hK
         have hgel:(es.getD i .u).cells.length=m:=by
          rw [Zyu,Zym hi];exact hmm _ (Zy6 _)
         by_cases hm1:m=1
         ·rw [Zyk hm1] at hK;obtain⟨⟨rfl,hone⟩,hK⟩:=hK;have h2:=Zqd hpo hone;have h3:=Zgk h2;have h4:sz=1:=by rw [←hlen,Zgk hone];rfl
          refine key _ _ rfl (by rw [h3,hm1];rfl) (one_ok h2) zo (λj b hb=>?_) hK;rw [h3] at hb
          match j with
          | 0=>rw [Zyk zo,h3];exact hb
          | j+1=>simp at hb
         ·rw [Zyj hm1] at hK
          cases hge:es.getD i .u with
          | agg ecs =>
            rw [hge] at hK hgel;obtain⟨hfit,hK⟩:=hK;change ecs.length=m at hgel;have hf2:off+(pubV (marks st.mem av.toks) av).cells.length≤ecs.length:=zo;refine key _ (.agg (Zeg ecs off (pubV (marks st.mem av.toks) av).cells)) rfl ((Zen hf2).trans hgel) ?_ hfit (λj b hb=>?_) hK
            ·have hgok:(AV.agg ecs).ok=true:=by
              rw [←hge,Zyu,Zym hi];exact hokk _ (Zy6 _)
             refine List.all_eq_true.2 λb hb=>?_;simp only [Zeg,ZBc] at hb;rcases hb with(hb | hb) | hb
             ·exact List.all_eq_true.1 hgok b (Zzy hb)
             ·exact ok_one hpok b hb
             ·exact List.all_eq_true.1 hgok b (ZA2 hb)
            ·change (Zeg ecs off (pubV (marks st.mem av.toks) av).cells)[j]?=some b at hb;rw [Zgy hf2,hplen,hlen] at hb;rw [hge];split
             ·rename_i hc
              rwa [Zyk hc] at hb
             ·rename_i hc
              rwa [Zyj hc] at hb
          | _=>rw [hge] at hK;exact hK.elim
   | _=>exact hK.elim
end
section
variable {P:Program} {c:Cx} {n tok:Nat} {st:St} {a:Act} {w:World} {imm:Imm} {K:St→Prop} {o:Oper} {Q:Exit→Act→World→Prop}
structure Src (w:World) (imm:Imm) (m:Nat) (es:List AV) (x:Value) (A:Option Addr) (cp:Nat) (xs:List Value):Prop where
 val:x=.slice A es.length cp
 len:xs.length=es.length*m
 some_:0 < es.length→A≠none
 cell:∀ad,A=some ad→∀(j:Nat) (u:Value),xs[j]?=some u→w.cell? (ad.add j)=some u
 one:∀u∈xs,u.oneCell'=true
 rd:∀(j:Nat) (a:AV) (x:Value),(flat es)[j]?=some a→xs[j]?=some x→Rd w imm a x
 cells:∀x∈es,x.cells.length=m
 ok:∀x∈es,x.ok=true
theorem Zbl {α:Type} {l:List α} {j:Nat} {a:α} (h:l[j]?=some a):j < l.length:=by
 rcases Zy5 j l.length with h1 | h1
 ·exact h1
 ·rw [Zz1 h1] at h;cases h
theorem src_sl {m:Nat} {es:List AV} {x:Value} (h:Rs w imm (.sl m es) x):∃A cp xs,Src w imm m es x A cp xs∧es.length≤cp:=by
 obtain⟨A,cap,f,rfl,hcap,hm,hok,hn,hA,hr⟩:=h.sl_inv;have hfl:=Zaz hm;refine⟨A,cap,(List.range (es.length*m)).map f,⟨rfl,by simp,hn,λad had j u hu=>?_,λu hu=>?_,λj b y hb hy=>?_,hm,hok⟩,hcap⟩
 ·have hj:j < es.length*m:=by simpa using Zbl hu
  rw [Zzu,ZCk hj] at hu;simp only [Zz7,Option.some.injEq] at hu;obtain⟨ad',h1,_,h2⟩:=hA j hj;rw [had] at h1;cases h1;rw [←hu];exact h2
 ·simp only [List.mem_map,List.mem_range] at hu;obtain⟨j,hj,rfl⟩:=hu;have hlt:j < (flat es).length:=by rw [hfl];exact hj
  exact(hr j _ (Zym hlt)).one_of (Znf hok _ (Zy6 hlt))
 ·have hj:j < es.length*m:=by rw [←hfl];exact Zbl hb
  rw [Zzu,ZCk hj] at hy;simp only [Zz7,Option.some.injEq] at hy;rw [←hy];exact hr j b hb
theorem Zj6 {σ:Mem} (h:Mx c σ w imm) {k:Nat} {sv:Value} {e:TypeId} {m pub:Nat} {es:List AV} (hk:σ k=some (.row sv e m es pub)):∃A cp xs,Src w imm m es sv A cp xs∧es.length≤cp∧w.ownsRow c.B e m sv es.length xs:=by
 obtain⟨xs,hown,hm,hok,hr,_⟩:=h.ok.ent k _ hk;have hfl:=Zaz hm
 have hone:∀u∈xs,u.oneCell'=true:=by
  intro u hu;obtain⟨j,hj⟩:=List.getElem?_of_mem hu;have hlt:j < (flat es).length:=by rw [hfl,←hown.1];exact Zbl hj
  exact(hr j _ u (Zym hlt) hj).one_of (Znf hok _ (Zy6 hlt))
 rcases hown.2 with⟨rfl,hn⟩ | ⟨g,cap,cur,rfl,hB,hh,hnc,hcm,hcs,htake⟩
 ·have:es=[]:=ZBq hn;subst this;exact⟨none,0,xs,⟨rfl,hown.1,by simp,by simp,hone,hr,hm,hok⟩,by simp,hown⟩
 ·exact⟨some ⟨g,0,none⟩,cap,xs,⟨rfl,hown.1,by simp,λad had=>by cases had;exact hown.cells (g:=g) rfl,hone,hr,hm,hok⟩,hnc,hown⟩
theorem src_view {σ:Mem} (h:Mx c σ w imm) {k:Nat} {sv y:Value} {e:TypeId} {m pub i len:Nat} {es:List AV} (hk:σ k=some (.row sv e m es pub)) (hv:ViewOk sv m i len y):∃A cp xs,Src w imm m ((es.take (i+len)).drop i) y A cp xs:=by
 obtain⟨A,cp,xs,hs,hcap,hown⟩:=Zj6 h hk;rcases hv with⟨rfl,rfl,rfl,rfl⟩ | ⟨g,n,c',off,cap,rfl,rfl,hle,hlc,hoff,_⟩
 ·exact⟨none,0,[],⟨rfl,by simp,by simp,by simp,by simp,by simp [flat],by simp,by simp⟩⟩
 ·have hval:=hs.val;cases hval;have hlen:((es.take (i+len)).drop i).length=len:=by simp;omega
  have hsub:∀e∈(es.take (i+len)).drop i,e∈es:=λe he=>Zzy (ZA2 he);have hmul:i*m+len*m≤es.length*m:=by rw [←Zze];exact Zzf _ hle
  have hxl:=hs.len;refine⟨some ⟨g,off,none⟩,cap,(xs.drop (i*m)).take (len*m),⟨by rw [hlen],by rw [hlen,Zy1,ZA5];omega,λ_=>by simp,λad had j u hu=>?_,λu hu=>hs.one u (ZA2 (Zzy hu)),λj a x ha hx=>?_,λe he=>hs.cells e (hsub e he),λe he=>hs.ok e (hsub e he)⟩⟩
  ·cases had;have hj:j < len*m:=by have:=Zbl hu;simp at this;omega
   have hl0:0 < len:=by
    rcases Zz0 len with h5 | h5
    ·rw [h5] at hj;omega
    ·exact h5
   rw [ZAe,Zyk hj,ZAx] at hu;have:=hs.cell _ rfl _ u hu;rw [hoff hl0];rw [Zz4] at this ⊢
   rwa [Zzd] at this
  ·have hj:j < len*m:=by have:=Zbl hx;simp at this;omega
   rw [ZAe,Zyk hj,ZAx] at hx;exact hs.rd _ a x (Zng hs.cells zo hle j a ha) hx
theorem Ze7 {m:Nat} {av:AV} {x:Value} {R:List AV→Res} {dst:Option Nat} (h:Mx c st.mem w imm) (hx:Rs w imm av x) (hK:aRes P tok dst (Zd1 st.mem m av R) K st) :
 ∃es A cp xs,aRes P tok dst (R es) K st∧Src w imm m es x A cp xs:=by
 unfold Zd1 at hK;split at hK
 ·rename_i m' es;obtain⟨rfl,hK⟩:=hK;obtain⟨A,cp,xs,hs,_⟩:=src_sl hx;exact⟨es,A,cp,xs,hK,hs⟩
 ·rename_i k sv;split at hK
  ·rename_i sv' e m' es pub hk;obtain⟨⟨rfl,rfl⟩,hK⟩:=hK;obtain⟨A,cp,xs,hs,_⟩:=Zj6 h hk;have:=hx.own_inv;subst this;exact⟨es,A,cp,xs,hK,hs⟩
  ·exact hK.elim
 ·rename_i k sv m' i len;split at hK
  ·rename_i sv' e m'' es pub hk;obtain⟨⟨rfl,rfl,rfl⟩,hK⟩:=hK;obtain⟨A,cp,xs,hs⟩:=src_view h hk hx.view_inv;exact⟨_,A,cp,xs,hK,hs⟩
  ·exact hK.elim
 ·have:=hx.v_inv;subst this;exact⟨[],none,0,[],hK,⟨rfl,by simp,by simp,by simp,by simp,by simp [flat],by simp,by simp⟩⟩
 ·exact hK.elim
theorem s_append {t t' ty:TypeId} {sv_ xv:AV} {s x:Value} (h:Rel c n st a w imm) (hd:∀d,o.dst=some d→d < n) (hK:aRes P tok o.dst (Zgr P st t t' sv_ xv) K st) (hs:Rs w imm sv_ s) (hx:Rs w imm xv x) :
 o.upon P a (Zbv c n K) Q (((do pure (Next.value (←Builtin.append_ #[t,t'] ty #[s,x]))):Sem Next).run P w):=by
 unfold Zgr at hK;split at hK
 ·rename_i e hu;split at hK
  ·rename_i m by_ z hsz hby hz;obtain⟨i,hi,rfl,rfl,hzz⟩:=Zl4 hsz hby hz;split at hK
   ·rename_i k sv;split at hK
    ·rename_i sv' e' m' es pub hk;split at hK
     ·rename_i b;obtain⟨⟨hu2,rfl,rfl,rfl,hm1,hb1,rfl,hbytes⟩,hK⟩:=hK;have:=hs.own_inv;subst this;have hxv:=hx.v_inv;subst hxv;obtain⟨xs,hown,hm,hok,hr,hpl,hp,hq⟩:=h.mem.ok.ent k _ hk;have hbs:(b.data.toList.map λc=>AV.v (.int .u8 c.toNat)).length=b.size:=by rw [Zyn,ZBb];rfl
      obtain⟨v',w',hrun,hown',hg,hdw,hat,hsame⟩:=Zq9 (P:=P) w c.B t t' ty e' i hu hu2 hi hzz hm1 hb1 s es.length xs hown b (by simp only [maxLen];omega) hbytes h.mem.lt
      have hfl:flat (b.data.toList.map λc=>AV.v (.int .u8 c.toNat))=b.data.toList.map λc=>AV.v (.int .u8 c.toNat):=by
       generalize b.data.toList=q;unfold flat
       induction q with
       | nil=>rfl
       | cons a q ih=>simp only [Zz2,ZBr,ih];rfl
      obtain⟨i',hm',hk'⟩:=Zlb (pub:=pub) (news:=b.data.toList.map λc=>AV.v (.int .u8 c.toNat)) (xn:=Lib.strCells b) h.mem (by rw [hbs];exact hown') hown.1 hg hdw hat hsame (λy hy=>(List.mem_append.1 hy).elim (hm y) λhy=>by obtain⟨q,_,rfl⟩:=List.mem_map.1 hy;rfl) (λy hy=>(List.mem_append.1 hy).elim (hok y) λhy=>by obtain⟨q,_,rfl⟩:=List.mem_map.1 hy;rfl) hr
       (λj a x ha hx2=>by
        rw [hfl,Zzu] at ha;unfold Lib.strCells at hx2;rw [Zzu] at hx2;obtain⟨q,hq1,rfl⟩:=Option.map_eq_some_iff.1 ha;rw [hq1] at hx2;simp only [Zz7,Option.some.injEq] at hx2;subst hx2;exact .v _) hpl
       (λg hg'=>(hown.lt g hg').1) hp (λj e2 b h1 h2 h3 h4=>h1 (h.mem.ok.apart j k e2 _ b h2 hk h3 h4.symm))
      rw [Zht hrun]
      have hv1:v'.oneCell'=true:=by
       rcases hown'.2 with⟨rfl,_⟩ | ⟨g,cap,cur,rfl,_⟩<;>rfl
      have hK2:∀sv:Value,K (St.put ⟨st.env,upd st.mem k (some (.row sv e' 1 (es++b.data.toList.map λc=>AV.v (.int .u8 c.toNat)) pub))⟩ o.dst (.own k sv)):=by
       have:=hK;simp only [aRes,marks,hk] at this;exact this
      exact⟨_,i',hK2 v',h.step hk' hm' hd (.own k v' hv1)⟩
     ·obtain⟨⟨rfl,rfl,rfl,rfl,hzs⟩,hK⟩:=hK;have:=hs.own_inv;subst this;obtain⟨news,A,cp,xn,hK,hsrc⟩:=Ze7 h.mem hx hK;obtain⟨⟨h63,hbytes⟩,hK⟩:=hK;obtain⟨xs,hown,hm,hok,hr,hpl,hp,hq⟩:=h.mem.ok.ent k _ hk;have hxv:=hsrc.val;subst hxv;obtain⟨v',w',hrun,hown',hg,hdw,hat,hsame⟩:=Zi0 (P:=P) w c.B t ty e' i z hu hi hzz hzs s es.length xs hown A news.length cp xn hsrc.len hsrc.some_ hsrc.cell hsrc.one (by simp only [maxLen];omega) hbytes h.mem.lt;obtain⟨i',hm',hk'⟩:=Zlb (pub:=pub) h.mem hown' hown.1 hg hdw hat hsame (λy hy=>(List.mem_append.1 hy).elim (hm y) (hsrc.cells y)) (λy hy=>(List.mem_append.1 hy).elim (hok y) (hsrc.ok y)) hr hsrc.rd hpl
       (λg hg'=>(hown.lt g hg').1) hp (λj e2 b h1 h2 h3 h4=>h1 (h.mem.ok.apart j k e2 _ b h2 hk h3 h4.symm))
      rw [Zht hrun]
      have hv1:v'.oneCell'=true:=by
       rcases hown'.2 with⟨rfl,_⟩ | ⟨g,cap,cur,rfl,_⟩<;>rfl
      have hK2:∀sv:Value,K (St.put ⟨st.env,upd st.mem k (some (.row sv e' i.size (es++news) pub))⟩ o.dst (.own k sv)):=by
       have:=hK;simp only [aRes,marks,hk] at this;exact this
      exact⟨_,i',hK2 v',h.step hk' hm' hd (.own k v' hv1)⟩
    ·exact hK.elim
   ·rename_i k sv m₁ i₁ n₁;split at hK
    ·rename_i sv' e' m' es pub hk;obtain⟨⟨rfl,rfl,rfl,rfl,hmm,rfl,hpn,hnl,hzs⟩,hK⟩:=hK;subst hmm;have hvw:=hs.view_inv;obtain⟨news,A,cp,xn,hK,hsrc⟩:=Ze7 h.mem hx hK;obtain⟨⟨h63,hbytes⟩,hK⟩:=hK;obtain⟨xs,hown,hm,hok,hr,hpl,hp,hq⟩:=h.mem.ok.ent k _ hk;have hxv:=hsrc.val;subst hxv;have hnm:n₁*i.size≤es.length*i.size:=Zzf _ hnl;have hxl:=hown.1
     have hsub:w.ownsRow c.B e' i.size s n₁ (xs.take (n₁*i.size))∧s.ownBlock=sv.ownBlock:=by
      rcases hvw with⟨rfl,_,rfl,rfl⟩ | ⟨g,n,c',off,cap,rfl,rfl,hle,hlc,hoff,h0⟩
      ·exact⟨⟨by simp,.inl ⟨rfl,rfl⟩⟩,rfl⟩
      ·obtain⟨rfl,rfl⟩:=h0 rfl;rcases hown.2 with⟨h1,_⟩ | ⟨g',cap',cur,h1,hB,hh,hnc,hcm,hcs,htake⟩
       ·cases h1
       ·cases h1;refine⟨⟨by rw [Zy1];omega,.inr ⟨g,cap,cur,rfl,hB,hh,hlc,hcm,hcs,?_⟩⟩,rfl⟩;rw [←htake,List.take_take,ZAk hnm]
     obtain⟨hown1,hblk⟩:=hsub;have hmt:∀y∈es.take n₁,y.cells.length=i.size:=λy hy=>hm y (Zzy hy);have hlt1:(es.take n₁).length=n₁:=by rw [Zy1];omega
     obtain⟨v',w',hrun,hown',hg,hdw,hat,hsame⟩:=Zi0 (P:=P) w c.B t ty e' i z hu hi hzz hzs s n₁ _ hown1 A news.length cp xn hsrc.len hsrc.some_ hsrc.cell hsrc.one (by simp only [maxLen];omega) hbytes h.mem.lt;obtain⟨i',hm',hk'⟩:=Zlb (k:=k) (es:=es.take n₁) (pub:=pub) h.mem (by rw [hlt1];exact hown') (by rw [hlt1];exact hown1.1) hg hdw hat (by rw [hlt1];exact hsame) (λy hy=>(List.mem_append.1 hy).elim (hmt y) (hsrc.cells y)) (λy hy=>(List.mem_append.1 hy).elim (λh5=>hok y (Zzy h5)) (hsrc.ok y))
      (λj a x ha hx=>by
       have h5:=Zng (l:=0) (hh:=n₁) hm zo hnl j a (by simpa using ha);have hj:j < n₁*i.size:=by have:=Zbl hx;simp at this;omega
       rw [ZAe,Zyk hj] at hx;exact hr j a x (by simpa using h5) hx) hsrc.rd (by rw [hlt1];exact hpn)
      (λg hg'=>(hown1.lt g hg').1) (λad h1 h2=>hp ad h1 (hblk ▸ h2)) (λj e2 b h1 h2 h3 h4=>h1 (h.mem.ok.apart j k e2 _ b h2 hk h3 (show sv.ownBlock=some b from hblk ▸ h4.symm)))
     rw [Zht hrun]
     have hv1:v'.oneCell'=true:=by
      rcases hown'.2 with⟨rfl,_⟩ | ⟨g,cap,cur,rfl,_⟩<;>rfl
     have hK2:∀sv:Value,K (St.put ⟨st.env,upd st.mem k (some (.row sv e' i.size (es.take n₁++news) pub))⟩ o.dst (.own k sv)):=by
      have:=hK;simp only [aRes,hk] at this;exact this
     exact⟨_,i',hK2 v',h.step hk' hm' hd (.own k v' hv1)⟩
    ·exact hK.elim
   ·split at hK
    ·rename_i nn;obtain⟨⟨htn,hzs,hm0,hn0,h63,hby2,hzl,hzok⟩,hK⟩:=hK;have:=hs.v_inv;subst this;have:=hx.v_inv;subst this;obtain⟨nn,rfl⟩:=ZCy (show 0≤nn by omega);simp only [Zz5] at hby2 hK;have hrun:=Go.Lib.run_append_nil_zeros (P:=P) w t t' ty e i z .i64 .i64 hu htn hi hzz nn zo hm0 h63 zo;have hl1:(Builtin.zeroCells z.cells nn).toList.length=nn*i.size:=by rw [ZBb,size_zeroCells,hzs]
     have hown':World.ownsRow (w.drew.alloc (.cells (Builtin.zeroCells z.cells nn++Builtin.zeroCells z.cells (grownCap w nn 0 e - nn)) e)) c.B e i.size (.slice (some ⟨w.heap.size,0,none⟩) nn (grownCap w nn 0 e)) nn (Builtin.zeroCells z.cells nn).toList:=by
      have hge:=grownCap_ge w nn 0 e;refine⟨hl1,.inr ⟨w.heap.size,_,_,rfl,h.mem.lt,heap_alloc_new w.drew _,hge,grownCap_le_maxLen w nn 0 e (by simp only [maxLen];omega),?_,?_⟩⟩
      ·rw [Array.size_append,size_zeroCells,size_zeroCells,hzs,←Zze,show nn+(grownCap w nn 0 e - nn)=grownCap w nn 0 e by omega]
      ·rw [←hl1];simp only [Array.toList_append];exact List.take_left
     have hg:w.grownBy (w.drew.alloc (.cells (Builtin.zeroCells z.cells nn++Builtin.zeroCells z.cells (grownCap w nn 0 e - nn)) e)) none:=⟨rfl,rfl,rfl,by simp,λk hk _=>Below.heap_alloc w.drew _ k hk⟩
     have hcs:∀(b:AV) (y:Value) (j:Nat),(AV.ofVal z).cells[j]?=some b→z.cells[j]?=some y→b=.v y:=by
      intro b y j hb hy;cases z<;>first
       | (simp only [AV.ofVal,AV.cells,Value.cells] at hb hy
          match j with
          | 0=>simp at hb hy;rw [←hb,←hy]
          | j+1=>simp at hb)
       | (simp only [AV.ofVal,AV.cells,Value.cells,Zzu,ZBa] at hb hy
          rw [hy] at hb;simp at hb;exact hb.symm)
     have hrd:∀(j:Nat) (b:AV) (y:Value),(flat (List.replicate nn (AV.ofVal z)))[j]?=some b→(Builtin.zeroCells z.cells nn).toList[j]?=some y→Rd w imm b y:=by
      intro j b y hb hy;have hm:∀x∈List.replicate nn (AV.ofVal z),x.cells.length=i.size:=λy hy=>by rw [ZBj hy];exact hzl
      have hj:j < nn*i.size:=by
       have:=Zbl hb
       rwa [Zaz hm,ZCc] at this
      have hdm:j=(j/i.size)*i.size+j%i.size:=by rw [Zzj];exact(ZAy j i.size).symm
      have hq:j/i.size < nn:=by rw [ZBk hm0];exact hj
      have hfg:=Zdq hm (j/i.size) (j%i.size) (Zzs _ hm0) (by simpa using hq);rw [←hdm,hb] at hfg;rw [Zyu,ZCz,Zyk hq] at hfg;simp only [Zz9] at hfg;have hlt:j%i.size < z.cells.size:=by rw [hzs];exact Zzs _ hm0
      have hy2:y=z.cells[j%i.size]!:=by
       rw [ZBa] at hy;unfold Builtin.zeroCells at hy;rw [ZCm,Array.getElem?_range,Zyk (by rw [hzs];exact hj),hzs] at hy
       simpa using hy.symm
      have:=hcs b y (j%i.size) hfg.symm (by rw [hy2,Zzl hlt];simp [hlt]);rw [this];exact .v y
     obtain⟨i',hm',hk'⟩:=Zlb (k:=tok) (es:=[]) (xs:=[]) (pub:=0) (sv:=.slice none 0 0) (news:=List.replicate nn (AV.ofVal z)) (xn:=(Builtin.zeroCells z.cells nn).toList) (w':=w.drew.alloc (.cells (Builtin.zeroCells z.cells nn++Builtin.zeroCells z.cells (grownCap w nn 0 e - nn)) e)) (v':=.slice (some ⟨w.heap.size,0,none⟩) nn (grownCap w nn 0 e)) h.mem (by simpa using hown') zs hg (Nat.le_succ _) (.inr rfl) (by simp [Value.ownBlock]) (λy hy=>by rw [ZBj hy];exact hzl) (λy hy=>by rw [ZBj hy];exact hzok) (by simp [flat]) hrd zs
      (by simp [Value.ownBlock]) (by simp [Value.ownBlock]) (by simp [Value.ownBlock])
     rw [Zht hrun];exact⟨_,i',hK _,h.step hk' hm' hd (.own tok _ rfl)⟩
    ·obtain⟨⟨rfl,hzs⟩,hK⟩:=hK;have:=hs.v_inv;subst this;obtain⟨news,A,cp,xn,hK,hsrc⟩:=Ze7 h.mem hx hK;obtain⟨⟨h63,hbytes⟩,hK⟩:=hK;have hxv:=hsrc.val;subst hxv;obtain⟨v',w',hrun,hown',hg,hdw,hat,hsame⟩:=Zi0 (P:=P) w c.B t ty e i z hu hi hzz hzs (.slice none 0 0) 0 [] (ZC8 w c.B e i.size) A news.length cp xn hsrc.len hsrc.some_ hsrc.cell hsrc.one (by simp only [maxLen];omega) (by simpa using hbytes) h.mem.lt;obtain⟨i',hm',hk'⟩:=Zlb (k:=tok) (es:=[]) (xs:=[]) (pub:=0) (sv:=.slice none 0 0) h.mem (by simpa using hown') zs hg hdw hat (by simp [Value.ownBlock]) (by simpa using hsrc.cells) (by simpa using hsrc.ok) (by simp [flat]) hsrc.rd zs
      (by simp [Value.ownBlock]) (by simp [Value.ownBlock]) (by simp [Value.ownBlock])
     rw [Zht hrun]
     have hv1:v'.oneCell'=true:=by
      rcases hown'.2 with⟨rfl,_⟩ | ⟨g,cap,cur,rfl,_⟩<;>rfl
     exact⟨_,i',hK v',h.step hk' hm' hd (.own tok v' hv1)⟩
   ·exact hK.elim
  ·exact hK.elim
 ·exact hK.elim
theorem s_copy {t ty u:TypeId} {dv xv:AV} {s x:Value} (h:Rel c n st a w imm) (hd:∀d,o.dst=some d→d < n) (hK:aRes P tok o.dst (Znk P st t dv xv) K st) (hs:Rs w imm dv s) (hx:Rs w imm xv x) :
 o.upon P a (Zbv c n K) Q (((do pure (Next.value (←Builtin.copy_ #[t,u] ty #[s,x]))):Sem Next).run P w):=by
 unfold Znk at hK;split at hK
 ·rename_i e hu;split at hK
  ·rename_i m hsz;split at hK
   ·rename_i k sv;split at hK
    ·rename_i sv' e' m' es pub hk;obtain⟨⟨rfl,rfl,rfl,rfl⟩,hK⟩:=hK;have:=hs.own_inv;subst this;obtain⟨news,A,cp,xn,hK,hsrc⟩:=Ze7 h.mem hx hK;have hxv:=hsrc.val;subst hxv;obtain⟨A2,cp2,xs,hsrc2,_,hown⟩:=Zj6 h.mem hk;have hsv:=hsrc2.val;subst hsv;have hq:min news.length es.length*m'≤xn.length:=by rw [hsrc.len];exact Zzf _ (Nat.min_le_left _ _)
     have hf:(Builtin.firstCells m' (min news.length es.length) (.slice A news.length cp)).run P w=.ok (xn.take (min news.length es.length*m')).toArray w:=by
      cases A with
      | some ad =>
        refine run_firstCells_some (P:=P) w m' _ ad _ _ _ (by rw [Zy1];omega) λj v hv=>?_;rw [ZAe] at hv;split at hv
        ·exact hsrc.cell ad rfl j v hv
        ·cases hv
      | none =>
        have h0:news.length=0:=by rcases Zz0 news.length with h1 | h1;exact h1;exact absurd rfl (hsrc.some_ h1)
        simp [Builtin.firstCells,h0]
     have hlen:(news.take es.length++es.drop news.length).length=es.length:=by simp;omega
     have put:∀i2,Mx c st.mem w i2→Keeps w imm w i2→∃w',(match A2 with | some ad=>storeCells ad (xn.take (min news.length es.length*m')) | none=>pure ()).run P w=.ok () w'∧Mx c (upd st.mem k (some (.row (.slice A2 es.length cp2) e' m' (news.take es.length++es.drop news.length) 0))) w' i2∧Keeps w i2 w' i2:=by
      intro i2 hm2 hk2;rcases hown.2 with⟨h1,h2⟩ | ⟨g,cap,cur,h1,h2⟩
      ·have:es=[]:=ZBq h2;subst this;simp only [Zy0,Value.slice.injEq,true_and] at h1;obtain⟨rfl,rfl⟩:=h1;refine⟨w,rfl,?_,Keeps.refl _ _⟩
       have e1:upd st.mem k (some (.row (.slice none 0 0) e' m' [] 0))=st.mem:=by
        funext j
        rw [Zal];split
        ·subst_vars;rw [hk];rfl
        ·rfl
       simp only [Zy0,ZBd,List.drop_nil,Zzz];rw [e1];exact hm2
      ·cases h1;refine Zp2 hm2 hk (off:=0) (vs:=xn.take (min news.length es.length*m')) hlen ?_ zs (λv hv=>hsrc.one v (Zzy hv)) ?_ ?_ λj b hb=>?_
       ·rw [Zy1,Zzd];exact Zyz (Nat.min_le_left _ _) (Zzf _ (Nat.min_le_right _ _))
       ·intro y hy;rcases List.mem_append.1 hy with hy | hy
        ·exact hsrc.cells y (Zzy hy)
        ·exact hsrc2.cells y (ZA2 hy)
       ·intro y hy;rcases List.mem_append.1 hy with hy | hy
        ·exact hsrc.ok y (Zzy hy)
        ·exact hsrc2.ok y (ZA2 hy)
       ·have hl1:(flat (news.take es.length)).length=min news.length es.length*m':=by
         rw [Zaz λy hy=>hsrc.cells y (Zzy hy),Zy1,Nat.min_comm]
        have hl2:(xn.take (min news.length es.length*m')).length=min news.length es.length*m':=by rw [Zy1];omega
        rw [Zbk] at hb;rw [hl2];split
        ·rename_i hc;rw [Zzr zo] at hb;intro y hy;rw [ZBi,ZAe,Zyk zo] at hy
         have hb2:(flat news)[j]?=some b:=by
          have e1:flat news=flat (news.take es.length)++flat (news.drop es.length):=by rw [←Zbk,ZAw]
          rw [e1,Zzr zo];exact hb
         exact hk2.rd (hsrc.rd j b y hb2 hy)
        ·rename_i hc;rw [Zzv zo,hl1] at hb;have e1:flat es=flat (es.take news.length)++flat (es.drop news.length):=by rw [←Zbk,ZAw]
         have hl3:(flat (es.take news.length)).length=min news.length es.length*m':=by
          rw [Zaz λy hy=>hsrc2.cells y (Zzy hy),Zy1]
         rw [e1,Zzv zo,hl3];exact hb
     obtain⟨w',hrun,_,_⟩:=put imm h.mem (Keeps.refl _ _)
     have hall:(Builtin.copy_ #[t,u] ty #[.slice A2 es.length cp2,.slice A news.length cp]).run P w=.ok (.int .i64 (min news.length es.length:Nat)) w':=by
      have hmin:Nat.min news.length es.length=min news.length es.length:=rfl
      cases A2 with
      | none =>
        simp only [Zy9,Result.ok.injEq,true_and] at hrun;subst hrun;simp [Builtin.copy_,Zy4 hu,Builtin.lenOf,Zah hsz,hmin,hf,goInt]
      | some ad=>simp [Builtin.copy_,Zy4 hu,Builtin.lenOf,Zah hsz,hmin,hf,goInt,hrun]
     rw [Zht hall];refine Zf3 h hd hK (.inl rfl) λi' hm' hk'=>?_;obtain⟨w2,hrun2,hm2,hk2⟩:=put i' hm' hk';rw [hrun] at hrun2;cases hrun2;exact⟨hm2,hk2,.pure (.v _)⟩
    ·exact hK.elim
   ·exact hK.elim
  ·exact hK.elim
 ·exact hK.elim
theorem s_make {t:TypeId} {lv cv:AV} {l cp:Value} (h:Rel c n st a w imm) (hd:∀d,o.dst=some d→d < n) (hK:aRes P tok o.dst (Zff P t lv cv) K st) (hl:Rs w imm lv l) (hc:Rs w imm cv cp) :
 o.upon P a (Zbv c n K) Q (((do pure (Next.value (←Instr.makeSlice t l cp))):Sem Next).run P w):=by
 unfold Zff at hK;split at hK
 ·rename_i e kl nn kc cap hu;split at hK
  ·rename_i m by_ z hsz hby hz;obtain⟨i,hi,rfl,rfl,hzz⟩:=Zl4 hsz hby hz;obtain⟨⟨h0,h1,h2,h3,hzl,hzok⟩,hK⟩:=hK;have:=hl.v_inv;subst this;have:=hc.v_inv;subst this;obtain⟨nn,rfl⟩:=ZCy h0;obtain⟨cap,rfl⟩:=ZCy (show 0≤cap by omega);have hr:=run_make (P:=P) w t e i z hu hi hzz kl kc (nn:Int) (cap:Int) zo zo h3 h2;simp only [Zz5] at hr hK;rw [Zht hr];have hzc:=(Rs.pure (Rd.v (w:=w) (imm:=imm) z))
   have hcs:∀(b:AV) (y:Value) (j:Nat),(AV.ofVal z).cells[j]?=some b→z.cells[j]?=some y→b=.v y:=by
    intro b y j hb hy;cases z<;>first
     | (simp only [AV.ofVal,AV.cells,Value.cells] at hb hy
        match j with
        | 0=>simp at hb hy;rw [←hb,←hy]
        | j+1=>simp at hb)
     | (simp only [AV.ofVal,AV.cells,Value.cells,Zzu,ZBa] at hb hy
        rw [hy] at hb;simp at hb;exact hb.symm)
   have hzsz:z.cells.size=i.size:=by
    rw [←hzl];cases z<;>simp [AV.ofVal,AV.cells,Value.cells]
   refine upon_row (cap:=cap) (vs:=madeCells z.cells (cap*i.size)) (es:=List.replicate nn (AV.ofVal z)) h hd hK (by simp;omega) (by simp only [maxLen];omega) (by simp [madeCells]) (λy hy=>by rw [ZBj hy];exact hzl) (λy hy=>by rw [ZBj hy];exact hzok) ?_ |> (λh=>by simpa using h)
   intro imm' _ _ j b y hb hy;have hm:∀x∈List.replicate nn (AV.ofVal z),x.cells.length=i.size:=λy hy=>by rw [ZBj hy];exact hzl
   have hj:j < nn*i.size:=by
    have:=Zbl hb
    rwa [Zaz hm,ZCc] at this
   have hm0:0 < i.size:=by
    rcases Zz0 i.size with h4 | h4
    ·rw [h4] at hj;omega
    ·exact h4
   have hdm:j=(j/i.size)*i.size+j%i.size:=by rw [Zzj];exact(ZAy j i.size).symm
   have hq:j/i.size < nn:=by rw [ZBk hm0];exact hj
   have hfg:=Zdq hm (j/i.size) (j%i.size) (Zzs _ hm0) (by simpa using hq);rw [←hdm,hb] at hfg;rw [Zyu,ZCz,Zyk hq] at hfg;simp only [Zz9] at hfg;have hjc:j < cap*i.size:=ZAq hj (Zzf _ zo)
   have hy2:y=z.cells[j%i.size]!:=by
    simp only [madeCells,hzsz] at hy;rw [ZCm,Array.getElem?_range,Zyk hjc] at hy
    simpa using hy.symm
   have hlt:j%i.size < z.cells.size:=by rw [hzsz];exact Zzs _ hm0
   have:=hcs b y (j%i.size) hfg.symm (by rw [hy2,Zzl hlt];simp [hlt]);rw [this];exact .v y
  ·exact hK.elim
 ·exact hK.elim
end
end Go.Pg
