/- Contracts of the functions that the law reaches, and the rules by which they are walked. They say what a call hands back for every input within the bounds that each names; no other condition. -/
import Derived.Test.YtimmnimikmnljaaGreatBp1
import Derived.DataElems
import Derived.DataReads
import Derived.Test.YtimmnimikmnljaaGreatRows
set_option linter.unusedSimpArgs false
set_option linter.unusedVariables false
set_option maxRecDepth 20000
set_option maxHeartbeats 16000000
namespace Go.Pg
open Go Go.RowKit
def Zm0 (σ σ':Mem):Mem:=λk=>match σ' k with
 | some e=>some e
 | none=>σ k
theorem EntOk.lower {B B':Nat} {w:World} {imm:Imm} {e:Ent} (h:EntOk B w imm e) (hB:B'≤B):EntOk B' w imm e:=by
 cases e with
 | row sv e m es pub =>
   obtain⟨xs,hown,hrest⟩:=h;refine⟨xs,⟨hown.1,?_⟩,hrest⟩;rcases hown.2 with h1 | ⟨g,cap,cur,h1,h2,h3⟩
   ·exact .inl h1
   ·exact .inr ⟨g,cap,cur,h1,by omega,h3⟩
 | box g e cs pub =>
   obtain⟨cur,h1,h2,h3⟩:=h;exact⟨cur,h1,by omega,h3⟩
 | map g es =>
   obtain⟨arr,clock,h1,h2,h3⟩:=h;exact⟨arr,clock,h1,by omega,h3⟩
section
variable {P:Program} {c:Cx} {n tok:Nat} {st:St} {a:Act} {w:World} {imm:Imm} {K:St→Prop} {o:Oper} {Q:Exit→Act→World→Prop}
def KQ (K:St→Prop) (tok:Nat) (dst:Option Nat) (st st':St):Prop :=
 K ⟨st'.env,Zm0 st.mem st'.mem⟩∨∃(sv:Value) (e:TypeId) (m:Nat) (es:List AV),st'=St.put ⟨st.env,upd Zan tok (some (.row sv e m es 0))⟩ dst (.own tok sv)∧K (St.put st dst (.sl m es))
theorem Zom (σ:Mem):Zm0 σ Zan=σ:=rfl
theorem Zn4 {e:Nat→AV} {sv:Value} {t:TypeId} {m:Nat} {es:List AV} {dst:Option Nat} {a:Act} {w:World} {imm:Imm} (h:Rel c n (St.put ⟨e,upd Zan tok (some (.row sv t m es 0))⟩ dst (.own tok sv)) a w imm) :
 ∃imm',Rel c n (St.put ⟨e,Zan⟩ dst (.sl m es)) a w imm':=by
 have none_mx:∀{σ:Mem} {imm:Imm},Mx c σ w imm→Mx c Zan w imm:=λhm=>⟨⟨λk e hk=>by simp [Zan] at hk,λk k' e e' b hk=>by simp [Zan] at hk,hm.ok.lt,hm.ok.spot⟩,hm.below,hm.lt,hm.old,hm.new,hm.cells⟩
 cases dst with
 | none=>exact⟨imm,h.env,h.size,h.defers,none_mx h.mem⟩
 | some d =>
   obtain⟨i1,hm1,hk1⟩:=Zdk [tok] h.mem;refine⟨i1,λt'=>?_,h.size,h.defers,none_mx hm1⟩;have h1:=hk1.rs (h.env t');show Rs w i1 (upd e d (.sl m es) t') _;have h2:Rs w i1 (upd e d (.own tok sv) t') (a.tmps.getD t' undef):=h1;rw [Zaz] at h2 ⊢;by_cases htd:t'=d
   ·rw [if_pos htd] at h2 ⊢
    have hme:marks (St.put ⟨e,upd Zan tok (some (.row sv t m es 0))⟩ (some d) (.own tok sv)).mem [tok] tok=some (.row sv t m es es.length):=by
     show upd (upd Zan tok (some (.row sv t m es 0))) tok ((upd Zan tok (some (.row sv t m es 0)) tok).map Ent.mark) tok=_;simp [Zaz,Ent.mark]
    have:=Zhc hm1 h2 (by simp only [Zef,Ze1,hme,and_self]);simp only [pubV,Zjk,hme] at this;exact .pure this
   ·rw [if_neg htd] at h2 ⊢;exact h2
theorem Zq8 (h:Rel c n st a w imm) (hd:∀d,o.dst=some d→d < n)
 (hK:aRes P tok o.dst (Zak P ⟨st.env,Zan⟩ o.op) (KQ K tok o.dst st) ⟨st.env,Zan⟩):o.wp P a w (Zcb c n K) Q:=by
 have hrel:Rel ⟨w.heap.size,w,imm⟩ n ⟨st.env,Zan⟩ a w imm :=
  ⟨h.env,h.size,h.defers,⟨⟨λk e hk=>by simp [Zan] at hk,λk k' e e' b hk=>by simp [Zan] at hk,h.mem.ok.lt,h.mem.ok.spot⟩,Below.refl _ _,Nat.le_refl _,λ_ h1=>h1,λ_ h1=>.inl h1,λ_ _=>rfl⟩⟩
 refine Oper.wp_mono (λa' w' hg=>?_) (Zdj hrel hd hK)
 have hg:∃st' imm',K ⟨st'.env,Zm0 st.mem st'.mem⟩∧Rel ⟨w.heap.size,w,imm⟩ n st' a' w' imm':=by
  obtain⟨st',imm',hk,hr⟩:=hg;rcases hk with hk | ⟨sv,e,m,es,rfl,hk⟩
  ·exact⟨st',imm',hk,hr⟩
  ·obtain⟨i2,hr2⟩:=Zn4 hr;refine⟨_,i2,?_,hr2⟩;have e1:(St.put ⟨st.env,Zan⟩ o.dst (.sl m es)).mem=Zan:=by cases o.dst<;>rfl
   have e2:(⟨(St.put ⟨st.env,Zan⟩ o.dst (.sl m es)).env,st.mem⟩:St)=St.put st o.dst (.sl m es):=by cases o.dst<;>rfl
   rw [e1,Zom,e2];exact hk
 obtain⟨st',imm',hk,hr⟩:=hg;have hb:=hr.mem.below;have hgr:w.grownBy w' none:=⟨hb.os,hb.tape,hb.output,hb.size,λk hk _=>hb.block k hk⟩;have hi:∀ad,imm ad→imm' ad:=hr.mem.old;have hcell:∀ad,imm ad→w'.cell? ad=w.cell? ad:=hr.mem.cells
 have hold:∀k e,st.mem k=some e→EntOk c.B w' imm' e:=by
  intro k e hk;refine(h.mem.ok.ent k e hk).keep hgr ?_ hi hcell λad h1=>?_
  ·rcases hbk:e.blk with _ | b
   ·exact .inl rfl
   ·exact .inr (by simp)
  ·rcases hr.mem.new ad h1 with h2 | h2
   ·exact .inl h2
   ·refine .inr λh3=>?_;have:=((h.mem.ok.ent k e hk).blk_lt h3).2;simp only at h2;omega
 have hnewb:∀k e b,st'.mem k=some e→e.blk=some b→w.heap.size≤b:=λk e b hk he=>((hr.mem.ok.ent k e hk).blk_lt he).1;have holdb:∀k e b,st.mem k=some e→e.blk=some b→b < w.heap.size:=λk e b hk he=>((h.mem.ok.ent k e hk).blk_lt he).2;refine⟨_,imm',hk,hr.env,hr.size,hr.defers,⟨⟨λk e hk=>?_,λk k' e e' b hk hk' he he'=>?_,hr.mem.ok.lt,hr.mem.ok.spot⟩,h.mem.below.trans (hb.mono h.mem.lt),Nat.le_trans h.mem.lt hb.size,λad h1=>hi _ (h.mem.old ad h1),λad h1=>?_,λad h1=>(hcell ad (h.mem.old ad h1)).trans (h.mem.cells ad h1)⟩⟩
 ·simp only [Zm0] at hk;split at hk
  ·rename_i e' he';cases hk;exact(hr.mem.ok.ent k _ he').lower h.mem.lt
  ·exact hold k e hk
 ·simp only [Zm0] at hk hk';split at hk<;>split at hk'
  ·rename_i _ e1 h1 _ e2 h2;cases hk;cases hk';exact hr.mem.ok.apart k k' _ _ b h1 h2 he he'
  ·rename_i _ e1 h1 _ h2;cases hk;have:=hnewb k _ b h1 he;have:=holdb k' _ b hk' he';omega
  ·rename_i _ h1 _ e2 h2;cases hk';have:=hnewb k' _ b h2 he';have:=holdb k _ b hk he;omega
  ·exact h.mem.ok.apart k k' _ _ b hk hk' he he'
 ·rcases hr.mem.new ad h1 with h2 | h2
  ·exact h.mem.new ad h2
  ·exact .inr (Nat.le_trans h.mem.lt h2)
end
inductive Out where
 | val (a:AV)
 | box (e:TypeId) (cs:List AV)
 | row (e:TypeId) (m:Nat) (es:List AV)
 | sto (k:Nat) (ent:Ent)
def AV.said:AV→Bool
 | .u=>false
 | _=>true
def Zb2 (r0:AV):Res→Option Out
 | .val a []=>some (.val a)
 | .need _ r=>Zb2 r0 r
 | .box e cs=>some (.box e cs)
 | .row e m es []=>some (if r0.said then .val r0 else .row e m es)
 | .call _ _=>some (.val r0)
 | _=>none
def Zeq (P:Program) (r0:AV):Res→Prop
 | .val _ []=>True
 | .need p r=>p∧Zeq P r0 r
 | .box _ _=>True
 | .row _ m es []=>r0.said=true→r0=.sl m es
 | .call f args=>AV.toksL args=[]∧Zdq Zan args∧Pure P f (Zdo Zan args) r0
 | _=>False
def Part (σs σ:Mem):Prop:=∀t e,σs t=some e→σ t=some e
def outK (tok:Nat) (dst:Option Nat):Out→(St→Prop)→St→Prop
 | .val a,K,st=>K (St.put st dst a)
 | .box e cs,K,st=>∀g:Nat,K (St.put ⟨st.env,upd st.mem tok (some (.box g e cs false))⟩ dst (.pbox tok g 0))
 | .row e m es,K,st=>∀sv:Value,K (St.put ⟨st.env,upd st.mem tok (some (.row sv e m es 0))⟩ dst (.own tok sv))
 | .sto k ent,K,st=>K (St.put ⟨st.env,upd st.mem k (some ent)⟩ dst .u)
def Zr8 (σs:Mem) (tok:Nat):Out→Prop
 | .val _=>True
 | .box _ _ | .row _ _ _=>σs tok=none
 | .sto k ent=>σs k=none∨σs k=some ent
def optK (σs:Mem) (tok:Nat) (dst:Option Nat) (o:Option Out) (K:St→Prop) (st:St):Prop :=
 match o with
 | some out=>Zr8 σs tok out∧outK tok dst out K st
 | none=>False
theorem Part.upd {σs σ:Mem} {k:Nat} {e:Option Ent} (h:Part σs σ) (hk:σs k=none):Part σs (upd σ k e):=λt e' ht=>by
 rw [Zaz];split
 ·subst_vars;rw [hk] at ht;cases ht
 ·exact h t e' ht
theorem Part.same {σs σ:Mem} {k:Nat} {e:Ent} (h:Part σs σ) (hk:σs k=none∨σs k=some e):Part σs (Go.Pg.upd σ k (some e)):=λt e' ht=>by
 rw [Zaz];split
 ·subst_vars
  rcases hk with hk | hk
  ·rw [hk] at ht;cases ht
  ·rw [hk] at ht;exact ht
 ·exact h t e' ht
theorem Zr9 {σs:Mem} {tok:Nat} {dst:Option Nat} {K:St→Prop} {st:St} (hp:Part σs st.mem):∀(out:Out),Zr8 σs tok out→outK tok dst out K st→outK tok dst out (λst'=>K st'∧Part σs st'.mem) st
 | .val a,_,h=>⟨h,by cases dst<;>exact hp⟩
 | .box e cs,h0,h=>λg=>⟨h g,by cases dst<;>exact hp.upd h0⟩
 | .row e m es,h0,h=>λg=>⟨h g,by cases dst<;>exact hp.upd h0⟩
 | .sto k ent,h0,h=>⟨h,by cases dst<;>exact hp.same h0⟩
theorem Zkk (σ:Mem):Zm0 σ Zan=σ:=rfl
theorem Zmz (σ:Mem) (k:Nat) (e:Ent):Zm0 σ (upd Zan k (some e))=upd σ k (some e):=by
 funext j
 simp only [Zm0,Zaz];by_cases h:j=k
 ·simp [h]
 ·simp [h,Zan]
theorem Zk6 (e:Nat→AV) (σ:Mem) (d:Option Nat) (a:AV):(St.put ⟨e,σ⟩ d a).mem=σ:=by cases d<;>rfl
theorem put_eq (st:St) (σ:Mem) (d:Option Nat) (a:AV):(⟨(St.put ⟨st.env,σ⟩ d a).env,st.mem⟩:St)=St.put st d a:=by cases d<;>rfl
theorem Zto {P:Program} {tok:Nat} {dst:Option Nat} {r0:AV} {K:St→Prop} {st:St}:∀(r:Res),Zeq P r0 r→∀out,Zb2 r0 r=some out→outK tok dst out K st→aRes P tok dst r (KQ K tok dst st) ⟨st.env,Zan⟩
 | .val a [],_,out,ho,h=>by
   cases ho;refine .inl ?_;simp only [marks,Zk6,Zkk];rw [put_eq];exact h
 | .val a (_ :: _),h,_,_,_=>h.elim
 | .need p r,h,out,ho,h2=>⟨h.1,Zto r h.2 out ho h2⟩
 | .box e cs,_,out,ho,h=>λg=>by
   cases ho;refine .inl ?_;simp only [Zk6,Zmz];have:=h g;cases dst<;>exact this
 | .row e m es [],hn,out,ho,h=>λg=>by
   by_cases hs:r0.said=true
   ·have ho':out=.val r0:=by simp only [Zb2,hs,if_true,Option.some.injEq] at ho;exact ho.symm
    subst ho';have h:K (St.put st dst r0):=h;rw [hn hs] at h;exact .inr ⟨g,e,m,es,rfl,h⟩
   ·have ho':out=.row e m es:=by simp only [Zb2,hs,if_false,Option.some.injEq,Bool.false_eq_true] at ho;exact ho.symm
    subst ho';refine .inl ?_;simp only [marks,Zk6,Zmz];have:=h g;cases dst<;>exact this
 | .row e m es (_ :: _),h,_,_,_=>h.elim
 | .call f args,h,out,ho,h2=>by
   cases ho;obtain⟨h1,h3,h4⟩:=h;refine Zbd (args':=Zdo Zan args) h4 ?_ ?_ ?_
   ·rw [h1];exact h3
   ·rw [h1];rfl
   ·rw [h1];refine .inl ?_;simp only [marks,Zk6,Zkk];rw [put_eq];exact h2
 | .app ..,h,_,_,_=>h.elim
 | .appv ..,h,_,_,_=>h.elim
 | .sto ..,h,_,_,_=>h.elim
 | .bad,h,_,_,_=>h.elim
def opS (P:Program) (tok:Nat) (σs:Mem) (st:St):Op→Res
 | .load t x=>Zcz P ⟨st.env,σs⟩ t (St.ev ⟨st.env,σs⟩ x)
 | .store t (.tmp p) x=>match st.env p with
   | .pbox k g off=>if k=tok+p then Zeh P st t (.pbox k g off) (St.ev ⟨st.env,Zan⟩ x) else .bad
   | _=>.bad
 | .store _ _ _=>.bad
 | .indexAddr t x i=>Zbf P ⟨st.env,σs⟩ t (St.ev ⟨st.env,σs⟩ x) (St.ev ⟨st.env,σs⟩ i)
 | .call ⟨.builtin .len,args,ts⟩=>Zcl P ⟨st.env,σs⟩ ⟨.builtin .len,args,ts⟩
 | .slice t x lo hi mx=>Zak P ⟨st.env,σs⟩ (.slice t x lo hi mx)
 | op=>Zak P ⟨st.env,Zan⟩ op
def Zaw:Op→Bool
 | .store _ _ _=>true
 | _=>false
def Zj8:Res→Option Out
 | .need _ r=>Zj8 r
 | .sto _ k ent []=>some (.sto k ent)
 | _=>none
def Ziv:Res→Prop
 | .need p r=>p∧Ziv r
 | .sto .u _ _ []=>True
 | _=>False
def Zdc (r0:AV) (op:Op) (r:Res):Option Out:=if Zaw op then Zj8 r else Zb2 r0 r
def Reads (P:Program) (σs:Mem) (f:FuncId) (args:List AV) (r0:AV):Prop:=∀σ,Part σs σ→ACall P f args σ λr σ'=>r=r0∧σ'=σ
def readRes (P:Program) (σs:Mem) (r0:AV):Res→Prop
 | .call f args=>Reads P σs f args r0
 | _=>False
def isVC:Op→Bool
 | .call ⟨.value _,_,_⟩=>true
 | _=>false
def Zc3 (P:Program) (σs:Mem) (r0:AV) (op:Op) (r:Res):Prop:=if Zaw op then Ziv r else (Zeq P r0 r∨(isVC op=true∧readRes P σs r0 r))
def Zbs:Res→Prop
 | .val _ []=>True
 | .need _ r=>Zbs r
 | .bad=>True
 | _=>False
theorem Zer {P:Program} {t:TypeId} {cs:List AV}:Zbs (Zgs P t cs):=by
 unfold Zgs;split
 ·split
  ·unfold Zhu;split<;>trivial
  ·cases cs<;>trivial
 ·trivial
theorem Zfy {P:Program} {st:St} {t:TypeId} {av:AV}:Zbs (Zcz P st t av):=by
 unfold Zcz;split
 ·exact Zer
 ·split
  ·exact Zer
  ·trivial
 ·split
  ·exact Zer
  ·trivial
 ·trivial
theorem Zlc {P:Program} {st:St} {t:TypeId} {a b:AV}:Zbs (Zbf P st t a b):=by
 unfold Zbf
 repeat' (first|trivial|split)
theorem Zn9 {P:Program} {st:St} {args:Array Operand} {ts:Array TypeId}:Zbs (Zcl P st ⟨.builtin .len,args,ts⟩):=by
 unfold Zcl;simp only;split
 ·split
  ·unfold Zkl
   repeat' (first|trivial|split)
  ·trivial
 ·trivial
theorem Zq0 {P:Program} {e:Nat→AV} {σs σ:Mem} {t:TypeId} {a b:AV} (h:Part σs σ):Zbf P ⟨e,σs⟩ t a b=Zbf P ⟨e,σ⟩ t a b∨∀(P':Program) (r0:AV),¬Zeq P' r0 (Zbf P ⟨e,σs⟩ t a b):=by
 unfold Zbf;split
 ·split
  ·split
   ·exact .inl rfl
   ·rename_i k sv;simp only
    cases hk:σs k with
    | none=>exact .inr λP' r0 hh=>hh
    | some en=>rw [h k en hk];exact .inl rfl
   ·exact .inl rfl
   ·exact .inl rfl
  ·exact .inl rfl
 ·exact .inl rfl
 ·exact .inl rfl
theorem len_part {P:Program} {e:Nat→AV} {σs σ:Mem} {args:Array Operand} {ts:Array TypeId} (h:Part σs σ):Zcl P ⟨e,σs⟩ ⟨.builtin .len,args,ts⟩=Zcl P ⟨e,σ⟩ ⟨.builtin .len,args,ts⟩∨∀(P':Program) (r0:AV),¬Zeq P' r0 (Zcl P ⟨e,σs⟩ ⟨.builtin .len,args,ts⟩):=by
 unfold Zcl;simp only;split
 ·rename_i x t _ _;have hx:St.ev ⟨e,σs⟩ x=St.ev ⟨e,σ⟩ x:=by cases x<;>rfl
  split
  ·rw [hx];generalize St.ev ⟨e,σ⟩ x=av;unfold Zkl;split
   ·exact .inl rfl
   ·rename_i k sv _;simp only
    cases hk:σs k with
    | none=>exact .inr λP' r0 hh=>hh
    | some en=>rw [h k en hk];exact .inl rfl
   ·exact .inl rfl
   ·exact .inl rfl
   ·exact .inl rfl
   ·rename_i k sv _;simp only
    cases hk:σs k with
    | none=>exact .inr λP' r0 hh=>hh
    | some en=>rw [h k en hk];exact .inl rfl
   all_goals exact .inl rfl
  ·exact .inl rfl
 ·exact .inl rfl
theorem Zji {K:Int→Res} {lo:Option AV} (h:∀l,Zbs (K l)):Zbs (Zds lo K):=by
 unfold Zds;split<;>first|exact h _|trivial
theorem Zg0 {K:Int→Res} {n:Nat} {hi:Option AV} (h:∀l,Zbs (K l)):Zbs (Zc8 n hi K):=by
 unfold Zc8;split<;>first|exact h _|trivial
theorem Zqi {P:Program} {e:Nat→AV} {σs σ:Mem} {t:TypeId} {x:Operand} {lo hi mx:Option Operand} (h:Part σs σ) :
 (Zak P ⟨e,σs⟩ (.slice t x lo hi mx)=Zak P ⟨e,σ⟩ (.slice t x lo hi mx)∧Zbs (Zak P ⟨e,σs⟩ (.slice t x lo hi mx)))∨∀(P':Program) (r0:AV),¬Zeq P' r0 (Zak P ⟨e,σs⟩ (.slice t x lo hi mx)):=by
 simp only [Zak];have e2:St.ev ⟨e,σ⟩=St.ev ⟨e,σs⟩:=funext λy=>by cases y<;>rfl
 rw [e2];generalize St.ev ⟨e,σs⟩ x=av;generalize lo.map (St.ev ⟨e,σs⟩)=l;generalize hi.map (St.ev ⟨e,σs⟩)=u;generalize mx.map (St.ev ⟨e,σs⟩)=v;unfold Zgb;split
 ·refine .inl ⟨rfl,?_⟩;split
  ·exact Zji λ_=>Zg0 λ_=>trivial
  ·trivial
 ·refine .inl ⟨rfl,?_⟩;split
  ·exact Zji λ_=>Zg0 λ_=>Zg0 λ_=>trivial
  ·trivial
 ·rename_i k sv _
  cases hk:σs k with
  | none=>exact .inr λP' r0 hh=>by simp only [hk] at hh;exact hh
  | some en =>
    refine .inl ⟨by simp only [h k en hk,hk],?_⟩;simp only [hk];split
    ·split
     ·exact Zji λ_=>Zg0 λ_=>trivial
     ·trivial
    ·trivial
 ·refine .inl ⟨rfl,?_⟩;split
  ·exact Zji λ_=>Zg0 λ_=>trivial
  ·trivial
 ·refine .inl ⟨rfl,?_⟩;split
  ·exact Zji λ_=>Zg0 λ_=>Zg0 λ_=>trivial
  ·trivial
 ·refine .inr λP' r0 hh=>?_;split at hh
  ·exact hh.2
  ·exact hh
 ·exact .inl ⟨rfl,trivial⟩
theorem Zgn {P:Program} {tok:Nat} {dst:Option Nat} {r0:AV} {K:St→Prop} {st:St}:∀(r:Res),Zbs r→Zeq P r0 r→∀out,Zb2 r0 r=some out→outK tok dst out K st→aRes P tok dst r K st
 | .val a [],_,_,out,ho,h=>by cases ho;exact h
 | .val a (_ :: _),h,_,_,_,_=>h.elim
 | .need p r,h,h1,out,ho,h2=>⟨h1.1,Zgn r h h1.2 out ho h2⟩
 | .bad,_,h,_,_,_=>h.elim
 | .box ..,h,_,_,_,_=>h.elim
 | .row ..,h,_,_,_,_=>h.elim
 | .app ..,h,_,_,_,_=>h.elim
 | .appv ..,h,_,_,_,_=>h.elim
 | .sto ..,h,_,_,_,_=>h.elim
 | .call ..,h,_,_,_,_=>h.elim
theorem Zpf {P:Program} {r0:AV} {tok:Nat} {dst:Option Nat} {K:St→Prop} {st:St}:∀(r:Res),Zbs r→Zeq P r0 r→∀out,Zb2 r0 r=some out→outK tok dst out K st→resK r λb=>K (St.put st dst b)
 | .val a [],_,_,out,ho,h=>by cases ho;exact h
 | .val a (_ :: _),h,_,_,_,_=>h.elim
 | .need p r,h,h1,out,ho,h2=>⟨h1.1,Zpf r h h1.2 out ho h2⟩
 | .bad,_,h,_,_,_=>h.elim
 | .box ..,h,_,_,_,_=>h.elim
 | .row ..,h,_,_,_,_=>h.elim
 | .app ..,h,_,_,_,_=>h.elim
 | .appv ..,h,_,_,_,_=>h.elim
 | .sto ..,h,_,_,_,_=>h.elim
 | .call ..,h,_,_,_,_=>h.elim
theorem Zqc {P:Program} {tok:Nat} {dst:Option Nat} {K:St→Prop} {st:St}:∀(r:Res),Ziv r→∀out,Zj8 r=some out→outK tok dst out K st→aRes P tok dst r K st
 | .need p r,h,out,ho,h2=>⟨h.1,Zqc r h.2 out ho h2⟩
 | .sto a k ent [],h,out,ho,h2=>by
   cases ho
   have:a=.u:=by
    cases a<;>first|rfl|exact h.elim
   subst this;exact h2
 | .sto a k ent (_ :: _),_,_,ho,_=>by cases ho
 | .val ..,h,_,_,_=>h.elim
 | .bad,h,_,_,_=>h.elim
 | .box ..,h,_,_,_=>h.elim
 | .row ..,h,_,_,_=>h.elim
 | .app ..,h,_,_,_=>h.elim
 | .appv ..,h,_,_,_=>h.elim
 | .call ..,h,_,_,_=>h.elim
section
variable {P:Program} {c:Cx} {n tok tok':Nat} {st:St} {a:Act} {w:World} {imm:Imm} {K:St→Prop} {o:Oper} {Q:Exit→Act→World→Prop}
theorem load_run {σs:Mem} {t:TypeId} {av:AV} {x:Value} {e:Nat→AV} {K:AV→Prop} (hs:Mx c σs w imm) (hx:Rs w imm av x) (hK:resK (Zcz P ⟨e,σs⟩ t av) K):∃y b,(Instr.loadAt t x).run P w=.ok y w∧K b∧Rs w imm b y:=by
 have fin:∀(ad:Addr),x=.pointer (some ad)→(Instr.loadAt t x).run P w=(loadVar t ad).run P w:=by
  rintro ad rfl;rfl
 cases av with
 | pbox k g off =>
   have hv:=hx.pbox_inv;unfold Zcz at hK;simp only at hK
   cases hk:σs k with
   | none=>simp only [hk] at hK;exact hK.elim
   | some e =>
     cases e with
     | row=>simp only [hk] at hK;exact hK.elim
     | map=>simp only [hk] at hK;exact hK.elim
     | box g' e cs pub =>
       simp only [hk] at hK;obtain⟨rfl,hK⟩:=hK;have hca:=(Zjy hs hk).drop off;rw [Addr.add_lit,Nat.zero_add] at hca;obtain⟨y,b,h1,h2,h3⟩:=Zd3 hK hca;exact⟨y,b,(fin _ hv).trans h1,h2,h3⟩
 | pimm cs =>
   obtain⟨ad,f,hv,h1,h2⟩:=hx.pimm_inv;obtain⟨y,b,h3,h4,h5⟩:=Zd3 (ad:=ad) hK λj b hb=>⟨f j,(h1 j (Zbp hb)).2,.pure (h2 j b hb)⟩;exact⟨y,b,(fin _ hv).trans h3,h4,h5⟩
 | prow k sv m i off =>
   obtain⟨g,nn,cc,e1,hv⟩:=hx.prow_inv;subst e1;unfold Zcz at hK;simp only at hK
   cases hk:σs k with
   | none=>simp only [hk] at hK;exact hK.elim
   | some e =>
     cases e with
     | box=>simp only [hk] at hK;exact hK.elim
     | map=>simp only [hk] at hK;exact hK.elim
     | row sv' e m' es pub =>
       simp only [hk] at hK;obtain⟨⟨rfl,rfl,hi⟩,hK⟩:=hK;have hca:=(Zi0 hs hk hi).drop off;rw [Addr.add_lit] at hca;obtain⟨y,b,h1,h2,h3⟩:=Zd3 hK hca;exact⟨y,b,(fin _ hv).trans h1,h2,h3⟩
 | _=>exact hK.elim
theorem Part.mx {σs σ:Mem} (h:Part σs σ) (hm:Mx c σ w imm):Mx c σs w imm :=
 ⟨⟨λk e hk=>hm.ok.ent k e (h k e hk),λk k' e e' b h1 h2 h3 h4=>hm.ok.apart k k' e e' b (h k e h1) (h k' e' h2) h3 h4,hm.ok.lt,hm.ok.spot⟩,hm.below,hm.lt,hm.old,hm.new,hm.cells⟩
theorem Zmp {σs:Mem} {r0:AV} (h:Rel c n st a w imm) (hp:Part σs st.mem) (hd:∀d,o.dst=some d→d < n) (h1:Zc3 P σs r0 o.op (opS P tok' σs st o.op)) (h2:optK σs tok o.dst (Zdc r0 o.op (opS P tok' σs st o.op)) K st) :
 o.wp P a w (Zcb c n λst'=>K st'∧Part σs st'.mem) Q:=by
 unfold optK at h2;split at h2
 ·rename_i out hout;have h2:=Zr9 hp out h2.1 h2.2;by_cases hl:∃t x,o.op=.load t x
  ·obtain⟨t,x,ho⟩:=hl;simp only [ho,opS,Zc3,Zdc,Zaw,isVC,Bool.false_eq_true,if_false,false_and,or_false] at h1 hout;have hs:=hp.mx h.mem;have hev:Rs w imm (St.ev ⟨st.env,σs⟩ x) (a.eval x):=(show Rel c n ⟨st.env,σs⟩ a w imm from⟨h.env,h.size,h.defers,hs⟩).ev x;obtain⟨y,b,h3,h4,h5⟩:=load_run hs hev (Zpf _ Zfy h1 out hout h2);unfold Oper.wp
   have hrun:(execOp a.eval o).run P w=.ok (.value y) w:=by
    simp only [execOp,ho];exact Zk1 h3
   rw [hrun];exact⟨_,imm,h4,h.step (Keeps.refl w imm) h.mem hd h5⟩
  ·by_cases hst:∃t p x,o.op=.store t p x
   ·obtain⟨t,p,x,ho⟩:=hst;simp only [ho,Zc3,Zdc,Zaw,if_true] at h1 hout;refine Zdj (tok:=tok) h hd ?_;have e:aRes P tok o.dst (opS P tok' σs st (.store t p x)) (λst'=>K st'∧Part σs st'.mem) st:=Zqc _ h1 out hout h2;rw [ho]
    cases p with
    | tmp p =>
      simp only [opS] at e;simp only [Zak];split at e
      ·rename_i k g off hpe;split at e
       ·have hpe':St.ev st (.tmp p)=.pbox k g off:=hpe;have hxe:St.ev st x=St.ev ⟨st.env,Zan⟩ x:=by cases x<;>rfl
        rw [hpe',hxe];exact e
       ·exact e.elim
      ·exact e.elim
    | _=>exact e.elim
   ·by_cases hix:∃t x i,o.op=.indexAddr t x i
    ·obtain⟨t,x,i,ho⟩:=hix;simp only [ho,opS,Zc3,Zdc,Zaw,isVC,Bool.false_eq_true,if_false,false_and,or_false] at h1 hout;refine Zdj (tok:=tok) h hd ?_;rw [ho];have e1:∀y,St.ev st y=St.ev ⟨st.env,σs⟩ y:=λy=>by cases y<;>rfl
     simp only [Zak];rw [e1,e1];rcases Zq0 (P:=P) (e:=st.env) (t:=t) (a:=St.ev ⟨st.env,σs⟩ x) (b:=St.ev ⟨st.env,σs⟩ i) hp with hh | hh
     ·rw [hh] at h1 hout;exact Zgn _ Zlc h1 out hout h2
     ·exact absurd h1 (hh P r0)
    ·by_cases hln:∃args ts,o.op=.call ⟨.builtin .len,args,ts⟩
     ·obtain⟨args,ts,ho⟩:=hln;simp only [ho,opS,Zc3,Zdc,Zaw,isVC,Bool.false_eq_true,if_false,false_and,or_false] at h1 hout;refine Zdj (tok:=tok) h hd ?_;rw [ho];simp only [Zak];rcases len_part (P:=P) (e:=st.env) (args:=args) (ts:=ts) hp with hh | hh
      ·rw [hh] at h1 hout;exact Zgn _ Zn9 h1 out hout h2
      ·exact absurd h1 (hh P r0)
     ·by_cases hsl:∃t x lo hi mx,o.op=.slice t x lo hi mx
      ·obtain⟨t,x,lo,hi,mx,ho⟩:=hsl;simp only [ho,opS,Zc3,Zdc,Zaw,isVC,Bool.false_eq_true,if_false,false_and,or_false] at h1 hout;refine Zdj (tok:=tok) h hd ?_;rw [ho];rcases Zqi (P:=P) (e:=st.env) (t:=t) (x:=x) (lo:=lo) (hi:=hi) (mx:=mx) hp with⟨hh,hv⟩ | hh
       ·have hh':Zak P ⟨st.env,σs⟩ (.slice t x lo hi mx)=Zak P st (.slice t x lo hi mx):=hh;rw [←hh'];exact Zgn _ hv h1 out hout h2
       ·exact absurd h1 (hh P r0)
      have e:opS P tok' σs st o.op=Zak P ⟨st.env,Zan⟩ o.op:=by
       cases ho:o.op with
       | load t x=>exact absurd ⟨t,x,ho⟩ hl
       | store t p x=>exact absurd ⟨t,p,x,ho⟩ hst
       | indexAddr t x i=>exact absurd ⟨t,x,i,ho⟩ hix
       | slice t x lo hi mx=>exact absurd ⟨t,x,lo,hi,mx,ho⟩ hsl
       | call c =>
         obtain⟨cl,args,ts⟩:=c
         cases cl with
         | builtin b =>
           cases b with
           | len=>exact absurd ⟨args,ts,ho⟩ hln
           | _=>rfl
         | _=>rfl
       | _=>rfl
      have e2:Zaw o.op=false:=by
       cases ho:o.op with
       | store t p x=>exact absurd ⟨t,p,x,ho⟩ hst
       | _=>rfl
      rw [e] at h1 hout;simp only [Zc3,Zdc,e2,Bool.false_eq_true,if_false] at h1 hout;rcases h1 with h1 | ⟨hv,h1⟩
      ·exact Zq8 h hd (Zto _ h1 out hout h2)
      ·have e3:Zak P st o.op=Zak P ⟨st.env,Zan⟩ o.op:=by
        cases ho:o.op with
        | call c =>
          obtain⟨cl,args,ts⟩:=c
          cases cl with
          | value g =>
            have ev:∀x,St.ev st x=St.ev ⟨st.env,Zan⟩ x:=λx=>by cases x<;>rfl
            have em:st.ev=St.ev ⟨st.env,Zan⟩:=funext ev;simp only [Zak,Zcl,em]
          | _=>rw [ho] at hv;cases hv
        | _=>rw [ho] at hv;cases hv
       refine Zdj (tok:=tok) h hd ?_;rw [e3];generalize Zak P ⟨st.env,Zan⟩ o.op=r at *
       cases r with
       | call f args =>
         have ho':out=.val r0:=by simp only [Zb2,Option.some.injEq] at hout;exact hout.symm
         subst ho';refine(h1 st.mem hp).mono λr σ' hr=>?_;obtain⟨rfl,rfl⟩:=hr;exact h2
       | _=>exact h1.elim
 ·exact h2.elim
end
def Zci (P:Program) (tok:Nat) (σs:Mem) (all:List Oper) (rs:Nat→AV) (i:Nat) (o:Oper) (K:St→Prop) (st:St):Prop :=
 match o.guard with
 | none=>Zc3 P σs (rs i) o.op (opS P tok σs st o.op)∧optK σs (tok+o.dst.getD 0) o.dst (Zdc (rs i) o.op (opS P tok σs st o.op)) K st
 | some (j,want)=>Zjm (Zbh all ⟨st.env,Zan⟩ j)∧if says (Zbh all ⟨st.env,Zan⟩ j) want=true then Zc3 P σs (rs i) o.op (opS P tok σs st o.op)∧optK σs (tok+o.dst.getD 0) o.dst (Zdc (rs i) o.op (opS P tok σs st o.op)) K st else K (st.put o.dst (.v (.tuple #[])))
def Zfq (P:Program) (tok:Nat) (all:List Oper) (o:Oper) (K:St→Prop) (st:St):Prop:=Zbj P tok all [o] K st
def Zch (σs:Mem):Res→Prop
 | .need _ r=>Zch σs r
 | .app k _ ks=>σs k=none∧∀t∈ks,σs t=none
 | .appv k _ _=>σs k=none
 | .sto .u k _ []=>σs k=none
 | _=>False
def Zho (tok:Nat) (env:Nat→AV):Op→Bool
 | .call ⟨.builtin .append,args,_⟩=>match args.toList with
   | [.tmp d,x]=>(match env d with
     | .own k _=>k == tok+d || decide (tok+1000≤k)
     | _=>false) && (match St.ev ⟨env,Zan⟩ x with
     | .sl _ _=>true
     | .v _=>true
     | .own kx _=>(match x with
       | .tmp dx=>kx == tok+dx
       | _=>false)
     | _=>false)
   | _=>false
 | _=>false
def Zet (P:Program) (tok:Nat) (σs:Mem) (all:List Oper) (semi cr:Bool) (o:Oper) (K:St→Prop) (st:St):Prop :=
 Zfq P tok all o K st∧(semi=true→o.guard=none∧Zch σs (Zak P st o.op)∧(cr=true→Zho tok st.env o.op=true))
def Zdn (P:Program) (tok:Nat) (σs:Mem) (all:List Oper) (rs:Nat→AV) (bar:List Nat) (i:Nat) (K:St→Prop) (st:St):Prop :=
 match all[i]? with
 | some o=>if bar.contains i then Zet P tok (if bar.contains (i+1000) then σs else Zan) all (bar.contains (i+1000) || bar.contains (i+2000)) (bar.contains (i+3000)) o K st else Zci P tok σs all rs i o K st
 | none=>K st
def Zb0 (bar:List Nat) (i:Nat) (σs:Mem):Mem:=if bar.contains i then (if bar.contains (i+1000) then σs else Zan) else σs
def aAny (P:Program) (tok:Nat) (all:List Oper) (rs:Nat→AV) (bar:List Nat):Mem→Nat→Array Bool→(St→Prop)→St→Prop
 | _,0,listed,K,st=>Region.ready .any all.toArray listed=[]∧K st
 | σs,f+1,listed,K,st=>(Region.ready .any all.toArray listed=[]→K st)∧∀i∈Region.ready .any all.toArray listed,Zdn P tok σs all rs bar i (aAny P tok all rs bar (Zb0 bar i σs) f (listed.setIfInBounds i true) K) st
section
variable {P:Program} {c:Cx} {n tok:Nat}
theorem Zh8 {all:List Oper} {st:St} {a:Act} {w:World} {imm:Imm} {j:Nat} {want:Bool} (henv:∀t,Rs w imm (st.env t) (a.tmps.getD t undef)) (hk:Zjm (Zbh all st j)):(yielded all.toArray a.tmps j == some want)=says (Zbh all st j) want:=by
 unfold Zbh at hk ⊢;split at hk
 ·rename_i d hdj;have hdj':((all.toArray[j]?).bind (·.dst))=some d:=by simpa using hdj
  cases hb:st.env d with
  | v x =>
    have hv:=henv d;rw [hb] at hv;have hv:=hv.v_inv;unfold yielded;rw [hdj'];simp only [Option.bind_some,hb];by_cases hx:∃b,x=.bool b
    ·obtain⟨b,rfl⟩:=hx
     have hlt:d < a.tmps.size:=by
      rcases Nat.lt_or_ge d a.tmps.size with h1 | h1
      ·exact h1
      ·rw [Array.getD_eq_getD_getElem?,Array.getElem?_eq_none h1] at hv;simp [undef] at hv
     have hget:a.tmps[d]?=some (.bool b):=by
      rw [Array.getElem?_eq_getElem hlt];rw [Array.getD_eq_getD_getElem?,Array.getElem?_eq_getElem hlt] at hv
      simpa using hv
     rw [hget];simp [says]
    ·have hs:says (.v x) want=false:=by cases x<;>first|rfl|exact absurd ⟨_,rfl⟩ hx
     rw [hs];rcases ht:a.tmps[d]? with _ | y
     ·rfl
     ·rw [Array.getD_eq_getD_getElem?,ht] at hv;simp only [Option.getD_some] at hv;subst hv;cases y<;>first|rfl|exact absurd ⟨_,rfl⟩ hx
  | _=>rw [hb] at hk;exact hk.elim
 ·exact hk.elim
theorem Part.none {σ:Mem}:Part Zan σ:=λt e h=>by simp [Zan] at h
theorem Part.marks {σs:Mem}:∀(ks:List Nat) {σ:Mem},Part σs σ→(∀t∈ks,σs t=.none)→Part σs (Go.Pg.marks σ ks)
 | [],_,h,_=>h
 | k :: ks,σ,h,hk=>Part.marks ks (σ:=mark σ k) (h.upd (hk k (by simp))) λt ht=>hk t (by simp [ht])
theorem Zm8 {σs:Mem} {dst:Option Nat} {K:St→Prop}:∀(r:Res) {st:St},Zch σs r→Part σs st.mem→aRes P tok dst r K st→aRes P tok dst r (λst'=>K st'∧Part σs st'.mem) st
 | .need p r,st,hr,hp,h=>⟨h.1,Zm8 r hr hp h.2⟩
 | .app k news ks,st,hr,hp,h=>by
   unfold aRes at h ⊢;split at h
   ·exact λsv=>⟨h sv,by cases dst<;>exact(hp.marks ks hr.2).upd hr.1⟩
   ·exact h.elim
 | .appv k n news,st,hr,hp,h=>by
   unfold aRes at h ⊢;split at h
   ·exact λsv=>⟨h sv,by cases dst<;>exact hp.upd hr⟩
   ·exact h.elim
 | .val _ _,_,hr,_,_=>hr.elim
 | .box _ _,_,hr,_,_=>hr.elim
 | .row _ _ _ _,_,hr,_,_=>hr.elim
 | .mapn,_,hr,_,_=>hr.elim
 | .sto a k ent ks,st,hr,hp,h=>by
   cases ks with
   | cons x r=>cases a<;>exact hr.elim
   | nil=>cases a<;>first|exact hr.elim|exact⟨h,by cases dst<;>exact hp.upd hr⟩
 | .call _ _,_,hr,_,_=>hr.elim
 | .bad,_,hr,_,_=>hr.elim
theorem Znj {all:List Oper} {rs:Nat→AV} {bar:List Nat} {Q:Exit→Act→World→Prop} {K:St→Prop} {σs:Mem} (hf:all.all (Zfk n)=true) {i:Nat} {st:St} {a:Act} {w:World} {imm:Imm} (h:Rel c n st a w imm) (hp:Part σs st.mem)
 (hK:Zdn P tok σs all rs bar i K st):wpOp P all.toArray Q i (Zcb c n λst'=>K st'∧Part (Zb0 bar i σs) st'.mem) a w:=by
 have next_ok:Part (Zb0 bar i σs) st.mem:=by
  unfold Zb0;split
  ·split
   ·exact hp
   ·exact Part.none
  ·exact hp
 unfold Zdn at hK;unfold wpOp
 cases ho:all[i]? with
 | none =>
   rw [ho] at hK;simp only [List.getElem?_toArray,ho];exact⟨st,imm,⟨hK,next_ok⟩,h⟩
 | some o =>
   rw [ho] at hK;simp only [List.getElem?_toArray,ho];have hof:Zfk n o=true:=List.all_eq_true.1 hf o (List.mem_of_getElem? ho)
   have hd:∀d,o.dst=some d→d < n:=by
    intro d hdd;rw [Zfk,hdd] at hof
    simpa using hof
   have skip:K (st.put o.dst (.v (.tuple #[])))→Zcb c n (λst'=>K st'∧Part (Zb0 bar i σs) st'.mem) (a.put o.dst undef) w:=λhk =>
    ⟨_,imm,⟨hk,by cases o.dst<;>exact next_ok⟩,h.step (Keeps.refl _ _) h.mem hd (.pure (.v _))⟩
   simp only at hK;by_cases hb:bar.contains i=true
   ·rw [if_pos hb] at hK;obtain⟨hK,hkeep⟩:=hK;by_cases hsemi:bar.contains (i+1000)=true
    ·have hnx:Zb0 bar i σs=σs:=by unfold Zb0;rw [if_pos hb,if_pos hsemi]
     obtain⟨hg,hkp,-⟩:=hkeep (by rw [hsemi];rfl);rw [if_pos hsemi] at hkp;unfold Zfq Zbj at hK;rw [hg] at hK;rw [if_pos (by simp [Region.wanted,hg])];rw [hnx];have hK:aRes P (tok+o.dst.getD 0) o.dst (Zak P st o.op) K st:=hK;exact .inl (Zdj h hd (Zm8 _ hkp hp hK))
    have hnx:Zb0 bar i σs=Zan:=by unfold Zb0;rw [if_pos hb,if_neg hsemi]
    have go2:∀{a':Act} {w':World},Zcb c n K a' w'→Zcb c n (λst'=>K st'∧Part (Zb0 bar i σs) st'.mem) a' w':=fun⟨st',imm',h1,h2⟩=>⟨st',imm',⟨h1,by rw [hnx];exact Part.none⟩,h2⟩;unfold Zfq Zbj at hK
    cases hg:o.guard with
    | none =>
      rw [hg] at hK;rw [if_pos (by simp [Region.wanted,hg])];exact .inl (Oper.wp_mono (λ_ _ h1=>go2 h1) (Zdj h hd hK))
    | some jw =>
      obtain⟨j,want⟩:=jw;rw [hg] at hK;obtain⟨hkn,hK⟩:=hK;have hw:=Zh8 (want:=want) h.env hkn;by_cases hs:says (Zbh all st j) want=true
      ·rw [if_pos hs] at hK;rw [if_pos (by simp only [Region.wanted,hg];rw [hw];exact hs)];exact .inl (Oper.wp_mono (λ_ _ h1=>go2 h1) (Zdj h hd hK))
      ·rw [if_neg hs] at hK;rw [if_neg (by simp only [Region.wanted,hg];rw [hw];exact hs)];exact skip hK
   ·have hnx:Zb0 bar i σs=σs:=if_neg hb;rw [if_neg hb] at hK;unfold Zci at hK
    cases hg:o.guard with
    | none =>
      rw [hg] at hK;rw [if_pos (by simp [Region.wanted,hg])];exact .inl (by rw [hnx];exact Zmp h hp hd hK.1 hK.2)
    | some jw =>
      obtain⟨j,want⟩:=jw;rw [hg] at hK;obtain⟨hkn,hK⟩:=hK;have hw:=Zh8 (st:=⟨st.env,Zan⟩) (want:=want) h.env hkn;by_cases hs:says (Zbh all ⟨st.env,Zan⟩ j) want=true
      ·rw [if_pos hs] at hK;rw [if_pos (by simp only [Region.wanted,hg];rw [hw];exact hs)];exact .inl (by rw [hnx];exact Zmp h hp hd hK.1 hK.2)
      ·rw [if_neg hs] at hK;rw [if_neg (by simp only [Region.wanted,hg];rw [hw];exact hs)];exact skip hK
theorem Zku {all:List Oper} {rs:Nat→AV} {bar:List Nat} {Q:AE→St→Prop} (hf:all.all (Zfk n)=true):∀(f:Nat) (σs:Mem) (listed:Array Bool) (st:St) (a:Act) (w:World) (imm:Imm),Rel c n st a w imm→Part σs st.mem →
 aAny P tok all rs bar σs f listed (Q .normal) st→wpAny P .any all.toArray (post c n Q) f listed a w
 | 0,σs,listed,st,a,w,imm,h,_,hK=>⟨hK.1,.normal,st,imm,rfl,hK.2,h⟩
 | f+1,σs,listed,st,a,w,imm,h,hs,hK=>by
   refine⟨λh0=>⟨.normal,st,imm,rfl,hK.1 h0,h⟩,λi hi=>?_⟩;refine wpOp_mono (λa' w' hg=>?_) (Znj hf h hs (hK.2 i hi));obtain⟨st',imm',⟨hk,hs'⟩,hr⟩:=hg;exact Zku hf f _ _ st' a' w' imm' hr hs' hk
end
theorem Zfh {e e':Nat→AV} {σ:Mem} {x:Operand} (h:∀t,x=.tmp t→e t=e' t):St.ev ⟨e,σ⟩ x=St.ev ⟨e',σ⟩ x:=by
 cases x with
 | tmp t=>exact h t rfl
 | _=>rfl
theorem Zeb {P:Program} {σ:Mem} {e e':Nat→AV} {op:Op} (hs:∀cs b,op≠.select cs b) (h:∀x∈op.operands,∀t,x=.tmp t→e t=e' t):Zak P ⟨e,σ⟩ op=Zak P ⟨e',σ⟩ op:=by
 have hev:∀x∈op.operands,St.ev ⟨e,σ⟩ x=St.ev ⟨e',σ⟩ x:=λx hx=>Zfh (h x hx)
 have hl:∀xs:Array Operand,(∀x∈xs,x∈op.operands)→xs.toList.map (St.ev ⟨e,σ⟩)=xs.toList.map (St.ev ⟨e',σ⟩):=λxs hx =>
  List.map_congr_left λx hm=>hev x (hx x (Array.mem_toList_iff.1 hm))
 have hp:∀ps:Array (Nat × Operand),(∀p∈ps,p.2∈op.operands)→ps.toList.map (λp=>(p.1,St.ev ⟨e,σ⟩ p.2))=ps.toList.map (λp=>(p.1,St.ev ⟨e',σ⟩ p.2)):=λps hx =>
  List.map_congr_left λp hm=>by rw [hev p.2 (hx p (Array.mem_toList_iff.1 hm))]
 have ho:∀b:Option Operand,(∀x,b=some x→x∈op.operands)→b.map (St.ev ⟨e,σ⟩)=b.map (St.ev ⟨e',σ⟩):=by
  intro b hb
  cases b with
  | none=>rfl
  | some x=>simp only [Option.map_some];rw [hev x (hb x rfl)]
 cases op with
 | call cl =>
   simp only [Zak];unfold Zcl;have ha:=hl cl.args (λx hx=>by simp only [Op.operands,Call.operands];exact Array.mem_append.2 (.inr hx));have h1:∀x∈cl.args.toList,St.ev ⟨e,σ⟩ x=St.ev ⟨e',σ⟩ x:=λx hx=>hev x (by simp only [Op.operands,Call.operands];exact Array.mem_append.2 (.inr (Array.mem_toList_iff.1 hx)))
   cases hc:cl.callee with
   | builtin b =>
     cases b<;>simp only<;>first
      | rfl
      | (rw [ha];done)
      | (split<;>first
       | rfl
       | (rename_i hx _
          rw [hx] at h1
          first
          | (rw [h1 _ (by simp)];done)
          | (rw [h1 _ (by simp)];rfl)
          | (rw [h1 _ (by simp)];rw [h1 _ (by simp)];rfl)
          | (rw [h1 _ (by simp)];rename_i hx2 _;rw [h1 _ (by simp)];rfl)))
   | value f =>
     simp only;rw [hev f (by simp [Op.operands,Call.operands,hc]),ha]
   | invoke r nm=>rfl
 | move x=>simp only [Zak];rw [hev x (by simp [Op.operands])]
 | assign x=>simp only [Zak];rw [hev x (by simp [Op.operands])]
 | pick cc x y=>simp only [Zak,Zi5];rw [hev cc (by simp [Op.operands]),hev x (by simp [Op.operands]),hev y (by simp [Op.operands])]
 | alloc t=>rfl
 | box t x=>simp only [Zak];rw [hev x (by simp [Op.operands])]
 | build t ps=>simp only [Zak];rw [hp ps (λp hpp=>by simp only [Op.operands];simp;exact⟨p.1,hpp⟩)]
 | buildSlice t len ps=>simp only [Zak];rw [hp ps (λp hpp=>by simp only [Op.operands];simp;exact⟨p.1,hpp⟩)];rfl
 | load t x=>simp only [Zak];rw [hev x (by simp [Op.operands])];rfl
 | store t p x=>simp only [Zak];rw [hev p (by simp [Op.operands]),hev x (by simp [Op.operands])];rfl
 | nilCheck x=>simp only [Zak];rw [hev x (by simp [Op.operands])]
 | binOp b t x y u=>simp only [Zak];rw [hev x (by simp [Op.operands]),hev y (by simp [Op.operands])]
 | unOp b t x=>simp only [Zak];rw [hev x (by simp [Op.operands])]
 | convert s d x=>simp only [Zak];first|(rw [hev x (by simp [Op.operands])];done)|(rw [hev x (by simp [Op.operands])];rfl)
 | makeFunc fn first caps =>
   cases fn with
   | func f=>simp only [Zak];rw [hl caps (λx hx=>by simp only [Op.operands];exact Array.mem_append.2 (.inr hx))]
   | _=>rfl
 | makeSlice t l cp=>simp only [Zak];rw [hev l (by simp [Op.operands]),hev cp (by simp [Op.operands])]
 | slice t x lo hi mx =>
   simp only [Zak];rw [hev x (by simp [Op.operands]),ho lo (λy hy=>by simp [Op.operands,hy]),ho hi (λy hy=>by simp [Op.operands,hy]),ho mx (λy hy=>by simp [Op.operands,hy])];rfl
 | fieldAddr s x f=>simp only [Zak];rw [hev x (by simp [Op.operands])]
 | field s x f=>simp only [Zak];rw [hev x (by simp [Op.operands])]
 | indexAddr t x i=>simp only [Zak];rw [hev x (by simp [Op.operands]),hev i (by simp [Op.operands])];rfl
 | index t x i=>simp only [Zak];rw [hev x (by simp [Op.operands]),hev i (by simp [Op.operands])]
 | extract x i=>simp only [Zak];rw [hev x (by simp [Op.operands])]
 | makeInterface t x=>simp only [Zak];rw [hev x (by simp [Op.operands])]
 | makeMap t r=>cases r<;>rfl
 | lookup t m k b=>simp only [Zak];rw [hev m (by simp [Op.operands]),hev k (by simp [Op.operands])];rfl
 | mapUpdate t m k x=>simp only [Zak];rw [hev m (by simp [Op.operands]),hev k (by simp [Op.operands]),hev x (by simp [Op.operands])];rfl
 | _=>rfl
def Zjt (P:Program) (tok:Nat) (σs:Mem) (all:List Oper) (r0:AV) (o:Oper) (st:St):Prop :=
 match o.guard with
 | none=>Zc3 P σs r0 o.op (opS P tok σs st o.op)
 | some (j,want)=>Zjm (Zbh all ⟨st.env,Zan⟩ j)∧(says (Zbh all ⟨st.env,Zan⟩ j) want=true→Zc3 P σs r0 o.op (opS P tok σs st o.op))
def dOut (P:Program) (tok:Nat) (σs:Mem) (all:List Oper) (r0:AV) (o:Oper) (st:St):Option Out :=
 match o.guard with
 | none=>Zdc r0 o.op (opS P tok σs st o.op)
 | some (j,want)=>if says (Zbh all ⟨st.env,Zan⟩ j) want=true then Zdc r0 o.op (opS P tok σs st o.op) else some (.val (.v (.tuple #[])))
def Zgp (tok:Nat) (dst:Option Nat) (st:St) (x:Nat × Value):Out→St
 | .val a=>St.put st dst a
 | .box e cs=>St.put ⟨st.env,upd st.mem tok (some (.box x.1 e cs false))⟩ dst (.pbox tok x.1 0)
 | .row e m es=>St.put ⟨st.env,upd st.mem tok (some (.row x.2 e m es 0))⟩ dst (.own tok x.2)
 | .sto k ent=>St.put ⟨st.env,upd st.mem k (some ent)⟩ dst .u
theorem Zcd {P:Program} {tok:Nat} {σs:Mem} {all:List Oper} {rs:Nat→AV} {i:Nat} {o:Oper} {st:St} {K:St→Prop} :
 Zci P tok σs all rs i o K st↔Zjt P tok σs all (rs i) o st∧∃out,dOut P tok σs all (rs i) o st=some out∧Zr8 σs (tok+o.dst.getD 0) out∧∀x,K (Zgp (tok+o.dst.getD 0) o.dst st x out):=by
 have key:∀(ou:Option Out),optK σs (tok+o.dst.getD 0) o.dst ou K st↔∃out,ou=some out∧Zr8 σs (tok+o.dst.getD 0) out∧∀x,K (Zgp (tok+o.dst.getD 0) o.dst st x out):=by
  intro ou
  cases ou with
  | none=>simp [optK]
  | some out =>
    simp only [optK,Option.some.injEq,exists_eq_left'];refine and_congr_right λ_=>?_
    cases out with
    | val a=>exact⟨λh _=>h,λh=>h (0,undef)⟩
    | box e cs=>exact⟨λh x=>h x.1,λh g=>h (g,undef)⟩
    | row e m es=>exact⟨λh x=>h x.2,λh sv=>h (0,sv)⟩
    | sto k ent=>exact⟨λh _=>h,λh=>h (0,undef)⟩
 unfold Zci Zjt dOut
 cases hg:o.guard with
 | none=>simp only [key]
 | some jw =>
   obtain⟨j,want⟩:=jw;simp only;by_cases hs:says (Zbh all ⟨st.env,Zan⟩ j) want=true
   ·simp only [hs,if_true,forall_const,key,and_assoc]
   ·have hs':says (Zbh all ⟨st.env,Zan⟩ j) want=false:=by simpa using hs
    simp only [hs',Bool.false_eq_true,if_false,false_imp_iff,and_true];refine and_congr_right λ_=>⟨λh=>⟨_,rfl,trivial,λ_=>h⟩,fun⟨out,h1,_,h2⟩=>?_⟩;cases h1;exact h2 (0,undef)
theorem Zcm {ops:Array Oper} {o:Oper} {t:Nat} (h:Operand.tmp t∈o.op.operands):t∈o.looksAt ops:=by
 unfold Oper.looksAt;refine List.mem_append.2 (.inl ?_);rw [List.mem_filterMap];exact⟨.tmp t,Array.mem_toList_iff.2 h,rfl⟩
theorem Zsc {P:Program} {tok:Nat} {σs:Mem} {ops:Array Oper} {o:Oper} {st st':St} (hsel:∀cs b,o.op≠.select cs b) (h:∀t∈o.looksAt ops,st.env t=st'.env t) (hm:Zaw o.op=true→∀t∈o.looksAt ops,st.mem (tok+t)=st'.mem (tok+t)) :
 opS P tok σs st o.op=opS P tok σs st' o.op:=by
 have h0:=Zeb (P:=P) (σ:=Zan) (e:=st.env) (e':=st'.env) hsel λx hx t ht=>h t (Zcm (ht ▸ hx))
 cases ho:o.op with
 | load t x =>
   have hx:St.ev ⟨st.env,σs⟩ x=St.ev ⟨st'.env,σs⟩ x:=Zfh λt ht=>h t (Zcm (by rw [ho];simp [Op.operands,ht]));simp only [opS];rw [hx];rfl
 | store t p x =>
   have hx:St.ev ⟨st.env,Zan⟩ x=St.ev ⟨st'.env,Zan⟩ x:=Zfh λt ht=>h t (Zcm (by rw [ho];simp [Op.operands,ht]))
   cases p with
   | tmp p =>
     have hp:p∈o.looksAt ops:=Zcm (by rw [ho];simp [Op.operands]);have hm':=hm (by rw [ho];rfl) p hp;simp only [opS,h p hp,hx];split
     ·rename_i k g off _;by_cases hk:k=tok+p
      ·rw [if_pos hk,if_pos hk];unfold Zeh;split
       ·simp only [hk,hm']
       ·rfl
      ·rw [if_neg hk,if_neg hk]
     ·rfl
   | _=>rfl
 | indexAddr t x i =>
   have hx:St.ev ⟨st.env,σs⟩ x=St.ev ⟨st'.env,σs⟩ x:=Zfh λt ht=>h t (Zcm (by rw [ho];simp [Op.operands,ht]));have hi:St.ev ⟨st.env,σs⟩ i=St.ev ⟨st'.env,σs⟩ i:=Zfh λt ht=>h t (Zcm (by rw [ho];simp [Op.operands,ht]));simp only [opS];rw [hx,hi];rfl
 | slice t x lo hi mx =>
   have h9:=Zeb (P:=P) (σ:=σs) (e:=st.env) (e':=st'.env) hsel λx hx t ht=>h t (Zcm (ht ▸ hx));rw [ho] at h9;simp only [opS];exact h9
 | call c =>
   rw [ho] at h0;obtain⟨cl,args,ts⟩:=c
   cases cl with
   | builtin b =>
     cases b with
     | len =>
       have h1:∀x∈args.toList,St.ev ⟨st.env,σs⟩ x=St.ev ⟨st'.env,σs⟩ x:=λx hx=>Zfh λt ht=>h t (Zcm (by rw [ho];simp only [Op.operands,Call.operands];exact Array.mem_append.2 (.inr (Array.mem_toList_iff.1 (ht ▸ hx)))));simp only [opS];unfold Zcl;simp only;split
       ·rename_i hx _;rw [hx] at h1;rw [h1 _ (by simp)];rfl
       ·rfl
     | _=>exact h0
   | _=>exact h0
 | _=>rw [ho] at h0;exact h0
theorem Zjs {P:Program} {tok:Nat} {σs:Mem} {all:List Oper} {r0:AV} {o:Oper} {st st':St} (hsel:∀cs b,o.op≠.select cs b) (h:∀t∈o.looksAt all.toArray,st.env t=st'.env t) (hm:Zaw o.op=true→∀t∈o.looksAt all.toArray,st.mem (tok+t)=st'.mem (tok+t)) :
 Zjt P tok σs all r0 o st=Zjt P tok σs all r0 o st'∧dOut P tok σs all r0 o st=dOut P tok σs all r0 o st':=by
 have h1:opS P tok σs st o.op=opS P tok σs st' o.op:=Zsc hsel h hm;unfold Zjt dOut;rw [h1]
 cases hg:o.guard with
 | none=>exact⟨rfl,rfl⟩
 | some jw =>
   obtain⟨j,want⟩:=jw
   have h2:Zbh all ⟨st.env,Zan⟩ j=Zbh all ⟨st'.env,Zan⟩ j:=by
    unfold Zbh;rcases hd:(all[j]?).bind (·.dst) with _ | d
    ·rfl
    ·refine h d ?_;unfold Oper.looksAt;refine List.mem_append.2 (.inr ?_);rw [hg];simp only [List.getElem?_toArray,hd];simp
   simp only [h2];exact⟨trivial,trivial⟩
theorem Zmm {tok:Nat} {d:Option Nat} {st:St} {x:Nat × Value} {out:Out} {t:Nat} (h:d≠some t):(Zgp tok d st x out).env t=st.env t:=by
 cases d with
 | none=>cases out<;>rfl
 | some d =>
   have h':t≠d:=λe=>h (by rw [e]);cases out<;>simp [Zgp,St.put,Zaz,h']
theorem sto_at {P:Program} {tok:Nat} {σs:Mem} {all:List Oper} {r0:AV} {o:Oper} {st:St} {out:Out} (hs:Zaw o.op=true) (h:dOut P tok σs all r0 o st=some out):(∃a,out=.val a)∨∃p ent,p∈o.looksAt all.toArray∧out=.sto (tok+p) ent:=by
 have key:Zdc r0 o.op (opS P tok σs st o.op)=some out→∃p ent,p∈o.looksAt all.toArray∧out=.sto (tok+p) ent:=by
  intro h;simp only [Zdc,hs,if_true] at h
  cases ho:o.op with
  | store t p x =>
    rw [ho] at h
    cases p with
    | tmp p =>
      simp only [opS] at h;split at h
      ·rename_i k g off _;split at h
       ·rename_i hk;unfold Zeh at h;split at h
        ·simp only at h;split at h
         ·simp only [Zj8,Option.some.injEq] at h;exact⟨p,_,Zcm (by rw [ho];simp [Op.operands]),by rw [←h,hk]⟩
         ·cases h
        ·cases h
       ·cases h
      ·cases h
    | _=>cases h
  | _=>rw [ho] at hs;cases hs
 unfold dOut at h
 cases hg:o.guard with
 | none=>rw [hg] at h;exact .inr (key h)
 | some jw =>
   rw [hg] at h;simp only at h;split at h
   ·exact .inr (key h)
   ·cases h;exact .inl ⟨_,rfl⟩
theorem Zod {P:Program} {tok:Nat} {σs:Mem} {all:List Oper} {r0:AV} {o:Oper} {st:St} {out:Out} (hs:Zaw o.op=false) (h:dOut P tok σs all r0 o st=some out):∀k ent,out≠.sto k ent:=by
 have key:∀r out,Zb2 r0 r=some out→∀k ent,out≠.sto k ent:=by
  intro r
  induction r with
  | val a ks=>cases ks<;>intro out h k ent<;>cases h<;>simp
  | box e cs=>intro out h k ent;cases h;simp
  | row e m es ks=>cases ks<;>intro out h k ent<;>cases h<;>first|(split<;>simp)|simp
  | call f args=>intro out h k ent;cases h;simp
  | need p r ih=>exact λout h=>ih out h
  | _=>intro out h;cases h
 unfold dOut at h
 cases hg:o.guard with
 | none=>rw [hg] at h;simp only [Zdc,hs,Bool.false_eq_true,if_false] at h;exact key _ _ h
 | some jw =>
   rw [hg] at h;simp only [Zdc,hs,Bool.false_eq_true,if_false] at h;split at h
   ·exact key _ _ h
   ·cases h;intro k ent;simp
theorem Zck {α:Type} (f:Nat→α) {k n:Nat} (v:α) (h:n≠k):upd f k v n=f n:=by rw [Zaz,if_neg h]
theorem Zf9 {α:Type} (f:Nat→α) {k j:Nat} (u v:α) (h:k≠j):upd (upd f k u) j v=upd (upd f j v) k u:=by
 funext n
 simp only [Zaz];by_cases h1:n=j<;>by_cases h2:n=k
 ·exact absurd (h2.symm.trans h1) h
 ·simp [h1,h2];intro h3;exact absurd h3.symm h
 ·simp [h1,h2];intro h3;exact absurd h3 h
 ·simp [h1,h2]
def Zdd (tok:Nat):Out→Option Nat
 | .val _=>none
 | .box _ _ | .row _ _ _=>some tok
 | .sto k _=>some k
theorem Zml {tok:Nat} {d:Option Nat} {st:St} {x:Nat × Value} {out:Out} {k:Nat} (h:Zdd tok out≠some k):(Zgp tok d st x out).mem k=st.mem k:=by
 cases d<;>cases out<;>simp only [Zgp,St.put,Zaz,Zdd,ne_eq,Option.some.injEq] at h ⊢<;>first
  | rfl
  | rw [if_neg (λe=>h e.symm)]
def putE (e:Nat→AV) (d:Option Nat) (a:AV):Nat→AV:=match d with
 | some d=>upd e d a
 | none=>e
theorem Zqq {tok tok':Nat} {d e:Option Nat} {st:St} {x y:Nat × Value} {o1 o2:Out} (h:∀t,d=some t→e≠some t) (hk:∀k,Zdd tok o1=some k→Zdd tok' o2≠some k) :
 Zgp tok' e (Zgp tok d st x o1) y o2=Zgp tok d (Zgp tok' e st y o2) x o1:=by
 have hp:∀(env:Nat→AV) (a b:AV),putE (putE env d a) e b=putE (putE env e b) d a:=by
  intro env a b
  cases d with
  | none=>cases e<;>rfl
  | some d=>cases e with
    | none=>rfl
    | some e=>exact Zf9 _ _ _ (λhe=>h d rfl (by rw [he]))
 have st_eq:∀(s1 s2:St),s1.env=s2.env→s1.mem=s2.mem→s1=s2:=by
  intro s1 s2 h1 h2;cases s1;cases s2;simp only at h1 h2;rw [h1,h2]
 refine st_eq _ _ ?_ ?_
 ·have env_of:∀(tok:Nat) (d:Option Nat) (st:St) (x:Nat × Value) (o:Out),∃a,∀st',(Zgp tok d st' x o).env=putE st'.env d a:=by
   intro tok d st x o
   cases o with
   | val a=>exact⟨a,λst'=>by cases d<;>rfl⟩
   | box e cs=>exact⟨_,λst'=>by cases d<;>rfl⟩
   | row e m es=>exact⟨_,λst'=>by cases d<;>rfl⟩
   | sto k ent=>exact⟨_,λst'=>by cases d<;>rfl⟩
  obtain⟨a,ha⟩:=env_of tok d st x o1;obtain⟨b,hb⟩:=env_of tok' e st y o2;rw [ha,hb,hb,ha];exact hp st.env a b
 ·have mem_of:∀(tok:Nat) (d:Option Nat) (x:Nat × Value) (o:Out),(Zdd tok o=none∧∀st',(Zgp tok d st' x o).mem=st'.mem)∨∃k v,Zdd tok o=some k∧∀st',(Zgp tok d st' x o).mem=upd st'.mem k v:=by
   intro tok d x o
   cases o with
   | val a=>exact .inl ⟨rfl,λst'=>by cases d<;>rfl⟩
   | box e cs=>exact .inr ⟨_,_,rfl,λst'=>by cases d<;>rfl⟩
   | row e m es=>exact .inr ⟨_,_,rfl,λst'=>by cases d<;>rfl⟩
   | sto k ent=>exact .inr ⟨_,_,rfl,λst'=>by cases d<;>rfl⟩
  rcases mem_of tok d x o1 with⟨_,h1⟩ | ⟨k1,v1,t1,h1⟩<;>rcases mem_of tok' e y o2 with⟨_,h2⟩ | ⟨k2,v2,t2,h2⟩<;>rw [h2,h1,h1,h2]
  exact Zf9 _ _ _ (λhe=>hk k1 t1 (by rw [t2,he]))
theorem Zq3 {P:Program} {tok:Nat} {σs:Mem} {all:List Oper} {rs:Nat→AV} {i j:Nat} {oi oj:Oper} {st:St} {K:St→Prop} (hdi:oi.dst.isSome=true∨Zaw oi.op=true) (hdj:oj.dst.isSome=true∨Zaw oj.op=true) (h2s:¬(Zaw oi.op=true∧Zaw oj.op=true))
 (hsi:∀cs b,oi.op≠.select cs b) (hsj:∀cs b,oj.op≠.select cs b) (hap:oi.apart all.toArray oj=true)
 (h:Zci P tok σs all rs i oi (Zci P tok σs all rs j oj K) st):Zci P tok σs all rs j oj (Zci P tok σs all rs i oi K) st:=by
 obtain⟨h1,h2,h3⟩:=Oper.apart_spec hap;have hne:∀t,oi.dst=some t→oj.dst≠some t:=h2
 have tokOf:∀(o o':Oper) (r0:AV) (out:Out) (st:St),(o.dst.isSome=true∨Zaw o.op=true)→¬(Zaw o.op=true∧Zaw o'.op=true)→dOut P tok σs all r0 o st=some out→(∀d,o.dst=some d→d ∉ o'.looksAt all.toArray)→Zaw o'.op=true→∀t∈o'.looksAt all.toArray,Zdd (tok+o.dst.getD 0) out≠some (tok+t):=by
  intro o o' r0 out st hd h2s ho hl hs' t ht
  have hs:Zaw o.op=false:=by
   cases hx:Zaw o.op
   ·rfl
   ·exact absurd ⟨hx,hs'⟩ h2s
  have hd:o.dst.isSome=true:=hd.resolve_right (by rw [hs];simp);obtain⟨d,hd⟩:=Option.isSome_iff_exists.1 hd;have hdt:d≠t:=λe=>hl d hd (e ▸ ht);have:=Zod hs ho
  cases out with
  | val a=>simp [Zdd]
  | box e cs=>simp [Zdd,hd];omega
  | row e m es=>simp [Zdd,hd];omega
  | sto k ent=>exact absurd rfl (this k ent)
 have ai:∀x out,∀t∈oj.looksAt all.toArray,(Zgp (tok+oi.dst.getD 0) oi.dst st x out).env t=st.env t:=λx out t ht=>Zmm (λe=>h1 t e ht);have aj:∀x out,∀t∈oi.looksAt all.toArray,(Zgp (tok+oj.dst.getD 0) oj.dst st x out).env t=st.env t:=λx out t ht=>Zmm (λe=>h3 t e ht);rw [Zcd] at h ⊢;obtain⟨n1,out1,e1,ok1,k1⟩:=h;have k1':=λx=>Zcd.1 (k1 x);obtain⟨n2,out2,e2,ok2,_⟩:=k1' (0,undef);have c2:=λx=>Zjs (P:=P) (tok:=tok) (σs:=σs) (r0:=rs j) hsj (ai x out1) λhs t ht=>Zml (tokOf oi oj _ out1 st hdi h2s e1 h1 hs t ht);rw [(c2 (0,undef)).1] at n2;rw [(c2 (0,undef)).2] at e2
 refine⟨n2,out2,e2,ok2,λy=>?_⟩;rw [Zcd];have c1:=Zjs (P:=P) (tok:=tok) (σs:=σs) (r0:=rs i) hsi (aj y out2) λhs t ht=>Zml (tokOf oj oi _ out2 st hdj (λhh=>h2s hh.symm) e2 h3 hs t ht);rw [c1.1,c1.2];refine⟨n1,out1,e1,ok1,λx=>?_⟩;obtain⟨_,out3,e3,_,k3⟩:=k1' x;rw [(c2 x).2,e2] at e3;cases e3
 have hk:∀k,Zdd (tok+oi.dst.getD 0) out1=some k→Zdd (tok+oj.dst.getD 0) out2≠some k:=by
  intro k t1 t2;by_cases hsi':Zaw oi.op=true
  ·have hsj':Zaw oj.op=false:=by
    cases hx:Zaw oj.op
    ·rfl
    ·exact absurd ⟨hsi',hx⟩ h2s
   rcases sto_at hsi' e1 with⟨a,rfl⟩ | ⟨p,ent,hp,rfl⟩
   ·cases t1
   ·simp only [Zdd,Option.some.injEq] at t1;exact tokOf oj oi _ out2 st hdj (λhh=>h2s hh.symm) e2 h3 hsi' p hp (by rw [t1];exact t2)
  ·have hsi0:Zaw oi.op=false:=by simpa using hsi'
   have hdi':=hdi.resolve_right hsi';obtain⟨di,hdi'⟩:=Option.isSome_iff_exists.1 hdi';have ns:=Zod hsi0 e1
   have t1':k=tok+di:=by
    cases out1 with
    | val a=>cases t1
    | box e cs=>simp [Zdd,hdi'] at t1;omega
    | row e m es=>simp [Zdd,hdi'] at t1;omega
    | sto k ent=>exact absurd rfl (ns k ent)
   by_cases hsj':Zaw oj.op=true
   ·rcases sto_at hsj' e2 with⟨a,rfl⟩ | ⟨p,ent,hp,rfl⟩
    ·cases t2
    ·simp only [Zdd,Option.some.injEq] at t2;have e:di=p:=Nat.add_left_cancel (t1'.symm.trans t2.symm);exact h1 di hdi' (by rw [e];exact hp)
   ·have hsj0:Zaw oj.op=false:=by simpa using hsj'
    obtain⟨dj,hdj'⟩:=Option.isSome_iff_exists.1 (hdj.resolve_right hsj');have ns2:=Zod hsj0 e2
    have t2':k=tok+dj:=by
     cases out2 with
     | val a=>cases t2
     | box e cs=>simp [Zdd,hdj'] at t2;omega
     | row e m es=>simp [Zdd,hdj'] at t2;omega
     | sto k ent=>exact absurd rfl (ns2 k ent)
    have e:dj=di:=Nat.add_left_cancel (t2'.symm.trans t1');exact hne di hdi' (by rw [hdj',e])
 have:=k3 y;rw [Zqq hne hk] at this;exact this
theorem Zc4 {P:Program} {tok:Nat} {σs:Mem} {all:List Oper} {rs:Nat→AV} {i:Nat} {o:Oper} {st:St} {K K':St→Prop} (h:∀st,K st→K' st) (hd:Zci P tok σs all rs i o K st):Zci P tok σs all rs i o K' st:=by
 rw [Zcd] at hd ⊢;obtain⟨h1,out,h2,h4,h3⟩:=hd;exact⟨h1,out,h2,h4,λx=>h _ (h3 x)⟩
theorem Zgv {r0:AV}:∀(r:Res),Zbs r→∀out,Zb2 r0 r=some out→∃a,out=.val a
 | .val a [],_,out,h=>⟨a,by cases h;rfl⟩
 | .val a (_ :: _),h,_,_=>h.elim
 | .need p r,h,out,ho=>Zgv r h out ho
 | .bad,_,out,h=>by cases h
 | .box _ _,h,_,_=>h.elim
 | .row _ _ _ _,h,_,_=>h.elim
 | .app _ _ _,h,_,_=>h.elim
 | .appv _ _ _,h,_,_=>h.elim
 | .sto _ _ _ _,h,_,_=>h.elim
 | .call _ _,h,_,_=>h.elim
theorem Zhd {P:Program} {s:TypeId} {x:AV} {f:Nat}:Zbs (Zgl P s x f):=by
 unfold Zgl;split
 ·split
  ·split
   ·unfold Zbs;split<;>trivial
   ·trivial
  ·trivial
 ·trivial
theorem Zh6 {p:Prop} {r:Res} (h:Zbs r):Zbs (.need p r):=h
theorem Zcr {P:Program}:∀(l:List (TypeId × Nat)) (xs ys:List AV) (R:Bool→Res),(∀c,Zbs (R c))→Zbs (Zed P l xs ys R)
 | [],_,_,R,h=>h true
 | (t,off) :: r,xs,ys,R,h=>by
   unfold Zed;split
   ·exact Zcr r xs ys _ λc=>h _
   ·exact Zcr r xs ys _ λc=>h _
   ·exact Zcr r xs ys _ λc=>h _
   ·trivial
theorem Zhe {P:Program} {t:TypeId} {xs ys:List AV} {R:Bool→Res} (h:∀c,Zbs (R c)):Zbs (Zou P t xs ys R):=by
 unfold Zou;split
 ·exact Zh6 (Zcr _ _ _ _ h)
 ·split
  ·exact Zh6 (Zcr _ _ _ _ h)
  ·trivial
 ·trivial
theorem Zja {P:Program} {op:BinOp} {t:TypeId} {x y:AV}:Zbs (Zks P op t x y):=by
 unfold Zks;split
 ·split
  ·trivial
  ·trivial
  ·unfold Zp1;split<;>trivial
 ·unfold Zo8;split<;>trivial
 ·split<;>trivial
 ·split
  ·exact Zhe λ_=>trivial
  ·exact Zhe λ_=>trivial
  ·trivial
 ·split<;>trivial
 ·split<;>trivial
 ·trivial
theorem Zi9 {x:AV}:Zbs (Zkh x):=by
 unfold Zkh;split<;>trivial
theorem Zkf {op:UnOp} {x:AV}:Zbs (Zqd op x):=by
 unfold Zqd;split<;>trivial
def Zqo (oj:Oper):Bool:=oj.guard.isNone && oj.dst.isSome && (match oj.op with
 | .move _ | .load _ _ | .fieldAddr _ _ _ | .binOp _ _ _ _ _ | .unOp _ _ _ | .nilCheck _ | .slice _ _ _ _ _=>true
 | _=>false)
def Zkg:Op→Bool
 | .load _ _=>false
 | .slice _ _ _ _ _=>false
 | _=>true
def blind (oj:Oper):Bool:=Zqo oj && Zkg oj.op
def cre (oj:Oper):Bool:=oj.guard.isNone && oj.dst.isSome && decide (oj.dst.getD 0 < 1000) && (match oj.op with
 | .alloc _ | .buildSlice _ _ _=>true
 | _=>false)
structure Cre (oj:Oper):Prop where
 guard:oj.guard=none
 lt:oj.dst.getD 0 < 1000
 dst:∃d,oj.dst=some d
 op:(∃t,oj.op=.alloc t)∨∃t n ps,oj.op=.buildSlice t n ps
theorem cre_spec {oj:Oper} (h:cre oj=true):Cre oj:=by
 unfold cre at h;simp only [Bool.and_eq_true,decide_eq_true_eq] at h;obtain⟨⟨⟨h1,h2⟩,h4⟩,h3⟩:=h;refine⟨Option.isNone_iff_eq_none.1 h1,h4,Option.isSome_iff_exists.1 h2,?_⟩;split at h3
 ·exact .inl ⟨_,by assumption⟩
 ·exact .inr ⟨_,_,_,by assumption⟩
 ·cases h3
theorem Cre.sto {oj:Oper} (h:Cre oj):Zaw oj.op=false:=by
 rcases h.op with⟨t,e⟩ | ⟨t,n,ps,e⟩<;>rw [e]<;>rfl
theorem Cre.sel {oj:Oper} (h:Cre oj):∀cs b,oj.op≠.select cs b:=by
 intro cs b e0;rcases h.op with⟨t,e⟩ | ⟨t,n,ps,e⟩<;>rw [e] at e0<;>cases e0
def Zkb (tj:Nat):Res→Prop
 | .need _ r=>Zkb tj r
 | .app k _ ks=>k≠tj∧ks=[]
 | .bad=>True
 | _=>False
theorem Zka {r0:AV} {k:Nat} {ent:Ent}:∀(r:Res),Zb2 r0 r=some (.sto k ent)→False
 | .need _ r,h=>Zka r h
 | .val _ ks,h=>by cases ks<;>simp [Zb2] at h
 | .box _ _,h=>by simp [Zb2] at h
 | .row _ _ _ ks,h=>by
   cases ks with
   | nil =>
     simp only [Zb2,Option.some.injEq] at h;split at h<;>cases h
   | cons a b=>simp [Zb2] at h
 | .app _ _ _,h=>by simp [Zb2] at h
 | .appv _ _ _,h=>by simp [Zb2] at h
 | .sto _ _ _ _,h=>by simp [Zb2] at h
 | .mapn,h=>by simp [Zb2] at h
 | .call _ _,h=>by simp [Zb2] at h
 | .bad,h=>by simp [Zb2] at h
structure Quiet (oj:Oper):Prop where
 guard:oj.guard=none
 dst:∃d,oj.dst=some d
 op:(∃x,oj.op=.move x)∨(∃t x,oj.op=.load t x)∨(∃s x f,oj.op=.fieldAddr s x f)∨(∃b t x y u,oj.op=.binOp b t x y u)∨(∃b t x,oj.op=.unOp b t x)∨(∃x,oj.op=.nilCheck x)∨∃t x lo hi mx,oj.op=.slice t x lo hi mx
theorem Zge {oj:Oper} (h:Zqo oj=true):Quiet oj:=by
 unfold Zqo at h;simp only [Bool.and_eq_true] at h;obtain⟨⟨h1,h2⟩,h3⟩:=h;refine⟨Option.isNone_iff_eq_none.1 h1,Option.isSome_iff_exists.1 h2,?_⟩;split at h3
 ·exact .inl ⟨_,by assumption⟩
 ·exact .inr (.inl ⟨_,_,by assumption⟩)
 ·exact .inr (.inr (.inl ⟨_,_,_,by assumption⟩))
 ·exact .inr (.inr (.inr (.inl ⟨_,_,_,_,_,by assumption⟩)))
 ·exact .inr (.inr (.inr (.inr (.inl ⟨_,_,_,by assumption⟩))))
 ·exact .inr (.inr (.inr (.inr (.inr (.inl ⟨_,by assumption⟩)))))
 ·exact .inr (.inr (.inr (.inr (.inr (.inr ⟨_,_,_,_,_,by assumption⟩)))))
 ·cases h3
theorem Quiet.sto {oj:Oper} (h:Quiet oj):Zaw oj.op=false:=by
 rcases h.op with⟨x,e⟩ | ⟨t,x,e⟩ | ⟨s,x,f,e⟩ | ⟨b,t,x,y,u,e⟩ | ⟨b,t,x,e⟩ | ⟨x,e⟩ | ⟨t,x,lo,hi,mx,e⟩<;>rw [e]<;>rfl
theorem Quiet.vc {oj:Oper} (h:Quiet oj):isVC oj.op=false:=by
 rcases h.op with⟨x,e⟩ | ⟨t,x,e⟩ | ⟨s,x,f,e⟩ | ⟨b,t,x,y,u,e⟩ | ⟨b,t,x,e⟩ | ⟨x,e⟩ | ⟨t,x,lo,hi,mx,e⟩<;>rw [e]<;>rfl
theorem Zqt {P:Program} {σ σ':Mem} {r0:AV} {op:Op} {r:Res} (h:isVC op=false):Zc3 P σ r0 op r=Zc3 P σ' r0 op r:=by
 unfold Zc3;rw [h];simp only [Bool.false_eq_true,false_and]
theorem Quiet.sel {oj:Oper} (h:Quiet oj):∀cs b,oj.op≠.select cs b:=by
 intro cs b e0;rcases h.op with⟨x,e⟩ | ⟨t,x,e⟩ | ⟨s,x,f,e⟩ | ⟨b,t,x,y,u,e⟩ | ⟨b,t,x,e⟩ | ⟨x,e⟩ | ⟨t,x,lo,hi,mx,e⟩<;>rw [e] at e0<;>cases e0
theorem lo_out {r0:AV} {K:Int→Res} {lo:Option AV} (h:∀l out,Zb2 r0 (K l)=some out→∃a,out=.val a) {out:Out} (ho:Zb2 r0 (Zds lo K)=some out):∃a,out=.val a:=by
 unfold Zds at ho;split at ho<;>first|exact h _ _ ho|cases ho
theorem Zsw {r0:AV} {K:Int→Res} {n:Nat} {hi:Option AV} (h:∀l out,Zb2 r0 (K l)=some out→∃a,out=.val a) {out:Out} (ho:Zb2 r0 (Zc8 n hi K)=some out):∃a,out=.val a:=by
 unfold Zc8 at ho;split at ho<;>first|exact h _ _ ho|cases ho
theorem Zlg {r0 a:AV} {p:Prop} {ks:List Nat} {out:Out} (ho:Zb2 r0 (.need p (.val a ks))=some out):∃a,out=.val a:=by
 cases ks with
 | nil=>simp only [Zb2,Option.some.injEq] at ho;exact⟨_,ho.symm⟩
 | cons=>cases ho
theorem Zrl {P:Program} {tok:Nat} {σs:Mem} {r0:AV} {st:St} {t:TypeId} {x:Operand} {lo hi mx:Option Operand} {out:Out} (ho:Zb2 r0 (opS P tok σs st (.slice t x lo hi mx))=some out):∃a,out=.val a:=by
 simp only [opS,Zak] at ho;unfold Zgb at ho
 repeat' split at ho
 all_goals first
  | exact Zlg ho
  | exact lo_out (λ_ _ ho=>Zsw (λ_ _ ho=>Zlg ho) ho) ho
  | exact lo_out (λ_ _ ho=>Zsw (λ_ _ ho=>Zsw (λ_ _ ho=>Zlg ho) ho) ho) ho
  | cases ho
theorem Quiet.out {P:Program} {tok:Nat} {σs:Mem} {all:List Oper} {r0:AV} {oj:Oper} (h:Quiet oj) {st:St} {out:Out} (ho:dOut P tok σs all r0 oj st=some out):∃a,out=.val a:=by
 unfold dOut at ho;rw [h.guard] at ho;simp only [Zdc,h.sto,Bool.false_eq_true,if_false] at ho;by_cases hsl:∃t x lo hi mx,oj.op=.slice t x lo hi mx
 ·obtain⟨t,x,lo,hi,mx,e⟩:=hsl;rw [e] at ho;exact Zrl ho
 refine Zgv _ ?_ out ho;rcases h.op with⟨x,e⟩ | ⟨t,x,e⟩ | ⟨s,x,f,e⟩ | ⟨b,t,x,y,u,e⟩ | ⟨b,t,x,e⟩ | ⟨x,e⟩ | ⟨t,x,lo,hi,mx,e⟩
 ·rw [e];exact trivial
 ·rw [e];exact Zfy
 ·rw [e];exact Zhd
 ·rw [e];exact Zja
 ·rw [e];exact Zkf
 ·rw [e];exact Zi9
 ·exact absurd ⟨t,x,lo,hi,mx,e⟩ hsl
theorem Zkr {P:Program} {tok:Nat} {σ σ':Mem} {all:List Oper} {rs:Nat→AV} {j:Nat} {oj:Oper} {K:St→Prop} {st:St} (hq:Quiet oj) (hb:Zkg oj.op=true):Zci P tok σ all rs j oj K st=Zci P tok σ' all rs j oj K st:=by
 have hop:opS P tok σ st oj.op=opS P tok σ' st oj.op:=by
  rcases hq.op with⟨x,e⟩ | ⟨t,x,e⟩ | ⟨s,x,f,e⟩ | ⟨b,t,x,y,u,e⟩ | ⟨b,t,x,e⟩ | ⟨x,e⟩ | ⟨t,x,lo,hi,mx,e⟩
  ·rw [e];rfl
  ·rw [e] at hb;cases hb
  ·rw [e];rfl
  ·rw [e];rfl
  ·rw [e];rfl
  ·rw [e];rfl
  ·rw [e] at hb;cases hb
 have hout:∀out,Zdc (rs j) oj.op (opS P tok σ' st oj.op)=some out→∃a,out=.val a:=by
  intro out ho;simp only [Zdc,hq.sto,Bool.false_eq_true,if_false] at ho;refine Zgv _ ?_ out ho;rcases hq.op with⟨x,e⟩ | ⟨t,x,e⟩ | ⟨s,x,f,e⟩ | ⟨b,t,x,y,u,e⟩ | ⟨b,t,x,e⟩ | ⟨x,e⟩ | ⟨t,x,lo,hi,mx,e⟩
  ·rw [e];exact trivial
  ·rw [e];exact Zfy
  ·rw [e];exact Zhd
  ·rw [e];exact Zja
  ·rw [e];exact Zkf
  ·rw [e];exact Zi9
  ·rw [e] at hb;cases hb
 have hopt:optK σ (tok+oj.dst.getD 0) oj.dst (Zdc (rs j) oj.op (opS P tok σ' st oj.op)) K st=optK σ' (tok+oj.dst.getD 0) oj.dst (Zdc (rs j) oj.op (opS P tok σ' st oj.op)) K st:=by
  cases h:Zdc (rs j) oj.op (opS P tok σ' st oj.op) with
  | none=>rfl
  | some out =>
    obtain⟨a,rfl⟩:=hout out h;rfl
 unfold Zci;rw [hq.guard];simp only [hop,hopt,Zqt (σ:=σ) (σ':=σ') hq.vc]
theorem Zlq {P:Program} {tok:Nat} {σs:Mem} {dst:Option Nat} {K:St→Prop}:∀(r:Res) {st:St},Zch σs r→aRes P tok dst r K st→aRes P tok dst r (λst'=>K st'∧∀t,dst≠some t→st'.env t=st.env t) st
 | .need p r,st,hr,h=>⟨h.1,Zlq r hr h.2⟩
 | .app k news ks,st,hr,h=>by
   unfold aRes at h ⊢;split at h
   ·refine λsv=>⟨h sv,λt ht=>?_⟩
    cases dst with
    | none=>rfl
    | some d=>exact Zck _ _ (λe=>ht (by rw [e]))
   ·exact h.elim
 | .appv k n news,st,hr,h=>by
   unfold aRes at h ⊢;split at h
   ·refine λsv=>⟨h sv,λt ht=>?_⟩
    cases dst with
    | none=>rfl
    | some d=>exact Zck _ _ (λe=>ht (by rw [e]))
   ·exact h.elim
 | .val _ _,_,hr,_=>hr.elim
 | .box _ _,_,hr,_=>hr.elim
 | .row _ _ _ _,_,hr,_=>hr.elim
 | .mapn,_,hr,_=>hr.elim
 | .sto _ _ _ _,st,hr,h=>⟨h,λt ht=>by
  cases dst with
  | none=>rfl
  | some d=>exact Zck _ _ (λe=>ht (by rw [e]))⟩
 | .call _ _,_,hr,_=>hr.elim
 | .bad,_,hr,_=>hr.elim
theorem Ze2 {P:Program} {tok:Nat} {σs:Mem} {dst:Option Nat} {K:St→Prop}:∀(r:Res) {st:St},Zch σs r→aRes P tok dst r K st→∃st1,K st1
 | .need p r,st,hr,h=>Ze2 r hr h.2
 | .app k news ks,st,hr,h=>by
   unfold aRes at h;split at h
   ·exact⟨_,h undef⟩
   ·exact h.elim
 | .appv k n news,st,hr,h=>by
   unfold aRes at h;split at h
   ·exact⟨_,h undef⟩
   ·exact h.elim
 | .val _ _,_,hr,_=>hr.elim
 | .box _ _,_,hr,_=>hr.elim
 | .row _ _ _ _,_,hr,_=>hr.elim
 | .mapn,_,hr,_=>hr.elim
 | .sto _ _ _ _,st,hr,h=>⟨_,h⟩
 | .call _ _,_,hr,_=>hr.elim
 | .bad,_,hr,_=>hr.elim
theorem Zgf {e:Nat→AV} {m:Mem} {dst:Option Nat} {dj:Nat} {a b:AV} (h:dst≠some dj):St.put (St.put ⟨e,m⟩ dst b) (some dj) a=St.put ⟨upd e dj a,m⟩ dst b:=by
 cases dst with
 | none=>rfl
 | some d =>
   show(⟨upd (upd e d b) dj a,m⟩:St)=⟨upd (upd e dj a) d b,m⟩;rw [Zf9 _ _ _ (λe=>h (by rw [e]))]
theorem Zh2 {P:Program} {tok:Nat} {σs:Mem} {dst:Option Nat} {dj:Nat} {a:AV} {K K':St→Prop} (hne:dst≠some dj) {st:St} (hK:∀st1,(∀t,dst≠some t→st1.env t=st.env t)→K' st1→K (St.put st1 (some dj) a)):∀(r:Res),Zch σs r→aRes P tok dst r K' st→aRes P tok dst r K (St.put st (some dj) a)
 | .need p r,hr,h=>⟨h.1,Zh2 hne hK r hr h.2⟩
 | .app k news ks,hr,h=>by
   unfold aRes at h ⊢;have hmm:(St.put st (some dj) a).mem=st.mem:=rfl;rw [hmm];split at h
   ·intro sv;have:=hK _ (λt ht=>by
     cases dst with
     | none=>rfl
     | some d=>exact Zck _ _ (λe=>ht (by rw [e]))) (h sv)
    rwa [Zgf hne] at this
   ·exact h.elim
 | .appv k n news,hr,h=>by
   unfold aRes at h ⊢;have hmm:(St.put st (some dj) a).mem=st.mem:=rfl;rw [hmm];split at h
   ·intro sv;have:=hK _ (λt ht=>by
     cases dst with
     | none=>rfl
     | some d=>exact Zck _ _ (λe=>ht (by rw [e]))) (h sv)
    rwa [Zgf hne] at this
   ·exact h.elim
 | .val _ _,hr,_=>hr.elim
 | .box _ _,hr,_=>hr.elim
 | .row _ _ _ _,hr,_=>hr.elim
 | .mapn,hr,_=>hr.elim
 | .sto _ k ent ks,hr,h=>by
   unfold aRes at h ⊢;have hmm:(St.put st (some dj) a).mem=st.mem:=rfl;rw [hmm];have:=hK _ (λt ht=>by
    cases dst with
    | none=>rfl
    | some d=>exact Zck _ _ (λe=>ht (by rw [e]))) h
   rwa [Zgf hne] at this
 | .call _ _,hr,_=>hr.elim
 | .bad,hr,_=>hr.elim
theorem Zf8 {σ:Mem} {tok:Nat} {e e':Nat→AV} {op:Op} (h:∀t,Operand.tmp t∈op.operands→e t=e' t):Zho tok e op=Zho tok e' op:=by
 cases op with
 | call cl =>
   obtain⟨callee,args,ts⟩:=cl;unfold Zho;split
   ·rename_i heq;cases heq;split
    ·rename_i d x hxs;have hm:∀y∈args.toList,y∈(Op.call ⟨.builtin .append,args,ts⟩).operands:=λy hy=>by
      simp only [Op.operands,Call.operands,Array.mem_append];exact .inr (by simpa using hy)
     rw [h d (hm _ (by rw [hxs];simp)),Zfh (σ:=Zan) (e:=e) (e':=e') (x:=x) λt ht=>h t (by subst ht;exact hm _ (by rw [hxs];simp))]
    ·rfl
   ·rfl
 | _=>rfl
theorem Zq9 {P:Program} {tok tj:Nat} {e:Nat→AV} {m:Mem} {ent:Ent} {op:Op} (h:Zho tok e op=true) (hne:∀d,Operand.tmp d∈op.operands→tok+d≠tj) (htj:tj < tok+1000) :
 Zak P ⟨e,upd m tj (some ent)⟩ op=Zak P ⟨e,m⟩ op∧∀r,Zak P ⟨e,m⟩ op=r→Zkb tj r:=by
 cases op with
 | call cl =>
   obtain⟨callee,args,ts⟩:=cl;unfold Zho at h;split at h
   ·rename_i heq;cases heq;split at h
    ·rename_i d x hxs;have hop:∀y∈args.toList,y∈(Op.call ⟨.builtin .append,args,ts⟩).operands:=λy hy=>by
      simp only [Op.operands,Call.operands,Array.mem_append];exact .inr (by simpa using hy)
     have hd:tok+d≠tj:=hne d (hop _ (by rw [hxs];simp));simp only [Bool.and_eq_true] at h;obtain⟨h1,h2⟩:=h
     have hx:∀(mm:Nat) (R:List AV→Res),Zdi (upd m tj (some ent)) mm (St.ev ⟨e,Zan⟩ x) R=Zdi m mm (St.ev ⟨e,Zan⟩ x) R:=by
      intro mm R;split at h2
      ·rename_i hx;rw [hx];rfl
      ·rename_i v hx;rw [hx];cases v<;>try rfl
       rename_i A n c;cases A<;>try rfl
       cases n<;>try rfl
       cases c<;>rfl
      ·rename_i kx svx hx;split at h2
       ·rename_i dx;have hkx:kx=tok+dx:=by simpa using h2
        rw [hx];have hmx:upd m tj (some ent) kx=m kx:=Zck _ _ (by rw [hkx];exact hne dx (hop _ (by rw [hxs];simp)));simp only [Zdi,hmx]
       ·cases h2
      ·cases h2
     have hR:∀(σ:Mem) (mm:Nat) (R:List AV→Res) (ra:Nat),(∀l,Zkb ra (R l))→Zkb ra (Zdi σ mm (St.ev ⟨e,Zan⟩ x) R):=by
      intro σ mm R ra hr;unfold Zdi
      repeat' split
      all_goals first|exact hr _|trivial
     split at h1
     ·rename_i k sv hk
      have hk2:k≠tj:=by
       simp only [Bool.or_eq_true,beq_iff_eq,decide_eq_true_eq] at h1;rcases h1 with h1 | h1
       ·rw [h1];exact hd
       ·omega
      have hev:∀σ:Mem,St.ev ⟨e,σ⟩ x=St.ev ⟨e,Zan⟩ x:=λσ=>by cases x<;>rfl
      have hevd:∀σ:Mem,St.ev ⟨e,σ⟩ (.tmp d)=.own k sv:=λσ=>hk
      have key:∀σ:Mem,Zak P ⟨e,σ⟩ (.call ⟨.builtin .append,args,ts⟩)=match ts.toList with
       | [t,t']=>Zf7 P ⟨e,σ⟩ t t' (.own k sv) (St.ev ⟨e,Zan⟩ x)
       | _=>.bad:=λσ=>by
       show Zcl P ⟨e,σ⟩ ⟨.builtin .append,args,ts⟩=_;unfold Zcl;simp only [hxs]
       cases ts.toList with
       | nil=>rfl
       | cons t r =>
         cases r with
         | nil=>rfl
         | cons t' r =>
           cases r with
           | nil=>show Zf7 P ⟨e,σ⟩ t t' (St.ev ⟨e,σ⟩ (.tmp d)) (St.ev ⟨e,σ⟩ x)=_;rw [hev,hevd]
           | cons a b=>rfl
      rw [key,key];have hm:upd m tj (some ent) k=m k:=Zck _ _ hk2;have happ:∀t t',Zf7 P ⟨e,upd m tj (some ent)⟩ t t' (.own k sv) (St.ev ⟨e,Zan⟩ x)=Zf7 P ⟨e,m⟩ t t' (.own k sv) (St.ev ⟨e,Zan⟩ x):=λt t'=>by
       unfold Zf7;simp only [hm,hx]
      have hres:∀t t',Zkb tj (Zf7 P ⟨e,m⟩ t t' (.own k sv) (St.ev ⟨e,Zan⟩ x)):=λt t'=>by
       unfold Zf7;dsimp only
       repeat' split
       all_goals first|trivial|exact hR _ _ _ _ λl=>⟨hk2,rfl⟩
      refine⟨?_,λr hr=>?_⟩
      ·split
       ·exact happ _ _
       ·rfl
      ·subst hr;split
       ·exact hres _ _
       ·trivial
     ·cases h1
    ·cases h
   ·cases h
 | _=>cases h
theorem Zj0 {P:Program} {tok:Nat} {dst:Option Nat} {dj tj:Nat} {a:AV} {ent:Ent} {K K':St→Prop} (hne:dst≠some dj) {st:St} (hK:∀st1,(∀t,dst≠some t→st1.env t=st.env t)→K' st1→K ⟨upd st1.env dj a,upd st1.mem tj (some ent)⟩):∀(r:Res),Zkb tj r→aRes P tok dst r K' st→aRes P tok dst r K ⟨upd st.env dj a,upd st.mem tj (some ent)⟩
 | .need p r,hr,h=>⟨h.1,Zj0 hne hK r hr h.2⟩
 | .app k news ks,hr,h=>by
   obtain⟨hk,rfl⟩:=hr;unfold aRes at h ⊢;rw [show marks (upd st.mem tj (some ent)) [] k=st.mem k from Zck _ _ hk];rw [show marks st.mem []=st.mem from rfl] at h;split at h
   ·rename_i sv0 e0 m0 es0 pub0 hm;simp only [hm];intro sv;have:=hK _ (λt ht=>by
     cases dst with
     | none=>rfl
     | some d=>exact Zck _ _ (λe=>ht (by rw [e]))) (h sv)
    cases dst with
    | none =>
      show K ⟨upd st.env dj a,upd (upd st.mem tj (some ent)) k _⟩;rw [Zf9 _ _ _ (Ne.symm hk)];exact this
    | some d =>
      show K ⟨upd (upd st.env dj a) d _,upd (upd st.mem tj (some ent)) k _⟩;rw [Zf9 _ _ _ (Ne.symm hk),Zf9 _ _ _ (λe=>hne (by rw [e]))];exact this
   ·exact h.elim
 | .appv _ _ _,hr,_=>hr.elim
 | .val _ _,hr,_=>hr.elim
 | .box _ _,hr,_=>hr.elim
 | .row _ _ _ _,hr,_=>hr.elim
 | .mapn,hr,_=>hr.elim
 | .sto _ _ _ _,hr,_=>hr.elim
 | .call _ _,hr,_=>hr.elim
 | .bad,_,h=>h.elim
theorem b_swap {P:Program} {tok:Nat} {cr:Bool} {σs σi:Mem} {all:List Oper} {rs:Nat→AV} {j:Nat} {oi oj:Oper} {st:St} {K:St→Prop} (hseli:∀cs b,oi.op≠.select cs b) (hq:Quiet oj) (hap:oi.apart all.toArray oj=true)
 (h:Zet P tok σi all true cr oi (Zci P tok σs all rs j oj K) st):Zci P tok σs all rs j oj (Zet P tok σi all true cr oi K) st:=by
 obtain⟨hf,hk⟩:=h;obtain⟨hg,hkp,hcr⟩:=hk rfl;obtain⟨h1,h2,h3⟩:=Oper.apart_spec hap;obtain⟨dj,hdj⟩:=hq.dst;have hnd:oi.dst≠some dj:=λe=>h2 dj e hdj
 have hf':aRes P (tok+oi.dst.getD 0) oi.dst (Zak P st oi.op) (Zci P tok σs all rs j oj K) st:=by
  unfold Zfq Zbj at hf;rw [hg] at hf;exact hf
 have cong:∀st1:St,(∀t,oi.dst≠some t→st1.env t=st.env t)→Zjt P tok σs all (rs j) oj st1=Zjt P tok σs all (rs j) oj st∧dOut P tok σs all (rs j) oj st1=dOut P tok σs all (rs j) oj st:=λst1 he =>
  Zjs hq.sel (λt ht=>he t (λe=>h1 t e ht)) (λhs=>by rw [hq.sto] at hs;cases hs)
 obtain⟨st1,hk1,he1⟩:=Ze2 _ hkp (Zlq _ hkp hf');rw [Zcd] at hk1 ⊢;obtain⟨n1,out,e1,_,_⟩:=hk1;rw [(cong st1 he1).1] at n1;rw [(cong st1 he1).2] at e1;obtain⟨a,rfl⟩:=hq.out e1;refine⟨n1,_,e1,trivial,λ_=>?_⟩;rw [hdj];show Zet P tok σi all true cr oi K (St.put st (some dj) a)
 have hr:Zak P (St.put st (some dj) a) oi.op=Zak P st oi.op:=by
  refine Zeb (σ:=st.mem) (e:=upd st.env dj a) (e':=st.env) hseli λx hx t ht=>?_;subst ht;exact Zck _ _ (λe=>h3 t (by rw [hdj,e]) (Zcm hx))
 have hen:∀t,Operand.tmp t∈oi.op.operands→upd st.env dj a t=st.env t:=λt ht=>Zck _ _ (λe=>h3 t (by rw [hdj,e]) (Zcm ht));refine⟨?_,λ_=>⟨hg,by rw [hr];exact hkp,λhc=>(Zf8 (σ:=Zan) hen).trans (hcr hc)⟩⟩;unfold Zfq Zbj;rw [hg];show aRes P (tok+oi.dst.getD 0) oi.dst (Zak P (St.put st (some dj) a) oi.op) K (St.put st (some dj) a);rw [hr];refine Zh2 hnd (λst2 he2 hd2=>?_) _ hkp hf';rw [Zcd] at hd2;obtain⟨_,out2,e2,_,k2⟩:=hd2;rw [(cong st2 he2).2,e1] at e2;cases e2;have:=k2 (0,undef);rw [hdj] at this;exact this
theorem b_swapC {P:Program} {tok:Nat} {σs:Mem} {all:List Oper} {rs:Nat→AV} {j:Nat} {oi oj:Oper} {st:St} {K:St→Prop} (hseli:∀cs b,oi.op≠.select cs b) (hq:Cre oj) (hap:oi.apart all.toArray oj=true)
 (h:Zet P tok σs all true true oi (Zci P tok σs all rs j oj K) st):Zci P tok σs all rs j oj (Zet P tok σs all true true oi K) st:=by
 obtain⟨hf,hk⟩:=h;obtain⟨hg,hkp,hcr⟩:=hk rfl;have hcr:=hcr rfl;obtain⟨h1,h2,h3⟩:=Oper.apart_spec hap;obtain⟨dj,hdj⟩:=hq.dst;have hnd:oi.dst≠some dj:=λe=>h2 dj e hdj
 have hf':aRes P (tok+oi.dst.getD 0) oi.dst (Zak P st oi.op) (Zci P tok σs all rs j oj K) st:=by
  unfold Zfq Zbj at hf;rw [hg] at hf;exact hf
 have cong:∀st1:St,(∀t,oi.dst≠some t→st1.env t=st.env t)→Zjt P tok σs all (rs j) oj st1=Zjt P tok σs all (rs j) oj st∧dOut P tok σs all (rs j) oj st1=dOut P tok σs all (rs j) oj st:=λst1 he =>
  Zjs hq.sel (λt ht=>he t (λe=>h1 t e ht)) (λhs=>by rw [hq.sto] at hs;cases hs)
 obtain⟨st1,hk1,he1⟩:=Ze2 _ hkp (Zlq _ hkp hf');rw [Zcd] at hk1 ⊢;obtain⟨n1,out,e1,o1,_⟩:=hk1;rw [(cong st1 he1).1] at n1;rw [(cong st1 he1).2] at e1;have hop:∀t,Operand.tmp t∈oi.op.operands→t≠dj:=λt ht e=>h3 t (by rw [hdj,e]) (Zcm ht);have hen:∀(a:AV) t,Operand.tmp t∈oi.op.operands→upd st.env dj a t=st.env t:=λa t ht=>Zck _ _ (hop t ht);have hr0:∀(a:AV) (σ:Mem),Zak P ⟨upd st.env dj a,σ⟩ oi.op=Zak P ⟨st.env,σ⟩ oi.op:=λa σ=>by
  refine Zeb (e:=upd st.env dj a) (e':=st.env) hseli λx hx t ht=>?_;subst ht;exact hen a t hx
 refine⟨n1,_,e1,o1,λx=>?_⟩;rw [hdj];have fin:∀(a:AV) (σ:Mem),Zak P ⟨st.env,σ⟩ oi.op=Zak P st oi.op→aRes P (tok+oi.dst.getD 0) oi.dst (Zak P st oi.op) K ⟨upd st.env dj a,σ⟩→Zet P tok σs all true true oi K ⟨upd st.env dj a,σ⟩:=λa σ hσ hh=>by
  refine⟨?_,λ_=>⟨hg,by rw [hr0,hσ];exact hkp,λ_=>(Zf8 (σ:=Zan) (hen a)).trans hcr⟩⟩;unfold Zfq Zbj;rw [hg];show aRes P (tok+oi.dst.getD 0) oi.dst (Zak P ⟨upd st.env dj a,σ⟩ oi.op) K _;rw [hr0,hσ];exact hh
 have new:∀(a:AV) (ent:Ent),(∀st2:St,(∀t,oi.dst≠some t→st2.env t=st.env t)→Zci P tok σs all rs j oj K st2→K ⟨upd st2.env dj a,upd st2.mem (tok+dj) (some ent)⟩)→Zet P tok σs all true true oi K ⟨upd st.env dj a,upd st.mem (tok+dj) (some ent)⟩:=λa ent hh=>by
  obtain⟨q1,q2⟩:=Zq9 (P:=P) (m:=st.mem) (ent:=ent) (tj:=tok+dj) hcr (λd hd e=>hop d hd (Nat.add_left_cancel e)) (by have h9:(some dj).getD 0 < 1000:=hdj ▸ hq.lt;exact Nat.add_lt_add_left h9 tok);exact fin a _ q1 (Zj0 hnd hh _ (q2 _ rfl) hf')
 have step2:∀st2:St,(∀t,oi.dst≠some t→st2.env t=st.env t)→Zci P tok σs all rs j oj K st2→K (Zgp (tok+dj) (some dj) st2 x out):=λst2 he2 hd2=>by
  rw [Zcd] at hd2;obtain⟨_,out2,e2,_,k2⟩:=hd2;rw [(cong st2 he2).2,e1] at e2;cases e2;have:=k2 x;rw [hdj] at this;exact this
 cases out with
 | val a=>exact fin a _ rfl (Zh2 hnd (λst2 he2 hd2=>step2 st2 he2 hd2) _ hkp hf')
 | box e cs=>exact new _ _ λst2 he2 hd2=>step2 st2 he2 hd2
 | row e m es=>exact new _ _ λst2 he2 hd2=>step2 st2 he2 hd2
 | sto k ent =>
   exfalso;unfold dOut at e1;rw [hq.guard] at e1;simp only [Zdc,hq.sto,Bool.false_eq_true,if_false] at e1;exact Zka _ e1
theorem Zh3 {P:Program} {K K':St→Prop} (h:∀st,K st→K' st) (tok:Nat) (dst:Option Nat) (r:Res):∀(st:St),aRes P tok dst r K st→aRes P tok dst r K' st:=by
 induction r with
 | val a ks=>exact λst hr=>h _ hr
 | box e cs=>exact λst hr g=>h _ (hr g)
 | row e m es ks=>exact λst hr g=>h _ (hr g)
 | mapn=>exact λst hr g=>h _ (hr g)
 | app k news ks =>
   intro st hr;unfold aRes at hr ⊢;split at hr
   ·exact λg=>h _ (hr g)
   ·exact hr.elim
 | appv k n news =>
   intro st hr;unfold aRes at hr ⊢;split at hr
   ·exact λg=>h _ (hr g)
   ·exact hr.elim
 | sto a k ent ks=>exact λst hr=>h _ hr
 | call f args =>
   intro st hr;refine⟨hr.1,λc w imm vs h1 h2 h3=>(hr.2 c w imm vs h1 h2 h3).mono λe w' he=>?_⟩;obtain⟨r,σ',imm',x,h1,h2,h3⟩:=he;exact⟨r,σ',imm',x,h1,h _ h2,h3⟩
 | need p r ih=>exact λst hr=>⟨hr.1,ih st hr.2⟩
 | bad=>exact λst hr=>hr.elim
theorem Zic {P:Program} {tok:Nat} {σs:Mem} {dst:Option Nat} {dj:Nat} {a:AV} {K:St→Prop} (hne:dst≠some dj) {st:St}:∀(r:Res),Zch σs r→aRes P tok dst r K (St.put st (some dj) a)→aRes P tok dst r (λst1=>(∀t,dst≠some t→st1.env t=st.env t)∧K (St.put st1 (some dj) a)) st
 | .need p r,hr,h=>⟨h.1,Zic hne r hr h.2⟩
 | .app k news ks,hr,h=>by
   unfold aRes at h ⊢;have hmm:(St.put st (some dj) a).mem=st.mem:=rfl;rw [hmm] at h;split at h
   ·intro sv;refine⟨λt ht=>?_,?_⟩
    ·cases dst with
     | none=>rfl
     | some d=>exact Zck _ _ (λe=>ht (by rw [e]))
    ·rw [Zgf hne];exact h sv
   ·exact h.elim
 | .appv k n news,hr,h=>by
   unfold aRes at h ⊢;have hmm:(St.put st (some dj) a).mem=st.mem:=rfl;rw [hmm] at h;split at h
   ·intro sv;refine⟨λt ht=>?_,?_⟩
    ·cases dst with
     | none=>rfl
     | some d=>exact Zck _ _ (λe=>ht (by rw [e]))
    ·rw [Zgf hne];exact h sv
   ·exact h.elim
 | .sto _ k ent ks,hr,h=>by
   unfold aRes at h ⊢;have hmm:(St.put st (some dj) a).mem=st.mem:=rfl;rw [hmm] at h;refine⟨λt ht=>?_,?_⟩
   ·cases dst with
    | none=>rfl
    | some d=>exact Zck _ _ (λe=>ht (by rw [e]))
   ·rw [Zgf hne];exact h
 | .val _ _,hr,_=>hr.elim
 | .box _ _,hr,_=>hr.elim
 | .row _ _ _ _,hr,_=>hr.elim
 | .mapn,hr,_=>hr.elim
 | .call _ _,hr,_=>hr.elim
 | .bad,hr,_=>hr.elim
theorem b_back {P:Program} {tok:Nat} {cr:Bool} {σs σi:Mem} {all:List Oper} {rs:Nat→AV} {i:Nat} {oi oj:Oper} {st:St} {K:St→Prop} (hselj:∀cs b,oj.op≠.select cs b) (hq:Quiet oi) (hap:oj.apart all.toArray oi=true)
 (h:Zci P tok σs all rs i oi (Zet P tok σi all true cr oj K) st):Zet P tok σi all true cr oj (Zci P tok σs all rs i oi K) st:=by
 obtain⟨h1,h2,h3⟩:=Oper.apart_spec hap;obtain⟨di,hdi⟩:=hq.dst;have hnd:oj.dst≠some di:=λe=>h2 di e hdi;rw [Zcd] at h;obtain⟨n1,out,e1,_,hk⟩:=h;obtain⟨a,rfl⟩:=hq.out e1;have hk:=hk (0,undef);rw [hdi] at hk;have hk:Zet P tok σi all true cr oj K (St.put st (some di) a):=hk;obtain⟨hf,hg⟩:=hk;obtain⟨hg,hkp,hcr⟩:=hg rfl
 have hr:Zak P (St.put st (some di) a) oj.op=Zak P st oj.op:=by
  refine Zeb (σ:=st.mem) (e:=upd st.env di a) (e':=st.env) hselj λx hx t ht=>?_;subst ht;exact Zck _ _ (λe=>h3 t (by rw [hdi,e]) (Zcm hx))
 rw [hr] at hkp;have hen:∀t,Operand.tmp t∈oj.op.operands→st.env t=upd st.env di a t:=λt ht=>(Zck _ _ (λe=>h3 t (by rw [hdi,e]) (Zcm ht))).symm;refine⟨?_,λ_=>⟨hg,hkp,λhc=>(Zf8 (σ:=Zan) hen).trans (hcr hc)⟩⟩
 have hf':aRes P (tok+oj.dst.getD 0) oj.dst (Zak P (St.put st (some di) a) oj.op) K (St.put st (some di) a):=by
  unfold Zfq Zbj at hf;rw [hg] at hf;exact hf
 rw [hr] at hf';have hx:=Zic hnd _ hkp hf';unfold Zfq Zbj;rw [hg];show aRes P (tok+oj.dst.getD 0) oj.dst (Zak P st oj.op) (Zci P tok σs all rs i oi K) st;refine Zh3 (λst1 hh=>?_) _ _ _ _ hx;obtain⟨he,hK⟩:=hh;have cong:Zjt P tok σs all (rs i) oi st1=Zjt P tok σs all (rs i) oi st∧dOut P tok σs all (rs i) oi st1=dOut P tok σs all (rs i) oi st :=
  Zjs hq.sel (λt ht=>he t (λe=>h1 t e ht)) (λhs=>by rw [hq.sto] at hs;cases hs)
 rw [Zcd];refine⟨by rw [cong.1];exact n1,.val a,by rw [cong.2];exact e1,trivial,λ_=>?_⟩;rw [hdi];exact hK
def Zj3 (ops:Array Oper):Nat→Nat→Nat→Bool
 | 0,_,_=>false
 | f+1,i,j=>match ops[j]? with
   | some o=>o.after.any λe=>Region.binds .any e && (e.on == i || (decide (i < e.on) && Zj3 ops f i e.on))
   | none=>false
def Closed (ops:Array Oper) (listed:Array Bool):Prop:=∀j o,ops[j]?=some o→listed.getD j false=true→∀e∈o.after,Region.binds .any e=true→listed.getD e.on false=true
theorem Zh4 {ops:Array Oper} {listed:Array Bool} (hc:Closed ops listed) {i:Nat}:∀(f j:Nat) (o:Oper),ops[j]?=some o→(∀e∈o.after,Region.binds .any e=true→listed.getD e.on false=true)→Zj3 ops f i j=true→listed.getD i false=true
 | 0,_,_,_,_,h=>by simp [Zj3] at h
 | f+1,j,o,ho,hall,h=>by
   simp only [Zj3,ho] at h;obtain⟨e,he,hb⟩:=Array.any_eq_true'.1 h;simp only [Bool.and_eq_true,Bool.or_eq_true,beq_iff_eq] at hb;obtain⟨hb,h1 | ⟨_,h1⟩⟩:=hb
   ·rw [←h1];exact hall e he hb
   ·have hl:=hall e he hb
    cases hx:ops[e.on]? with
    | none =>
      cases f with
      | zero=>simp [Zj3] at h1
      | succ f=>simp [Zj3,hx] at h1
    | some o'=>exact Zh4 hc f e.on o' hx (hc e.on o' hx hl) h1
theorem Closed.set {ops:Array Oper} {listed:Array Bool} (hc:Closed ops listed) {i:Nat} (hr:i∈Region.ready .any ops listed):Closed ops (listed.setIfInBounds i true):=by
 intro j o ho hj e he hb;by_cases hij:j=i
 ·subst hij;obtain⟨_,o',ho',hall⟩:=mem_ready.1 hr;rw [ho] at ho';cases ho';exact getD_set_true (hall e he hb)
 ·rw [getD_set_ne false (Ne.symm hij)] at hj;exact getD_set_true (hc j o ho hj e he hb)
def Zrj (ops:Array Oper) (bar:List Nat) (listed:Array Bool) (i:Nat):Bool :=
 match ops[i]? with
 | none=>false
 | some oi=>(match oi.op with | .select ..=>false | _=>true) && (Region.ready .any ops listed).contains i && (bar.contains i || oi.dst.isSome || Zaw oi.op) &&
   (List.range ops.size).all λj=>j == i || listed.getD j true || Zj3 ops ops.size i j || match ops[j]? with
    | some oj=>!bar.contains i && !bar.contains j && (oj.dst.isSome || Zaw oj.op) && !(Zaw oi.op && Zaw oj.op) && (match oj.op with | .select ..=>false | _=>true) && oi.apart ops oj || (bar.contains i && bar.contains (i+1000) && !bar.contains j && Zqo oj && oi.apart ops oj) || (bar.contains i && bar.contains (i+1000) && bar.contains (i+3000) && !bar.contains j && cre oj && oi.apart ops oj) || (bar.contains i && bar.contains (i+2000) && !bar.contains (i+1000) && !bar.contains j && blind oj && oi.apart ops oj) || (!bar.contains i && bar.contains j && bar.contains (j+2000) && !bar.contains (j+1000) && blind oi && (match oj.op with | .select ..=>false | _=>true) && oj.apart ops oi) || (!bar.contains i && bar.contains j && bar.contains (j+1000) && Zqo oi && (match oj.op with | .select ..=>false | _=>true) && oj.apart ops oi)
    | none=>true
theorem Zj6 {P:Program} {tok:Nat} {σs:Mem} {all:List Oper} {rs:Nat→AV} {bar:List Nat} {i:Nat} {st:St} {K K':St→Prop} (h:∀st,K st→K' st) (hx:Zdn P tok σs all rs bar i K st):Zdn P tok σs all rs bar i K' st:=by
 have amono:∀(tok:Nat) (dst:Option Nat) (r:Res) (st:St),aRes P tok dst r K st→aRes P tok dst r K' st:=by
  intro tok dst r
  induction r with
  | val a ks=>exact λst hr=>h _ hr
  | box e cs=>exact λst hr g=>h _ (hr g)
  | row e m es ks=>exact λst hr g=>h _ (hr g)
  | mapn=>exact λst hr g=>h _ (hr g)
  | app k news ks =>
    intro st hr;simp only [aRes] at hr ⊢;split at hr
    ·exact λsv=>h _ (hr sv)
    ·exact hr.elim
  | appv k n news =>
    intro st hr;simp only [aRes] at hr ⊢;split at hr
    ·exact λsv=>h _ (hr sv)
    ·exact hr.elim
  | sto a k ent ks=>exact λst hr=>h _ hr
  | call f args =>
    intro st hr;refine⟨hr.1,λc w imm vs hm hl hrr=>(hr.2 c w imm vs hm hl hrr).mono λe w' he=>?_⟩;obtain⟨r,σ',imm',x,h1,h2,h3⟩:=he;exact⟨r,σ',imm',x,h1,h _ h2,h3⟩
  | need p r ih=>exact λst hr=>⟨hr.1,ih st hr.2⟩
  | bad=>exact λst hr=>hr.elim
 unfold Zdn at hx ⊢;split at hx
 ·rename_i o ho;by_cases hb:bar.contains i=true
  ·rw [if_pos hb] at hx ⊢;obtain⟨hx,hkeep⟩:=hx;refine⟨?_,hkeep⟩;unfold Zfq Zbj at hx ⊢;split at hx
   ·exact amono _ _ _ _ hx
   ·refine⟨hx.1,?_⟩;have hx2:=hx.2;split at hx2
    ·rename_i hs;rw [if_pos hs];exact amono _ _ _ _ hx2
    ·rename_i hs;rw [if_neg hs];exact h _ hx2
  ·rw [if_neg hb] at hx ⊢;exact Zc4 h hx
 ·exact h _ hx
theorem Ze8 {P:Program} {tok:Nat} {σs:Mem} {all:List Oper} {semi cr:Bool} {o:Oper} {st:St} {K K':St→Prop} (h:∀st,K st→K' st) (hd:Zet P tok σs all semi cr o K st):Zet P tok σs all semi cr o K' st:=by
 refine⟨?_,hd.2⟩;have hx:=hd.1;unfold Zfq Zbj at hx ⊢;split at hx
 ·exact Zh3 h _ _ _ _ hx
 ·refine⟨hx.1,?_⟩;have hx2:=hx.2;split at hx2
  ·rename_i hs;rw [if_pos hs];exact Zh3 h _ _ _ _ hx2
  ·rename_i hs;rw [if_neg hs];exact h _ hx2
structure TakeOk (ops:Array Oper) (bar:List Nat) (listed:Array Bool) (i:Nat) (oi:Oper):Prop where
 sel:∀cs b,oi.op≠.select cs b
 ready:i∈Region.ready .any ops listed
 other:∀j oj,ops[j]?=some oj→j≠i→listed.getD j true=false→Zj3 ops ops.size i j=true ∨
  (bar.contains i=false∧bar.contains j=false∧(oi.dst.isSome=true∨Zaw oi.op=true)∧(oj.dst.isSome=true∨Zaw oj.op=true)∧¬(Zaw oi.op=true∧Zaw oj.op=true)∧(∀cs b,oj.op≠.select cs b)∧oi.apart ops oj=true) ∨
  (bar.contains i=true∧bar.contains (i+1000)=true∧bar.contains j=false∧Quiet oj∧oi.apart ops oj=true) ∨
  (bar.contains i=true∧bar.contains (i+1000)=true∧bar.contains (i+3000)=true∧bar.contains j=false∧Cre oj∧oi.apart ops oj=true) ∨
  (bar.contains i=true∧bar.contains (i+2000)=true∧bar.contains (i+1000)=false∧bar.contains j=false∧Quiet oj∧Zkg oj.op=true∧oi.apart ops oj=true) ∨
  (bar.contains i=false∧bar.contains j=true∧bar.contains (j+2000)=true∧bar.contains (j+1000)=false∧Quiet oi∧Zkg oi.op=true∧(∀cs b,oj.op≠.select cs b)∧oj.apart ops oi=true) ∨
  (bar.contains i=false∧bar.contains j=true∧bar.contains (j+1000)=true∧Quiet oi∧(∀cs b,oj.op≠.select cs b)∧oj.apart ops oi=true)
theorem Znn {ops:Array Oper} {bar:List Nat} {listed:Array Bool} {i:Nat} (h:Zrj ops bar listed i=true):∃oi,ops[i]?=some oi∧TakeOk ops bar listed i oi:=by
 unfold Zrj at h;split at h
 ·cases h
 ·rename_i oi hoi;simp only [Bool.and_eq_true] at h;obtain⟨⟨⟨h1,h2⟩,h3⟩,h4⟩:=h;refine⟨oi,hoi,⟨λcs b e=>(by rw [e] at h1;cases h1),by simpa using h2,λj oj hj hji hun=>?_⟩⟩;have hjr:j∈List.range ops.size:=List.mem_range.2 (Array.getElem?_eq_some_iff.1 hj).1;have h5:=List.all_eq_true.1 h4 j hjr;simp only [hj,Bool.or_eq_true,beq_iff_eq,hji,hun,Bool.false_eq_true,false_or] at h5;rcases h5 with h5 | h5
  ·exact .inl h5
  rw [or_assoc,or_assoc,or_assoc,or_assoc] at h5;rcases h5 with h5 | h5
  ·simp only [Bool.and_eq_true,Bool.not_eq_true',Bool.or_eq_true] at h5;obtain⟨⟨⟨⟨⟨h6,h7⟩,h8⟩,h8'⟩,h9⟩,h10⟩:=h5;refine .inr (.inl ⟨h6,h7,?_,h8,λhh=>(by rw [hh.1,hh.2] at h8';cases h8'),λcs b e=>(by rw [e] at h9;cases h9),h10⟩);simp only [Bool.or_eq_true] at h3;rcases h3 with(h3 | h3) | h3
   ·rw [h6] at h3;cases h3
   ·exact .inl h3
   ·exact .inr h3
  rcases h5 with h5 | h5
  ·simp only [Bool.and_eq_true,Bool.not_eq_true'] at h5;obtain⟨⟨⟨⟨h6,h7⟩,h8⟩,h9⟩,h10⟩:=h5;exact .inr (.inr (.inl ⟨h6,h7,h8,Zge h9,h10⟩))
  rcases h5 with h5 | h5
  ·simp only [Bool.and_eq_true,Bool.not_eq_true'] at h5;obtain⟨⟨⟨⟨⟨h6,h7⟩,h7'⟩,h8⟩,h9⟩,h10⟩:=h5;exact .inr (.inr (.inr (.inl ⟨h6,h7,h7',h8,cre_spec h9,h10⟩)))
  rcases h5 with h5 | h5
  ·simp only [Bool.and_eq_true,Bool.not_eq_true'] at h5;obtain⟨⟨⟨⟨⟨h6,h7⟩,h7'⟩,h8⟩,h9⟩,h10⟩:=h5;unfold blind at h9;simp only [Bool.and_eq_true] at h9;exact .inr (.inr (.inr (.inr (.inl ⟨h6,h7,h7',h8,Zge h9.1,h9.2,h10⟩))))
  rcases h5 with h5 | h5
  ·simp only [Bool.and_eq_true,Bool.not_eq_true'] at h5;obtain⟨⟨⟨⟨⟨⟨h6,h7⟩,h7'⟩,h8⟩,h9⟩,h9'⟩,h10⟩:=h5;unfold blind at h9;simp only [Bool.and_eq_true] at h9;exact .inr (.inr (.inr (.inr (.inr (.inl ⟨h6,h7,h7',h8,Zge h9.1,h9.2,λcs b e=>(by rw [e] at h9';cases h9'),h10⟩)))))
  ·simp only [Bool.and_eq_true,Bool.not_eq_true'] at h5;obtain⟨⟨⟨⟨⟨h6,h7⟩,h7'⟩,h9⟩,h9'⟩,h10⟩:=h5;exact .inr (.inr (.inr (.inr (.inr (.inr ⟨h6,h7,h7',Zge h9,λcs b e=>(by rw [e] at h9';cases h9'),h10⟩)))))
theorem Zqg {P:Program} {tok:Nat} {all:List Oper} {rs:Nat→AV} {bar:List Nat} {K:St→Prop} {i:Nat} {oi:Oper} (hoi:all.toArray[i]?=some oi):∀(f:Nat) (σs:Mem) (listed:Array Bool) (st:St),Closed all.toArray listed→TakeOk all.toArray bar listed i oi →
 Zdn P tok σs all rs bar i (aAny P tok all rs bar (Zb0 bar i σs) f (listed.setIfInBounds i true) K) st→aAny P tok all rs bar σs (f+1) listed K st:=by
 intro f;have hoi':all[i]?=some oi:=by simpa using hoi
 have pair:∀(listed:Array Bool),Closed all.toArray listed→TakeOk all.toArray bar listed i oi→∀j,j∈Region.ready .any all.toArray listed→j≠i→∃oj,all[j]?=some oj ∧
  ((bar.contains i=false∧bar.contains j=false∧(oi.dst.isSome=true∨Zaw oi.op=true)∧(oj.dst.isSome=true∨Zaw oj.op=true)∧¬(Zaw oi.op=true∧Zaw oj.op=true)∧(∀cs b,oj.op≠.select cs b)∧oi.apart all.toArray oj=true) ∨
  (bar.contains i=true∧bar.contains (i+1000)=true∧bar.contains j=false∧Quiet oj∧oi.apart all.toArray oj=true) ∨
  (bar.contains i=true∧bar.contains (i+1000)=true∧bar.contains (i+3000)=true∧bar.contains j=false∧Cre oj∧oi.apart all.toArray oj=true) ∨
  (bar.contains i=true∧bar.contains (i+2000)=true∧bar.contains (i+1000)=false∧bar.contains j=false∧Quiet oj∧Zkg oj.op=true∧oi.apart all.toArray oj=true) ∨
  (bar.contains i=false∧bar.contains j=true∧bar.contains (j+2000)=true∧bar.contains (j+1000)=false∧Quiet oi∧Zkg oi.op=true∧(∀cs b,oj.op≠.select cs b)∧oj.apart all.toArray oi=true) ∨
  (bar.contains i=false∧bar.contains j=true∧bar.contains (j+1000)=true∧Quiet oi∧(∀cs b,oj.op≠.select cs b)∧oj.apart all.toArray oi=true)):=by
  intro listed hc ht j hj hji;obtain⟨hun,oj,hoj,hall⟩:=mem_ready.1 hj;refine⟨oj,by simpa using hoj,?_⟩;rcases ht.other j oj hoj hji hun with h1 | h1
  ·exfalso;have h2:=Zh4 hc _ j oj hoj hall h1;have h3:=(mem_ready.1 ht.ready).1;rcases Nat.lt_or_ge i listed.size with h' | h'
   ·simp [h'] at h3 h2;rw [h3] at h2;cases h2
   ·simp [Array.getElem?_eq_none h'] at h2
  ·exact h1
 have calm:∀(σs:Mem) (k:Nat) (ok:Oper),all[k]?=some ok→bar.contains k=false→∀(K:St→Prop) (st:St),Zdn P tok σs all rs bar k K st=Zci P tok σs all rs k ok K st:=by
  intro σs k ok hk hb K st;unfold Zdn;rw [hk];exact if_neg (by rw [hb];simp)
 have semi:∀(σs:Mem) (k:Nat) (ok:Oper),all[k]?=some ok→bar.contains k=true→(bar.contains (k+1000) || bar.contains (k+2000))=true→∀(K:St→Prop) (st:St),Zdn P tok σs all rs bar k K st=Zet P tok (if bar.contains (k+1000) then σs else Zan) all true (bar.contains (k+3000)) ok K st:=by
  intro σs k ok hk hb hb' K st;unfold Zdn;rw [hk];refine(if_pos hb).trans ?_;rw [hb']
 induction f with
 | zero =>
   intro σs listed st hc ht h;refine⟨λh0=>(by have:=ht.ready;rw [h0] at this;cases this),λj hj=>?_⟩;by_cases hji:j=i
   ·subst hji;exact h
   ·exfalso;obtain⟨oj,hoj,⟨h1,h2,h3,h4,h45,h5,h6⟩ | ⟨h1,h1',h2,h3,h4⟩ | ⟨h1,h1',h1c,h2,h3,h4⟩ | ⟨h1,h1',h1'',h2,h3,h3',h4⟩ | ⟨h1,h2,h2',h2'',h3,h3',h3'',h4⟩ | ⟨h1,h2,h2',h3,h3'',h4⟩⟩:=pair listed hc ht j hj hji
    ·rw [calm _ i oi hoi' h1,Zcd] at h;obtain⟨_,out,_,_,hk⟩:=h;have:=ready_mono hj hji;rw [(hk (0,undef)).1] at this;cases this
    ·rw [semi _ i oi hoi' h1 (by rw [h1'];rfl)] at h;obtain⟨hf,hk⟩:=h;obtain⟨hg,hkp,-⟩:=hk rfl
     have hf':aRes P (tok+oi.dst.getD 0) oi.dst (Zak P st oi.op) (aAny P tok all rs bar (Zb0 bar i σs) 0 (listed.setIfInBounds i true) K) st:=by
      unfold Zfq Zbj at hf;rw [hg] at hf;exact hf
     obtain⟨st1,hk1⟩:=Ze2 _ hkp hf';have:=ready_mono hj hji;rw [hk1.1] at this;cases this
    ·rw [semi _ i oi hoi' h1 (by rw [h1'];rfl)] at h;obtain⟨hf,hk⟩:=h;obtain⟨hg,hkp,-⟩:=hk rfl
     have hf':aRes P (tok+oi.dst.getD 0) oi.dst (Zak P st oi.op) (aAny P tok all rs bar (Zb0 bar i σs) 0 (listed.setIfInBounds i true) K) st:=by
      unfold Zfq Zbj at hf;rw [hg] at hf;exact hf
     obtain⟨st1,hk1⟩:=Ze2 _ hkp hf';have:=ready_mono hj hji;rw [hk1.1] at this;cases this
    ·rw [semi _ i oi hoi' h1 (by rw [h1',h1''];rfl)] at h;obtain⟨hf,hk⟩:=h;obtain⟨hg,hkp,-⟩:=hk rfl
     have hf':aRes P (tok+oi.dst.getD 0) oi.dst (Zak P st oi.op) (aAny P tok all rs bar (Zb0 bar i σs) 0 (listed.setIfInBounds i true) K) st:=by
      unfold Zfq Zbj at hf;rw [hg] at hf;exact hf
     obtain⟨st1,hk1⟩:=Ze2 _ hkp hf';have:=ready_mono hj hji;rw [hk1.1] at this;cases this
    ·rw [calm _ i oi hoi' h1,Zcd] at h;obtain⟨_,out,_,_,hk⟩:=h;have:=ready_mono hj hji;rw [(hk (0,undef)).1] at this;cases this
    ·rw [calm _ i oi hoi' h1,Zcd] at h;obtain⟨_,out,_,_,hk⟩:=h;have:=ready_mono hj hji;rw [(hk (0,undef)).1] at this;cases this
 | succ f ih =>
   intro σs listed st hc ht h;refine⟨λh0=>(by have:=ht.ready;rw [h0] at this;cases this),λj hj=>?_⟩;by_cases hji:j=i
   ·subst hji;exact h
   ·obtain⟨oj,hoj,⟨h1,h2,h3,h4,h45,h5,h6⟩ | ⟨h1,h1',h2,h3,h4⟩ | ⟨h1,h1',h1c,h2,h3,h4⟩ | ⟨h1,h1',h1'',h2,h3,h3',h4⟩ | ⟨h1,h2,h2',h2'',h3,h3',h3'',h4⟩ | ⟨h1,h2,h2',h3,h3'',h4⟩⟩:=pair listed hc ht j hj hji
    ·have n1:Zb0 bar i σs=σs:=if_neg (by rw [h1];simp);have n2:Zb0 bar j σs=σs:=if_neg (by rw [h2];simp);rw [calm _ i oi hoi' h1,n1] at h
     have hstep:Zci P tok σs all rs i oi (Zci P tok σs all rs j oj (aAny P tok all rs bar σs f ((listed.setIfInBounds i true).setIfInBounds j true) K)) st:=by
      refine Zc4 (λst1 hh=>?_) h;have:=hh.2 j (ready_mono hj hji)
      rwa [calm _ j oj hoj h2,n2] at this
     have hsw:=Zq3 h3 h4 h45 ht.sel h5 h6 hstep;rw [calm _ j oj hoj h2,n2];refine Zc4 (λst2 hh=>?_) hsw
     have ht':TakeOk all.toArray bar (listed.setIfInBounds j true) i oi:=by
      refine⟨ht.sel,ready_mono ht.ready (Ne.symm hji),λk ok hk hki hun=>?_⟩;refine ht.other k ok hk hki ?_;by_cases hjk:j=k
      ·subst hjk;exact(mem_ready.1 hj).1
      ·rwa [getD_set_ne true hjk] at hun
     refine ih _ (listed.setIfInBounds j true) st2 (hc.set hj) ht' ?_;rw [calm _ i oi hoi' h1,n1,Array.setIfInBounds_comm _ _ hji];exact hh
    ·have n1:Zb0 bar i σs=σs:=by unfold Zb0;rw [if_pos h1,if_pos h1']
     have n2:Zb0 bar j σs=σs:=if_neg (by rw [h2];simp);rw [semi _ i oi hoi' h1 (by rw [h1'];rfl),n1] at h
     have hstep:Zet P tok (if bar.contains (i+1000) then σs else Zan) all true (bar.contains (i+3000)) oi (Zci P tok σs all rs j oj (aAny P tok all rs bar σs f ((listed.setIfInBounds i true).setIfInBounds j true) K)) st:=by
      refine Ze8 (λst1 hh=>?_) h;have:=hh.2 j (ready_mono hj hji)
      rwa [calm _ j oj hoj h2,n2] at this
     have hsw:=b_swap ht.sel h3 h4 hstep;rw [calm _ j oj hoj h2,n2];refine Zc4 (λst2 hh=>?_) hsw
     have ht':TakeOk all.toArray bar (listed.setIfInBounds j true) i oi:=by
      refine⟨ht.sel,ready_mono ht.ready (Ne.symm hji),λk ok hk hki hun=>?_⟩;refine ht.other k ok hk hki ?_;by_cases hjk:j=k
      ·subst hjk;exact(mem_ready.1 hj).1
      ·rwa [getD_set_ne true hjk] at hun
     refine ih _ (listed.setIfInBounds j true) st2 (hc.set hj) ht' ?_;rw [semi _ i oi hoi' h1 (by rw [h1'];rfl),n1,Array.setIfInBounds_comm _ _ hji];exact hh
    ·have n1:Zb0 bar i σs=σs:=by unfold Zb0;rw [if_pos h1,if_pos h1']
     have n2:Zb0 bar j σs=σs:=if_neg (by rw [h2];simp);rw [semi _ i oi hoi' h1 (by rw [h1'];rfl),n1] at h
     have hstep:Zet P tok (if bar.contains (i+1000) then σs else Zan) all true (bar.contains (i+3000)) oi (Zci P tok σs all rs j oj (aAny P tok all rs bar σs f ((listed.setIfInBounds i true).setIfInBounds j true) K)) st:=by
      refine Ze8 (λst1 hh=>?_) h;have:=hh.2 j (ready_mono hj hji)
      rwa [calm _ j oj hoj h2,n2] at this
     rw [if_pos h1',h1c] at hstep;have hsw:=b_swapC ht.sel h3 h4 hstep;rw [calm _ j oj hoj h2,n2];refine Zc4 (λst2 hh=>?_) hsw
     have ht':TakeOk all.toArray bar (listed.setIfInBounds j true) i oi:=by
      refine⟨ht.sel,ready_mono ht.ready (Ne.symm hji),λk ok hk hki hun=>?_⟩;refine ht.other k ok hk hki ?_;by_cases hjk:j=k
      ·subst hjk;exact(mem_ready.1 hj).1
      ·rwa [getD_set_ne true hjk] at hun
     refine ih _ (listed.setIfInBounds j true) st2 (hc.set hj) ht' ?_;rw [semi _ i oi hoi' h1 (by rw [h1'];rfl),n1,Array.setIfInBounds_comm _ _ hji,if_pos h1',h1c];exact hh
    ·have n1:Zb0 bar i σs=Zan:=by unfold Zb0;rw [if_pos h1,if_neg (by rw [h1''];simp)]
     have n2:Zb0 bar j Zan=Zan:=if_neg (by rw [h2];simp);have n3:Zb0 bar j σs=σs:=if_neg (by rw [h2];simp);rw [semi _ i oi hoi' h1 (by rw [h1',h1''];rfl),n1] at h
     have hstep:Zet P tok (if bar.contains (i+1000) then σs else Zan) all true (bar.contains (i+3000)) oi (Zci P tok σs all rs j oj (aAny P tok all rs bar Zan f ((listed.setIfInBounds i true).setIfInBounds j true) K)) st:=by
      refine Ze8 (λst1 hh=>?_) h;have:=hh.2 j (ready_mono hj hji);unfold Zdn at this;rw [hoj] at this;simp only [h2,Bool.false_eq_true,if_false,n2] at this
      rwa [Zkr (σ':=σs) h3 h3'] at this
     have hsw:=b_swap ht.sel h3 h4 hstep;rw [calm _ j oj hoj h2,n3];refine Zc4 (λst2 hh=>?_) hsw
     have ht':TakeOk all.toArray bar (listed.setIfInBounds j true) i oi:=by
      refine⟨ht.sel,ready_mono ht.ready (Ne.symm hji),λk ok hk hki hun=>?_⟩;refine ht.other k ok hk hki ?_;by_cases hjk:j=k
      ·subst hjk;exact(mem_ready.1 hj).1
      ·rwa [getD_set_ne true hjk] at hun
     refine ih _ (listed.setIfInBounds j true) st2 (hc.set hj) ht' ?_;rw [semi _ i oi hoi' h1 (by rw [h1',h1''];rfl),n1,Array.setIfInBounds_comm _ _ hji];exact hh
    ·have n1:Zb0 bar i σs=σs:=if_neg (by rw [h1];simp);have n2:∀σ,Zb0 bar j σ=Zan:=λσ=>by unfold Zb0;rw [if_pos h2,if_neg (by rw [h2''];simp)]
     have n3:Zb0 bar i Zan=Zan:=if_neg (by rw [h1];simp);have sj:∀(K:St→Prop) (st:St),Zdn P tok σs all rs bar j K st=Zet P tok Zan all true (bar.contains (j+3000)) oj K st:=λK st=>by
      rw [semi _ j oj hoj h2 (by rw [h2',h2''];rfl),if_neg (by rw [h2''];simp)]
     rw [calm _ i oi hoi' h1,n1] at h
     have hstep:Zci P tok σs all rs i oi (Zet P tok Zan all true (bar.contains (j+3000)) oj (aAny P tok all rs bar Zan f ((listed.setIfInBounds i true).setIfInBounds j true) K)) st:=by
      refine Zc4 (λst1 hh=>?_) h;have:=hh.2 j (ready_mono hj hji)
      rwa [sj,n2] at this
     have hsw:=b_back h3'' h3 h4 hstep;rw [sj,n2];refine Ze8 (λst2 hh=>?_) hsw
     have ht':TakeOk all.toArray bar (listed.setIfInBounds j true) i oi:=by
      refine⟨ht.sel,ready_mono ht.ready (Ne.symm hji),λk ok hk hki hun=>?_⟩;refine ht.other k ok hk hki ?_;by_cases hjk:j=k
      ·subst hjk;exact(mem_ready.1 hj).1
      ·rwa [getD_set_ne true hjk] at hun
     refine ih _ (listed.setIfInBounds j true) st2 (hc.set hj) ht' ?_;rw [calm _ i oi hoi' h1,n3,Array.setIfInBounds_comm _ _ hji,Zkr (σ':=σs) h3 h3'];exact hh
    ·have n1:Zb0 bar i σs=σs:=if_neg (by rw [h1];simp);have n2:Zb0 bar j σs=σs:=by unfold Zb0;rw [if_pos h2,if_pos h2']
     have sj:∀(K:St→Prop) (st:St),Zdn P tok σs all rs bar j K st=Zet P tok σs all true (bar.contains (j+3000)) oj K st:=λK st=>by
      rw [semi _ j oj hoj h2 (by rw [h2'];rfl),if_pos h2']
     rw [calm _ i oi hoi' h1,n1] at h
     have hstep:Zci P tok σs all rs i oi (Zet P tok σs all true (bar.contains (j+3000)) oj (aAny P tok all rs bar σs f ((listed.setIfInBounds i true).setIfInBounds j true) K)) st:=by
      refine Zc4 (λst1 hh=>?_) h;have:=hh.2 j (ready_mono hj hji)
      rwa [sj,n2] at this
     have hsw:=b_back h3'' h3 h4 hstep;rw [sj,n2];refine Ze8 (λst2 hh=>?_) hsw
     have ht':TakeOk all.toArray bar (listed.setIfInBounds j true) i oi:=by
      refine⟨ht.sel,ready_mono ht.ready (Ne.symm hji),λk ok hk hki hun=>?_⟩;refine ht.other k ok hk hki ?_;by_cases hjk:j=k
      ·subst hjk;exact(mem_ready.1 hj).1
      ·rwa [getD_set_ne true hjk] at hun
     refine ih _ (listed.setIfInBounds j true) st2 (hc.set hj) ht' ?_;rw [calm _ i oi hoi' h1,n1,Array.setIfInBounds_comm _ _ hji];exact hh
def Zop (ops:Array Oper) (bar:List Nat):Nat→Nat→Array Bool→Bool
 | 0,_,listed=>(Region.ready .any ops listed).isEmpty
 | f+1,k,listed=>Zrj ops bar listed k && Zop ops bar f (k+1) (listed.setIfInBounds k true)
def Zbq (P:Program) (tok:Nat) (all:List Oper) (rs:Nat→AV) (bar:List Nat):Mem→Nat→Nat→(St→Prop)→St→Prop
 | _,0,_,K,st=>K st
 | σs,f+1,k,K,st=>Zdn P tok σs all rs bar k (Zbq P tok all rs bar (Zb0 bar k σs) f (k+1) K) st
theorem Zsm {P:Program} {tok:Nat} {all:List Oper} {rs:Nat→AV} {bar:List Nat} {K:St→Prop}:∀(f k:Nat) (σs:Mem) (listed:Array Bool) (st:St),Closed all.toArray listed→Zop all.toArray bar f k listed=true →
 Zbq P tok all rs bar σs f k K st→aAny P tok all rs bar σs f listed K st
 | 0,k,σs,listed,st,_,hl,h=>⟨by simpa [Zop] using hl,h⟩
 | f+1,k,σs,listed,st,hc,hl,h=>by
   simp only [Zop,Bool.and_eq_true] at hl;obtain⟨oi,hoi,ht⟩:=Znn hl.1;refine Zqg hoi f _ listed st hc ht ?_;exact Zj6 (λst' h'=>Zsm f (k+1) _ _ st' (hc.set ht.ready) hl.2 h') h
def cutM (cut:List Nat) (σ:Mem):Mem:=λt=>if cut.contains t then none else σ t
theorem r_draw {P:Program} {tok n:Nat} {Q:AE→St→Prop} {st:St} {id:Nat} {l:List Oper} (rs:Nat→AV) (bar cut:List Nat) (hm:P.follows .mixedOrders=true) (hf:l.all (Zfk n)=true)
 (hlex:Zop l.toArray bar l.length 0 (Array.replicate l.length false)=true) (h:∀K:St→Prop,(∀st',Q .normal st'→K st')→Zbq P tok l rs bar (cutM cut st.mem) l.length 0 K st):Za7 P tok n (.region id l.toArray true) Q st:=by
 intro c a w imm hr;refine wp_region_any hm ?_;have kd:Keeps w imm w.drew imm:=λad h=>⟨h,rfl⟩;have hgd:w.grownBy w.drew none:=⟨rfl,rfl,rfl,Nat.le_refl _,λ_ _ _=>rfl⟩;have hdr:Rel c n st a w.drew imm:=⟨λt=>kd.rs (hr.env t),hr.size,hr.defers,⟨⟨λk e hk=>(hr.mem.ok.ent k e hk).keep hgd (by cases e.blk<;>simp) (λ_ h=>h) (λ_ _=>rfl) (λ_ h=>.inl h),hr.mem.ok.apart,hr.mem.ok.lt,hr.mem.ok.spot⟩,hr.mem.below.drew,hr.mem.lt,hr.mem.old,hr.mem.new,hr.mem.cells⟩⟩
 have hcl:Closed l.toArray (Array.replicate l.length false):=by
  intro j o ho hj;exfalso;by_cases hjl:j < l.length<;>simp [Array.getElem?_replicate,hjl] at hj
 have:=Zsm (K:=Q .normal) l.length 0 (cutM cut st.mem) _ st hcl hlex (h _ λ_ h=>h);have h2:=Zku (c:=c) (Q:=Q) hf l.length (cutM cut st.mem) _ st a w.drew imm hdr (λt e ht=>by unfold cutM at ht;split at ht;cases ht;exact ht) this
 simpa using h2
def Zce:List (Nat × AV)→Nat→AV
 | [],_=>.u
 | (k,a) :: l,i=>if i=k then a else Zce l i
theorem Zq4 {P:Program} {tok:Nat} {all:List Oper} {rs:Nat→AV} {bar:List Nat} {k:Nat} {σs:Mem} {K:St→Prop} {st:St}:Zbq P tok all rs bar σs 0 k K st=K st:=rfl
theorem Zcj {P:Program} {tok:Nat} {all:List Oper} {rs:Nat→AV} {bar:List Nat} {f k:Nat} {σs:Mem} {K:St→Prop} {st:St}:Zbq P tok all rs bar σs (f+1) k K st=Zdn P tok σs all rs bar k (Zbq P tok all rs bar (Zb0 bar k σs) f (k+1) K) st:=rfl
section
variable {P:Program} {tok:Nat} {σs:Mem} {st:St}
theorem opS_load (t:TypeId) (x:Operand):opS P tok σs st (.load t x)=Zcz P ⟨st.env,σs⟩ t (St.ev ⟨st.env,σs⟩ x):=rfl
theorem Zsa (t:TypeId) (p:Nat) (x:Operand):opS P tok σs st (.store t (.tmp p) x)=(match st.env p with
 | .pbox k g off=>if k=tok+p then Zeh P st t (.pbox k g off) (St.ev ⟨st.env,Zan⟩ x) else .bad
 | _=>.bad):=rfl
theorem opS_move (x:Operand):opS P tok σs st (.move x)=Zak P ⟨st.env,Zan⟩ (.move x):=rfl
theorem Zqr (x:Operand):opS P tok σs st (.assign x)=Zak P ⟨st.env,Zan⟩ (.assign x):=rfl
theorem opS_pick (c x y:Operand):opS P tok σs st (.pick c x y)=Zak P ⟨st.env,Zan⟩ (.pick c x y):=rfl
theorem Zsf (t:TypeId):opS P tok σs st (.alloc t)=Zak P ⟨st.env,Zan⟩ (.alloc t):=rfl
theorem opS_box (t:TypeId) (x:Operand):opS P tok σs st (.box t x)=Zak P ⟨st.env,Zan⟩ (.box t x):=rfl
theorem Zse (t:TypeId) (ps:Array (Nat × Operand)):opS P tok σs st (.build t ps)=Zak P ⟨st.env,Zan⟩ (.build t ps):=rfl
theorem opS_bs (t:TypeId) (n:Nat) (ps:Array (Nat × Operand)):opS P tok σs st (.buildSlice t n ps)=Zak P ⟨st.env,Zan⟩ (.buildSlice t n ps):=rfl
theorem opS_nil (x:Operand):opS P tok σs st (.nilCheck x)=Zak P ⟨st.env,Zan⟩ (.nilCheck x):=rfl
theorem opS_bin (b:BinOp) (t:TypeId) (x y:Operand) (u:TypeId):opS P tok σs st (.binOp b t x y u)=Zak P ⟨st.env,Zan⟩ (.binOp b t x y u):=rfl
theorem opS_un (b:UnOp) (t:TypeId) (x:Operand):opS P tok σs st (.unOp b t x)=Zak P ⟨st.env,Zan⟩ (.unOp b t x):=rfl
theorem opS_conv (t u:TypeId) (x:Operand):opS P tok σs st (.convert t u x)=Zak P ⟨st.env,Zan⟩ (.convert t u x):=rfl
theorem opS_mf (f:Fn) (a b:Array Operand):opS P tok σs st (.makeFunc f a b)=Zak P ⟨st.env,Zan⟩ (.makeFunc f a b):=rfl
theorem opS_mk (t:TypeId) (a b:Operand):opS P tok σs st (.makeSlice t a b)=Zak P ⟨st.env,Zan⟩ (.makeSlice t a b):=rfl
theorem Zsb (t:TypeId) (x:Operand) (a b c:Option Operand):opS P tok σs st (.slice t x a b c)=Zak P ⟨st.env,σs⟩ (.slice t x a b c):=rfl
theorem opS_fa (t:TypeId) (x:Operand) (n:Nat):opS P tok σs st (.fieldAddr t x n)=Zak P ⟨st.env,Zan⟩ (.fieldAddr t x n):=rfl
theorem opS_fi (t:TypeId) (x:Operand) (n:Nat):opS P tok σs st (.field t x n)=Zak P ⟨st.env,Zan⟩ (.field t x n):=rfl
theorem opS_ia (t:TypeId) (x y:Operand):opS P tok σs st (.indexAddr t x y)=Zbf P ⟨st.env,σs⟩ t (St.ev ⟨st.env,σs⟩ x) (St.ev ⟨st.env,σs⟩ y):=rfl
theorem opS_ix (t:TypeId) (x y:Operand):opS P tok σs st (.index t x y)=Zak P ⟨st.env,Zan⟩ (.index t x y):=rfl
theorem opS_ext (x:Operand) (n:Nat):opS P tok σs st (.extract x n)=Zak P ⟨st.env,Zan⟩ (.extract x n):=rfl
theorem opS_mi (t:TypeId) (x:Operand):opS P tok σs st (.makeInterface t x)=Zak P ⟨st.env,Zan⟩ (.makeInterface t x):=rfl
theorem opS_len (a:Array Operand) (ts:Array TypeId):opS P tok σs st (.call ⟨.builtin .len,a,ts⟩)=Zcl P ⟨st.env,σs⟩ ⟨.builtin .len,a,ts⟩:=rfl
theorem Zsd (f:Operand) (a:Array Operand) (ts:Array TypeId):opS P tok σs st (.call ⟨.value f,a,ts⟩)=Zak P ⟨st.env,Zan⟩ (.call ⟨.value f,a,ts⟩):=rfl
theorem Zqs (a:Array Operand) (ts:Array TypeId):opS P tok σs st (.call ⟨.builtin .append,a,ts⟩)=Zak P ⟨st.env,Zan⟩ (.call ⟨.builtin .append,a,ts⟩):=rfl
theorem opS_copy (a:Array Operand) (ts:Array TypeId):opS P tok σs st (.call ⟨.builtin .copy,a,ts⟩)=Zak P ⟨st.env,Zan⟩ (.call ⟨.builtin .copy,a,ts⟩):=rfl
theorem opS_max (a:Array Operand) (ts:Array TypeId):opS P tok σs st (.call ⟨.builtin .max,a,ts⟩)=Zak P ⟨st.env,Zan⟩ (.call ⟨.builtin .max,a,ts⟩):=rfl
theorem opS_min (a:Array Operand) (ts:Array TypeId):opS P tok σs st (.call ⟨.builtin .min,a,ts⟩)=Zak P ⟨st.env,Zan⟩ (.call ⟨.builtin .min,a,ts⟩):=rfl
end
attribute [go_sem ↓] Zsa opS_load opS_move Zqr opS_pick Zsf opS_box Zse opS_bs opS_nil opS_bin opS_un opS_conv opS_mf opS_mk Zsb opS_fa opS_fi opS_ia opS_ix opS_ext opS_mi opS_len Zsd Zqs opS_copy opS_max opS_min
attribute [go_sem] cutM Zaw Zc3 Zdc Zj8 Ziv Zr8 Zb0 Zce Zq4 Zcj Zdn Zci Zfq Zeq Zb2 optK outK List.contains_cons List.contains_nil Bool.or_false Bool.false_or Bool.or_true Bool.true_or Zan
theorem lt_t {a b:Int} (h:a < b):decide (a < b)=true:=decide_eq_true h
theorem lt_f {a b:Int} (h:b≤a):decide (a < b)=false:=decide_eq_false (by omega)
theorem le_t {a b:Int} (h:a≤b):decide (a≤b)=true:=decide_eq_true h
theorem le_f {a b:Int} (h:b < a):decide (a≤b)=false:=decide_eq_false (by omega)
theorem eq_t {a b:Int} (h:a=b):(a == b)=true:=by simp [h]
theorem eq_f {a b:Int} (h:a≠b):(a == b)=false:=by simp [h]
theorem ne_t {a b:Int} (h:a≠b):(a != b)=true:=by simp [h]
theorem ne_f {a b:Int} (h:a=b):(a != b)=false:=by simp [h]
theorem Zqp (n:Nat):((n:Int) - 1).toNat=n - 1:=by omega
theorem Zqh (n:Nat):((n:Int)+1).toNat=n+1:=by omega
def ints (l:List Int):AV:=.sl 1 (l.map λn=>.v (.int .i64 n))
def gI (l:List Int) (k:Nat):Int:=l.getD k 0
theorem ints_get {l:List Int} {k:Nat} (h:k < l.length):(l.map λn=>AV.v (.int .i64 n)).getD k .u=.v (.int .i64 (gI l k)):=Zp3 h
theorem Zfp {l:List Int} {k:Nat} (h:k < l.length):gI l k=l[k]:=by unfold gI;rw [List.getD_eq_getElem?_getD,List.getElem?_eq_getElem h];rfl
theorem Zbg {l:List Int} {k:Nat} (h:l.length≤k):gI l k=0:=by unfold gI;rw [List.getD_eq_getElem?_getD,List.getElem?_eq_none h];rfl
theorem Zbr (n:Nat):(n:Int)+1=((n+1:Nat):Int):=by omega
theorem if_max (x y:Int):(if y > x then y else x)=max x y:=by split<;>omega
theorem range2:List.range 2=[0,1]:=rfl
theorem range3:List.range 3=[0,1,2]:=rfl
theorem range4:List.range 4=[0,1,2,3]:=rfl
attribute [go_sem] range2 range3 range4 if_max lt_t lt_f le_t le_f eq_t eq_f ne_t ne_f Zqp Zqh ints_get
inductive Wk:AV→AV→Prop
 | refl (a:AV):Wk a a
 | nil (m:Nat):Wk (.v (.slice none 0 0)) (.sl m [])
 | tup (aS bs:List AV) (hl:aS.length=bs.length) (h:∀(j:Nat) (a b:AV),aS[j]?=some a→bs[j]?=some b→Wk a b):Wk (.tup aS) (.tup bs)
theorem Wk.rd {w:World} {imm:Imm} {a b:AV} (h:Wk a b):∀{x:Value},Rd w imm a x→Rd w imm b x:=by
 induction h with
 | refl a=>exact λh=>h
 | nil m =>
   intro x h;cases h;exact .sl m [] none 0 (λ_=>undef) (by simp) (by simp) (Nat.le_refl _) (by simp) (by simp) (by simp [flat])
 | tup aS bs hl _ ih =>
   intro x h
   cases h with
   | tup _ vs hl2 hr =>
     refine .tup bs vs (by omega) λj b x h1 h2=>?_;have hj:j < aS.length:=by rw [hl];exact(List.getElem?_eq_some_iff.1 h1).1
     exact ih j aS[j] b (List.getElem?_eq_getElem hj) h1 (hr j aS[j] x (List.getElem?_eq_getElem hj) h2)
theorem Pure.wk {P:Program} {f:FuncId} {args:List AV} {r r':AV} (h:Pure P f args r) (hw:Wk r r'):Pure P f args r':=by
 refine⟨h.1,λw imm vs h1 h2 h3=>(h.2 w imm vs h1 h2 h3).mono λe w' he=>?_⟩;obtain⟨x,imm',e1,e2,e3⟩:=he;exact⟨x,imm',e1,hw.rd e2,e3⟩
theorem Wk.pair {a b c:AV} (h:Wk a b):Wk (.tup [a,c]) (.tup [b,c]):=by
 refine .tup _ _ rfl λj x y h1 h2=>?_
 match j with
 | 0=>simp at h1 h2;subst h1;subst h2;exact h
 | 1=>simp at h1 h2;subst h1;subst h2;exact .refl _
 | j+2=>simp at h1
attribute [go_sem] ne_eq true_and and_true implies_true Std.le_refl and_self not_true_eq_false not_false_eq_true forall_const Option.getD_some Option.getD_none List.getElem?_cons_zero List.getElem?_cons_succ List.getElem?_nil Option.bind_some Option.map_some Option.map_none Option.isSome_some Option.isSome_none
 List.map_cons List.map_nil List.length_cons List.length_nil List.length_map List.length_take List.length_replicate List.size_toArray List.append_nil List.nil_append List.cons_append List.getD_cons_zero List.getD_cons_succ List.getD_nil List.drop_zero List.drop_succ_cons List.take_zero List.take_succ_cons List.drop_nil List.take_nil
 List.set_cons_zero List.set_cons_succ List.replicate_succ List.replicate_zero List.all_cons List.all_nil Bool.and_true Bool.true_and Bool.false_eq_true Bool.true_eq_false Bool.not_true Bool.not_false decide_true decide_false decide_eq_true_eq Int.toNat_natCast Int.toNat_zero Int.toNat_one imp_false false_and and_false false_or or_false beq_self_eq_true beq_true beq_false wrap_i64
section
variable {P:Program} {all rest:List Oper} {K:St→Prop} {e:Nat→AV} {m:Mem} {dst:Option Nat} {d t j:Nat} {op:Op} {ty:TypeId} {pos:String} {af:Array Edge} {r:Res} {want:Bool} {a:AV} {f:FuncId} {args args':List AV}
theorem Zqu (h:K ⟨e,m⟩):Zbj P 0 all [] K ⟨e,m⟩:=h
theorem o_op (h:Zak P ⟨e,m⟩ op=r) (k:aRes P d (some d) r (Zbj P 0 all rest K) ⟨e,m⟩):Zbj P 0 all (⟨some d,op,ty,pos,af,none⟩ :: rest) K ⟨e,m⟩:=by
 rw [Zd5,h,Option.getD_some,Nat.zero_add];exact k
theorem Zoc (h:Zak P ⟨e,m⟩ op=r) (k:aRes P 0 none r (Zbj P 0 all rest K) ⟨e,m⟩):Zbj P 0 all (⟨none,op,ty,pos,af,none⟩ :: rest) K ⟨e,m⟩:=by
 rw [Zd5,h];exact k
theorem Zoa (h:K ⟨upd e d a,m⟩):aRes P t (some d) (.val a []) K ⟨e,m⟩:=h
theorem Zjb {ks:List Nat} (h:K ⟨upd e d a,marks m ks⟩):aRes P t (some d) (.val a ks) K ⟨e,m⟩:=h
theorem Zjc {ks:List Nat} (h:K ⟨e,marks m ks⟩):aRes P t none (.val a ks) K ⟨e,m⟩:=h
theorem Zh7 {p:Prop} (hp:p) (h:aRes P t dst r K ⟨e,m⟩):aRes P t dst (.need p r) K ⟨e,m⟩:=⟨hp,h⟩
theorem o_app {k mm pub:Nat} {sv0:Value} {es news:List AV} {ks:List Nat} (hk:marks m ks k=some (.row sv0 ty mm es pub)) (h:∀sv,K ⟨upd e d (.own k sv),upd (marks m ks) k (some (.row sv ty mm (es++news) pub))⟩) :
 aRes P t (some d) (.app k news ks) K ⟨e,m⟩:=by
 simp only [aRes,hk];exact h
theorem Zob {k:Nat} {ent:Ent} {ks:List Nat} (h:K ⟨e,upd (marks m ks) k (some ent)⟩):aRes P t none (.sto a k ent ks) K ⟨e,m⟩:=h
theorem Zjd {k:Nat} {ent:Ent} {ks:List Nat} (h:K ⟨upd e d a,upd (marks m ks) k (some ent)⟩):aRes P t (some d) (.sto a k ent ks) K ⟨e,m⟩:=h
theorem Zmq {x:AV} (c:Pure P f args' x) (h0:AV.toksL args=[]) (ho:Zdq m args) (ha:Zdo m args=args') (h:K ⟨upd e d x,m⟩):aRes P t (some d) (.call f args) K ⟨e,m⟩:=by
 refine Zbd c ?_ ?_ ?_
 ·rw [h0];exact ho
 ·rw [h0];exact ha
 ·rw [h0];exact h
theorem Zld {x:AV} (c:Pure P f args' x) (h0:AV.toksL args=[]) (ho:Zdq m args) (ha:Zdo m args=args') (h:K ⟨e,m⟩):aRes P t none (.call f args) K ⟨e,m⟩:=by
 refine Zbd c ?_ ?_ ?_
 ·rw [h0];exact ho
 ·rw [h0];exact ha
 ·rw [h0];exact h
theorem o_calls {x:AV} {ks:List Nat} {m':Mem} (c:Pure P f args' x) (h0:AV.toksL args=ks) (hm:marks m ks=m') (ho:Zdq m' args) (ha:Zdo m' args=args') (h:K ⟨upd e d x,m'⟩):aRes P t (some d) (.call f args) K ⟨e,m⟩:=by
 subst hm;subst h0;exact Zbd c ho ha h
theorem Zhf {x:AV} {m':Mem} (c:ACall P f args m λr σ'=>r=x∧σ'=m') (h:K ⟨upd e d x,m'⟩):aRes P t (some d) (.call f args) K ⟨e,m⟩ :=
 c.mono λr σ' ⟨h1,h2⟩=>by subst h1;subst h2;exact h
theorem o_fresh {x:Value→AV} {m':Value→Mem} (c:ACall P f args m λr σ'=>∃sv,r=x sv∧σ'=m' sv) (h:∀sv,K ⟨upd e d (x sv),m' sv⟩):aRes P t (some d) (.call f args) K ⟨e,m⟩ :=
 c.mono λr σ' ⟨sv,h1,h2⟩=>by subst h1;subst h2;exact h sv
variable {rs:Nat→AV} {bar:List Nat} {fu k:Nat} {σs:Mem}
def dRes (P:Program) (σs:Mem) (t d:Nat) (r0:AV) (r:Res) (K:St→Prop) (st:St):Prop:=Zeq P r0 r∧optK σs t (some d) (Zb2 r0 r) K st
def dSto (σs:Mem) (r:Res) (K:St→Prop) (st:St):Prop:=Ziv r∧optK σs 0 none (Zj8 r) K st
theorem Zow (h:K ⟨e,m⟩):Zbq P 0 all rs bar σs 0 k K ⟨e,m⟩:=h
theorem d_op (hb:bar.contains k=false) (ho:all[k]?=some ⟨some d,op,ty,pos,af,none⟩) (hst:Zaw op=false) (h:opS P 0 σs ⟨e,m⟩ op=r) (hk:dRes P σs d d (rs k) r (Zbq P 0 all rs bar σs fu (k+1) K) ⟨e,m⟩):Zbq P 0 all rs bar σs (fu+1) k K ⟨e,m⟩:=by
 rw [Zcj];unfold Zdn;rw [ho];simp only [Zb0,hb,Bool.false_eq_true,if_false];unfold Zci;simp only [Zc3,Zdc,hst,Bool.false_eq_true,if_false,h,Option.getD_some,Nat.zero_add];exact⟨.inl hk.1,hk.2⟩
def hasAll (σ:Mem):List (Nat × Ent)→Prop
 | []=>True
 | p :: l=>σ p.1=some p.2∧hasAll σ l
theorem Zq1 {σ:Mem}:hasAll σ []=True:=rfl
theorem Zos {σ:Mem} {p:Nat × Ent} {l:List (Nat × Ent)}:hasAll σ (p :: l)=(σ p.1=some p.2∧hasAll σ l):=rfl
theorem hasAll.part {σs σ:Mem} (hp:Part σs σ):∀{l:List (Nat × Ent)},hasAll σs l→hasAll σ l
 | [],_=>trivial
 | p :: l,h=>⟨hp _ _ h.1,hasAll.part hp h.2⟩
def RdC (P:Program) (L:List (Nat × Ent)) (f:FuncId) (args:List AV) (x:AV):Prop:=∀σ,hasAll σ L→ACall P f args σ λr σ'=>r=x∧σ'=σ
theorem o_rd {x:AV} {L:List (Nat × Ent)} (c:RdC P L f args x) (hL:hasAll m L) (h:K ⟨upd e d x,m⟩):aRes P t (some d) (.call f args) K ⟨e,m⟩:=Zhf (c m hL) h
theorem d_read {x:AV} {L:List (Nat × Ent)} {g:Operand} {aS:Array Operand} {ts:Array TypeId} (c:RdC P L f args x) (hb:bar.contains k=false) (ho:all[k]?=some ⟨some d,.call ⟨.value g,aS,ts⟩,ty,pos,af,none⟩) (h:Zak P ⟨e,Zan⟩ (.call ⟨.value g,aS,ts⟩)=.call f args) (hL:hasAll σs L) (hx:rs k=x)
 (hk:Zbq P 0 all rs bar σs fu (k+1) K ⟨upd e d x,m⟩):Zbq P 0 all rs bar σs (fu+1) k K ⟨e,m⟩:=by
 rw [Zcj];unfold Zdn;rw [ho];simp only [Zb0,hb,Bool.false_eq_true,if_false];unfold Zci;have hs:opS P 0 σs ⟨e,m⟩ (.call ⟨.value g,aS,ts⟩)=.call f args:=h;simp only [Zc3,Zdc,Zaw,isVC,Bool.false_eq_true,if_false,hs,Option.getD_some,Nat.zero_add,hx];exact⟨.inr ⟨trivial,λσ hp=>c σ (hL.part hp)⟩,trivial,hk⟩
theorem d_sto {t p:Nat} {x:Operand} (hb:bar.contains k=false) (ho:all[k]?=some ⟨none,.store t (.tmp p) x,ty,pos,af,none⟩) (h:opS P 0 σs ⟨e,m⟩ (.store t (.tmp p) x)=r) (hk:dSto σs r (Zbq P 0 all rs bar σs fu (k+1) K) ⟨e,m⟩):Zbq P 0 all rs bar σs (fu+1) k K ⟨e,m⟩:=by
 rw [Zcj];unfold Zdn;rw [ho];simp only [Zb0,hb,Bool.false_eq_true,if_false];unfold Zci;simp only [Zc3,Zdc,Zaw,if_true,h,Option.getD_none,Nat.add_zero];exact hk
theorem s_need {p:Prop} (hp:p) (h:dSto σs r K ⟨e,m⟩):dSto σs (.need p r) K ⟨e,m⟩:=⟨⟨hp,h.1⟩,h.2⟩
theorem s_sto {k:Nat} {ent:Ent} (hc:σs k=none) (h:K ⟨e,upd m k (some ent)⟩):dSto σs (.sto .u k ent []) K ⟨e,m⟩:=⟨trivial,.inl hc,h⟩
theorem s_same {k:Nat} {ent:Ent} (hc:σs k=some ent) (h:K ⟨e,upd m k (some ent)⟩):dSto σs (.sto .u k ent []) K ⟨e,m⟩:=⟨trivial,.inr hc,h⟩
theorem Zc0 {o:Oper} (hb:bar.contains k=true) (ho:all[k]?=some o) (hs:(bar.contains (k+1000) || bar.contains (k+2000))=false) (hk:Zbj P 0 all [o] (Zbq P 0 all rs bar Zan fu (k+1) K) ⟨e,m⟩):Zbq P 0 all rs bar σs (fu+1) k K ⟨e,m⟩:=by
 rw [Zcj];unfold Zdn;rw [ho];have h1:bar.contains (k+1000)=false:=(Bool.or_eq_false_iff.1 hs).1;simp only [Zb0,hb,h1,if_true,Bool.false_eq_true,if_false];exact⟨hk,λh=>by rw [←h1,hs] at h;cases h⟩
theorem d_semi (hb:bar.contains k=true) (hs:bar.contains (k+1000)=true) (h2:(bar.contains (k+2000) || bar.contains (k+3000))=false) (ho:all[k]?=some ⟨some d,op,ty,pos,af,none⟩) (h:Zak P ⟨e,m⟩ op=r) (hkp:Zch σs r) (hk:aRes P d (some d) r (Zbq P 0 all rs bar σs fu (k+1) K) ⟨e,m⟩):Zbq P 0 all rs bar σs (fu+1) k K ⟨e,m⟩:=by
 rw [Zcj];unfold Zdn;rw [ho];simp only [Bool.or_eq_false_iff] at h2;simp only [Zb0,hb,hs,h2,if_true,Bool.false_eq_true,if_false];refine⟨?_,λ_=>⟨rfl,by rw [h];exact hkp,λh=>by cases h⟩⟩;unfold Zfq;rw [Zd5,h,Option.getD_some,Nat.zero_add];exact hk
theorem d_semiC (hb:bar.contains k=true) (hs:bar.contains (k+1000)=true) (h3:bar.contains (k+3000)=true) (ho:all[k]?=some ⟨some d,op,ty,pos,af,none⟩) (hn:Zho 0 e op=true) (h:Zak P ⟨e,m⟩ op=r) (hkp:Zch σs r) (hk:aRes P d (some d) r (Zbq P 0 all rs bar σs fu (k+1) K) ⟨e,m⟩):Zbq P 0 all rs bar σs (fu+1) k K ⟨e,m⟩:=by
 rw [Zcj];unfold Zdn;rw [ho];simp only [Zb0,hb,hs,h3,if_true,Bool.true_or];refine⟨?_,λ_=>⟨rfl,by rw [h];exact hkp,λ_=>hn⟩⟩;unfold Zfq;rw [Zd5,h,Option.getD_some,Nat.zero_add];exact hk
theorem d_stay (hb:bar.contains k=true) (hs:(bar.contains (k+1000) || bar.contains (k+3000))=false) (h2:bar.contains (k+2000)=true) (ho:all[k]?=some ⟨none,op,ty,pos,af,none⟩) (h:Zak P ⟨e,m⟩ op=r) (hkp:Zch Zan r) (hk:aRes P 0 none r (Zbq P 0 all rs bar Zan fu (k+1) K) ⟨e,m⟩):Zbq P 0 all rs bar σs (fu+1) k K ⟨e,m⟩:=by
 rw [Zcj];unfold Zdn;rw [ho];simp only [Bool.or_eq_false_iff] at hs;simp only [Zb0,hb,hs,h2,if_true,Bool.false_eq_true,if_false];refine⟨?_,λ_=>⟨rfl,by rw [h];exact hkp,λh=>by cases h⟩⟩;unfold Zfq;rw [Zd5,h,Option.getD_none,Nat.add_zero];exact hk
def Zqx (σs:Mem):List Nat→Prop
 | []=>True
 | k :: ks=>σs k=none∧Zqx σs ks
theorem Zny {k:Nat} {news:List AV} {ks:List Nat}:Zch σs (.app k news ks)=(σs k=none∧Zqx σs ks):=by
 have:Zqx σs ks↔∀t∈ks,σs t=none:=by
  induction ks with
  | nil=>simp [Zqx]
  | cons a ks ih=>simp [Zqx,ih]
 simp only [Zch,this]
theorem Zmd {k n:Nat} {news:List AV}:Zch σs (.appv k n news)=(σs k=none):=rfl
theorem Znx {k:Nat} {ent:Ent}:Zch σs (.sto .u k ent [])=(σs k=none):=rfl
theorem Zmc {p:Prop}:Zch σs (.need p r)=Zch σs r:=rfl
theorem e_val {r0:AV} (h:K ⟨upd e d a,m⟩):dRes P σs t d r0 (.val a []) K ⟨e,m⟩:=⟨trivial,trivial,h⟩
theorem Zjr {r0:AV} {p:Prop} (hp:p) (h:dRes P σs t d r0 r K ⟨e,m⟩):dRes P σs t d r0 (.need p r) K ⟨e,m⟩:=⟨⟨hp,h.1⟩,h.2⟩
theorem e_row {r0:AV} {mm:Nat} {es:List AV} (hs:r0.said=false) (hc:σs t=none) (h:∀sv,K ⟨upd e d (.own t sv),upd m t (some (.row sv ty mm es 0))⟩):dRes P σs t d r0 (.row ty mm es []) K ⟨e,m⟩:=by
 refine⟨λh'=>(by rw [hs] at h';cases h'),?_⟩;show optK σs t (some d) (some (if r0.said then .val r0 else .row ty mm es)) K ⟨e,m⟩;rw [hs];exact⟨hc,h⟩
theorem Zcx {r0:AV} {mm:Nat} {es:List AV} (hx:r0=.sl mm es) (h:K ⟨upd e d (.sl mm es),m⟩):dRes P σs t d r0 (.row ty mm es []) K ⟨e,m⟩:=by
 subst hx;exact⟨λ_=>rfl,trivial,h⟩
theorem e_box {r0:AV} {cs:List AV} (hc:σs t=none) (h:∀g,K ⟨upd e d (.pbox t g 0),upd m t (some (.box g ty cs false))⟩):dRes P σs t d r0 (.box ty cs) K ⟨e,m⟩:=⟨trivial,hc,h⟩
theorem Znf {r0:AV} {x:AV} (hx:r0=x) (c:Pure P f args' x) (h0:AV.toksL args=[]) (ho:Zdq Zan args) (ha:Zdo Zan args=args') (h:K ⟨upd e d x,m⟩):dRes P σs t d r0 (.call f args) K ⟨e,m⟩:=by
 subst hx;subst ha;exact⟨⟨h0,ho,c⟩,trivial,h⟩
end
section
variable {P:Program} {n:Nat} {Q:AE→St→Prop} {e:Nat→AV} {m:Mem}
theorem Zal {ι:Type} {body:Code} (I:ι→(Nat→AV)→Mem→Prop) (μ:ι→Nat) (i:ι) (hf:Zbo n body=true)
 (round:∀i e m,I i e m→Za7 P 0 n body (AE.then (λst'=>∃i',I i' st'.env st'.mem∧μ i' < μ i) Q) ⟨e,m⟩) (h0:I i e m):Za7 P 0 n (.loop body) Q ⟨e,m⟩ :=
 Zfj (tok:=0) (λi st=>I i st.env st.mem) μ i hf (λi st h=>round i st.env st.mem h) h0
end
section
variable {P:Program} {all rest:List Oper} {K:St→Prop} {e:Nat→AV} {m:Mem} {dst:Option Nat} {d t j n:Nat} {op:Op} {ty:TypeId} {pos:String} {af:Array Edge} {r:Res} {want:Bool} {a:AV} {f:FuncId} {args args':List AV} {Q:AE→St→Prop} {rs:Nat→AV} {bar:List Nat} {fu k:Nat} {v:Value}
def AllV {α:Type} (p:α→Prop):Prop:=∀x,p x
theorem Zbi {α:Type} {p:α→Prop} (h:∀x,p x):AllV p:=h
def OG (P:Program) (all rest:List Oper) (dst:Option Nat) (op:Op) (ty:TypeId) (pos:String) (af:Array Edge) (v:Value) (want:Bool) (K:St→Prop) (st:St):Prop :=
 if says (.v v) want=true then Zbj P 0 all (⟨dst,op,ty,pos,af,none⟩ :: rest) K st else Zbj P 0 all rest K (st.put dst (.v (.tuple #[])))
theorem o_g (hg:Zbh all ⟨e,m⟩ j=.v v) (h:OG P all rest dst op ty pos af v want K ⟨e,m⟩):Zbj P 0 all (⟨dst,op,ty,pos,af,some (j,want)⟩ :: rest) K ⟨e,m⟩:=by
 unfold OG at h;rw [Zkt,hg];refine⟨trivial,?_⟩;by_cases hs:says (.v v) want=true
 ·rw [if_pos hs] at h ⊢;exact h
 ·rw [if_neg hs] at h ⊢;exact h
theorem g_y (hs:says (.v v) want=true) (h:Zbj P 0 all (⟨dst,op,ty,pos,af,none⟩ :: rest) K ⟨e,m⟩):OG P all rest dst op ty pos af v want K ⟨e,m⟩:=by
 unfold OG;rw [if_pos hs];exact h
theorem g_n (hs:says (.v v) want=false) (h:Zbj P 0 all rest K ⟨upd e d (.v (.tuple #[])),m⟩):OG P all rest (some d) op ty pos af v want K ⟨e,m⟩:=by
 unfold OG;rw [if_neg (by rw [hs];simp)];exact h
theorem g_nN (hs:says (.v v) want=false) (h:Zbj P 0 all rest K ⟨e,m⟩):OG P all rest none op ty pos af v want K ⟨e,m⟩:=by
 unfold OG;rw [if_neg (by rw [hs];simp)];exact h
def CG (P:Program) (n:Nat) (t:Bool) (x y:Code) (Q:AE→St→Prop) (st:St):Prop:=if t=true then Za7 P 0 n x Q st else Za7 P 0 n y Q st
theorem r_c {o:Operand} {x y:Code} {t:Bool} (ht:St.ev ⟨e,m⟩ o=.v (.bool t)) (h:CG P n t x y Q ⟨e,m⟩):Za7 P 0 n (.cond o x y) Q ⟨e,m⟩:=by
 unfold CG at h;refine Zr2 ht (λh1=>?_) λh1=>?_
 ·rwa [if_pos h1] at h
 ·rwa [if_neg (by rw [h1];simp)] at h
theorem c_t {x y:Code} {st:St} (h:Za7 P 0 n x Q st):CG P n true x y Q st:=by unfold CG;rw [if_pos rfl];exact h
theorem c_f {x y:Code} {st:St} (h:Za7 P 0 n y Q st):CG P n false x y Q st:=by unfold CG;rw [if_neg (by simp)];exact h
theorem Zn6 {mm:Nat} {es:List AV} (h:AllV λsv=>K ⟨upd e d (.own t sv),upd m t (some (.row sv ty mm es 0))⟩):aRes P t (some d) (.row ty mm es []) K ⟨e,m⟩:=h
theorem Zi6 {mm:Nat} {es:List AV} {ks:List Nat} (h:AllV λsv=>K ⟨upd e d (.own t sv),upd (marks m ks) t (some (.row sv ty mm es 0))⟩):aRes P t (some d) (.row ty mm es ks) K ⟨e,m⟩:=h
theorem Zn7 {cs:List AV} (h:AllV λg=>K ⟨upd e d (.pbox t g 0),upd m t (some (.box g ty cs false))⟩):aRes P t (some d) (.box ty cs) K ⟨e,m⟩:=h
theorem p_mapn (h:AllV λg=>K ⟨upd e d (.mp t g),upd m t (some (.map g []))⟩):aRes P t (some d) .mapn K ⟨e,m⟩:=h
theorem Zn8 {k mm pub:Nat} {sv0:Value} {es news:List AV} {ks:List Nat} (hk:marks m ks k=some (.row sv0 ty mm es pub)) (h:AllV λsv=>K ⟨upd e d (.own k sv),upd (marks m ks) k (some (.row sv ty mm (es++news) pub))⟩) :
 aRes P t (some d) (.app k news ks) K ⟨e,m⟩:=o_app hk h
theorem p_appv {k n mm pub:Nat} {sv0:Value} {es news:List AV} (hk:m k=some (.row sv0 ty mm es pub)) (h:AllV λsv=>K ⟨upd e d (.own k sv),upd m k (some (.row sv ty mm (es.take n++news) pub))⟩) :
 aRes P t (some d) (.appv k n news) K ⟨e,m⟩:=by
 simp only [aRes,hk];exact h
theorem q_row {σs:Mem} {r0:AV} {mm:Nat} {es:List AV} (hs:r0.said=false) (hc:σs t=none) (h:AllV λsv=>K ⟨upd e d (.own t sv),upd m t (some (.row sv ty mm es 0))⟩):dRes P σs t d r0 (.row ty mm es []) K ⟨e,m⟩:=e_row hs hc h
theorem q_box {σs:Mem} {r0:AV} {cs:List AV} (hc:σs t=none) (h:AllV λg=>K ⟨upd e d (.pbox t g 0),upd m t (some (.box g ty cs false))⟩):dRes P σs t d r0 (.box ty cs) K ⟨e,m⟩:=e_box hc h
def DG (P:Program) (all:List Oper) (rs:Nat→AV) (bar:List Nat) (σs:Mem) (fu k d:Nat) (op:Op) (v:Value) (want:Bool) (K:St→Prop) (e:Nat→AV) (m:Mem):Prop :=
 if says (.v v) want=true then ∃r,opS P 0 σs ⟨e,m⟩ op=r∧dRes P σs d d (rs k) r (Zbq P 0 all rs bar σs fu (k+1) K) ⟨e,m⟩ else Zbq P 0 all rs bar σs fu (k+1) K ⟨upd e d (.v (.tuple #[])),m⟩
theorem d_g {σs:Mem} (hb:bar.contains k=false) (ho:all[k]?=some ⟨some d,op,ty,pos,af,some (j,want)⟩) (hst:Zaw op=false) (hg:Zbh all ⟨e,Zan⟩ j=.v v) (h:DG P all rs bar σs fu k d op v want K e m):Zbq P 0 all rs bar σs (fu+1) k K ⟨e,m⟩:=by
 unfold DG at h;rw [Zcj];unfold Zdn;rw [ho];simp only [Zb0,hb,Bool.false_eq_true,if_false];unfold Zci;simp only [hg];refine⟨trivial,?_⟩;by_cases hs:says (.v v) want=true
 ·rw [if_pos hs] at h ⊢;obtain⟨r,hr,hk⟩:=h;simp only [Zc3,Zdc,hst,Bool.false_eq_true,if_false,hr,Option.getD_some,Nat.zero_add];exact⟨.inl hk.1,hk.2⟩
 ·rw [if_neg hs] at h ⊢;exact h
theorem dg_y {σs:Mem} (hs:says (.v v) want=true) (h:opS P 0 σs ⟨e,m⟩ op=r) (hk:dRes P σs d d (rs k) r (Zbq P 0 all rs bar σs fu (k+1) K) ⟨e,m⟩):DG P all rs bar σs fu k d op v want K e m:=by
 unfold DG;rw [if_pos hs];exact⟨r,h,hk⟩
theorem dg_n {σs:Mem} (hs:says (.v v) want=false) (h:Zbq P 0 all rs bar σs fu (k+1) K ⟨upd e d (.v (.tuple #[])),m⟩):DG P all rs bar σs fu k d op v want K e m:=by
 unfold DG;rw [if_neg (by rw [hs];simp)];exact h
end
theorem Pure.argsW {P:Program} {f:FuncId} {args args':List AV} {r:AV} (h:Pure P f args r) (hl:args'.length=args.length) (hw:∀(j:Nat) (a b:AV),args'[j]?=some a→args[j]?=some b→Wk a b):Pure P f args' r:=by
 refine⟨h.1,λw imm vs h1 h2 h3=>h.2 w imm vs h1 (by omega) λj b x hb hx=>?_⟩;have hj:j < args'.length:=by rw [hl];exact(List.getElem?_eq_some_iff.1 hb).1
 exact(hw j args'[j] b (List.getElem?_eq_getElem hj) hb).rd (h3 j args'[j] x (List.getElem?_eq_getElem hj) hx)
theorem Pure.nil1 {P:Program} {f m:Nat} {r:AV} (h:Pure P f [.sl m []] r):Pure P f [.v (.slice none 0 0)] r:=by
 refine h.argsW rfl λj a b h1 h2=>?_
 match j with
 | 0=>simp at h1 h2;subst h1;subst h2;exact .nil m
 | j+1=>simp at h1
theorem ev_mk {e:Nat→AV} {m:Mem} {t:Nat}:St.ev ⟨e,m⟩ (.tmp t)=e t:=rfl
theorem env_mk {e:Nat→AV} {m:Mem}:St.env ⟨e,m⟩=e:=rfl
theorem mem_mk {e:Nat→AV} {m:Mem}:St.mem ⟨e,m⟩=m:=rfl
theorem Zm1 {α β:Type} {f:α→β} {x:α} {l:List α}:(List.toArray (x :: l)).toList.map f=f x :: (List.toArray l).toList.map f:=rfl
theorem Zon {α β:Type} {f:α→β}:(List.toArray ([]:List α)).toList.map f=[]:=rfl
attribute [go_sem] Zho Znx Zny Zmd Zmc Zqx Zq1 Zos
attribute [go_sem ↓] ev_mk env_mk mem_mk Zaz Zak Zbh Zcl Zi5 Zm1 Zon List.map_cons List.map_nil
def imm0 (w:World):Imm:=λad=>ad.block < w.heap.size∧ad.spot=none
inductive Rds (w:World):List AV→List Value→Prop
 | nil:Rds w [] []
 | cons {a:AV} {x:Value} {aS:List AV} {xs:List Value} (h:Rd w (imm0 w) a x) (t:Rds w aS xs):Rds w (a :: aS) (x :: xs)
theorem Rds.len {w:World} {aS:List AV} {xs:List Value} (h:Rds w aS xs):aS.length=xs.length:=by
 induction h with
 | nil=>rfl
 | cons _ _ ih=>simp [ih]
theorem Rds.get {w:World} {aS:List AV} {xs:List Value} (h:Rds w aS xs):∀(j:Nat) (a:AV) (x:Value),aS[j]?=some a→xs[j]?=some x→Rd w (imm0 w) a x:=by
 induction h with
 | nil=>intro j a x h1;simp at h1
 | cons h1 _ ih =>
   intro j a x h2 h3
   cases j with
   | zero=>simp at h2 h3;subst h2;subst h3;exact h1
   | succ j=>exact ih j a x (by simpa using h2) (by simpa using h3)
theorem Pure.done {P:Program} {f:FuncId} {args:List AV} {v:Value} (h:Pure P f args (.v v)) {w:World} {vs:Array Value} (hr:Rds w args vs.toList):Calls P f vs w λe w'=>e=.returned v∧Below w.heap.size w w':=by
 refine(h.2 w (imm0 w) vs (λ_ h=>h) (by simpa using hr.len) λj a x h1 h2=>hr.get j a x h1 (by simpa using h2)).mono λe w' he=>?_;obtain⟨x,imm',rfl,hx,_,_,hb⟩:=he;cases hx;exact⟨rfl,hb⟩
theorem Zsv {w:World} {ad:Addr} {v:Value} (h:w.cell? ad=some v):imm0 w ad:=by
 refine⟨?_,World.cell?_spot h⟩;exact World.block_lt_of_cell? w _ h
section
mutual
theorem AV.plain (σ:Mem):∀(a:AV),AV.toks a=[]→Zef σ a∧pubV σ a=a
 | .v x,_=>⟨trivial,rfl⟩
 | .sl m es,_=>⟨trivial,rfl⟩
 | .agg cs,h=>by
   obtain⟨h1,h2⟩:=AV.plainL σ cs h;exact⟨h1,by simp only [pubV,h2]⟩
 | .tup cs,h=>by
   obtain⟨h1,h2⟩:=AV.plainL σ cs h;exact⟨h1,by simp only [pubV,h2]⟩
 | .pimm cs,_=>⟨trivial,rfl⟩
 | .fn f cs,h=>by
   obtain⟨h1,h2⟩:=AV.plainL σ cs h;exact⟨h1,by simp only [pubV,h2]⟩
 | .ifc t x,h=>by
   obtain⟨h1,h2⟩:=AV.plain σ x h;exact⟨h1,by simp only [pubV,h2]⟩
 | .own k sv,h=>by cases h
 | .prow k sv m i off,h=>by cases h
 | .pbox k g off,h=>by cases h
 | .view k sv m i len,h=>by cases h
 | .u,_=>⟨trivial,rfl⟩
theorem AV.plainL (σ:Mem):∀(l:List AV),AV.toksL l=[]→Zdq σ l∧Zdo σ l=l
 | [],_=>⟨trivial,rfl⟩
 | a :: r,h=>by
   simp only [AV.toksL,List.append_eq_nil_iff] at h;obtain⟨h1,h2⟩:=AV.plain σ a h.1;obtain⟨h3,h4⟩:=AV.plainL σ r h.2;exact⟨⟨h1,h3⟩,by simp only [Zdo,h2,h4]⟩
end
class Stp (q:Prop) (p:outParam Prop):Prop where
 h:p→q
theorem stp {q p:Prop} [i:Stp q p] (h:p):q:=i.h h
section
variable {P:Program} {all rest:List Oper} {K:St→Prop} {e:Nat→AV} {m:Mem} {dst:Option Nat} {d t j n id:Nat} {op:Op} {ty:TypeId} {pos:String} {af:Array Edge} {r:Res} {want:Bool} {a:AV} {f:FuncId} {args args':List AV} {Q:AE→St→Prop} {st:St} {x y:Code} {rs:Nat→AV} {bar:List Nat} {fu k:Nat} {σs:Mem}
theorem r_regD {l:List Oper} (h:Zbj P 0 l l (Q .normal) st):Za7 P 0 n (.region id l.toArray false) Q st:=by
 unfold Za7;exact h
theorem Za2 {l:List Oper} (rs:Nat→AV) (bar cut:List Nat) (hm:P.follows .mixedOrders=true) (hf:l.all (Zfk n)=true)
 (hlex:Zop l.toArray bar l.length 0 (Array.replicate l.length false)=true) {N:Nat} (hN:l.length=N) (h:Zbq P 0 l rs bar (cutM cut st.mem) N 0 (Q .normal) st):Za7 P 0 n (.region id l.toArray true) Q st :=
 r_draw rs bar cut hm hf hlex λK hK=>by
  subst hN
  have mono:∀(f k:Nat) (σs:Mem) (K K':St→Prop),(∀st,K st→K' st)→∀st,Zbq P 0 l rs bar σs f k K st→Zbq P 0 l rs bar σs f k K' st:=by
   intro f
   induction f with
   | zero=>exact λk σs K K' h st=>h st
   | succ f ih=>exact λk σs K K' h st hx=>Zj6 (λst'=>ih (k+1) _ K K' h st') hx
  exact mono _ _ _ _ _ hK st h
instance:Stp (Za7 P 0 n (.seq x y) Q st) (Za7 P 0 n x (AE.then (Za7 P 0 n y Q) Q) st):=⟨Za5⟩
instance:Stp (Za7 P 0 n .skip Q st) (Q .normal st):=⟨Zaq⟩
instance:Stp (Za7 P 0 n .ret Q st) (Q .ret st):=⟨Za6⟩
instance:Stp (Za7 P 0 n (.exit id) Q st) (Q (.exit id) st):=⟨Zar⟩
instance:Stp (Za7 P 0 n (.block id x) Q st) (Za7 P 0 n x (AE.inBlock id Q) st):=⟨Zaj⟩
instance {l:List Oper}:Stp (Za7 P 0 n (.region id l.toArray false) Q st) (Zbj P 0 l l (Q .normal) st):=⟨r_regD⟩
instance {next:St→Prop}:Stp (AE.then next Q .normal st) (next st):=⟨Zao⟩
instance {next:St→Prop}:Stp (AE.then next Q .ret st) (Q .ret st):=⟨Zac⟩
instance {next:St→Prop} {i:Nat}:Stp (AE.then next Q (.exit i) st) (Q (.exit i) st):=⟨Zab⟩
instance:Stp (AE.inBlock id Q .normal st) (Q .normal st):=⟨t_in⟩
instance:Stp (AE.inBlock id Q .ret st) (Q .ret st):=⟨Zae⟩
instance:Stp (AE.inBlock id Q (.exit id) st) (Q .normal st):=⟨Zad⟩
instance {l:List ResultVar} {K:St→AV→Prop}:Stp (Done P l K .ret st) (Zk3 P st l (K st)):=⟨Zap⟩
instance {l:List ResultVar} {K:St→AV→Prop}:Stp (Done P l K .normal st) (Zk3 P st l (K st)):=⟨Zai⟩
instance:Stp (Zbj P 0 all [] K st) (K st):=⟨λh=>h⟩
instance:Stp (aRes P t (some d) (.val a []) K ⟨e,m⟩) (K ⟨upd e d a,m⟩):=⟨Zoa⟩
instance {k:Nat} {ks:List Nat}:Stp (aRes P t (some d) (.val a (k :: ks)) K ⟨e,m⟩) (K ⟨upd e d a,marks m (k :: ks)⟩):=⟨Zjb⟩
instance {ks:List Nat}:Stp (aRes P t none (.val a ks) K ⟨e,m⟩) (K ⟨e,marks m ks⟩):=⟨Zjc⟩
instance {k:Nat} {ent:Ent} {ks:List Nat}:Stp (aRes P t none (.sto a k ent ks) K ⟨e,m⟩) (K ⟨e,upd (marks m ks) k (some ent)⟩):=⟨Zob⟩
instance {k:Nat} {ent:Ent} {ks:List Nat}:Stp (aRes P t (some d) (.sto a k ent ks) K ⟨e,m⟩) (K ⟨upd e d a,upd (marks m ks) k (some ent)⟩):=⟨Zjd⟩
instance {mm:Nat} {es:List AV}:Stp (aRes P t (some d) (.row ty mm es []) K ⟨e,m⟩) (AllV λsv=>K ⟨upd e d (.own t sv),upd m t (some (.row sv ty mm es 0))⟩):=⟨Zn6⟩
instance {mm k:Nat} {es:List AV} {ks:List Nat}:Stp (aRes P t (some d) (.row ty mm es (k :: ks)) K ⟨e,m⟩) (AllV λsv=>K ⟨upd e d (.own t sv),upd (marks m (k :: ks)) t (some (.row sv ty mm es 0))⟩):=⟨Zi6⟩
instance {cs:List AV}:Stp (aRes P t (some d) (.box ty cs) K ⟨e,m⟩) (AllV λg=>K ⟨upd e d (.pbox t g 0),upd m t (some (.box g ty cs false))⟩):=⟨Zn7⟩
instance:Stp (aRes P t (some d) .mapn K ⟨e,m⟩) (AllV λg=>K ⟨upd e d (.mp t g),upd m t (some (.map g []))⟩):=⟨p_mapn⟩
instance {v:Bool}:Stp (OG P all rest dst op ty pos af (.bool v) v K st) (Zbj P 0 all (⟨dst,op,ty,pos,af,none⟩ :: rest) K st):=⟨g_y (by simp [says])⟩
instance:Stp (OG P all rest (some d) op ty pos af (.bool true) false K ⟨e,m⟩) (Zbj P 0 all rest K ⟨upd e d (.v (.tuple #[])),m⟩):=⟨g_n rfl⟩
instance:Stp (OG P all rest (some d) op ty pos af (.bool false) true K ⟨e,m⟩) (Zbj P 0 all rest K ⟨upd e d (.v (.tuple #[])),m⟩):=⟨g_n rfl⟩
instance {vs:Array Value}:Stp (OG P all rest (some d) op ty pos af (.tuple vs) want K ⟨e,m⟩) (Zbj P 0 all rest K ⟨upd e d (.v (.tuple #[])),m⟩):=⟨g_n rfl⟩
instance:Stp (OG P all rest none op ty pos af (.bool true) false K ⟨e,m⟩) (Zbj P 0 all rest K ⟨e,m⟩):=⟨g_nN rfl⟩
instance:Stp (OG P all rest none op ty pos af (.bool false) true K ⟨e,m⟩) (Zbj P 0 all rest K ⟨e,m⟩):=⟨g_nN rfl⟩
instance {vs:Array Value}:Stp (OG P all rest none op ty pos af (.tuple vs) want K ⟨e,m⟩) (Zbj P 0 all rest K ⟨e,m⟩):=⟨g_nN rfl⟩
instance:Stp (CG P n true x y Q st) (Za7 P 0 n x Q st):=⟨c_t⟩
instance:Stp (CG P n false x y Q st) (Za7 P 0 n y Q st):=⟨c_f⟩
instance:Stp (Zbq P 0 all rs bar σs 0 k K ⟨e,m⟩) (K ⟨e,m⟩):=⟨Zow⟩
instance {r0:AV}:Stp (dRes P σs t d r0 (.val a []) K ⟨e,m⟩) (K ⟨upd e d a,m⟩):=⟨e_val⟩
instance:Stp (DG P all rs bar σs fu k d op (.bool true) false K e m) (Zbq P 0 all rs bar σs fu (k+1) K ⟨upd e d (.v (.tuple #[])),m⟩):=⟨dg_n rfl⟩
instance:Stp (DG P all rs bar σs fu k d op (.bool false) true K e m) (Zbq P 0 all rs bar σs fu (k+1) K ⟨upd e d (.v (.tuple #[])),m⟩):=⟨dg_n rfl⟩
instance {vs:Array Value}:Stp (DG P all rs bar σs fu k d op (.tuple vs) want K e m) (Zbq P 0 all rs bar σs fu (k+1) K ⟨upd e d (.v (.tuple #[])),m⟩):=⟨dg_n rfl⟩
theorem o_c {x:AV} (c:Pure P f args x) (h0:AV.toksL args=[]) (h:K ⟨upd e d x,m⟩):aRes P t (some d) (.call f args) K ⟨e,m⟩ :=
 Zmq c h0 (AV.plainL m args h0).1 (AV.plainL m args h0).2 h
theorem e_c {r0 x:AV} (c:Pure P f args x) (hx:r0=x) (h0:AV.toksL args=[]) (h:K ⟨upd e d x,m⟩):dRes P σs t d r0 (.call f args) K ⟨e,m⟩ :=
 Znf hx c h0 (AV.plainL Zan args h0).1 (AV.plainL Zan args h0).2 h
theorem o_cs {x:AV} {ks:List Nat} {m':Mem} (c:Pure P f args' x) (h0:AV.toksL args=ks) (hm:marks m ks=m') (h1:Zdq m' args∧Zdo m' args=args') (h:K ⟨upd e d x,m'⟩):aRes P t (some d) (.call f args) K ⟨e,m⟩ :=
 o_calls c h0 hm h1.1 h1.2 h
end
def Ev (p:Prop):Prop:=p
theorem gE {p:Prop} (h:p):Ev p:=h
section
variable {P:Program} {all rest:List Oper} {K:St→Prop} {e:Nat→AV} {m:Mem} {dst:Option Nat} {d t j n:Nat} {op:Op} {ty:TypeId} {pos:String} {af:Array Edge} {r:Res} {want:Bool} {a:AV} {f:FuncId} {args args':List AV} {Q:AE→St→Prop} {x y:Code} {rs:Nat→AV} {bar:List Nat} {fu k:Nat} {σs:Mem} {v:Value}
theorem gx1 (h:Ev (Zak P ⟨e,m⟩ op=r)) (k:aRes P d (some d) r (Zbj P 0 all rest K) ⟨e,m⟩):Zbj P 0 all (⟨some d,op,ty,pos,af,none⟩ :: rest) K ⟨e,m⟩:=o_op h k
theorem gx2 (h:Ev (Zak P ⟨e,m⟩ op=r)) (k:aRes P 0 none r (Zbj P 0 all rest K) ⟨e,m⟩):Zbj P 0 all (⟨none,op,ty,pos,af,none⟩ :: rest) K ⟨e,m⟩:=Zoc h k
theorem gx3 (hg:Ev (Zbh all ⟨e,m⟩ j=.v v)) (h:OG P all rest dst op ty pos af v want K ⟨e,m⟩):Zbj P 0 all (⟨dst,op,ty,pos,af,some (j,want)⟩ :: rest) K ⟨e,m⟩:=o_g hg h
theorem gx4 {k mm pub:Nat} {sv0:Value} {es news:List AV} {ks:List Nat} (hk:Ev (marks m ks k=some (.row sv0 ty mm es pub))) (h:AllV λsv=>K ⟨upd e d (.own k sv),upd (marks m ks) k (some (.row sv ty mm (es++news) pub))⟩) :
 aRes P t (some d) (.app k news ks) K ⟨e,m⟩:=Zn8 hk h
theorem gx5 {k n mm pub:Nat} {sv0:Value} {es news:List AV} (hk:Ev (m k=some (.row sv0 ty mm es pub))) (h:AllV λsv=>K ⟨upd e d (.own k sv),upd m k (some (.row sv ty mm (es.take n++news) pub))⟩) :
 aRes P t (some d) (.appv k n news) K ⟨e,m⟩:=p_appv hk h
theorem gx6 {o:Operand} {t:Bool} (ht:Ev (St.ev ⟨e,m⟩ o=.v (.bool t))) (h:CG P n t x y Q ⟨e,m⟩):Za7 P 0 n (.cond o x y) Q ⟨e,m⟩:=r_c ht h
theorem gx7 {p:Prop} (hp:Ev p) (h:aRes P t dst r K ⟨e,m⟩):aRes P t dst (.need p r) K ⟨e,m⟩:=Zh7 hp h
theorem gy1 (hb:bar.contains k=false) (ho:all[k]?=some ⟨some d,op,ty,pos,af,none⟩) (hst:Zaw op=false) (h:Ev (opS P 0 σs ⟨e,m⟩ op=r)) (hk:dRes P σs d d (rs k) r (Zbq P 0 all rs bar σs fu (k+1) K) ⟨e,m⟩):Zbq P 0 all rs bar σs (fu+1) k K ⟨e,m⟩:=d_op hb ho hst h hk
theorem gyr {x:AV} {L:List (Nat × Ent)} {g:Operand} {aS:Array Operand} {ts:Array TypeId} (c:RdC P L f args x) (hb:bar.contains k=false) (ho:all[k]?=some ⟨some d,.call ⟨.value g,aS,ts⟩,ty,pos,af,none⟩) (h:Ev (Zak P ⟨e,Zan⟩ (.call ⟨.value g,aS,ts⟩)=.call f args)) (hL:Ev (hasAll σs L)) (hx:Ev (rs k=x))
 (hk:Zbq P 0 all rs bar σs fu (k+1) K ⟨upd e d x,m⟩):Zbq P 0 all rs bar σs (fu+1) k K ⟨e,m⟩:=d_read c hb ho h hL hx hk
theorem gwr {x:AV} {L:List (Nat × Ent)} (c:RdC P L f args x) (hL:Ev (hasAll m L)) (h:K ⟨upd e d x,m⟩):aRes P t (some d) (.call f args) K ⟨e,m⟩:=o_rd c hL h
theorem gy2 (hb:bar.contains k=false) (ho:all[k]?=some ⟨some d,op,ty,pos,af,some (j,want)⟩) (hst:Zaw op=false) (hg:Ev (Zbh all ⟨e,Zan⟩ j=.v v)) (h:DG P all rs bar σs fu k d op v want K e m):Zbq P 0 all rs bar σs (fu+1) k K ⟨e,m⟩:=d_g hb ho hst hg h
theorem gy3 {t p:Nat} {x:Operand} (hb:bar.contains k=false) (ho:all[k]?=some ⟨none,.store t (.tmp p) x,ty,pos,af,none⟩) (h:Ev (opS P 0 σs ⟨e,m⟩ (.store t (.tmp p) x)=r)) (hk:dSto σs r (Zbq P 0 all rs bar σs fu (k+1) K) ⟨e,m⟩):Zbq P 0 all rs bar σs (fu+1) k K ⟨e,m⟩:=d_sto hb ho h hk
theorem gy4 (hs:says (.v v) want=true) (h:Ev (opS P 0 σs ⟨e,m⟩ op=r)) (hk:dRes P σs d d (rs k) r (Zbq P 0 all rs bar σs fu (k+1) K) ⟨e,m⟩):DG P all rs bar σs fu k d op v want K e m:=dg_y hs h hk
theorem gy5 (hb:bar.contains k=true) (hs:bar.contains (k+1000)=true) (h2:(bar.contains (k+2000) || bar.contains (k+3000))=false) (ho:all[k]?=some ⟨some d,op,ty,pos,af,none⟩) (h:Ev (Zak P ⟨e,m⟩ op=r)) (hkp:Ev (Zch σs r)) (hk:aRes P d (some d) r (Zbq P 0 all rs bar σs fu (k+1) K) ⟨e,m⟩):Zbq P 0 all rs bar σs (fu+1) k K ⟨e,m⟩:=d_semi hb hs h2 ho h hkp hk
theorem gy5c (hb:bar.contains k=true) (hs:bar.contains (k+1000)=true) (h3:bar.contains (k+3000)=true) (ho:all[k]?=some ⟨some d,op,ty,pos,af,none⟩) (hn:Ev (Zho 0 e op=true)) (h:Ev (Zak P ⟨e,m⟩ op=r)) (hkp:Ev (Zch σs r)) (hk:aRes P d (some d) r (Zbq P 0 all rs bar σs fu (k+1) K) ⟨e,m⟩):Zbq P 0 all rs bar σs (fu+1) k K ⟨e,m⟩:=d_semiC hb hs h3 ho hn h hkp hk
theorem gy6 (hb:bar.contains k=true) (hs:(bar.contains (k+1000) || bar.contains (k+3000))=false) (h2:bar.contains (k+2000)=true) (ho:all[k]?=some ⟨none,op,ty,pos,af,none⟩) (h:Ev (Zak P ⟨e,m⟩ op=r)) (hkp:Ev (Zch Zan r)) (hk:aRes P 0 none r (Zbq P 0 all rs bar Zan fu (k+1) K) ⟨e,m⟩):Zbq P 0 all rs bar σs (fu+1) k K ⟨e,m⟩:=d_stay hb hs h2 ho h hkp hk
theorem gy7 {r0:AV} {mm:Nat} {es:List AV} (hs:r0.said=false) (hc:Ev (σs t=none)) (h:AllV λsv=>K ⟨upd e d (.own t sv),upd m t (some (.row sv ty mm es 0))⟩):dRes P σs t d r0 (.row ty mm es []) K ⟨e,m⟩:=q_row hs hc h
theorem gy8 {r0:AV} {cs:List AV} (hc:Ev (σs t=none)) (h:AllV λg=>K ⟨upd e d (.pbox t g 0),upd m t (some (.box g ty cs false))⟩):dRes P σs t d r0 (.box ty cs) K ⟨e,m⟩:=q_box hc h
theorem gy9 {k:Nat} {ent:Ent} (hc:Ev (σs k=none)) (h:K ⟨e,upd m k (some ent)⟩):dSto σs (.sto .u k ent []) K ⟨e,m⟩:=s_sto hc h
theorem gz1 {k:Nat} {ent:Ent} (hc:σs k=some ent) (h:K ⟨e,upd m k (some ent)⟩):dSto σs (.sto .u k ent []) K ⟨e,m⟩:=s_same hc h
theorem gz2 {p:Prop} (hp:Ev p) (h:dSto σs r K ⟨e,m⟩):dSto σs (.need p r) K ⟨e,m⟩:=s_need hp h
theorem gz3 {r0:AV} {p:Prop} (hp:Ev p) (h:dRes P σs t d r0 r K ⟨e,m⟩):dRes P σs t d r0 (.need p r) K ⟨e,m⟩:=Zjr hp h
theorem gw0 {x:AV} (c:Pure P f args x) (h0:Ev (AV.toksL args=[])) (h:K ⟨upd e d x,m⟩):aRes P t (some d) (.call f args) K ⟨e,m⟩:=o_c c h0 h
theorem gw3 {r0 x:AV} (c:Pure P f args x) (hx:Ev (r0=x)) (h0:Ev (AV.toksL args=[])) (h:K ⟨upd e d x,m⟩):dRes P σs t d r0 (.call f args) K ⟨e,m⟩:=e_c c hx h0 h
theorem gw1 {x:AV} {ks:List Nat} {m':Mem} (c:Pure P f args' x) (h0:Ev (AV.toksL args=ks)) (hm:Ev (marks m ks=m')) (h1:Ev (Zdq m' args)) (h2:Ev (Zdo m' args=args')) (h:K ⟨upd e d x,m'⟩):aRes P t (some d) (.call f args) K ⟨e,m⟩:=o_cs c h0 hm ⟨h1,h2⟩ h
end
theorem gC {p:Prop} (h:p:=by(simp (disch:=omega) only [go_sem,↓reduceIte,Nat.reduceAdd,Nat.reduceSub,Nat.reduceMul,Nat.reduceEqDiff,Nat.reduceLT,Nat.reduceLeDiff,Nat.reduceBEq,Int.reduceNeg,Int.reduceLT,Int.reduceLE,Int.reduceEq,reduceCtorEq]<;>repeat' first|rfl|refine⟨?_,?_⟩)):p:=h
theorem gS {p:Prop} (h:p:=by(simp (disch:=omega) only [go_sem,↓reduceIte,Nat.reduceAdd,Nat.reduceSub,Nat.reduceMul,Nat.reduceEqDiff,Nat.reduceLT,Nat.reduceLeDiff,Nat.reduceBEq,Int.reduceNeg,Int.reduceLT,Int.reduceLE,Int.reduceEq,reduceCtorEq,Zbr]<;>repeat' first|rfl|refine⟨?_,?_⟩)):p:=h
theorem gW {q p:Prop} (hq:q) (h:q→p:=by intro h;(simp (disch:=omega) only [go_sem,↓reduceIte,Nat.reduceAdd,Nat.reduceSub,Nat.reduceMul,Nat.reduceEqDiff,Nat.reduceLT,Nat.reduceLeDiff,Nat.reduceBEq,Int.reduceNeg,Int.reduceLT,Int.reduceLE,Int.reduceEq,reduceCtorEq,h]<;>repeat' first | rfl | refine⟨?_,?_⟩)):p:=h hq
theorem gV {q p:Prop} (hq:q) (h:q→p:=by intro h;(simp (disch:=omega) only [go_sem,↓reduceIte,Nat.reduceAdd,Nat.reduceSub,Nat.reduceMul,Nat.reduceEqDiff,Nat.reduceLT,Nat.reduceLeDiff,Nat.reduceBEq,Int.reduceNeg,Int.reduceLT,Int.reduceLE,Int.reduceEq,reduceCtorEq,h,Zbr]<;>repeat' first | rfl | refine⟨?_,?_⟩)):p:=h hq
attribute [go_sem_proc] Nat.reduceAdd Nat.reduceSub Nat.reduceMul Nat.reduceEqDiff Nat.reduceLT Nat.reduceLeDiff Nat.reduceBEq Int.reduceNeg Int.reduceLT Int.reduceLE Int.reduceEq reduceCtorEq
attribute [go_sem_proc ↓] reduceIte
attribute [bool_to_prop] Bool.if_false_right Bool.if_true_left Bool.if_false_left Bool.if_true_right Bool.and_eq_true Bool.or_eq_true Bool.and_eq_false_imp Bool.or_eq_false_iff decide_eq_true_eq decide_eq_false_iff_not beq_iff_eq bne_iff_ne beq_eq_false_iff_ne bne_eq_false_iff_eq Bool.not_eq_true' Bool.not_eq_false' ne_eq Decidable.not_not Int.not_lt Int.not_le
theorem gL {p:Prop} (h:p:=by((all_goals (try simp (disch:=omega) only [go_sem,decide_eq_true,decide_eq_false,if_pos,if_neg,Int.reduceAdd,Int.reduceSub,Int.reduceToNat,Int.zero_add]));(all_goals first|done|rfl|(congr 2;first|done|omega|(rw [Bool.eq_iff_iff];simp only [bool_to_prop,Bool.false_eq_true,iff_true,true_iff,iff_false,false_iff];omega))|skip))):p:=h
end
section
variable {P:Program} {n:Nat} {Q:AE→St→Prop} {st:St} {body:Code}
def unr (P:Program) (n:Nat) (body:Code) (Q:AE→St→Prop):Nat→St→Prop
 | 0,_=>False
 | k+1,st=>Za7 P 0 n body (AE.then (unr P n body Q k) Q) st
theorem Zk5 (k:Nat) (hf:Zbo n body=true) (h:unr P n body Q k st):Za7 P 0 n (.loop body) Q st:=by
 intro c a w imm hr b k' cs;have key:∀k st a w imm,unr P n body Q k st→Rel c n st a w imm →
  ∃e a' w',post c n Q e a' w'∧Arrives P (lone (b.at a (.code body :: .inLoop body :: k')) cs w) b k' cs e a' w':=by
  intro k
  induction k with
  | zero=>exact λst a w imm h _=>h.elim
  | succ k ih =>
    intro st a w imm hI hr;obtain⟨e,a₁,w₁,hq,harr⟩:=Zbz body _ st hf hI c a w imm hr b (.inLoop body :: k') cs;obtain⟨ae,st',imm',rfl,h2,h3⟩:=hq
    cases ae with
    | normal =>
      obtain⟨e₂,a₂,w₂,hq₂,harr₂⟩:=ih st' a₁ w₁ imm' h2 h3;exact⟨e₂,a₂,w₂,hq₂,.of_steps (Steps.trans harr (.one step_inLoop)) harr₂⟩
    | exit id=>exact⟨_,a₁,w₁,⟨.exit id,st',imm',rfl,h2,h3⟩,.pass (x:=.inLoop body) rfl (λ_ _=>.inl (by simp [AE.to])) harr⟩
    | ret=>exact⟨_,a₁,w₁,⟨.ret,st',imm',rfl,h2,h3⟩,.pass (x:=.inLoop body) rfl (λ_ _=>.inl (by simp [AE.to])) harr⟩
 obtain⟨e₁,a',w',hq,harr⟩:=key k st a w imm h hr;exact⟨e₁,a',w',hq,.of_steps (.one step_loop) harr⟩
instance {k:Nat}:Stp (unr P n body Q (k+1) st) (Za7 P 0 n body (AE.then (unr P n body Q k) Q) st):=⟨λh=>h⟩
end
section
variable {P:Program} {all rest:List Oper} {K:St→Prop} {e:Nat→AV} {m:Mem} {dst:Option Nat} {d t j n:Nat} {op:Op} {ty:TypeId} {pos:String} {af:Array Edge} {want:Bool} {Q:AE→St→Prop} {x y:Code} {rs:Nat→AV} {bar:List Nat} {fu k:Nat} {σs:Mem} {b:Bool} {st:St}
theorem Zbl (h1:b=true→OG P all rest dst op ty pos af (.bool true) want K st) (h2:b=false→OG P all rest dst op ty pos af (.bool false) want K st):OG P all rest dst op ty pos af (.bool b) want K st:=by
 cases b
 ·exact h2 rfl
 ·exact h1 rfl
theorem Zbv (h1:b=true→DG P all rs bar σs fu k d op (.bool true) want K e m) (h2:b=false→DG P all rs bar σs fu k d op (.bool false) want K e m):DG P all rs bar σs fu k d op (.bool b) want K e m:=by
 cases b
 ·exact h2 rfl
 ·exact h1 rfl
theorem Zbm (h1:b=true→CG P n true x y Q st) (h2:b=false→CG P n false x y Q st):CG P n b x y Q st:=by
 cases b
 ·exact h2 rfl
 ·exact h1 rfl
end
end Go.Pg
namespace Go.Pg
open Go Go.RowKit
attribute [-bool_to_prop] Bool.and_eq_decide Bool.or_eq_decide Bool.decide_beq_decide decide_eq_decide
structure Fx (p:Prop):Prop where
 h:p
structure Bdy:Prop
structure Lv (a b:Prop):Prop where
 x:a
 y:b
theorem w_l {a b:Prop} (x:a) (y:b):Lv a b:=⟨x,y⟩
theorem w_a {a b:Prop} (x:a) (y:b):a∧b:=⟨x,y⟩
theorem w_t:True:=trivial
theorem w_1 {p0:Prop} (h0:p0):p0∧True:=⟨h0,trivial⟩
theorem w_2 {p0 p1:Prop} (h0:p0) (h1:p1):p0∧p1∧True:=⟨h0,h1,trivial⟩
theorem w_3 {p0 p1 p2:Prop} (h0:p0) (h1:p1) (h2:p2):p0∧p1∧p2∧True:=⟨h0,h1,h2,trivial⟩
theorem w_4 {p0 p1 p2 p3:Prop} (h0:p0) (h1:p1) (h2:p2) (h3:p3):p0∧p1∧p2∧p3∧True:=⟨h0,h1,h2,h3,trivial⟩
theorem w_5 {p0 p1 p2 p3 p4:Prop} (h0:p0) (h1:p1) (h2:p2) (h3:p3) (h4:p4):p0∧p1∧p2∧p3∧p4∧True:=⟨h0,h1,h2,h3,h4,trivial⟩
theorem w_6 {p0 p1 p2 p3 p4 p5:Prop} (h0:p0) (h1:p1) (h2:p2) (h3:p3) (h4:p4) (h5:p5):p0∧p1∧p2∧p3∧p4∧p5∧True:=⟨h0,h1,h2,h3,h4,h5,trivial⟩
theorem w_7 {p0 p1 p2 p3 p4 p5 p6:Prop} (h0:p0) (h1:p1) (h2:p2) (h3:p3) (h4:p4) (h5:p5) (h6:p6):p0∧p1∧p2∧p3∧p4∧p5∧p6∧True:=⟨h0,h1,h2,h3,h4,h5,h6,trivial⟩
theorem w_8 {p0 p1 p2 p3 p4 p5 p6 p7:Prop} (h0:p0) (h1:p1) (h2:p2) (h3:p3) (h4:p4) (h5:p5) (h6:p6) (h7:p7):p0∧p1∧p2∧p3∧p4∧p5∧p6∧p7∧True:=⟨h0,h1,h2,h3,h4,h5,h6,h7,trivial⟩
theorem w_9 {p0 p1 p2 p3 p4 p5 p6 p7 p8:Prop} (h0:p0) (h1:p1) (h2:p2) (h3:p3) (h4:p4) (h5:p5) (h6:p6) (h7:p7) (h8:p8):p0∧p1∧p2∧p3∧p4∧p5∧p6∧p7∧p8∧True:=⟨h0,h1,h2,h3,h4,h5,h6,h7,h8,trivial⟩
theorem w_10 {p0 p1 p2 p3 p4 p5 p6 p7 p8 p9:Prop} (h0:p0) (h1:p1) (h2:p2) (h3:p3) (h4:p4) (h5:p5) (h6:p6) (h7:p7) (h8:p8) (h9:p9):p0∧p1∧p2∧p3∧p4∧p5∧p6∧p7∧p8∧p9∧True:=⟨h0,h1,h2,h3,h4,h5,h6,h7,h8,h9,trivial⟩
theorem w_11 {p0 p1 p2 p3 p4 p5 p6 p7 p8 p9 p10:Prop} (h0:p0) (h1:p1) (h2:p2) (h3:p3) (h4:p4) (h5:p5) (h6:p6) (h7:p7) (h8:p8) (h9:p9) (h10:p10):p0∧p1∧p2∧p3∧p4∧p5∧p6∧p7∧p8∧p9∧p10∧True:=⟨h0,h1,h2,h3,h4,h5,h6,h7,h8,h9,h10,trivial⟩
theorem w_12 {p0 p1 p2 p3 p4 p5 p6 p7 p8 p9 p10 p11:Prop} (h0:p0) (h1:p1) (h2:p2) (h3:p3) (h4:p4) (h5:p5) (h6:p6) (h7:p7) (h8:p8) (h9:p9) (h10:p10) (h11:p11):p0∧p1∧p2∧p3∧p4∧p5∧p6∧p7∧p8∧p9∧p10∧p11∧True:=⟨h0,h1,h2,h3,h4,h5,h6,h7,h8,h9,h10,h11,trivial⟩
theorem w_13 {p0 p1 p2 p3 p4 p5 p6 p7 p8 p9 p10 p11 p12:Prop} (h0:p0) (h1:p1) (h2:p2) (h3:p3) (h4:p4) (h5:p5) (h6:p6) (h7:p7) (h8:p8) (h9:p9) (h10:p10) (h11:p11) (h12:p12):p0∧p1∧p2∧p3∧p4∧p5∧p6∧p7∧p8∧p9∧p10∧p11∧p12∧True:=⟨h0,h1,h2,h3,h4,h5,h6,h7,h8,h9,h10,h11,h12,trivial⟩
theorem w_14 {p0 p1 p2 p3 p4 p5 p6 p7 p8 p9 p10 p11 p12 p13:Prop} (h0:p0) (h1:p1) (h2:p2) (h3:p3) (h4:p4) (h5:p5) (h6:p6) (h7:p7) (h8:p8) (h9:p9) (h10:p10) (h11:p11) (h12:p12) (h13:p13):p0∧p1∧p2∧p3∧p4∧p5∧p6∧p7∧p8∧p9∧p10∧p11∧p12∧p13∧True:=⟨h0,h1,h2,h3,h4,h5,h6,h7,h8,h9,h10,h11,h12,h13,trivial⟩
theorem w_15 {p0 p1 p2 p3 p4 p5 p6 p7 p8 p9 p10 p11 p12 p13 p14:Prop} (h0:p0) (h1:p1) (h2:p2) (h3:p3) (h4:p4) (h5:p5) (h6:p6) (h7:p7) (h8:p8) (h9:p9) (h10:p10) (h11:p11) (h12:p12) (h13:p13) (h14:p14):p0∧p1∧p2∧p3∧p4∧p5∧p6∧p7∧p8∧p9∧p10∧p11∧p12∧p13∧p14∧True:=⟨h0,h1,h2,h3,h4,h5,h6,h7,h8,h9,h10,h11,h12,h13,h14,trivial⟩
theorem w_16 {p0 p1 p2 p3 p4 p5 p6 p7 p8 p9 p10 p11 p12 p13 p14 p15:Prop} (h0:p0) (h1:p1) (h2:p2) (h3:p3) (h4:p4) (h5:p5) (h6:p6) (h7:p7) (h8:p8) (h9:p9) (h10:p10) (h11:p11) (h12:p12) (h13:p13) (h14:p14) (h15:p15):p0∧p1∧p2∧p3∧p4∧p5∧p6∧p7∧p8∧p9∧p10∧p11∧p12∧p13∧p14∧p15∧True:=⟨h0,h1,h2,h3,h4,h5,h6,h7,h8,h9,h10,h11,h12,h13,h14,h15,trivial⟩
theorem w_17 {p0 p1 p2 p3 p4 p5 p6 p7 p8 p9 p10 p11 p12 p13 p14 p15 p16:Prop} (h0:p0) (h1:p1) (h2:p2) (h3:p3) (h4:p4) (h5:p5) (h6:p6) (h7:p7) (h8:p8) (h9:p9) (h10:p10) (h11:p11) (h12:p12) (h13:p13) (h14:p14) (h15:p15) (h16:p16):p0∧p1∧p2∧p3∧p4∧p5∧p6∧p7∧p8∧p9∧p10∧p11∧p12∧p13∧p14∧p15∧p16∧True:=⟨h0,h1,h2,h3,h4,h5,h6,h7,h8,h9,h10,h11,h12,h13,h14,h15,h16,trivial⟩
theorem w_18 {p0 p1 p2 p3 p4 p5 p6 p7 p8 p9 p10 p11 p12 p13 p14 p15 p16 p17:Prop} (h0:p0) (h1:p1) (h2:p2) (h3:p3) (h4:p4) (h5:p5) (h6:p6) (h7:p7) (h8:p8) (h9:p9) (h10:p10) (h11:p11) (h12:p12) (h13:p13) (h14:p14) (h15:p15) (h16:p16) (h17:p17):p0∧p1∧p2∧p3∧p4∧p5∧p6∧p7∧p8∧p9∧p10∧p11∧p12∧p13∧p14∧p15∧p16∧p17∧True:=⟨h0,h1,h2,h3,h4,h5,h6,h7,h8,h9,h10,h11,h12,h13,h14,h15,h16,h17,trivial⟩
theorem w_19 {p0 p1 p2 p3 p4 p5 p6 p7 p8 p9 p10 p11 p12 p13 p14 p15 p16 p17 p18:Prop} (h0:p0) (h1:p1) (h2:p2) (h3:p3) (h4:p4) (h5:p5) (h6:p6) (h7:p7) (h8:p8) (h9:p9) (h10:p10) (h11:p11) (h12:p12) (h13:p13) (h14:p14) (h15:p15) (h16:p16) (h17:p17) (h18:p18):p0∧p1∧p2∧p3∧p4∧p5∧p6∧p7∧p8∧p9∧p10∧p11∧p12∧p13∧p14∧p15∧p16∧p17∧p18∧True:=⟨h0,h1,h2,h3,h4,h5,h6,h7,h8,h9,h10,h11,h12,h13,h14,h15,h16,h17,h18,trivial⟩
theorem w_20 {p0 p1 p2 p3 p4 p5 p6 p7 p8 p9 p10 p11 p12 p13 p14 p15 p16 p17 p18 p19:Prop} (h0:p0) (h1:p1) (h2:p2) (h3:p3) (h4:p4) (h5:p5) (h6:p6) (h7:p7) (h8:p8) (h9:p9) (h10:p10) (h11:p11) (h12:p12) (h13:p13) (h14:p14) (h15:p15) (h16:p16) (h17:p17) (h18:p18) (h19:p19):p0∧p1∧p2∧p3∧p4∧p5∧p6∧p7∧p8∧p9∧p10∧p11∧p12∧p13∧p14∧p15∧p16∧p17∧p18∧p19∧True:=⟨h0,h1,h2,h3,h4,h5,h6,h7,h8,h9,h10,h11,h12,h13,h14,h15,h16,h17,h18,h19,trivial⟩
theorem w_22 {p0 p1 p2 p3 p4 p5 p6 p7 p8 p9 p10 p11 p12 p13 p14 p15 p16 p17 p18 p19 p20 p21:Prop} (h0:p0) (h1:p1) (h2:p2) (h3:p3) (h4:p4) (h5:p5) (h6:p6) (h7:p7) (h8:p8) (h9:p9) (h10:p10) (h11:p11) (h12:p12) (h13:p13) (h14:p14) (h15:p15) (h16:p16) (h17:p17) (h18:p18) (h19:p19) (h20:p20) (h21:p21):p0∧p1∧p2∧p3∧p4∧p5∧p6∧p7∧p8∧p9∧p10∧p11∧p12∧p13∧p14∧p15∧p16∧p17∧p18∧p19∧p20∧p21∧True:=⟨h0,h1,h2,h3,h4,h5,h6,h7,h8,h9,h10,h11,h12,h13,h14,h15,h16,h17,h18,h19,h20,h21,trivial⟩
theorem w_24 {p0 p1 p2 p3 p4 p5 p6 p7 p8 p9 p10 p11 p12 p13 p14 p15 p16 p17 p18 p19 p20 p21 p22 p23:Prop} (h0:p0) (h1:p1) (h2:p2) (h3:p3) (h4:p4) (h5:p5) (h6:p6) (h7:p7) (h8:p8) (h9:p9) (h10:p10) (h11:p11) (h12:p12) (h13:p13) (h14:p14) (h15:p15) (h16:p16) (h17:p17) (h18:p18) (h19:p19) (h20:p20) (h21:p21) (h22:p22) (h23:p23):p0∧p1∧p2∧p3∧p4∧p5∧p6∧p7∧p8∧p9∧p10∧p11∧p12∧p13∧p14∧p15∧p16∧p17∧p18∧p19∧p20∧p21∧p22∧p23∧True:=⟨h0,h1,h2,h3,h4,h5,h6,h7,h8,h9,h10,h11,h12,h13,h14,h15,h16,h17,h18,h19,h20,h21,h22,h23,trivial⟩
structure Dw (id:Nat) (rs:Nat→AV) (bar cut:List Nat):Prop
theorem w_d (id:Nat) (l:List (Nat × AV)) (bar cut:List Nat):Dw id (Zce l) bar cut:=⟨⟩
structure Rn (k:Nat):Prop
theorem w_r (k:Nat):Rn k:=⟨⟩
theorem Zfc {P:Program} {n id:Nat} {Q:AE→St→Prop} {st:St} {l:List Oper} {rs:Nat→AV} {bar cut:List Nat} (u:Dw id rs bar cut) (hm:P.follows .mixedOrders=true) (hf:l.all (Zfk n)=true)
 (hlex:Zop l.toArray bar l.length 0 (Array.replicate l.length false)=true) {N:Nat} (hN:l.length=N) (h:Zbq P 0 l rs bar (cutM cut st.mem) N 0 (Q .normal) st):Za7 P 0 n (.region id l.toArray true) Q st:=Za2 rs bar cut hm hf hlex hN h
theorem Zi4 {P:Program} {n k:Nat} {Q:AE→St→Prop} {st:St} {body:Code} (u:Rn (k+1)) (hf:Zbo n body=true) (h:unr P n body Q (k+1) st):Za7 P 0 n (.loop body) Q st:=Zk5 (k+1) hf h
structure Sl (r:Prop):Prop
theorem sl0:Sl True:=⟨⟩
theorem sl1 {r:Prop}:Sl r:=⟨⟩
theorem Zbb {α β:Type} {f:α→β} {l:List α}:(l.map f).length=l.length:=List.length_map ..
theorem l_app {α:Type} {l k:List α}:(l++k).length=l.length+k.length:=List.length_append
theorem l_take {α:Type} {i:Nat} {l:List α}:(l.take i).length=min i l.length:=List.length_take
theorem l_drop {α:Type} {i:Nat} {l:List α}:(l.drop i).length=l.length - i:=List.length_drop
theorem Zoq {α:Type} {l:List α}:l.drop 0=l:=rfl
theorem l_set {α:Type} {l:List α} {i:Nat} {a:α}:(l.set i a).length=l.length:=List.length_set ..
theorem wkap {F C p R0 R1 R2 R3 R4 R5 R6 R7 R8 R9 R10 R11:Prop} {nr:Nat} (hfx:F) (hcx:C) (hnx:Rn nr) (r:Lv R0 (Lv R1 (Lv R2 (Lv R3 (Lv R4 (Lv R5 (Lv R6 (Lv R7 (Lv R8 (Lv R9 (Lv R10 R11)))))))))))
 (h:Fx F→Fx C→Rn nr→Fx R0→Fx R1→Fx R2→Fx R3→Fx R4→Fx R5→Fx R6→Fx R7→Fx R8→Fx R9→Fx R10→Fx R11→Bdy→p∧Sl R0∧Sl R1∧Sl R2∧Sl R3∧Sl R4∧Sl R5∧Sl R6∧Sl R7∧Sl R8∧Sl R9∧Sl R10∧Sl R11:=by
  intro hF hC hN h0 h1 h2 h3 h4 h5 h6 h7 h8 h9 h10 h11 _;refine⟨?_,?_⟩
  focus
   (repeat' (first|(with_reducible first|refine stp ?_|apply gx1|apply gx2|apply gx3|apply gx4|apply gx5|apply gx6|apply gx7|refine gw0 hC.h.1 ?_ ?_|refine gw0 hC.h.2.1 ?_ ?_|refine gw0 hC.h.2.2.1 ?_ ?_|refine gw0 hC.h.2.2.2.1 ?_ ?_|refine gw0 hC.h.2.2.2.2.1 ?_ ?_)|(with_reducible refine Zbi ?_;intro _)|((with_reducible refine gE ?_);(try simp (disch:=omega) only [go_sem,hF.h,decide_eq_true,decide_eq_false,if_pos,if_neg,Int.reduceAdd,Int.reduceSub,Int.reduceToNat,Int.zero_add])<;>first|rfl|omega)|with_reducible refine Zaf (by decide) ?_|((with_reducible first|apply Zbl|apply Zbm);all_goals (intro hc;(try simp only [bool_to_prop] at hc);first|done|(exfalso;omega)|(revert hc;intro _)))|((with_reducible apply Zi4 hN);(focus rfl))))
   (all_goals repeat' (rename_i zz;first|(have zb:Bdy:=zz;first|exact h0.h|exact h1.h|exact h2.h|exact h3.h|exact h4.h|exact h5.h|exact h6.h|exact h7.h|exact h8.h|exact h9.h|exact h10.h|exact h11.h)|revert zz))
  (repeat' first|refine⟨?_,?_⟩|exact sl0|exact sl1)):p :=
 (h ⟨hfx⟩ ⟨hcx⟩ hnx ⟨r.x⟩ ⟨r.y.x⟩ ⟨r.y.y.x⟩ ⟨r.y.y.y.x⟩ ⟨r.y.y.y.y.x⟩ ⟨r.y.y.y.y.y.x⟩ ⟨r.y.y.y.y.y.y.x⟩ ⟨r.y.y.y.y.y.y.y.x⟩ ⟨r.y.y.y.y.y.y.y.y.x⟩ ⟨r.y.y.y.y.y.y.y.y.y.x⟩ ⟨r.y.y.y.y.y.y.y.y.y.y.x⟩ ⟨r.y.y.y.y.y.y.y.y.y.y.y⟩ ⟨⟩).1
theorem wkad {F C D p R0 R1 R2 R3 R4 R5 R6 R7 R8 R9 R10 R11:Prop} (hfx:F) (hcx:C) (hdx:D) (r:Lv R0 (Lv R1 (Lv R2 (Lv R3 (Lv R4 (Lv R5 (Lv R6 (Lv R7 (Lv R8 (Lv R9 (Lv R10 R11)))))))))))
 (h:Fx F→Fx C→Fx D→Fx R0→Fx R1→Fx R2→Fx R3→Fx R4→Fx R5→Fx R6→Fx R7→Fx R8→Fx R9→Fx R10→Fx R11→Bdy→p∧Sl R0∧Sl R1∧Sl R2∧Sl R3∧Sl R4∧Sl R5∧Sl R6∧Sl R7∧Sl R8∧Sl R9∧Sl R10∧Sl R11:=by
  intro hF hC hD h0 h1 h2 h3 h4 h5 h6 h7 h8 h9 h10 h11 _;refine⟨?_,?_⟩
  focus
   (repeat' (first|(with_reducible first|refine stp ?_|apply gx1|apply gx2|apply gx3|apply gx4|apply gx5|apply gx6|apply gx7|apply gy8|apply gz2|apply gz3|refine gw0 hC.h.1 ?_ ?_|refine gw3 hC.h.1 ?_ ?_ ?_|refine gw0 hC.h.2.1 ?_ ?_|refine gw3 hC.h.2.1 ?_ ?_ ?_|refine gw0 hC.h.2.2.1 ?_ ?_|refine gw3 hC.h.2.2.1 ?_ ?_ ?_|refine gw0 hC.h.2.2.2.1 ?_ ?_|refine gw3 hC.h.2.2.2.1 ?_ ?_ ?_|refine gw0 hC.h.2.2.2.2.1 ?_ ?_|refine gw3 hC.h.2.2.2.2.1 ?_ ?_ ?_|refine gw0 hC.h.2.2.2.2.2.1 ?_ ?_|refine gw3 hC.h.2.2.2.2.2.1 ?_ ?_ ?_|refine gw0 hC.h.2.2.2.2.2.2.1 ?_ ?_|refine gw3 hC.h.2.2.2.2.2.2.1 ?_ ?_ ?_|refine gw0 hC.h.2.2.2.2.2.2.2.1 ?_ ?_|refine gw3 hC.h.2.2.2.2.2.2.2.1 ?_ ?_ ?_|refine gw0 hC.h.2.2.2.2.2.2.2.2.1 ?_ ?_|refine gw3 hC.h.2.2.2.2.2.2.2.2.1 ?_ ?_ ?_)|(with_reducible refine Zbi ?_;intro _)|((with_reducible refine gE ?_);(try simp (disch:=omega) only [go_sem,hF.h,decide_eq_true,decide_eq_false,if_pos,if_neg,Int.reduceAdd,Int.reduceSub,Int.reduceToNat,Int.zero_add])<;>first|rfl|omega)|with_reducible refine Zaf (by decide) ?_|((with_reducible apply gy1);iterate 3 focus rfl)|((with_reducible apply gy2);iterate 3 focus rfl)|((with_reducible apply gy3);iterate 2 focus rfl)|((with_reducible apply gy4);iterate 1 focus rfl)|((with_reducible apply gy5);iterate 4 focus rfl)|((with_reducible apply gy5c);iterate 4 focus rfl)|((with_reducible apply gy6);iterate 4 focus rfl)|((with_reducible apply Zc0);iterate 3 focus rfl)|((with_reducible apply Zcx);iterate 1 focus rfl)|((with_reducible apply gy7);iterate 1 focus rfl)|((with_reducible apply gy9);(focus ((with_reducible refine gE ?_);(try simp (disch:=omega) only [go_sem,hF.h,decide_eq_true,decide_eq_false,if_pos,if_neg,Int.reduceAdd,Int.reduceSub,Int.reduceToNat,Int.zero_add])<;>rfl)))|((with_reducible apply gz1);(focus first|rfl|(simp (disch:=omega) only [go_sem,hF.h,decide_eq_true,decide_eq_false,if_pos,if_neg,Int.reduceAdd,Int.reduceSub,Int.reduceToNat,Int.zero_add];done)))|((with_reducible apply Zfc hD.h.1);(focus kernel_rfl);(focus rfl);(focus kernel_rfl);(focus (simp only [List.length_cons,List.length_nil,Nat.reduceAdd];rfl)))|((with_reducible apply Zfc hD.h.2.1);(focus kernel_rfl);(focus rfl);(focus kernel_rfl);(focus (simp only [List.length_cons,List.length_nil,Nat.reduceAdd];rfl)))|((with_reducible apply Za2 (Zce []) [] []);(focus kernel_rfl);(focus rfl);(focus kernel_rfl);(focus (simp only [List.length_cons,List.length_nil,Nat.reduceAdd];rfl)))|((with_reducible first|apply Zbl|apply Zbv|apply Zbm);all_goals (intro hc;(try simp only [bool_to_prop] at hc);first|done|(exfalso;omega)|(revert hc;intro _)))))
   (all_goals repeat' (rename_i zz;first|(have zb:Bdy:=zz;first|exact h0.h|exact h1.h|exact h2.h|exact h3.h|exact h4.h|exact h5.h|exact h6.h|exact h7.h|exact h8.h|exact h9.h|exact h10.h|exact h11.h)|revert zz))
  (repeat' first|refine⟨?_,?_⟩|exact sl0|exact sl1)):p :=
 (h ⟨hfx⟩ ⟨hcx⟩ ⟨hdx⟩ ⟨r.x⟩ ⟨r.y.x⟩ ⟨r.y.y.x⟩ ⟨r.y.y.y.x⟩ ⟨r.y.y.y.y.x⟩ ⟨r.y.y.y.y.y.x⟩ ⟨r.y.y.y.y.y.y.x⟩ ⟨r.y.y.y.y.y.y.y.x⟩ ⟨r.y.y.y.y.y.y.y.y.x⟩ ⟨r.y.y.y.y.y.y.y.y.y.x⟩ ⟨r.y.y.y.y.y.y.y.y.y.y.x⟩ ⟨r.y.y.y.y.y.y.y.y.y.y.y⟩ ⟨⟩).1
theorem wkax {F C D B S Rd p R0 R1 R2 R3 R4 R5 R6 R7 R8 R9 R10 R11:Prop} {nr:Nat} (hfx:F) (hcx:C) (hdx:D) (hbx:B) (hsx:S) (hrx:Rd) (hnx:Rn nr) (r:Lv R0 (Lv R1 (Lv R2 (Lv R3 (Lv R4 (Lv R5 (Lv R6 (Lv R7 (Lv R8 (Lv R9 (Lv R10 R11)))))))))))
 (h:Fx F→Fx C→Fx D→Fx B→Fx S→Fx Rd→Rn nr→Fx R0→Fx R1→Fx R2→Fx R3→Fx R4→Fx R5→Fx R6→Fx R7→Fx R8→Fx R9→Fx R10→Fx R11→Bdy→p∧Sl R0∧Sl R1∧Sl R2∧Sl R3∧Sl R4∧Sl R5∧Sl R6∧Sl R7∧Sl R8∧Sl R9∧Sl R10∧Sl R11:=by
  intro hF hC hD hB hS hR hN h0 h1 h2 h3 h4 h5 h6 h7 h8 h9 h10 h11 _;refine⟨?_,?_⟩
  focus
   (repeat' (first|(with_reducible first|refine stp ?_|apply gx1|apply gx2|apply gx3|apply gx4|apply gx5|apply gx6|apply gx7|apply gy8|apply gz2|apply gz3|refine gw0 hC.h.1 ?_ ?_|refine gw3 hC.h.1 ?_ ?_ ?_|refine gw0 hC.h.2.1 ?_ ?_|refine gw3 hC.h.2.1 ?_ ?_ ?_|refine gw0 hC.h.2.2.1 ?_ ?_|refine gw3 hC.h.2.2.1 ?_ ?_ ?_|refine gw0 hC.h.2.2.2.1 ?_ ?_|refine gw3 hC.h.2.2.2.1 ?_ ?_ ?_|refine gw0 hC.h.2.2.2.2.1 ?_ ?_|refine gw3 hC.h.2.2.2.2.1 ?_ ?_ ?_|refine gw0 hC.h.2.2.2.2.2.1 ?_ ?_|refine gw3 hC.h.2.2.2.2.2.1 ?_ ?_ ?_|refine gw0 hC.h.2.2.2.2.2.2.1 ?_ ?_|refine gw3 hC.h.2.2.2.2.2.2.1 ?_ ?_ ?_|refine gw0 hC.h.2.2.2.2.2.2.2.1 ?_ ?_|refine gw3 hC.h.2.2.2.2.2.2.2.1 ?_ ?_ ?_|refine gw0 hC.h.2.2.2.2.2.2.2.2.1 ?_ ?_|refine gw3 hC.h.2.2.2.2.2.2.2.2.1 ?_ ?_ ?_|refine gw0 hC.h.2.2.2.2.2.2.2.2.2.1 ?_ ?_|refine gw3 hC.h.2.2.2.2.2.2.2.2.2.1 ?_ ?_ ?_|refine gw0 hC.h.2.2.2.2.2.2.2.2.2.2.1 ?_ ?_|refine gw3 hC.h.2.2.2.2.2.2.2.2.2.2.1 ?_ ?_ ?_|refine gw0 hC.h.2.2.2.2.2.2.2.2.2.2.2.1 ?_ ?_|refine gw3 hC.h.2.2.2.2.2.2.2.2.2.2.2.1 ?_ ?_ ?_|apply gw1 hB.h.1|apply gw1 hB.h.2.1|apply gw1 hB.h.2.2.1|refine gwr hR.h.1 ?_ ?_|refine gwr hR.h.2.1 ?_ ?_|refine gwr hR.h.2.2.1 ?_ ?_|refine gwr hR.h.2.2.2.1 ?_ ?_)|((with_reducible apply gw1 hS.h.2.2.1);iterate 4 focus ((with_reducible refine gE ?_);(try simp (disch:=omega) only [go_sem,hF.h,decide_eq_true,decide_eq_false,if_pos,if_neg,Int.reduceAdd,Int.reduceSub,Int.reduceToNat,Int.zero_add])<;>first|rfl|done))|((with_reducible apply gw1 hS.h.2.1);iterate 4 focus ((with_reducible refine gE ?_);(try simp (disch:=omega) only [go_sem,hF.h,decide_eq_true,decide_eq_false,if_pos,if_neg,Int.reduceAdd,Int.reduceSub,Int.reduceToNat,Int.zero_add])<;>first|rfl|done))|((with_reducible apply gw1 hS.h.1);iterate 4 focus ((with_reducible refine gE ?_);(try simp (disch:=omega) only [go_sem,hF.h,decide_eq_true,decide_eq_false,if_pos,if_neg,Int.reduceAdd,Int.reduceSub,Int.reduceToNat,Int.zero_add])<;>first|rfl|done))|((with_reducible apply gyr hR.h.2.2.2.1);(focus rfl);(focus rfl);iterate 3 focus ((with_reducible refine gE ?_);(try simp (disch:=omega) only [go_sem,hF.h,decide_eq_true,decide_eq_false,if_pos,if_neg,Int.reduceAdd,Int.reduceSub,Int.reduceToNat,Int.zero_add])<;>first|rfl|done))|((with_reducible apply gyr hR.h.2.2.1);(focus rfl);(focus rfl);iterate 3 focus ((with_reducible refine gE ?_);(try simp (disch:=omega) only [go_sem,hF.h,decide_eq_true,decide_eq_false,if_pos,if_neg,Int.reduceAdd,Int.reduceSub,Int.reduceToNat,Int.zero_add])<;>first|rfl|done))|((with_reducible apply gyr hR.h.2.1);(focus rfl);(focus rfl);iterate 3 focus ((with_reducible refine gE ?_);(try simp (disch:=omega) only [go_sem,hF.h,decide_eq_true,decide_eq_false,if_pos,if_neg,Int.reduceAdd,Int.reduceSub,Int.reduceToNat,Int.zero_add])<;>first|rfl|done))|((with_reducible apply gyr hR.h.1);(focus rfl);(focus rfl);iterate 3 focus ((with_reducible refine gE ?_);(try simp (disch:=omega) only [go_sem,hF.h,decide_eq_true,decide_eq_false,if_pos,if_neg,Int.reduceAdd,Int.reduceSub,Int.reduceToNat,Int.zero_add])<;>first|rfl|done))|(with_reducible refine Zbi ?_;intro _)|((with_reducible refine gE ?_);(try simp (disch:=omega) only [go_sem,hF.h,decide_eq_true,decide_eq_false,if_pos,if_neg,Int.reduceAdd,Int.reduceSub,Int.reduceToNat,Int.zero_add])<;>first|rfl|omega)|with_reducible refine Zaf (by decide) ?_|((with_reducible apply gy1);iterate 3 focus rfl)|((with_reducible apply gy2);iterate 3 focus rfl)|((with_reducible apply gy3);iterate 2 focus rfl)|((with_reducible apply gy4);iterate 1 focus rfl)|((with_reducible apply gy5);iterate 4 focus rfl)|((with_reducible apply gy5c);iterate 4 focus rfl)|((with_reducible apply gy6);iterate 4 focus rfl)|((with_reducible apply Zc0);iterate 3 focus rfl)|((with_reducible apply Zcx);iterate 1 focus rfl)|((with_reducible apply gy7);iterate 1 focus rfl)|((with_reducible apply gy9);(focus ((with_reducible refine gE ?_);(try simp (disch:=omega) only [go_sem,hF.h,decide_eq_true,decide_eq_false,if_pos,if_neg,Int.reduceAdd,Int.reduceSub,Int.reduceToNat,Int.zero_add])<;>rfl)))|((with_reducible apply gz1);(focus first|rfl|(simp (disch:=omega) only [go_sem,hF.h,decide_eq_true,decide_eq_false,if_pos,if_neg,Int.reduceAdd,Int.reduceSub,Int.reduceToNat,Int.zero_add];done)))|((with_reducible apply Zfc hD.h.1);(focus kernel_rfl);(focus rfl);(focus kernel_rfl);(focus (simp only [List.length_cons,List.length_nil,Nat.reduceAdd];rfl)))|((with_reducible apply Zfc hD.h.2.1);(focus kernel_rfl);(focus rfl);(focus kernel_rfl);(focus (simp only [List.length_cons,List.length_nil,Nat.reduceAdd];rfl)))|((with_reducible apply Zfc hD.h.2.2.1);(focus kernel_rfl);(focus rfl);(focus kernel_rfl);(focus (simp only [List.length_cons,List.length_nil,Nat.reduceAdd];rfl)))|((with_reducible apply Za2 (Zce []) [] []);(focus kernel_rfl);(focus rfl);(focus kernel_rfl);(focus (simp only [List.length_cons,List.length_nil,Nat.reduceAdd];rfl)))|((with_reducible first|apply Zbl|apply Zbv|apply Zbm);all_goals (intro hc;(try simp only [bool_to_prop] at hc);first|done|(exfalso;omega)|(revert hc;intro _)))|((with_reducible apply Zi4 hN);(focus rfl))))
   (all_goals repeat' (rename_i zz;first|(have zb:Bdy:=zz;first|exact h0.h|exact h1.h|exact h2.h|exact h3.h|exact h4.h|exact h5.h|exact h6.h|exact h7.h|exact h8.h|exact h9.h|exact h10.h|exact h11.h)|revert zz))
  (repeat' first|refine⟨?_,?_⟩|exact sl0|exact sl1)):p :=
 (h ⟨hfx⟩ ⟨hcx⟩ ⟨hdx⟩ ⟨hbx⟩ ⟨hsx⟩ ⟨hrx⟩ hnx ⟨r.x⟩ ⟨r.y.x⟩ ⟨r.y.y.x⟩ ⟨r.y.y.y.x⟩ ⟨r.y.y.y.y.x⟩ ⟨r.y.y.y.y.y.x⟩ ⟨r.y.y.y.y.y.y.x⟩ ⟨r.y.y.y.y.y.y.y.x⟩ ⟨r.y.y.y.y.y.y.y.y.x⟩ ⟨r.y.y.y.y.y.y.y.y.y.x⟩ ⟨r.y.y.y.y.y.y.y.y.y.y.x⟩ ⟨r.y.y.y.y.y.y.y.y.y.y.y⟩ ⟨⟩).1
theorem wklp {F C L p R0 R1 R2 R3 R4 R5 R6 R7 R8 R9 R10 R11:Prop} {nr:Nat} (hfx:F) (hcx:C) (hlx:L) (hnx:Rn nr) (r:Lv R0 (Lv R1 (Lv R2 (Lv R3 (Lv R4 (Lv R5 (Lv R6 (Lv R7 (Lv R8 (Lv R9 (Lv R10 R11)))))))))))
 (h:Fx F→Fx C→Fx L→Rn nr→Fx R0→Fx R1→Fx R2→Fx R3→Fx R4→Fx R5→Fx R6→Fx R7→Fx R8→Fx R9→Fx R10→Fx R11→Bdy→p∧Sl R0∧Sl R1∧Sl R2∧Sl R3∧Sl R4∧Sl R5∧Sl R6∧Sl R7∧Sl R8∧Sl R9∧Sl R10∧Sl R11:=by
  intro hF hC hL hN h0 h1 h2 h3 h4 h5 h6 h7 h8 h9 h10 h11 _;refine⟨?_,?_⟩
  focus
   (repeat' (first|(with_reducible first|refine stp ?_|apply gx1|apply gx2|apply gx3|apply gx4|apply gx5|apply gx6|apply gx7|refine gw0 hC.h.1 ?_ ?_|refine gw0 hC.h.2.1 ?_ ?_|refine gw0 hC.h.2.2.1 ?_ ?_|refine gw0 hC.h.2.2.2.1 ?_ ?_|refine gw0 hC.h.2.2.2.2.1 ?_ ?_)|(with_reducible refine Zbi ?_;intro _)|((with_reducible refine gE ?_);(try simp (disch:=omega) only [go_sem,hF.h,decide_eq_true,decide_eq_false,if_pos,if_neg,Int.reduceAdd,Int.reduceSub,Int.reduceToNat,Int.zero_add])<;>first|rfl|omega)|with_reducible refine Zaf (by decide) ?_|((with_reducible first|apply Zbl|apply Zbm);all_goals (intro hc;(try simp only [bool_to_prop] at hc);first|done|(exfalso;omega)|(revert hc;intro _)))|((with_reducible apply Zi4 hN);(focus rfl))))
   (all_goals (try simp (disch:=omega) only [go_sem,hL.h,decide_eq_true,decide_eq_false,if_pos,if_neg,Int.reduceAdd,Int.reduceSub,Int.reduceToNat,Int.zero_add]));(all_goals first|done|rfl|(congr 2;first|done|omega|(rw [Bool.eq_iff_iff];simp only [bool_to_prop,Bool.false_eq_true,iff_true,true_iff,iff_false,false_iff];omega))|skip)
   (all_goals repeat' (rename_i zz;first|(have zb:Bdy:=zz;first|exact h0.h|exact h1.h|exact h2.h|exact h3.h|exact h4.h|exact h5.h|exact h6.h|exact h7.h|exact h8.h|exact h9.h|exact h10.h|exact h11.h)|revert zz))
  (repeat' first|refine⟨?_,?_⟩|exact sl0|exact sl1)):p :=
 (h ⟨hfx⟩ ⟨hcx⟩ ⟨hlx⟩ hnx ⟨r.x⟩ ⟨r.y.x⟩ ⟨r.y.y.x⟩ ⟨r.y.y.y.x⟩ ⟨r.y.y.y.y.x⟩ ⟨r.y.y.y.y.y.x⟩ ⟨r.y.y.y.y.y.y.x⟩ ⟨r.y.y.y.y.y.y.y.x⟩ ⟨r.y.y.y.y.y.y.y.y.x⟩ ⟨r.y.y.y.y.y.y.y.y.y.x⟩ ⟨r.y.y.y.y.y.y.y.y.y.y.x⟩ ⟨r.y.y.y.y.y.y.y.y.y.y.y⟩ ⟨⟩).1
theorem wkld {F C L D p R0 R1 R2 R3 R4 R5 R6 R7 R8 R9 R10 R11:Prop} (hfx:F) (hcx:C) (hlx:L) (hdx:D) (r:Lv R0 (Lv R1 (Lv R2 (Lv R3 (Lv R4 (Lv R5 (Lv R6 (Lv R7 (Lv R8 (Lv R9 (Lv R10 R11)))))))))))
 (h:Fx F→Fx C→Fx L→Fx D→Fx R0→Fx R1→Fx R2→Fx R3→Fx R4→Fx R5→Fx R6→Fx R7→Fx R8→Fx R9→Fx R10→Fx R11→Bdy→p∧Sl R0∧Sl R1∧Sl R2∧Sl R3∧Sl R4∧Sl R5∧Sl R6∧Sl R7∧Sl R8∧Sl R9∧Sl R10∧Sl R11:=by
  intro hF hC hL hD h0 h1 h2 h3 h4 h5 h6 h7 h8 h9 h10 h11 _;refine⟨?_,?_⟩
  focus
   (repeat' (first|(with_reducible first|refine stp ?_|apply gx1|apply gx2|apply gx3|apply gx4|apply gx5|apply gx6|apply gx7|apply gy8|apply gz2|apply gz3|refine gw0 hC.h.1 ?_ ?_|refine gw3 hC.h.1 ?_ ?_ ?_|refine gw0 hC.h.2.1 ?_ ?_|refine gw3 hC.h.2.1 ?_ ?_ ?_|refine gw0 hC.h.2.2.1 ?_ ?_|refine gw3 hC.h.2.2.1 ?_ ?_ ?_|refine gw0 hC.h.2.2.2.1 ?_ ?_|refine gw3 hC.h.2.2.2.1 ?_ ?_ ?_|refine gw0 hC.h.2.2.2.2.1 ?_ ?_|refine gw3 hC.h.2.2.2.2.1 ?_ ?_ ?_|refine gw0 hC.h.2.2.2.2.2.1 ?_ ?_|refine gw3 hC.h.2.2.2.2.2.1 ?_ ?_ ?_|refine gw0 hC.h.2.2.2.2.2.2.1 ?_ ?_|refine gw3 hC.h.2.2.2.2.2.2.1 ?_ ?_ ?_|refine gw0 hC.h.2.2.2.2.2.2.2.1 ?_ ?_|refine gw3 hC.h.2.2.2.2.2.2.2.1 ?_ ?_ ?_|refine gw0 hC.h.2.2.2.2.2.2.2.2.1 ?_ ?_|refine gw3 hC.h.2.2.2.2.2.2.2.2.1 ?_ ?_ ?_)|(with_reducible refine Zbi ?_;intro _)|((with_reducible refine gE ?_);(try simp (disch:=omega) only [go_sem,hF.h,decide_eq_true,decide_eq_false,if_pos,if_neg,Int.reduceAdd,Int.reduceSub,Int.reduceToNat,Int.zero_add])<;>first|rfl|omega)|with_reducible refine Zaf (by decide) ?_|((with_reducible apply gy1);iterate 3 focus rfl)|((with_reducible apply gy2);iterate 3 focus rfl)|((with_reducible apply gy3);iterate 2 focus rfl)|((with_reducible apply gy4);iterate 1 focus rfl)|((with_reducible apply gy5);iterate 4 focus rfl)|((with_reducible apply gy5c);iterate 4 focus rfl)|((with_reducible apply gy6);iterate 4 focus rfl)|((with_reducible apply Zc0);iterate 3 focus rfl)|((with_reducible apply Zcx);iterate 1 focus rfl)|((with_reducible apply gy7);iterate 1 focus rfl)|((with_reducible apply gy9);(focus ((with_reducible refine gE ?_);(try simp (disch:=omega) only [go_sem,hF.h,decide_eq_true,decide_eq_false,if_pos,if_neg,Int.reduceAdd,Int.reduceSub,Int.reduceToNat,Int.zero_add])<;>rfl)))|((with_reducible apply gz1);(focus first|rfl|(simp (disch:=omega) only [go_sem,hF.h,decide_eq_true,decide_eq_false,if_pos,if_neg,Int.reduceAdd,Int.reduceSub,Int.reduceToNat,Int.zero_add];done)))|((with_reducible apply Zfc hD.h.1);(focus kernel_rfl);(focus rfl);(focus kernel_rfl);(focus (simp only [List.length_cons,List.length_nil,Nat.reduceAdd];rfl)))|((with_reducible apply Zfc hD.h.2.1);(focus kernel_rfl);(focus rfl);(focus kernel_rfl);(focus (simp only [List.length_cons,List.length_nil,Nat.reduceAdd];rfl)))|((with_reducible apply Za2 (Zce []) [] []);(focus kernel_rfl);(focus rfl);(focus kernel_rfl);(focus (simp only [List.length_cons,List.length_nil,Nat.reduceAdd];rfl)))|((with_reducible first|apply Zbl|apply Zbv|apply Zbm);all_goals (intro hc;(try simp only [bool_to_prop] at hc);first|done|(exfalso;omega)|(revert hc;intro _)))))
   (all_goals (try simp (disch:=omega) only [go_sem,hL.h,decide_eq_true,decide_eq_false,if_pos,if_neg,Int.reduceAdd,Int.reduceSub,Int.reduceToNat,Int.zero_add]));(all_goals first|done|rfl|(congr 2;first|done|omega|(rw [Bool.eq_iff_iff];simp only [bool_to_prop,Bool.false_eq_true,iff_true,true_iff,iff_false,false_iff];omega))|skip)
   (all_goals repeat' (rename_i zz;first|(have zb:Bdy:=zz;first|exact h0.h|exact h1.h|exact h2.h|exact h3.h|exact h4.h|exact h5.h|exact h6.h|exact h7.h|exact h8.h|exact h9.h|exact h10.h|exact h11.h)|revert zz))
  (repeat' first|refine⟨?_,?_⟩|exact sl0|exact sl1)):p :=
 (h ⟨hfx⟩ ⟨hcx⟩ ⟨hlx⟩ ⟨hdx⟩ ⟨r.x⟩ ⟨r.y.x⟩ ⟨r.y.y.x⟩ ⟨r.y.y.y.x⟩ ⟨r.y.y.y.y.x⟩ ⟨r.y.y.y.y.y.x⟩ ⟨r.y.y.y.y.y.y.x⟩ ⟨r.y.y.y.y.y.y.y.x⟩ ⟨r.y.y.y.y.y.y.y.y.x⟩ ⟨r.y.y.y.y.y.y.y.y.y.x⟩ ⟨r.y.y.y.y.y.y.y.y.y.y.x⟩ ⟨r.y.y.y.y.y.y.y.y.y.y.y⟩ ⟨⟩).1
theorem wkvp {F C p R0 R1 R2 R3 R4 R5 R6 R7 R8 R9 R10 R11:Prop} (hfx:F) (hcx:C) (r:Lv R0 (Lv R1 (Lv R2 (Lv R3 (Lv R4 (Lv R5 (Lv R6 (Lv R7 (Lv R8 (Lv R9 (Lv R10 R11)))))))))))
 (h:Fx F→Fx C→Fx R0→Fx R1→Fx R2→Fx R3→Fx R4→Fx R5→Fx R6→Fx R7→Fx R8→Fx R9→Fx R10→Fx R11→Bdy→p∧Sl R0∧Sl R1∧Sl R2∧Sl R3∧Sl R4∧Sl R5∧Sl R6∧Sl R7∧Sl R8∧Sl R9∧Sl R10∧Sl R11:=by
  intro hF hC h0 h1 h2 h3 h4 h5 h6 h7 h8 h9 h10 h11 _;refine⟨?_,?_⟩
  focus
   (repeat' (first|(with_reducible first|refine stp ?_|apply gx1|apply gx2|apply gx3|apply gx4|apply gx5|apply gx6|apply gx7|refine gw0 hC.h.1 ?_ ?_|refine gw0 hC.h.2.1 ?_ ?_|refine gw0 hC.h.2.2.1 ?_ ?_|refine gw0 hC.h.2.2.2.1 ?_ ?_|refine gw0 hC.h.2.2.2.2.1 ?_ ?_)|(with_reducible refine Zbi ?_;intro _)|((with_reducible refine gE ?_);(try simp (disch:=omega) only [go_sem,hF.h])<;>first|rfl|omega)|with_reducible refine Zaf (by decide) ?_))
   (all_goals repeat' (rename_i zz;first|(have zb:Bdy:=zz;first|exact h0.h|exact h1.h|exact h2.h|exact h3.h|exact h4.h|exact h5.h|exact h6.h|exact h7.h|exact h8.h|exact h9.h|exact h10.h|exact h11.h)|revert zz))
  (repeat' first|refine⟨?_,?_⟩|exact sl0|exact sl1)):p :=
 (h ⟨hfx⟩ ⟨hcx⟩ ⟨r.x⟩ ⟨r.y.x⟩ ⟨r.y.y.x⟩ ⟨r.y.y.y.x⟩ ⟨r.y.y.y.y.x⟩ ⟨r.y.y.y.y.y.x⟩ ⟨r.y.y.y.y.y.y.x⟩ ⟨r.y.y.y.y.y.y.y.x⟩ ⟨r.y.y.y.y.y.y.y.y.x⟩ ⟨r.y.y.y.y.y.y.y.y.y.x⟩ ⟨r.y.y.y.y.y.y.y.y.y.y.x⟩ ⟨r.y.y.y.y.y.y.y.y.y.y.y⟩ ⟨⟩).1
theorem wkvd {F C D p R0 R1 R2 R3 R4 R5 R6 R7 R8 R9 R10 R11:Prop} (hfx:F) (hcx:C) (hdx:D) (r:Lv R0 (Lv R1 (Lv R2 (Lv R3 (Lv R4 (Lv R5 (Lv R6 (Lv R7 (Lv R8 (Lv R9 (Lv R10 R11)))))))))))
 (h:Fx F→Fx C→Fx D→Fx R0→Fx R1→Fx R2→Fx R3→Fx R4→Fx R5→Fx R6→Fx R7→Fx R8→Fx R9→Fx R10→Fx R11→Bdy→p∧Sl R0∧Sl R1∧Sl R2∧Sl R3∧Sl R4∧Sl R5∧Sl R6∧Sl R7∧Sl R8∧Sl R9∧Sl R10∧Sl R11:=by
  intro hF hC hD h0 h1 h2 h3 h4 h5 h6 h7 h8 h9 h10 h11 _;refine⟨?_,?_⟩
  focus
   (repeat' (first|(with_reducible first|refine stp ?_|apply gx1|apply gx2|apply gx3|apply gx4|apply gx5|apply gx6|apply gx7|apply gy8|apply gz2|apply gz3|refine gw0 hC.h.1 ?_ ?_|refine gw3 hC.h.1 ?_ ?_ ?_|refine gw0 hC.h.2.1 ?_ ?_|refine gw3 hC.h.2.1 ?_ ?_ ?_|refine gw0 hC.h.2.2.1 ?_ ?_|refine gw3 hC.h.2.2.1 ?_ ?_ ?_|refine gw0 hC.h.2.2.2.1 ?_ ?_|refine gw3 hC.h.2.2.2.1 ?_ ?_ ?_|refine gw0 hC.h.2.2.2.2.1 ?_ ?_|refine gw3 hC.h.2.2.2.2.1 ?_ ?_ ?_|refine gw0 hC.h.2.2.2.2.2.1 ?_ ?_|refine gw3 hC.h.2.2.2.2.2.1 ?_ ?_ ?_|refine gw0 hC.h.2.2.2.2.2.2.1 ?_ ?_|refine gw3 hC.h.2.2.2.2.2.2.1 ?_ ?_ ?_|refine gw0 hC.h.2.2.2.2.2.2.2.1 ?_ ?_|refine gw3 hC.h.2.2.2.2.2.2.2.1 ?_ ?_ ?_|refine gw0 hC.h.2.2.2.2.2.2.2.2.1 ?_ ?_|refine gw3 hC.h.2.2.2.2.2.2.2.2.1 ?_ ?_ ?_)|(with_reducible refine Zbi ?_;intro _)|((with_reducible refine gE ?_);(try simp (disch:=omega) only [go_sem,hF.h])<;>first|rfl|omega)|with_reducible refine Zaf (by decide) ?_|((with_reducible apply gy1);iterate 3 focus rfl)|((with_reducible apply gy2);iterate 3 focus rfl)|((with_reducible apply gy3);iterate 2 focus rfl)|((with_reducible apply gy4);iterate 1 focus rfl)|((with_reducible apply gy5);iterate 4 focus rfl)|((with_reducible apply gy5c);iterate 4 focus rfl)|((with_reducible apply gy6);iterate 4 focus rfl)|((with_reducible apply Zc0);iterate 3 focus rfl)|((with_reducible apply Zcx);iterate 1 focus rfl)|((with_reducible apply gy7);iterate 1 focus rfl)|((with_reducible apply gy9);(focus ((with_reducible refine gE ?_);(try simp (disch:=omega) only [go_sem,hF.h])<;>rfl)))|((with_reducible apply gz1);(focus first|rfl|(simp (disch:=omega) only [go_sem,hF.h];done)))|((with_reducible apply Zfc hD.h.1);(focus kernel_rfl);(focus rfl);(focus kernel_rfl);(focus (simp only [List.length_cons,List.length_nil,Nat.reduceAdd];rfl)))|((with_reducible apply Zfc hD.h.2.1);(focus kernel_rfl);(focus rfl);(focus kernel_rfl);(focus (simp only [List.length_cons,List.length_nil,Nat.reduceAdd];rfl)))|((with_reducible apply Za2 (Zce []) [] []);(focus kernel_rfl);(focus rfl);(focus kernel_rfl);(focus (simp only [List.length_cons,List.length_nil,Nat.reduceAdd];rfl)))))
   (all_goals repeat' (rename_i zz;first|(have zb:Bdy:=zz;first|exact h0.h|exact h1.h|exact h2.h|exact h3.h|exact h4.h|exact h5.h|exact h6.h|exact h7.h|exact h8.h|exact h9.h|exact h10.h|exact h11.h)|revert zz))
  (repeat' first|refine⟨?_,?_⟩|exact sl0|exact sl1)):p :=
 (h ⟨hfx⟩ ⟨hcx⟩ ⟨hdx⟩ ⟨r.x⟩ ⟨r.y.x⟩ ⟨r.y.y.x⟩ ⟨r.y.y.y.x⟩ ⟨r.y.y.y.y.x⟩ ⟨r.y.y.y.y.y.x⟩ ⟨r.y.y.y.y.y.y.x⟩ ⟨r.y.y.y.y.y.y.y.x⟩ ⟨r.y.y.y.y.y.y.y.y.x⟩ ⟨r.y.y.y.y.y.y.y.y.y.x⟩ ⟨r.y.y.y.y.y.y.y.y.y.y.x⟩ ⟨r.y.y.y.y.y.y.y.y.y.y.y⟩ ⟨⟩).1
theorem wkud {F C p R0 R1 R2 R3 R4 R5 R6 R7 R8 R9 R10 R11:Prop} (hfx:F) (hcx:C) (r:Lv R0 (Lv R1 (Lv R2 (Lv R3 (Lv R4 (Lv R5 (Lv R6 (Lv R7 (Lv R8 (Lv R9 (Lv R10 R11)))))))))))
 (h:Fx F→Fx C→Fx R0→Fx R1→Fx R2→Fx R3→Fx R4→Fx R5→Fx R6→Fx R7→Fx R8→Fx R9→Fx R10→Fx R11→Bdy→p∧Sl R0∧Sl R1∧Sl R2∧Sl R3∧Sl R4∧Sl R5∧Sl R6∧Sl R7∧Sl R8∧Sl R9∧Sl R10∧Sl R11:=by
  intro hF hC h0 h1 h2 h3 h4 h5 h6 h7 h8 h9 h10 h11 _;refine⟨?_,?_⟩
  focus
   (repeat' (first|(with_reducible first|refine stp ?_|apply gx1|apply gx2|apply gx3|apply gx4|apply gx5|apply gx6|apply gx7|apply gy8|apply gz2|apply gz3|refine gw0 hC.h.1 ?_ ?_|refine gw3 hC.h.1 ?_ ?_ ?_|refine gw0 hC.h.2.1 ?_ ?_|refine gw3 hC.h.2.1 ?_ ?_ ?_|refine gw0 hC.h.2.2.1 ?_ ?_|refine gw3 hC.h.2.2.1 ?_ ?_ ?_|refine gw0 hC.h.2.2.2.1 ?_ ?_|refine gw3 hC.h.2.2.2.1 ?_ ?_ ?_|refine gw0 hC.h.2.2.2.2.1 ?_ ?_|refine gw3 hC.h.2.2.2.2.1 ?_ ?_ ?_|refine gw0 hC.h.2.2.2.2.2.1 ?_ ?_|refine gw3 hC.h.2.2.2.2.2.1 ?_ ?_ ?_|refine gw0 hC.h.2.2.2.2.2.2.1 ?_ ?_|refine gw3 hC.h.2.2.2.2.2.2.1 ?_ ?_ ?_|refine gw0 hC.h.2.2.2.2.2.2.2.1 ?_ ?_|refine gw3 hC.h.2.2.2.2.2.2.2.1 ?_ ?_ ?_|refine gw0 hC.h.2.2.2.2.2.2.2.2.1 ?_ ?_|refine gw3 hC.h.2.2.2.2.2.2.2.2.1 ?_ ?_ ?_)|(with_reducible refine Zbi ?_;intro _)|((with_reducible refine gE ?_);(try simp (disch:=omega) only [go_sem,hF.h])<;>first|rfl|omega)|with_reducible refine Zaf (by decide) ?_|((with_reducible apply gy1);iterate 3 focus rfl)|((with_reducible apply gy2);iterate 3 focus rfl)|((with_reducible apply gy3);iterate 2 focus rfl)|((with_reducible apply gy4);iterate 1 focus rfl)|((with_reducible apply gy5);iterate 4 focus rfl)|((with_reducible apply gy5c);iterate 4 focus rfl)|((with_reducible apply gy6);iterate 4 focus rfl)|((with_reducible apply Zc0);iterate 3 focus rfl)|((with_reducible apply Zcx);iterate 1 focus rfl)|((with_reducible apply gy7);iterate 1 focus rfl)|((with_reducible apply gy9);(focus ((with_reducible refine gE ?_);(try simp (disch:=omega) only [go_sem,hF.h])<;>rfl)))|((with_reducible apply gz1);(focus first|rfl|(simp (disch:=omega) only [go_sem,hF.h];done)))))
   (all_goals repeat' (rename_i zz;first|(have zb:Bdy:=zz;first|exact h0.h|exact h1.h|exact h2.h|exact h3.h|exact h4.h|exact h5.h|exact h6.h|exact h7.h|exact h8.h|exact h9.h|exact h10.h|exact h11.h)|revert zz))
  (repeat' first|refine⟨?_,?_⟩|exact sl0|exact sl1)):p :=
 (h ⟨hfx⟩ ⟨hcx⟩ ⟨r.x⟩ ⟨r.y.x⟩ ⟨r.y.y.x⟩ ⟨r.y.y.y.x⟩ ⟨r.y.y.y.y.x⟩ ⟨r.y.y.y.y.y.x⟩ ⟨r.y.y.y.y.y.y.x⟩ ⟨r.y.y.y.y.y.y.y.x⟩ ⟨r.y.y.y.y.y.y.y.y.x⟩ ⟨r.y.y.y.y.y.y.y.y.y.x⟩ ⟨r.y.y.y.y.y.y.y.y.y.y.x⟩ ⟨r.y.y.y.y.y.y.y.y.y.y.y⟩ ⟨⟩).1
end Go.Pg
namespace Go.Pg
open Go Go.RowKit
def nv:List Nat→Nat
 | []=>0
 | x :: l=>x+65536*nv l
def Lm (l:List Nat):Prop:=∀x∈l,x < 65536
def toL (n:Nat):List Nat:=if h:n=0 then [] else n%65536 :: toL (n/65536)
termination_by n
decreasing_by omega
def u16s (l:List Nat):List AV:=l.map λn:Nat=>.v (.int .u16 (n:Int))
abbrev lim (l:List Nat):AV:=.sl 1 (u16s l)
def gN (l:List Nat) (k:Nat):Nat:=l.getD k 0
theorem Za4:toL 0=[]:=by rw [toL];rfl
theorem Zep {n:Nat} (h:n≠0):toL n=n%65536 :: toL (n/65536):=by rw [toL,dif_neg h]
theorem Zas (n:Nat):nv (toL n)=n:=by
 induction n using Nat.strongRecOn with
 | _ n ih =>
   by_cases h:n=0
   ·subst h;rw [Za4];rfl
   ·rw [Zep h,nv,ih (n/65536) (by omega)];omega
theorem Zav (n:Nat):Lm (toL n):=by
 induction n using Nat.strongRecOn with
 | _ n ih =>
   by_cases h:n=0
   ·subst h;rw [Za4];intro x hx;cases hx
   ·rw [Zep h];intro x hx;rcases List.mem_cons.1 hx with rfl | hx
    ·omega
    ·exact ih (n/65536) (by omega) x hx
theorem Lm.tail {x:Nat} {l:List Nat} (h:Lm (x :: l)):Lm l:=λy hy=>h y (List.mem_cons_of_mem _ hy)
theorem Lm.head {x:Nat} {l:List Nat} (h:Lm (x :: l)):x < 65536:=h x (List.mem_cons_self ..)
theorem Lm.take {l:List Nat} (h:Lm l) (k:Nat):Lm (l.take k):=λy hy=>h y (List.mem_of_mem_take hy)
theorem Lm.drop {l:List Nat} (h:Lm l) (k:Nat):Lm (l.drop k):=λy hy=>h y (List.mem_of_mem_drop hy)
theorem Lm.append {a b:List Nat} (ha:Lm a) (hb:Lm b):Lm (a++b):=λy hy=>(List.mem_append.1 hy).elim (ha y) (hb y)
theorem Lm.nil:Lm []:=λx hx=>by cases hx
theorem Lm.one {x:Nat} (h:x < 65536):Lm [x]:=λy hy=>by simp at hy;omega
theorem Lm.zeros (n:Nat):Lm (List.replicate n 0):=λy hy=>by have:=List.eq_of_mem_replicate hy;omega
theorem Zbw {l:List Nat} (h:Lm l) (k:Nat):gN l k < 65536:=by
 unfold gN;rw [List.getD_eq_getElem?_getD];rcases Nat.lt_or_ge k l.length with hk | hk
 ·rw [List.getElem?_eq_getElem hk];exact h _ (List.getElem_mem _)
 ·rw [List.getElem?_eq_none hk];simp
theorem gN_at {l:List Nat} {k:Nat} (h:k < l.length):gN l k=l[k]:=by unfold gN;rw [List.getD_eq_getElem?_getD,List.getElem?_eq_getElem h];rfl
theorem Zdy {l:List Nat} {k:Nat} (h:l.length≤k):gN l k=0:=by unfold gN;rw [List.getD_eq_getElem?_getD,List.getElem?_eq_none h];rfl
theorem Zih (l:List Nat):(u16s l).length=l.length:=by simp [u16s]
theorem u16s_get {l:List Nat} {k:Nat} (h:k < l.length):(u16s l).getD k .u=.v (.int .u16 (gN l k:Int)):=Zp3 h
theorem Zrg (l:List Nat) (k:Nat):(u16s l).take k=u16s (l.take k):=by simp [u16s,List.map_take]
theorem Zri (l:List Nat) (k:Nat):(u16s l).drop k=u16s (l.drop k):=by simp [u16s,List.map_drop]
theorem u16s_set (l:List Nat) (k x:Nat):(u16s l).set k (.v (.int .u16 (x:Int)))=u16s (l.set k x):=by simp [u16s,List.map_set]
theorem u16s_app (a b:List Nat):u16s a++u16s b=u16s (a++b):=by simp [u16s]
theorem Zrh (a:List Nat) (x:Nat):u16s a++[.v (.int .u16 (x:Int))]=u16s (a++[x]):=by simp [u16s]
theorem u16s_rep (n:Nat):List.replicate n (AV.v (.int .u16 0))=u16s (List.replicate n 0):=by simp [u16s,List.map_replicate]
theorem Zo3:u16s []=[]:=rfl
theorem Zf5 {x:Nat} {l:List Nat}:gN (x :: l) 0=x:=rfl
theorem Zem {x k:Nat} {l:List Nat}:gN (x :: l) (k+1)=gN l k:=rfl
theorem Zda (a b:List Nat):nv (a++b)=nv a+65536 ^ a.length*nv b:=by
 induction a with
 | nil=>simp [nv]
 | cons x a ih=>simp only [List.cons_append,nv,ih,List.length_cons,Nat.pow_succ];grind
theorem Zgq {l:List Nat} (h:Lm l):nv l < 65536 ^ l.length:=by
 induction l with
 | nil=>simp [nv]
 | cons x l ih =>
   have h1:=ih h.tail;have h2:=h.head;simp only [nv,List.length_cons,Nat.pow_succ];generalize 65536 ^ l.length=p at *;omega
theorem Zlf (n:Nat):nv (List.replicate n 0)=0:=by
 induction n with
 | zero=>rfl
 | succ n ih=>simp [List.replicate_succ,nv,ih]
theorem Zbt (l:List Nat) (k:Nat):nv l=nv (l.take k)+65536 ^ k*nv (l.drop k):=by
 rcases Nat.lt_or_ge l.length k with h | h
 ·rw [List.take_of_length_le (by omega),List.drop_eq_nil_of_le (by omega)];simp [nv]
 ·have:=Zda (l.take k) (l.drop k);rw [List.take_append_drop,List.length_take,Nat.min_eq_left h] at this;exact this
theorem Zay (l:List Nat) (k:Nat):nv (l.take (k+1))=nv (l.take k)+65536 ^ k*gN l k:=by
 rcases Nat.lt_or_ge k l.length with h | h
 ·rw [List.take_succ_eq_append_getElem h,Zda,List.length_take,Nat.min_eq_left (by omega),gN_at h];simp [nv]
 ·rw [List.take_of_length_le (by omega),List.take_of_length_le (by omega),Zdy h];simp
theorem Zby (l:List Nat) (k:Nat):nv (l.drop k)=gN l k+65536*nv (l.drop (k+1)):=by
 rcases Nat.lt_or_ge k l.length with h | h
 ·rw [List.drop_eq_getElem_cons h,nv,gN_at h]
 ·rw [List.drop_eq_nil_of_le h,List.drop_eq_nil_of_le (by omega),Zdy h];rfl
theorem nv_pos {l:List Nat} {k:Nat} (h:0 < gN l k):0 < nv l:=by
 induction l generalizing k with
 | nil=>simp [gN] at h
 | cons x l ih =>
   cases k with
   | zero=>simp only [Zf5] at h;simp only [nv];omega
   | succ k=>rw [Zem] at h;have:=ih h;simp only [nv];omega
theorem canon {l:List Nat} (h:Lm l) (hc:l=[]∨0 < gN l (l.length - 1)):l=toL (nv l):=by
 induction l with
 | nil=>simp [nv,Za4]
 | cons x l ih =>
   have hx:=h.head
   have hl:l=[]∨0 < gN l (l.length - 1):=by
    cases l with
    | nil=>exact .inl rfl
    | cons y l =>
      refine .inr ?_;rcases hc with hc | hc
      ·cases hc
      ·simpa [Zem] using hc
   have hi:=ih h.tail hl
   have hn:nv (x :: l)≠0:=by
    rcases hc with hc | hc
    ·cases hc
    ·have:=nv_pos hc;omega
   rw [Zep hn];simp only [nv];have e1:(x+65536*nv l)%65536=x:=by omega
   have e2:(x+65536*nv l)/65536=nv l:=by omega
   rw [e1,e2,←hi]
theorem Zdr {n:Nat} (h:n≠0):(toL n).length≠0∧0 < gN (toL n) ((toL n).length - 1):=by
 induction n using Nat.strongRecOn with
 | _ n ih =>
   rw [Zep h];refine⟨by simp,?_⟩;by_cases h2:n/65536=0
   ·rw [h2,Za4];simp only [List.length_cons,List.length_nil,Nat.zero_add,Nat.sub_self,Zf5];omega
   ·have:=ih (n/65536) (by omega) h2;obtain⟨h3,h4⟩:=this;simp only [List.length_cons,Nat.add_sub_cancel];obtain⟨k,hk⟩:=Nat.exists_eq_succ_of_ne_zero h3;rw [hk] at h4 ⊢
    simpa [Zem] using h4
theorem Znm {a b:Nat} (h:toL a=toL b):a=b:=by rw [←Zas a,h,Zas]
theorem toL_nil {n:Nat}:toL n=[]↔n=0:=⟨λh=>Znm (h.trans Za4.symm),λh=>by rw [h,Za4]⟩
theorem Zbn {n:Nat}:(toL n).length=0↔n=0:=by rw [List.length_eq_zero_iff];exact toL_nil
theorem Zje {l:List Nat} {k:Nat} (h:Lm l) (hk:k≤l.length) (hz:∀j,k≤j→gN l j=0) (ht:k=0∨0 < gN l (k - 1)):l.take k=toL (nv l):=by
 have h0:nv (l.drop k)=0:=by
  have key:∀(m:List Nat),(∀j,gN m j=0)→nv m=0:=by
   intro m
   induction m with
   | nil=>intro _;rfl
   | cons x m ih =>
     intro hm;have h1:=hm 0;rw [Zf5] at h1;rw [nv,h1,ih λj=>by rw [←Zem (x:=x)];exact hm (j+1)]
  refine key _ λj=>?_;have:=hz (k+j) (by omega);unfold gN at this ⊢
  rwa [List.getD_eq_getElem?_getD,List.getElem?_drop,←List.getD_eq_getElem?_getD]
 have h1:=Zbt l k;rw [h0,Nat.mul_zero,Nat.add_zero] at h1;rw [h1];refine canon (h.take k) ?_;by_cases hk0:k=0
 ·subst hk0;exact .inl rfl
 ·have ht:=ht.resolve_left hk0;refine .inr ?_;rw [List.length_take,Nat.min_eq_left hk];unfold gN at ht ⊢;rw [List.getD_eq_getElem?_getD] at ht ⊢;rw [List.getElem?_take,if_pos (by omega)];exact ht
theorem Zky {l:List Nat} (h:Lm l):∃k,k≤l.length∧l.take k=toL (nv l):=by
 induction hn:l.length generalizing l with
 | zero=>exact⟨0,by omega,by rw [List.eq_nil_of_length_eq_zero hn];simp [nv,Za4]⟩
 | succ n ih =>
   by_cases hz:gN l n=0
   ·obtain⟨k,h1,h2⟩:=ih (h.take n) (by simp;omega);refine⟨k,by omega,?_⟩;rw [List.take_take,Nat.min_eq_left h1] at h2;rw [h2];congr 1;have h3:=Zay l n;rw [List.take_of_length_le (by omega),hz] at h3;omega
   ·exact⟨l.length,by omega,by rw [List.take_of_length_le (Nat.le_refl _)];exact canon h (.inr (by rw [hn,Nat.add_sub_cancel];omega))⟩
theorem Zax {l:List Nat} (h:Lm l):(toL (nv l)).length≤l.length:=by
 obtain⟨k,h1,h2⟩:=Zky h;rw [←h2,List.length_take];omega
theorem Zah {n k:Nat}:(toL n).length≤k↔n < 65536 ^ k:=by
 constructor
 ·intro h;have h1:=Zgq (Zav n);rw [Zas] at h1;exact Nat.lt_of_lt_of_le h1 (Nat.pow_le_pow_right (by omega) h)
 ·intro h;rcases Nat.lt_or_ge k (toL n).length with h1 | h1
  ·exfalso
   have hn:n≠0:=by
    rintro rfl
    rw [Za4] at h1;simp at h1
   obtain⟨h2,h3⟩:=Zdr hn;have h4:=Zbt (toL n) ((toL n).length - 1);rw [Zas] at h4
   have h5:0 < nv ((toL n).drop ((toL n).length - 1)):=by
    refine nv_pos (k:=0) ?_;unfold gN at h3 ⊢;rw [List.getD_eq_getElem?_getD,List.getElem?_drop,Nat.add_zero,←List.getD_eq_getElem?_getD];exact h3
   have h6:65536 ^ k≤65536 ^ ((toL n).length - 1):=Nat.pow_le_pow_right (by omega) (by omega);have h7:65536 ^ ((toL n).length - 1)≤65536 ^ ((toL n).length - 1)*nv ((toL n).drop ((toL n).length - 1)):=Nat.le_mul_of_pos_right _ h5;omega
  ·exact h1
theorem Za8 {a b:Nat} (h:a≤b):(toL a).length≤(toL b).length:=by
 rw [Zah];exact Nat.lt_of_le_of_lt h (Zah.1 (Nat.le_refl _))
theorem Zpt {a b:List Nat} {k:Nat} (ha:Lm a) (hb:Lm b) (he:nv (a.drop (k+1))=nv (b.drop (k+1))) (h:gN a k < gN b k):nv a < nv b:=by
 have h1:=Zbt a k;have h2:=Zbt b k;rw [Zby,he] at h1;rw [Zby] at h2;have h3:=Zgq (ha.take k);have h4:nv (a.take k) < 65536 ^ k:=Nat.lt_of_lt_of_le h3 (Nat.pow_le_pow_right (by omega) (by rw [List.length_take];omega));generalize nv (b.drop (k+1))=r at *;generalize 65536 ^ k=p at *
 have h5:p*(gN a k+65536*r)+p≤p*(gN b k+65536*r):=by
  have:gN a k+65536*r+1≤gN b k+65536*r:=by omega
  have:=Nat.mul_le_mul_left p this
  rwa [Nat.mul_add p _ 1,Nat.mul_one] at this
 omega
theorem nv_eq_of {a b:List Nat} (hl:a.length=b.length) (he:nv a=nv b) (ha:Lm a) (hb:Lm b):a=b:=by
 induction a generalizing b with
 | nil=>cases b with
   | nil=>rfl
   | cons y b=>simp at hl
 | cons x a ih=>cases b with
   | nil=>simp at hl
   | cons y b =>
     have h1:=ha.head;have h2:=hb.head;simp only [nv] at he;have e1:x=y:=by omega
     have e2:nv a=nv b:=by omega
     rw [e1,ih (by simpa using hl) e2 ha.tail hb.tail]
theorem canon' {o:List Nat} (h:Lm o) (hl:o.length≤(toL (nv o)).length):o=toL (nv o) :=
 nv_eq_of (by have:=Zax h;omega) (Zas _).symm h (Zav _)
theorem Zcy {o:List Nat} {k:Nat} (h:k < o.length) (x:Nat):nv ((o.set k x).take (k+1))=nv (o.take k)+65536 ^ k*x:=by
 have h1:(o.set k x).take (k+1)=o.take k++[x]:=by
  rw [List.take_succ_eq_append_getElem (by simpa using h)];simp only [List.getElem_set_self,List.take_set];rw [List.set_eq_of_length_le (by rw [List.length_take];omega)]
 rw [h1,Zda,List.length_take,Nat.min_eq_left (by omega)];simp [nv]
theorem Lm.set {o:List Nat} (h:Lm o) (k:Nat) {x:Nat} (hx:x < 65536):Lm (o.set k x):=λy hy=>by
 rcases List.mem_or_eq_of_mem_set hy with h1 | rfl
 ·exact h y h1
 ·exact hx
theorem Zbk {α:Type} {l:List α} {k:Nat} (h:l.length≤k):l.take k=l:=List.take_of_length_le h
theorem Zl3 {p o c a b x y:Nat} (h:o+p*c=a+b):(o+p*((c+x+y)%65536))+(p*65536)*((c+x+y)/65536)=(a+p*x)+(b+p*y):=by
 have h2:p*((c+x+y)%65536)+p*65536*((c+x+y)/65536)=p*(c+x+y):=by rw [Nat.mul_assoc,←Nat.mul_add,Nat.mod_add_div]
 rw [Nat.mul_add,Nat.mul_add] at h2;omega
theorem Zo6 {p o c a b x y d c':Nat} (h:o+b=a+p*c) (hd:d+c+y=x+65536*c'):(o+p*d)+(b+p*y)=(a+p*x)+(p*65536)*c':=by
 have h2:p*d+p*c+p*y=p*x+p*65536*c':=by
  rw [←Nat.mul_add,←Nat.mul_add,hd,Nat.mul_add,Nat.mul_assoc]
 omega
theorem wrap_u8 {x:Int} (h1:0≤x) (h2:x≤255):IntKind.u8.wrap x=x:=IntWalk.u8_in x ⟨h1,h2⟩
theorem wrap_u16 {x:Int} (h1:0≤x) (h2:x≤65535):IntKind.u16.wrap x=x:=IntWalk.u16_in x ⟨h1,h2⟩
theorem Zig {x:Int} (h1:0≤x) (h2:x≤4294967295):IntKind.u32.wrap x=x:=IntWalk.u32_in x ⟨h1,h2⟩
theorem Ze9 {x:Int} (h1:0≤x) (h2:x≤18446744073709551615):IntKind.u64.wrap x=x:=IntWalk.u64_in x ⟨h1,h2⟩
theorem wrap_i32 {x:Int} (h1:-2147483648≤x) (h2:x≤2147483647):IntKind.i32.wrap x=x:=IntWalk.i32_in x ⟨h1,h2⟩
theorem cut_u16 (x:Int):IntKind.u16.wrap x=x%65536:=by rw [IntKind.wrap_u16]
theorem Zdu (a b:Nat):(a:Int).tdiv (b:Int)=((a/b:Nat):Int):=Int.ofNat_tdiv a b |>.symm
theorem Zea (a b:Nat):(a:Int).tmod (b:Int)=((a%b:Nat):Int):=(Int.ofNat_tmod a b).symm
theorem Zba (x:Nat):IntKind.u16.wrap (x:Int)=((x%65536:Nat):Int):=by rw [cut_u16];omega
theorem Zrn (a:Nat):shrI .u32 (a:Int) 16=((a/65536:Nat):Int):=by
 unfold shrI;rw [Int.fdiv_eq_ediv_of_nonneg _ (by decide)];rfl
theorem Zrm (a:Nat):shrI .u64 (a:Int) 16=((a/65536:Nat):Int):=by
 unfold shrI;rw [Int.fdiv_eq_ediv_of_nonneg _ (by decide)];rfl
theorem Za0 (a b:Nat):(a:Int)+(b:Int)=((a+b:Nat):Int):=(Int.natCast_add a b).symm
theorem Zec (a b:Nat):(a:Int)*(b:Int)=((a*b:Nat):Int):=(Int.natCast_mul a b).symm
attribute [go_sem] wrap_u8 wrap_u16 Zig Ze9 wrap_i32 Zrn Zrm Zih u16s_get Zrg Zri u16s_set u16s_app Zrh u16s_rep
theorem Zmr {o:List Nat} {j:Nat} (h:j < o.length) (v:Nat):nv (o.set j v)+65536 ^ j*gN o j=nv o+65536 ^ j*v:=by
 have h1:=Zbt (o.set j v) (j+1);have h2:=Zbt o (j+1);rw [Zcy h] at h1;rw [Zay] at h2
 have h3:(o.set j v).drop (j+1)=o.drop (j+1):=by
  rw [List.drop_set_of_lt (by omega)]
 rw [h3] at h1;omega
theorem Ze5 {o:List Nat} {j i v:Nat} (h:j < o.length):gN (o.set j v) i=if i=j then v else gN o i:=by
 unfold gN;rw [List.getD_eq_getElem?_getD,List.getD_eq_getElem?_getD,List.getElem?_set];by_cases hij:j=i
 ·subst hij;simp [h]
 ·simp [hij,Ne.symm hij]
theorem Zpv {o p c g s N x y T B:Nat} (hs:s=c+(g+x*y)) (hN:N+p*g=o+p*(s%65536)) (hv:o+p*c=B+T):N+(p*65536)*(s/65536)=B+(T+p*(x*y)):=by
 have h2:p*(s%65536)+p*65536*(s/65536)=p*s:=by rw [Nat.mul_assoc,←Nat.mul_add,Nat.mod_add_div]
 subst hs;rw [Nat.mul_add,Nat.mul_add] at h2;omega
theorem Zpw (i k x y t:Nat):65536 ^ i*(t+65536 ^ k*y)*x=65536 ^ i*t*x+65536 ^ (i+k)*(x*y):=by
 rw [Nat.mul_add,Nat.add_mul,Nat.pow_add];congr 1;rw [Nat.mul_comm x y];simp only [Nat.mul_assoc]
theorem Zgk (n j:Nat):gN (List.replicate n 0) j=0:=by
 unfold gN;rw [List.getD_eq_getElem?_getD,List.getElem?_replicate];split<;>rfl
theorem Zmw {x y:Nat} (hx:x < 65536) (hy:y < 65536):x*y≤4294836225:=Nat.mul_le_mul (show x≤65535 by omega) (show y≤65535 by omega)
theorem shl_32 {x s:Nat} (hs:s < 32) (h:x*2 ^ s < 4294967296):shlI .u32 (x:Int) (s:Int)=((x*2 ^ s:Nat):Int):=by
 unfold shlI
 have e1:min (s:Int).toNat (IntKind.bits .u32)=s:=by
  have:IntKind.bits .u32=32:=rfl;omega
 rw [e1];have e2:(x:Int)*2 ^ s=((x*2 ^ s:Nat):Int):=by rw [Int.natCast_mul,Int.natCast_pow];rfl
 rw [e2];exact Zig (by omega) (by omega)
theorem shl_64 {x s:Nat} (hs:s < 64) (h:x*2 ^ s < 18446744073709551616):shlI .u64 (x:Int) (s:Int)=((x*2 ^ s:Nat):Int):=by
 unfold shlI
 have e1:min (s:Int).toNat (IntKind.bits .u64)=s:=by
  have:IntKind.bits .u64=64:=rfl;omega
 rw [e1];have e2:(x:Int)*2 ^ s=((x*2 ^ s:Nat):Int):=by rw [Int.natCast_mul,Int.natCast_pow];rfl
 rw [e2];exact Ze9 (by omega) (by omega)
theorem shl16_32 {x:Nat} (h:x < 65536):shlI .u32 (x:Int) 16=((x*65536:Nat):Int):=shl_32 (s:=16) (by omega) (by omega)
theorem shl16_64 {x:Nat} (h:x < 281474976710656):shlI .u64 (x:Int) 16=((x*65536:Nat):Int):=shl_64 (s:=16) (by omega) (by omega)
theorem shr_32 {x s:Nat} (hs:s < 32):shrI .u32 (x:Int) (s:Int)=((x/2 ^ s:Nat):Int):=by
 unfold shrI
 have e1:min (s:Int).toNat (IntKind.bits .u32)=s:=by
  have:IntKind.bits .u32=32:=rfl;omega
 rw [e1];have e2:((2:Int) ^ s)=((2 ^ s:Nat):Int):=by rw [Int.natCast_pow];rfl
 rw [e2,Int.fdiv_eq_ediv_of_nonneg _ (Int.natCast_nonneg _)];rfl
theorem Zmn (k:IntKind) {a b:Nat} (ha:a < 2 ^ k.bits) (hb:b < 2 ^ k.bits):orI k (a:Int) (b:Int)=k.wrap ((a ||| b:Nat):Int):=by
 unfold orI
 have f:∀x:Nat,x < 2 ^ k.bits→(BitVec.ofInt k.bits (x:Int)).toNat=x:=by
  intro x hx;rw [BitVec.ofInt_natCast,BitVec.toNat_ofNat,Nat.mod_eq_of_lt hx]
 rw [BitVec.toNat_or,f a ha,f b hb]
theorem Zmo {r x s:Nat} (h:x < 2 ^ s):(r*2 ^ s ||| x)=r*2 ^ s+x:=by
 rw [Nat.mul_comm r,Nat.two_pow_add_eq_or_of_lt h]
theorem or16_32 {r x:Nat} (hr:r < 65536) (hx:x < 65536):orI .u32 ((r*65536:Nat):Int) (x:Int)=((r*65536+x:Nat):Int):=by
 rw [Zmn .u32 (by show _ < 4294967296;omega) (by show _ < 4294967296;omega),Zmo (s:=16) hx];exact Zig (by omega) (by omega)
theorem or16_64 {r x:Nat} (hr:r < 281474976710656) (hx:x < 65536):orI .u64 ((r*65536:Nat):Int) (x:Int)=((r*65536+x:Nat):Int):=by
 rw [Zmn .u64 (by show _ < 18446744073709551616;omega) (by show _ < 18446744073709551616;omega),Zmo (s:=16) hx];exact Ze9 (by omega) (by omega)
theorem orS_64 {n x s:Nat} (hn:n < 2 ^ s) (hs:s≤48) (hx:x < 65536):orI .u64 (n:Int) ((x*2 ^ s:Nat):Int)=((n+2 ^ s*x:Nat):Int):=by
 have e:(2:Nat) ^ s*65536≤18446744073709551616:=by
  have:(2:Nat) ^ s≤2 ^ 48:=Nat.pow_le_pow_right (by omega) hs;omega
 have h1:x*2 ^ s≤65535*2 ^ s:=Nat.mul_le_mul_right _ (by omega);rw [Zmn .u64 (by show _ < 18446744073709551616;omega) (by show _ < 18446744073709551616;omega),Nat.or_comm,Zmo hn];rw [Ze9 (by omega) (by omega),Nat.mul_comm,Nat.add_comm]
theorem or_16 {a b s:Nat} (hs:s≤16) (hb:b < 2 ^ s) (ha:a*2 ^ s < 65536):orI .u16 (b:Int) ((a*2 ^ s:Nat):Int)=((b+a*2 ^ s:Nat):Int):=by
 have e:(2:Nat) ^ s≤2 ^ 16:=Nat.pow_le_pow_right (by omega) hs
 have h3:a*2 ^ s+b < 65536:=by
  have h4:a < 2 ^ (16 - s):=by
   refine Nat.lt_of_mul_lt_mul_right (a:=2 ^ s) ?_;rw [←Nat.pow_add,Nat.sub_add_cancel hs];exact ha
  have h5:(a+1)*2 ^ s≤2 ^ (16 - s)*2 ^ s:=Nat.mul_le_mul_right _ h4;rw [←Nat.pow_add,Nat.sub_add_cancel hs,Nat.add_mul,Nat.one_mul] at h5;omega
 rw [Zmn .u16 (by show _ < 65536;omega) (by show _ < 65536;omega),Nat.or_comm,Zmo hb];rw [wrap_u16 (by omega) (by omega),Nat.add_comm]
attribute [go_sem] shl16_32 shl16_64 or16_32 or16_64
theorem low_mul {x s:Nat} (hs:s≤16):(x*2 ^ s)%65536=(x%2 ^ (16 - s))*2 ^ s:=by
 have:65536=2 ^ (16 - s)*2 ^ s:=by rw [←Nat.pow_add,Nat.sub_add_cancel hs]
 rw [this,Nat.mul_mod_mul_right]
theorem Zmi (k:Nat):65536 ^ k=2 ^ (16*k):=by rw [Nat.pow_mul]
theorem div_step {a q r d x B:Nat} (hB:B=65536) (h:a=d*q+r):x+B*a=d*((r*B+x)/d+B*q)+(r*B+x)%d:=by
 have h2:=Nat.div_add_mod (r*B+x) d;subst h;have e1:B*(d*q+r)=d*(B*q)+r*B:=by rw [Nat.mul_add,Nat.mul_left_comm,Nat.mul_comm B r]
 have e2:d*((r*B+x)/d+B*q)=d*((r*B+x)/d)+d*(B*q):=Nat.mul_add _ _ _;omega
theorem shr_dig {x y r s:Nat} (hs:s≤16):((x+65536*(y+65536*r))/2 ^ s)%65536=((x+65536*y)/2 ^ s)%65536:=by
 have e0:(65536:Nat)=2 ^ (16 - s)*2 ^ s:=by rw [←Nat.pow_add,Nat.sub_add_cancel hs]
 have e1:x+65536*(y+65536*r)=(x+65536*y)+2 ^ s*(65536*(2 ^ (16 - s)*r)):=by
  have:65536*(65536*r)=2 ^ s*(65536*(2 ^ (16 - s)*r)):=by
   calc 65536*(65536*r)=65536*((2 ^ (16 - s)*2 ^ s)*r):=by rw [←e0]
    _=2 ^ s*(65536*(2 ^ (16 - s)*r)):=by rw [Nat.mul_comm (2 ^ (16 - s)),Nat.mul_assoc,Nat.mul_left_comm]
  rw [Nat.mul_add,this];omega
 rw [e1,Nat.add_mul_div_left _ _ (Nat.two_pow_pos s),Nat.add_mul_mod_self_left]
theorem shr_step {N o k d s:Nat} (h:o=(N/2 ^ s)%65536 ^ k) (hd:d=(N/65536 ^ k/2 ^ s)%65536):o+65536 ^ k*d=(N/2 ^ s)%65536 ^ (k+1):=by
 rw [Nat.pow_succ,Nat.mod_mul,h,hd,Nat.div_div_eq_div_mul,Nat.div_div_eq_div_mul,Nat.mul_comm (2 ^ s)]
theorem Zsg {l:List Nat} (h:Lm l) (k:Nat):nv l/65536 ^ k=nv (l.drop k):=by
 have h1:=Zbt l k;have h2:nv (l.take k) < 65536 ^ k:=Nat.lt_of_lt_of_le (Zgq (h.take k)) (Nat.pow_le_pow_right (by omega) (by rw [List.length_take];omega));rw [h1,Nat.add_mul_div_left _ _ (Nat.pow_pos (by omega)),Nat.div_eq_of_lt h2,Nat.zero_add]
theorem Zs4 (l:List Nat) (i k:Nat):gN (l.drop i) k=gN l (i+k):=by
 unfold gN;rw [List.getD_eq_getElem?_getD,List.getElem?_drop,←List.getD_eq_getElem?_getD]
theorem kn_init {W V q v1 v2 vl high u2 wl P:Nat} (hP:0 < P) (hV:V=(v1*65536+v2)*P+vl) (hW:W=(high*65536+u2)*P+wl) (hwl:wl < P) (hu2:u2 < 65536) (hv1:0 < v1) (hq:q*V≤W):q≤high/v1:=by
 rw [Nat.le_div_iff_mul_le hv1]
 have h1:q*(v1*65536*P)≤q*V:=by
  refine Nat.mul_le_mul_left _ ?_;rw [hV,Nat.add_mul];omega
 have h2:W < (high+1)*(65536*P):=by
  have h3:(high*65536+u2+1)*P≤((high+1)*65536)*P:=Nat.mul_le_mul_right _ (by omega);rw [Nat.add_mul _ 1 P] at h3;rw [hW,←Nat.mul_assoc];omega
 have h3:(q*v1)*(65536*P) < (high+1)*(65536*P):=by
  have e:(q*v1)*(65536*P)=q*(v1*65536*P):=by simp only [Nat.mul_assoc]
  omega
 have:=Nat.lt_of_mul_lt_mul_right h3;omega
theorem kn_step {W V v1 v2 vl high u2 wl P d r:Nat} (hV:V=(v1*65536+v2)*P+vl) (hW:W=(high*65536+u2)*P+wl) (hwl:wl < P) (hh:high=d*v1+r) (ht:r*65536+u2 < d*v2):W < d*V:=by
 have h1:d*((v1*65536+v2)*P)≤d*V:=Nat.mul_le_mul_left _ (by omega)
 have h2:high*65536+u2+1≤d*(v1*65536+v2):=by
  have e:d*(v1*65536+v2)=d*v1*65536+d*v2:=by rw [Nat.mul_add,Nat.mul_assoc]
  rw [e,hh,Nat.add_mul];omega
 have h3:=Nat.mul_le_mul_right P h2;rw [Nat.add_mul _ 1 P,Nat.mul_assoc d] at h3;omega
theorem kn_exit {W V v1 v2 vl high u2 wl P d r:Nat} (hV:V=(v1*65536+v2)*P+vl) (hvl:vl < P) (hW:W=(high*65536+u2)*P+wl) (hh:high=d*v1+r) (hv1:0 < v1) (hd:d < 65536) (ht:d*v2≤r*65536+u2):d*V < W+V:=by
 have h2:d*(v1*65536+v2)≤high*65536+u2:=by
  have e:d*(v1*65536+v2)=d*v1*65536+d*v2:=by rw [Nat.mul_add,Nat.mul_assoc]
  rw [e,hh,Nat.add_mul];omega
 have h3:=Nat.mul_le_mul_right P h2;have h4:d*vl≤d*P:=Nat.mul_le_mul_left _ (by omega);have h5:d*P < 65536*P:=Nat.mul_lt_mul_of_pos_right hd (by omega)
 have h6:65536*P≤v1*65536*P:=by
  have:1*(65536*P)≤v1*(65536*P):=Nat.mul_le_mul_right _ hv1;rw [Nat.one_mul,←Nat.mul_assoc] at this;exact this
 have h7:v1*65536*P≤V:=by rw [hV,Nat.add_mul];omega
 have e:d*V=d*(v1*65536+v2)*P+d*vl:=by rw [hV,Nat.mul_add,Nat.mul_assoc]
 omega
theorem kn_near {W V d:Nat} (hV:0 < V) (h1:W/V≤d) (h2:d*V < W+V):d=W/V∨d=W/V+1:=by
 have h3:d≤W/V+1:=by
  rcases Nat.lt_or_ge (W/V+1) d with h | h
  ·exfalso;have h4:(W/V+2)*V≤d*V:=Nat.mul_le_mul_right _ h;have h5:=Nat.lt_div_mul_add (a:=W) hV;rw [Nat.add_mul] at h4;omega
  ·exact h
 omega
def len8 (i:Nat):Nat:=if i=0 then 0 else Nat.log2 i+1
def Zeg (x:Nat):Nat:=if 256≤x then 8+len8 (x/256) else len8 x
theorem Zjj {i:Nat} (h:i < 256):len8 i≤8∧(0 < i→1≤len8 i):=by
 unfold len8;split
 ·omega
 ·rename_i h0;have:=(Nat.log2_lt h0 (k:=8)).2 h;omega
theorem Zhl {x:Nat} (h:x < 65536):Zeg x≤16∧(0 < x→1≤Zeg x):=by
 unfold Zeg;split
 ·have:=Zjj (i:=x/256) (by omega);omega
 ·have:=Zjj (i:=x) (by omega);omega
theorem shr_8_16 (a:Nat):shrI .u16 (a:Int) 8=((a/256:Nat):Int):=by
 unfold shrI;rw [Int.fdiv_eq_ediv_of_nonneg _ (by decide)];rfl
attribute [go_sem] shr_8_16
theorem o_tab {P:Program} {K:St→Prop} {e:Nat→AV} {m:Mem} {t d x n:Nat} {L:List UInt8} {g:Nat→Nat} (hlen:L.length=n) (htab:((List.range n).all λi=>(L.getD i 0).toNat == g i)=true) (hx:x < n) (h:K ⟨upd e d (.v (.int .u8 (g x:Nat))),m⟩) :
 aRes P t (some d) (.need (0≤(x:Int)∧(x:Int) < (L.length:Int)) (.val (.v (.int .u8 (((L.getD x 0).toNat:Nat):Int))) [])) K ⟨e,m⟩:=by
 refine Zh7 ⟨by omega,by omega⟩ ?_;have:=List.all_eq_true.1 htab x (List.mem_range.2 hx);rw [beq_iff_eq] at this;rw [this];exact h
theorem Zgw {α:Type} (f:Nat→α) (k:Nat) (a b:α):upd (upd f k a) k b=upd f k b:=by
 funext j
 simp only [Zaz];split<;>rfl
theorem Zo1 {α:Type} {f:Nat→α} {k:Nat} {a:α} (h:f k=a):upd f k a=f:=by
 funext j
 simp only [Zaz];split
 ·subst_vars;rfl
 ·rfl
theorem Zk7 {P:Program} {f:FuncId} {args:List AV} {x:AV} {R:AV→Mem→Prop} (h:ACall P f args Zan R) (hR:∀r σ',R r σ'→Zef (marks σ' r.toks) r∧pubV (marks σ' r.toks) r=x):Pure P f args x:=by
 refine⟨h.1,λw imm vs himm hl hr=>?_⟩;have hm:Mx ⟨w.heap.size,w,imm⟩ Zan w imm:=⟨⟨λk e hk=>by simp [Zan] at hk,λk k' e e' b hk=>by simp [Zan] at hk,λad h1=>(himm ad h1).1,λad h1=>(himm ad h1).2⟩,Below.refl _ _,Nat.le_refl _,λ_ h1=>h1,λ_ h1=>.inl h1,λ_ _=>rfl⟩;refine(h.2 _ w imm vs hm hl λj a x h1 h2=>.pure (hr j a x h1 h2)).mono λe w' ⟨r,σ',imm',y,h1,h2,h3,h4,h5⟩=>?_;obtain⟨i2,hm2,hk2⟩:=Zdk r.toks h4;obtain⟨h6,h7⟩:=hR r σ' h2;have h8:=Zhc hm2 (hk2.rs h3) h6;rw [h7] at h8;exact⟨y,i2,h1,h8,hm2.old,λad h9=>⟨hm2.new ad h9,hm2.ok.lt ad h9,hm2.ok.spot ad h9⟩,hm2.below⟩
theorem gN_mid {pre w post:List Nat} {k:Nat} (h:k < w.length):gN (pre++(w++post)) (pre.length+k)=gN w k:=by
 unfold gN;rw [List.getD_eq_getElem?_getD,List.getD_eq_getElem?_getD,List.getElem?_append_right (by omega),Nat.add_sub_cancel_left,List.getElem?_append_left h]
theorem Zrp {pre w post:List Nat} {k:Nat} (h:k < w.length) (x:Nat):(pre++(w++post)).set (pre.length+k) x=pre++(w.set k x++post):=by
 rw [List.set_append_right _ _ (by omega),Nat.add_sub_cancel_left,List.set_append_left _ _ h]
theorem or16_32' {r x:Nat} (hr:r < 65536) (hx:x < 65536):orI .u32 (x:Int) ((r*65536:Nat):Int)=((x+65536*r:Nat):Int):=by
 rw [Zmn .u32 (by show _ < 4294967296;omega) (by show _ < 4294967296;omega),Nat.or_comm,Zmo (s:=16) hx,Zig (by omega) (by omega)];omega
theorem Zno {o N d v p c r w y x r' c1:Nat} (h:o+d*v=N+p*(c+r)) (h1:c1=c+d*y) (h2:x+c1%65536+r=w+65536*r'):(o+p*x)+d*(v+p*y)=(N+p*w)+(p*65536)*(c1/65536+r'):=by
 have e1:p*x+p*(c1%65536)+p*r=p*w+p*65536*r':=by
  rw [←Nat.mul_add,←Nat.mul_add,h2,Nat.mul_add,Nat.mul_assoc]
 have e2:p*(c1%65536)+p*65536*(c1/65536)=p*c1:=by rw [Nat.mul_assoc,←Nat.mul_add,Nat.mod_add_div]
 have e3:p*c1=p*c+d*(p*y):=by rw [h1,Nat.mul_add];congr 1;simp only [Nat.mul_left_comm]
 rw [Nat.mul_add,Nat.mul_add (p*65536)];rw [Nat.mul_add] at h;omega
theorem Zqv {a l s:Nat}:a*2 ^ (16*l+s)=a*2 ^ s*65536 ^ l:=by
 rw [Zmi,Nat.pow_add,Nat.mul_assoc,Nat.mul_comm (2 ^ (16*l))]
theorem Zqw {a l s:Nat}:a/2 ^ (16*l+s)=a/65536 ^ l/2 ^ s:=by
 rw [Zmi,Nat.pow_add,Nat.div_div_eq_div_mul]
theorem nv_top2 {l:List Nat} {n:Nat} (h:l.length=n) (hn:2≤n):nv l=(gN l (n - 1)*65536+gN l (n - 2))*65536 ^ (n - 2)+nv (l.take (n - 2)):=by
 have h1:=Zbt l (n - 2);rw [Zby,Zby,show n - 2+1=n - 1 by omega,show n - 1+1=n by omega,List.drop_eq_nil_of_le (by omega)] at h1;simp only [nv,Nat.mul_zero,Nat.add_zero] at h1;rw [h1,Nat.add_comm,Nat.mul_comm];congr 2;omega
theorem nv_top3 {l:List Nat} {n:Nat} (h:l.length=n+1) (hn:2≤n):nv l=((gN l n*65536+gN l (n - 1))*65536+gN l (n - 2))*65536 ^ (n - 2)+nv (l.take (n - 2)):=by
 have h1:=Zbt l (n - 2);rw [Zby,Zby,Zby,show n - 2+1=n - 1 by omega,show n - 1+1=n by omega,List.drop_eq_nil_of_le (by omega)] at h1;simp only [nv,Nat.mul_zero,Nat.add_zero] at h1;rw [h1,Nat.add_comm,Nat.mul_comm];congr 2;omega
theorem Zgi {l:List Nat} (h:Lm l) (k:Nat):nv (l.take k) < 65536 ^ k:=Nat.lt_of_lt_of_le (Zgq (h.take k)) (Nat.pow_le_pow_right (by omega) (by rw [List.length_take];omega))
theorem gN_take {l:List Nat} {k i:Nat} (h:i < k):gN (l.take k) i=gN l i:=by
 unfold gN;rw [List.getD_eq_getElem?_getD,List.getElem?_take,if_pos h,←List.getD_eq_getElem?_getD]
theorem Zot {a b:List Nat} {k:Nat} (h:k < a.length):gN (a++b) k=gN a k:=by
 unfold gN;rw [List.getD_eq_getElem?_getD,List.getElem?_append_left h,←List.getD_eq_getElem?_getD]
theorem top_le {u v:List Nat} {n:Nat} (hu:Lm u) (hv:Lm v) (hvn:v.length=n) (hn:2≤n) (h:nv u < nv v):gN u (n - 1)≤gN v (n - 1):=by
 rcases Nat.lt_or_ge (gN v (n - 1)) (gN u (n - 1)) with h1 | h1
 ·exfalso;have h2:=Zbt u (n - 1);rw [Zby] at h2;have h3:=Zbt v (n - 1);rw [Zby,show n - 1+1=n by omega,List.drop_eq_nil_of_le (by omega)] at h3;simp only [nv,Nat.mul_zero,Nat.add_zero] at h3;have h4:=Zgi hv (n - 1);have h5:65536 ^ (n - 1)*(gN v (n - 1)+1)≤65536 ^ (n - 1)*gN u (n - 1):=Nat.mul_le_mul_left _ h1;rw [Nat.mul_add,Nat.mul_one] at h5;rw [Nat.mul_add] at h2;generalize 65536 ^ (n - 1)*(65536*nv (u.drop (n - 1+1)))=z at *;omega
 ·exact h1
theorem drop_zero {u v:List Nat} {n:Nat} (hv:Lm v) (hvn:v.length=n) (h:nv u < nv v):nv (u.drop n)=0:=by
 have h1:=Zbt u n;have h2:=Zgq hv;rw [hvn] at h2;rcases Nat.eq_zero_or_pos (nv (u.drop n)) with h3 | h3
 ·exact h3
 ·have:=Nat.le_mul_of_pos_right (65536 ^ n) h3;omega
theorem subDone {w d V W p b:Nat} (hV:0 < V) (hw:w < p) (hb:b≤1) (h:w+d*V=W+p*b) (hd:d=W/V∨d=W/V+1):(b=0∧d=W/V∧w=W%V)∨(b=1∧d=W/V+1):=by
 have h1:=Nat.div_add_mod W V;have h2:=Nat.mod_lt W hV;rw [Nat.mul_comm] at h1;rcases hd with hd | hd<;>subst hd
 ·have hb0:b=0:=by
   rcases Nat.eq_zero_or_pos b with h3 | h3
   ·exact h3
   ·have:b=1:=by omega
    subst this;omega
  subst hb0;exact .inl ⟨rfl,rfl,by omega⟩
 ·rw [Nat.add_mul,Nat.one_mul] at h
  have hb1:b=1:=by
   rcases Nat.eq_zero_or_pos b with h3 | h3
   ·subst h3;omega
   ·omega
  exact .inr ⟨hb1,rfl⟩
theorem resDone {w w' V W p c:Nat} (hV:0 < V) (hVp:V≤p) (hw:w' < p) (hc:c≤1) (h:w+(W/V+1)*V=W+p*1) (h':w'+p*c=w+V):w'=W%V:=by
 have h1:=Nat.div_add_mod W V;have h2:=Nat.mod_lt W hV;rw [Nat.mul_comm] at h1;rw [Nat.add_mul,Nat.one_mul] at h;rcases Nat.eq_zero_or_pos c with h3 | h3
 ·subst h3;omega
 ·have:c=1:=by omega
  subst this;omega
def Frz (n:Nat) (st st':St):Prop:=∀(c:Cx) (a:Act) (w:World) (imm:Imm),Rel c n st a w imm→∃imm',Rel c n st' a w imm'
theorem Frz.refl (n:Nat) (st:St):Frz n st st:=λc a w imm h=>⟨imm,h⟩
theorem Frz.trans {n:Nat} {s1 s2 s3:St} (h:Frz n s1 s2) (k:Frz n s2 s3):Frz n s1 s3:=λc a w imm h1=>by
 obtain⟨i,h2⟩:=h c a w imm h1;exact k c a w i h2
theorem Frz.own {n:Nat} {e:Nat→AV} {m:Mem} {d k mm pub:Nat} {sv:Value} {ty:TypeId} {es:List AV} (he:e d=.own k sv) (hm:m k=some (.row sv ty mm es pub)):Frz n ⟨e,m⟩ ⟨upd e d (.sl mm es),mark m k⟩:=by
 intro c a w imm h;obtain⟨i,h1,h2⟩:=Zll h.mem k;refine⟨i,λt=>?_,h.size,h.defers,h1⟩;have ht:=h2.rs (h.env t);show Rs w i (upd e d (.sl mm es) t) _;rw [Zaz];split
 ·subst_vars
  rw [show(St.mk e m).env t=_ from he] at ht;rw [ht.own_inv];exact .pure (Zpb (k:=k) (e:=ty) h1 (es:=es) (pub:=es.length) (by simp only [mark,Zaz,if_true,hm,Option.map_some,Ent.mark]) rfl)
 ·exact ht
theorem Frz.nil {n:Nat} {e:Nat→AV} {m:Mem} {d:Nat} (mm:Nat) (he:e d=.v (.slice none 0 0)):Frz n ⟨e,m⟩ ⟨upd e d (.sl mm []),m⟩:=by
 intro c a w imm h;refine⟨imm,λt=>?_,h.size,h.defers,h.mem⟩;have ht:=h.env t;show Rs w imm (upd e d (.sl mm []) t) _;rw [Zaz];split
 ·subst_vars
  rw [show(St.mk e m).env t=_ from he] at ht;rw [ht.v_inv];exact .pure ((Wk.nil mm).rd (.v _))
 ·exact ht
theorem Frz.nilOwn {n:Nat} {e:Nat→AV} {m:Mem} {d:Nat} (t mm:Nat) (ty:TypeId) (he:e d=.v (.slice none 0 0)):Frz n ⟨e,m⟩ ⟨upd e d (.own t (.slice none 0 0)),upd m t (some (.row (.slice none 0 0) ty mm [] 0))⟩:=by
 intro c a w imm h
 have hm:Mx c (upd m t (some (.row (.slice none 0 0) ty mm [] 0))) w imm:=by
  refine(Zes h.mem (World.grownBy.refl w none) (by simp) (λ_ _=>rfl) t (.row (.slice none 0 0) ty mm [] 0) ⟨[],World.ownsRow_nil w c.B ty mm,by simp,by simp,by simp [flat],by simp,λad _ h2=>by simp [Value.ownBlock] at h2,λg off h1 _=>by simp [Value.ownBlock] at h1⟩ λj e2 b _ _ _=>⟨by simp,by simp [Ent.blk,Value.ownBlock]⟩).1
 refine⟨imm,λx=>?_,h.size,h.defers,hm⟩;have ht:=h.env x;show Rs w imm (upd e d (.own t (.slice none 0 0)) x) _;rw [Zaz];split
 ·subst_vars
  rw [show(St.mk e m).env x=_ from he] at ht;rw [ht.v_inv];exact .own _ _ rfl
 ·exact ht
section
variable {P:Program} {n:Nat} {Q:AE→St→Prop} {e:Nat→AV} {m:Mem}
theorem Zfo {body:Code} {st st':St} (h:Frz n st st') (k:Za7 P 0 n (.loop body) Q st'):Za7 P 0 n (.loop body) Q st:=λc a w imm hr=>by
 obtain⟨i,h1⟩:=h c a w imm hr;exact k c a w i h1
theorem r_loopF {ι:Type} {body:Code} (I:ι→(Nat→AV)→Mem→Prop) (μ:ι→Nat) (i:ι) (hf:Zbo n body=true)
 (round:∀i e m,I i e m→Za7 P 0 n body (AE.then (λst'=>∃i' st'',Frz n st' st''∧I i' st''.env st''.mem∧μ i' < μ i) Q) ⟨e,m⟩) (h0:I i e m):Za7 P 0 n (.loop body) Q ⟨e,m⟩:=by
 intro c a w imm hr b k cs;have key:∀m i st a w imm,μ i=m→I i st.env st.mem→Rel c n st a w imm →
  ∃e a' w',post c n Q e a' w'∧Arrives P (lone (b.at a (.code body :: .inLoop body :: k)) cs w) b k cs e a' w':=by
  intro m
  induction m using Nat.strongRecOn with
  | _ m ih =>
    intro i st a w imm hm hI hr;obtain⟨e,a₁,w₁,hq,harr⟩:=Zbz body _ st hf (round i st.env st.mem hI) c a w imm hr b (.inLoop body :: k) cs;obtain⟨ae,st',imm',rfl,h2,h3⟩:=hq
    cases ae with
    | normal =>
      obtain⟨i',st'',hF,hI',hlt⟩:=h2;obtain⟨imm2,h4⟩:=hF c a₁ w₁ imm' h3;obtain⟨e₂,a₂,w₂,hq₂,harr₂⟩:=ih (μ i') (hm ▸ hlt) i' st'' a₁ w₁ imm2 rfl hI' h4;exact⟨e₂,a₂,w₂,hq₂,.of_steps (Steps.trans harr (.one step_inLoop)) harr₂⟩
    | exit id=>exact⟨_,a₁,w₁,⟨.exit id,st',imm',rfl,h2,h3⟩,.pass (x:=.inLoop body) rfl (λ_ _=>.inl (by simp [AE.to])) harr⟩
    | ret=>exact⟨_,a₁,w₁,⟨.ret,st',imm',rfl,h2,h3⟩,.pass (x:=.inLoop body) rfl (λ_ _=>.inl (by simp [AE.to])) harr⟩
 obtain⟨e₁,a',w',hq,harr⟩:=key _ i ⟨e,m⟩ a w imm rfl h0 hr;exact⟨e₁,a',w',hq,.of_steps (.one step_loop) harr⟩
end
attribute [go_sem] List.getElem?_toArray
section
def Zfs (P:Program) (t:TypeId):Bool:=match P.underlying t with
 | some (.struct _)=>true
 | _=>false
def Zdf (P:Program) (t:TypeId) (aS:List AV):AV:=if Zfs P t then .agg aS else aS.headD .u
def Zc2 (P:Program) (N:Nat):Nat→TypeId→List AV→Prop
 | 0,_,_=>False
 | n+1,t,aS=>match P.underlying t with
   | some .bool=>∃b,aS=[.v (.bool b)]
   | some (.int k)=>∃i,aS=[.v (.int k i)]∧(Lit.int k i).wf=true
   | some .string=>∃s:ByteArray,aS=[.v (.string s)]∧s.size≤N
   | some (.slice e)=>∃es:List (List AV),aS=[.sl (P.cellsOf e) (es.map (Zdf P e))]∧es.length≤N∧∀x∈es,Zc2 P N n e x
   | some (.struct fs)=>aS.length=P.cellsOf t∧∀f∈fs.toList,Zc2 P N n f.type ((aS.drop f.offset).take (P.cellsOf f.type))
   | _=>False
def Zfn (P:Program) (total:Nat):Nat→List Field→Bool
 | off,[]=>off == total
 | off,f :: fs=>f.offset == off && Zfn P total (off+P.cellsOf f.type) fs
def Zc9 (P:Program):Nat→TypeId→Bool
 | 0,_=>false
 | n+1,t=>match P.underlying t with
   | some .bool | some (.int _) | some .string=>P.cellsOf t == 1
   | some (.slice e)=>P.cellsOf t == 1 && Zc9 P n e
   | some (.struct fs)=>Zfn P (P.cellsOf t) 0 fs.toList && fs.toList.all λf=>Zc9 P n f.type
   | _=>false
mutual
def bulk {H:Type}:DataW H→Nat
 | .lit (.string bytes)=>bytes.length+1
 | .lit _=>1
 | .nil=>1
 | .ptr d=>bulk d+1
 | .slice elems spare=>Zdw elems+Zdw spare+1
 | .agg parts=>Zdw parts+1
 | .iface _ d=>bulk d+1
 | .map entries=>Zjx entries+1
 | .held _=>1
def Zdw {H:Type}:List (DataW H)→Nat
 | []=>0
 | d :: r=>bulk d+Zdw r
def Zjx {H:Type}:List (Lit × DataW H)→Nat
 | []=>0
 | x :: r=>Ztk x+Zjx r
def Ztk {H:Type}:Lit × DataW H→Nat
 | (.string bytes,d)=>bytes.length+bulk d+1
 | (_,d)=>bulk d+1
end
theorem bulk_pos {H:Type} (d:DataW H):1≤bulk d:=by
 unfold bulk;split<;>omega
theorem Zlz {H:Type} {d:DataW H}:∀{l:List (DataW H)},d∈l→bulk d≤Zdw l
 | e :: r,h=>by
   unfold Zdw;rcases List.mem_cons.1 h with rfl | h
   ·omega
   ·have:=Zlz h;omega
theorem Zqb {H:Type}:∀(l:List (DataW H)),l.length≤Zdw l
 | []=>Nat.le_refl _
 | e :: r=>by
   unfold Zdw;have:=Zqb r;have:=bulk_pos e;simp only [List.length_cons];omega
def Zkv {H:Type} (N:Nat) (d:DataW H):Prop:=maxLen≤N∨bulk d≤N
def Cs (w:World) (aS:List AV) (cs:List Value):Prop:=aS.length=cs.length∧∀(j:Nat) (a:AV) (x:Value),aS[j]?=some a→cs[j]?=some x→Rd w (imm0 w) a x
theorem Cs.nil {w:World}:Cs w [] []:=⟨rfl,λj a x h=>by simp at h⟩
theorem Cs.one {w:World} {a:AV} {x:Value} (h:Rd w (imm0 w) a x):Cs w [a] [x]:=by
 refine⟨rfl,λj b y h1 h2=>?_⟩
 cases j with
 | zero=>simp at h1 h2;subst h1;subst h2;exact h
 | succ j=>simp at h1
theorem Cs.append {w:World} {aS bs:List AV} {cs ds:List Value} (h:Cs w aS cs) (k:Cs w bs ds):Cs w (aS++bs) (cs++ds):=by
 refine⟨by simp [h.1,k.1],λj a x h1 h2=>?_⟩;by_cases hj:j < aS.length
 ·rw [List.getElem?_append_left hj] at h1;rw [List.getElem?_append_left (by rw [←h.1];exact hj)] at h2;exact h.2 j a x h1 h2
 ·rw [List.getElem?_append_right (by omega)] at h1;rw [List.getElem?_append_right (by rw [←h.1];omega),←h.1] at h2;exact k.2 _ a x h1 h2
theorem mapM_inv {α β:Type} {f:α→Option β}:∀{l:List α} {r:List β},l.mapM f=some r→∀x∈l,∃y,f x=some y:=by
 intro l r h x hx;obtain⟨i,hi,rfl⟩:=List.mem_iff_getElem.1 hx;have h1:=mapM_some_get h i l[i] (List.getElem?_eq_getElem hi);have h2:=mapM_some_length h;exact⟨r[i]'(by omega),by rw [h1,List.getElem?_eq_getElem (by omega)]⟩
theorem Zjv {α:Type} {Q:Nat→α→Prop}:∀{n:Nat},(∀i,i < n→∃a,Q i a)→∃l:List α,l.length=n∧∀(i:Nat) (h:i < l.length),Q i l[i]
 | 0,_=>⟨[],rfl,λi h=>by simp at h⟩
 | n+1,h=>by
   obtain⟨l,hl,hq⟩:=Zjv (n:=n) λi hi=>h i (by omega);obtain⟨a,ha⟩:=h n (by omega);refine⟨l++[a],by simp [hl],λi hi=>?_⟩;rw [List.length_append,hl] at hi;by_cases hj:i < n
   ·rw [List.getElem_append_left (by omega)];exact hq i (by omega)
   ·have:i=n:=by simp at hi;omega
    subst this;rw [List.getElem_append_right (by omega)]
    simpa [hl] using ha
theorem Zix (P:Program) (N:Nat):∀(n:Nat) (t:TypeId) (aS:List AV),Zc9 P n t=true→Zc2 P N n t aS→aS.length=P.cellsOf t∧(Zdf P t aS).cells=aS∧(Zfs P t=false→∃a,aS=[a])
 | 0,_,_,h,_=>by simp [Zc9] at h
 | n+1,t,aS,hp,hs=>by
   unfold Zc9 at hp;unfold Zc2 at hs
   have one:∀a:AV,aS=[a]→P.cellsOf t=1→Zfs P t=false→a.cells=[a]→aS.length=P.cellsOf t∧(Zdf P t aS).cells=aS∧(Zfs P t=false→∃a,aS=[a]):=by
    intro a ha h1 h2 h3;subst ha;refine⟨by simp [h1],?_,λ_=>⟨a,rfl⟩⟩;unfold Zdf;rw [h2];exact h3
   split at hs
   ·rename_i hu;rw [hu] at hp;obtain⟨b,rfl⟩:=hs;exact one _ rfl (by simpa using hp) (by simp [Zfs,hu]) rfl
   ·rename_i hu;rw [hu] at hp;obtain⟨b,rfl,_⟩:=hs;exact one _ rfl (by simpa using hp) (by simp [Zfs,hu]) rfl
   ·rename_i hu;rw [hu] at hp;obtain⟨b,rfl,_⟩:=hs;exact one _ rfl (by simpa using hp) (by simp [Zfs,hu]) rfl
   ·rename_i e hu;rw [hu] at hp;obtain⟨es,rfl,_⟩:=hs;simp only [Bool.and_eq_true,beq_iff_eq] at hp;exact one _ rfl hp.1 (by simp [Zfs,hu]) rfl
   ·rename_i fs hu;have ha:Zfs P t=true:=by simp [Zfs,hu]
    refine⟨hs.1,?_,λh=>by rw [ha] at h;cases h⟩;unfold Zdf;rw [if_pos ha];rfl
   ·exact hs.elim
section
variable {H:Type} {enc:TypeId × Value→H} {P:Program} {w:World} {spare:Nat→Bool} {held:Bool}
theorem Zh9 {N n fuel total:Nat} {cs:List Value}
 (ih:∀(t:TypeId) (cs:List Value) (d:DataW H) (ps:List MemPlace),Zc9 P n t=true→Zkv N d→DataW.trod enc P w 0 spare held fuel t cs=some (d,ps)→∃aS,Zc2 P N n t aS∧(∀x∈aS,x.one=true)∧Cs w aS cs) (hcs:cs.length=total) :
 ∀(fs:List Field) (off:Nat) (xs:List (DataW H × List MemPlace)),Zfn P total off fs=true→off≤total→(fs.all λf=>Zc9 P n f.type)=true →
  (fs.mapM λf=>DataW.trod enc P w 0 spare held fuel f.type ((cs.drop f.offset).take (P.cellsOf f.type)))=some xs→(∀x∈xs,Zkv N x.1) →
  ∃aS,(∀x∈aS,x.one=true)∧Cs w aS (cs.drop off)∧∀f∈fs,off≤f.offset∧Zc2 P N n f.type ((aS.drop (f.offset - off)).take (P.cellsOf f.type))
 | [],off,xs,hc,hle,hp,hm,hw=>by
   unfold Zfn at hc;have:off=total:=by simpa using hc
   subst this;refine⟨[],by simp,?_,by simp⟩;rw [List.drop_eq_nil_of_le (by omega)];exact Cs.nil
 | f :: fs,off,xs,hc,hle,hp,hm,hw=>by
   unfold Zfn at hc;simp only [Bool.and_eq_true,beq_iff_eq] at hc;simp only [List.all_cons,Bool.and_eq_true] at hp;obtain⟨ho,hc⟩:=hc;rw [List.mapM_cons] at hm
   cases h1:DataW.trod enc P w 0 spare held fuel f.type ((cs.drop f.offset).take (P.cellsOf f.type)) with
   | none=>rw [h1] at hm;cases hm
   | some x =>
     cases h2:(fs.mapM λf=>DataW.trod enc P w 0 spare held fuel f.type ((cs.drop f.offset).take (P.cellsOf f.type))) with
     | none=>rw [h1,h2] at hm;cases hm
     | some ys =>
       have hxs:xs=x :: ys:=by rw [h1,h2] at hm;simpa using hm.symm
       subst hxs;obtain⟨aS,hs,hone,hcs1⟩:=ih f.type _ x.1 x.2 hp.1 (hw x List.mem_cons_self) h1;have hlen:=(Zix P N n f.type aS hp.1 hs).1;have hl2:=hcs1.1;rw [hlen,List.length_take,List.length_drop,ho,hcs] at hl2;obtain⟨bs,bone,hcs2,hbs⟩:=Zh9 ih hcs fs (off+P.cellsOf f.type) ys hc (by omega) hp.2 h2 (λy hy=>hw y (List.mem_cons_of_mem _ hy));refine⟨aS++bs,λx hx=>(List.mem_append.1 hx).elim (hone x) (bone x),?_,λg hg=>?_⟩
       ·have:=hcs1.append hcs2
        rwa [ho,←List.drop_drop,List.take_append_drop] at this
       ·rcases List.mem_cons.1 hg with rfl | hg
        ·refine⟨by omega,?_⟩;rw [ho,Nat.sub_self,List.drop_zero,←hlen,List.take_left];exact hs
        ·obtain⟨h3,h4⟩:=hbs g hg;refine⟨by omega,?_⟩;rw [show g.offset - off=aS.length+(g.offset - (off+P.cellsOf f.type)) by omega,←List.drop_drop,List.drop_left];exact h4
theorem Zhs {N:Nat}:∀(n fuel:Nat) (t:TypeId) (cs:List Value) (d:DataW H) (ps:List MemPlace),Zc9 P n t=true→Zkv N d→DataW.trod enc P w 0 spare held fuel t cs=some (d,ps) →
 ∃aS,Zc2 P N n t aS∧(∀x∈aS,x.one=true)∧Cs w aS cs
 | 0,_,_,_,_,_,h,_,_=>by simp [Zc9] at h
 | n+1,0,_,_,_,_,_,_,h=>by simp [DataW.trod] at h
 | n+1,fuel+1,t,cs,d,ps,hp,hN,ht=>by
   unfold Zc9 at hp;unfold DataW.trod at ht;unfold Zc2
   cases hu:P.underlying t with
   | none=>rw [hu] at hp;cases hp
   | some td =>
     rw [hu] at hp ht
     cases td with
     | bool =>
       rcases cs with _ | ⟨x,_ | ⟨y,r⟩⟩<;>try (simp at ht;done)
       cases x<;>try (simp at ht;done)
       refine⟨_,⟨_,rfl⟩,?_,Cs.one (.v _)⟩;intro x hx;simp at hx;subst hx;rfl
     | int k =>
       rcases cs with _ | ⟨x,_ | ⟨y,r⟩⟩<;>try (simp at ht;done)
       cases x<;>try (simp at ht;done)
       rename_i k' i;simp only at ht;split at ht
       ·rename_i hk;obtain⟨rfl,hw⟩:=hk;refine⟨_,⟨i,rfl,hw⟩,?_,Cs.one (.v _)⟩;intro x hx;simp at hx;subst hx;rfl
       ·cases ht
     | string =>
       rcases cs with _ | ⟨x,_ | ⟨y,r⟩⟩<;>try (simp at ht;done)
       cases x<;>try (simp at ht;done)
       rename_i s;simp only at ht;split at ht
       ·rename_i hs
        have hz:s.size≤N:=by
         rcases hN with h | h
         ·omega
         ·cases ht;unfold bulk at h;have:s.data.toList.length=s.size:=by rw [Array.length_toList];rfl
          omega
        refine⟨_,⟨s,rfl,hz⟩,?_,Cs.one (.v _)⟩;intro x hx;simp at hx;subst hx;rfl
       ·cases ht
     | slice e =>
       simp only [Bool.and_eq_true,beq_iff_eq] at hp;rcases cs with _ | ⟨x,_ | ⟨y,r⟩⟩<;>try (simp at ht;done)
       cases x<;>try (simp at ht;done)
       rename_i A len cap
       cases A with
       | none =>
         have h0:len=0∧cap=0:=by
          simp only at ht;split at ht<;>simp_all
         obtain⟨rfl,rfl⟩:=h0;refine⟨_,⟨[],rfl,by simp,by simp⟩,?_,Cs.one ?_⟩
         ·intro x hx;simp at hx;subst hx;rfl
         ·exact .sl _ [] none 0 (λ_=>undef) (by simp) (by simp) (Nat.le_refl _) (by simp) (by simp) (by simp [flat])
       | some a =>
         simp only at ht;split at ht
         ·rename_i hc;obtain⟨elems,he,ht⟩:=Option.bind_eq_some_iff.1 ht;have hel:elems.length=len:=by have:=mapM_some_length he;simpa using this
          have hd:∃rest:List (DataW H),d=.slice (elems.map (·.1)) rest:=by
           obtain⟨rest,_,hr⟩:=Option.map_eq_some_iff.1 ht;exact⟨rest.map (·.1),(congrArg Prod.fst hr).symm⟩
          obtain⟨rest,rfl⟩:=hd
          have hlN:len≤N:=by
           rcases hN with h | h
           ·omega
           ·unfold bulk at h;have:=Zqb (elems.map (·.1));rw [List.length_map] at this;omega
          have hsub:∀y∈elems,Zkv N y.1:=by
           intro y hy;rcases hN with h | h
           ·exact .inl h
           ·unfold bulk at h;have:=Zlz (List.mem_map_of_mem (f:=(·.1)) hy);exact .inr (by omega)
          have key:∀i,i < len→∃aS:List AV,Zc2 P N n e aS∧(∀x∈aS,x.one=true)∧∃vals:List Value,Cs w aS vals∧vals.length=P.cellsOf e∧∀j,j < P.cellsOf e→w.cell? (a.add (i*P.cellsOf e+j))=vals[j]?:=by
           intro i hi;obtain⟨y,hy⟩:=mapM_inv he i (List.mem_range.2 hi);obtain⟨vals,hv,ht2⟩:=Option.bind_eq_some_iff.1 hy
           have hye:y∈elems:=by
            have h5:=mapM_some_get he i i (by rw [List.getElem?_range hi]);rw [hy] at h5;exact List.mem_of_getElem? h5.symm
           obtain⟨aS,h1,h2,h3⟩:=Zhs n fuel e vals y.1 y.2 hp.2 (hsub y hye) ht2;unfold World.cells? at hv;rw [if_pos (Nat.zero_le _)] at hv;refine⟨aS,h1,h2,vals,h3,by have:=mapM_some_length hv;simpa using this,λj hj=>?_⟩;have:=mapM_some_get hv j j (by rw [List.getElem?_range hj])
           rwa [Addr.add_add] at this
          obtain⟨es,hes,hq⟩:=Zjv key
          have hwrap:∀x∈es,(Zdf P e x).cells.length=P.cellsOf e∧(Zdf P e x).cells=x∧(Zdf P e x).ok=true:=by
           intro x hx;obtain⟨i,hi,rfl⟩:=List.mem_iff_getElem.1 hx;obtain⟨h1,h2,_⟩:=hq i hi;obtain⟨k1,k2,k3⟩:=Zix P N n e es[i] hp.2 h1;refine⟨by rw [k2];exact k1,k2,?_⟩;unfold Zdf;split
           ·show List.all es[i] AV.one=true;rw [List.all_eq_true];exact h2
           ·rename_i hag;obtain⟨b,hb⟩:=k3 (by simpa using hag);rw [hb];have h4:b.one=true:=h2 b (by rw [hb];simp);show b.ok=true;cases b<;>first|exact h4|cases h4
          have hm:∀x∈es.map (Zdf P e),x.cells.length=P.cellsOf e:=by
           intro x hx;obtain⟨y,hy,rfl⟩:=List.mem_map.1 hx;exact(hwrap y hy).1
          have hcell:∀i j,i < len→j < P.cellsOf e→∃v,w.cell? (a.add (i*P.cellsOf e+j))=some v∧∀b,(flat (es.map (Zdf P e)))[i*P.cellsOf e+j]?=some b→Rd w (imm0 w) b v:=by
           intro i j hi hj;obtain⟨h1,h2,vals,h3,h4,h5⟩:=hq i (by omega);refine⟨vals[j],by rw [h5 j hj,List.getElem?_eq_getElem (by omega)],λb hb=>?_⟩;rw [Zen hm i j hj (by rw [List.length_map];omega),List.getD_eq_getElem?_getD,List.getElem?_map,List.getElem?_eq_getElem (by omega:i < es.length),Option.map_some,Option.getD_some,(hwrap _ (List.getElem_mem _)).2.1] at hb;exact h3.2 j b _ hb (List.getElem?_eq_getElem (by omega))
          have hdm:∀j,j < len*P.cellsOf e→j/P.cellsOf e < len∧j%P.cellsOf e < P.cellsOf e∧j/P.cellsOf e*P.cellsOf e+j%P.cellsOf e=j:=by
           intro j hj
           have h0:0 < P.cellsOf e:=by
            rcases Nat.eq_zero_or_pos (P.cellsOf e) with h | h
            ·rw [h] at hj;omega
            ·exact h
           refine⟨Nat.div_lt_of_lt_mul (by rw [Nat.mul_comm];exact hj),Nat.mod_lt _ h0,?_⟩;rw [Nat.mul_comm];exact Nat.div_add_mod _ _
          have hlen:(es.map (Zdf P e)).length=len:=by rw [List.length_map,hes]
          refine⟨_,⟨es,rfl,by omega,λx hx=>?_⟩,?_,Cs.one ?_⟩
          ·obtain⟨i,hi,rfl⟩:=List.mem_iff_getElem.1 hx;exact(hq i hi).1
          ·intro x hx;simp at hx;subst hx;rfl
          ·have:=Rd.sl (w:=w) (imm:=imm0 w) (P.cellsOf e) (es.map (Zdf P e)) (some a) cap (λj=>(w.cell? (a.add j)).getD undef) hm (λx hx=>by
            obtain⟨y,hy,rfl⟩:=List.mem_map.1 hx;exact(hwrap y hy).2.2) (by rw [hlen];exact hc.2.1) (by simp) (λj hj=>by
            rw [hlen] at hj;obtain⟨k1,k2,k3⟩:=hdm j hj;obtain⟨v,hv,_⟩:=hcell _ _ k1 k2;rw [k3] at hv;exact⟨a,rfl,Zsv hv,by rw [hv];rfl⟩) (λj b hb=>by
            have hj:j < len*P.cellsOf e:=by
             have:=Zbp hb
             rwa [Zbc hm,hlen] at this
            obtain⟨k1,k2,k3⟩:=hdm j hj;obtain⟨v,hv,hr⟩:=hcell _ _ k1 k2;rw [k3] at hv hr;rw [hv];exact hr b hb)
           rwa [hlen] at this
         ·cases ht
     | struct fs =>
       simp only [Bool.and_eq_true] at hp ⊢;simp only at ht;split at ht
       ·rename_i hlen;obtain⟨xs,hx,hxd⟩:=Option.map_eq_some_iff.1 ht;obtain⟨aS,h1,h2,h3⟩:=Zh9 (N:=N) (λt cs d ps a b c=>Zhs n fuel t cs d ps a b c) hlen fs.toList 0 xs hp.1 (Nat.zero_le _) hp.2 hx (λx hx=>by
         rcases hN with h | h
         ·exact .inl h
         ·have hd:DataW.agg (xs.map (·.1))=d:=congrArg Prod.fst hxd;subst hd;unfold bulk at h;have:=Zlz (List.mem_map_of_mem (f:=(·.1)) hx);exact .inr (by omega))
        rw [List.drop_zero] at h2;refine⟨aS,⟨by rw [h2.1,hlen],λf hf=>?_⟩,h1,h2⟩;have:=(h3 f hf).2
        rwa [Nat.sub_zero] at this
       ·cases ht
     | _=>cases hp
def ShapeV (P:Program) (N n:Nat) (t:TypeId) (a:AV):Prop:=∃aS,a=Zdf P t aS∧Zc2 P N n t aS
inductive ShapeL (P:Program) (N n:Nat):List TypeId→List AV→Prop
 | nil:ShapeL P N n [] []
 | cons {t:TypeId} {a:AV} {ts:List TypeId} {aS:List AV} (h:ShapeV P N n t a) (r:ShapeL P N n ts aS):ShapeL P N n (t :: ts) (a :: aS)
theorem Znk {N n:Nat} {t:TypeId} {v:Value} {d:DataW H} {ps:List MemPlace} (hp:Zc9 P n t=true) (hN:Zkv N d) (h:DataW.Trod enc P w 0 spare held t v d ps) {base:Nat} (hok:Value.okWide P w .any base t v):∃a,ShapeV P N n t a∧Rd w (imm0 w) a v:=by
 obtain⟨fuel,hf⟩:=h;obtain⟨aS,h1,h2,h3⟩:=Zhs n fuel t _ d ps hp hN hf;refine⟨Zdf P t aS,⟨aS,rfl,h1⟩,?_⟩
 cases hag:Zfs P t with
 | true =>
   unfold Zdf;rw [hag,if_pos rfl]
   obtain⟨cs,rfl⟩:∃cs,v=.agg cs:=by
    unfold Zfs at hag;split at hag
    ·rename_i fs hu;simp only [Value.okWide,hu] at hok;obtain⟨cs,rfl,_⟩:=hok;exact⟨cs,rfl⟩
    ·cases hag
   refine .agg aS cs ?_ λj a x k1 k2=>h3.2 j a x k1 ?_
   ·have:=h3.1;simpa [Value.cells] using this
   ·simpa [Value.cells] using k2
 | false =>
   obtain⟨a,rfl⟩:=(Zix P N n t aS hp h1).2.2 hag;unfold Zdf;rw [hag,if_neg (by simp)];have hl:=h3.1
   have hva:v.cells.toList=[v]:=by
    cases v with
    | agg cs =>
      exfalso
      cases n with
      | zero=>simp [Zc9] at hp
      | succ n =>
        unfold Zc9 at hp;unfold Zfs at hag;simp only [Value.okWide,Cell.okWide,Cell.ok] at hok;split at hp<;>simp_all
    | _=>rfl
   exact h3.2 0 a v rfl (by rw [hva];rfl)
theorem trodAll_shape {N n base:Nat}:∀{ts:List TypeId} {vs:List Value} {ds:List (DataW H)} {ps:List MemPlace},(ts.all λt=>Zc9 P n t)=true→(maxLen≤N∨Zdw ds≤N)→DataW.TrodAll enc P w 0 spare held ts vs ds ps →
 (∀(j:Nat) t v,ts[j]?=some t→vs[j]?=some v→Value.okWide P w .any base t v)→∃aS,ShapeL P N n ts aS∧Rds w aS vs
 | [],[],[],ps,_,_,_,_=>⟨[],.nil,.nil⟩
 | t :: ts,v :: vs,d :: ds,ps,hp,hN,h,hok=>by
   simp only [List.all_cons,Bool.and_eq_true] at hp
   have hN1:Zkv N d:=by
    rcases hN with h | h
    ·exact .inl h
    ·unfold Zdw at h;exact .inr (by omega)
   have hN2:maxLen≤N∨Zdw ds≤N:=by
    rcases hN with h | h
    ·exact .inl h
    ·unfold Zdw at h;exact .inr (by omega)
   obtain⟨p,q,h1,h2,_⟩:=h;obtain⟨a,k1,k2⟩:=Znk hp.1 hN1 h1 (hok 0 t v rfl rfl);obtain⟨aS,k3,k4⟩:=trodAll_shape hp.2 hN2 h2 λj t v e1 e2=>hok (j+1) t v (by simpa using e1) (by simpa using e2);exact⟨a :: aS,.cons k1 k3,.cons k2 k4⟩
 | [],[],_ :: _,_,_,_,h,_=>h.elim
 | [],_ :: _,_,_,_,_,h,_=>h.elim
 | _ :: _,[],_,_,_,_,h,_=>h.elim
 | _ :: _,_ :: _,[],_,_,_,h,_=>h.elim
theorem trodAll_below (hl:laidOutB P=true) {W':World}:∀{ts:List TypeId} {vs:List Value} {ds:List (DataW H)} {ps:List MemPlace},(ts.all λt=>P.readableRec t && decide (t < P.types.size))=true →
 DataW.TrodAll enc P w 0 (λ_=>true) true ts vs ds ps→Below w.heap.size w W'→DataW.TrodAll enc P W' 0 (λb=>decide (b < w.heap.size)) true ts vs ds ps
 | [],[],[],ps,_,h,_=>h
 | t :: ts,v :: vs,d :: ds,ps,hp,h,hb=>by
   simp only [List.all_cons,Bool.and_eq_true,decide_eq_true_eq] at hp;obtain⟨p,q,h1,h2,h3⟩:=h;have lt0:∀x∈p,x.block < w.heap.size:=by obtain⟨m,hm⟩:=h1;exact DataW.trod_lt m _ _ _ hm
   exact⟨p,q,Below.trod hl hp.1.1 hp.1.2 h1 hb lt0,trodAll_below hl hp.2 h2 hb,h3⟩
 | [],[],_ :: _,_,_,h,_=>h.elim
 | [],_ :: _,_,_,_,h,_=>h.elim
 | _ :: _,[],_,_,_,h,_=>h.elim
 | _ :: _,_ :: _,[],_,_,h,_=>h.elim
end
section
variable {P:Program} {N n:Nat} {t e:TypeId} {aS:List AV} {k:IntKind} {fs:Array Field}
theorem Zqj (hu:P.underlying t=some .bool) (h:Zc2 P N n t aS):∃b,aS=[.v (.bool b)]:=by
 cases n with
 | zero=>exact h.elim
 | succ n=>unfold Zc2 at h;rw [hu] at h;exact h
theorem Ziy (hu:P.underlying t=some (.int k)) (h:Zc2 P N n t aS):∃i,aS=[.v (.int k i)]∧(Lit.int k i).wf=true:=by
 cases n with
 | zero=>exact h.elim
 | succ n=>unfold Zc2 at h;rw [hu] at h;exact h
theorem Zns (hu:P.underlying t=some (.slice e)) (h:Zc2 P N n t aS):∃(m:Nat) (es:List (List AV)),n=m+1∧aS=[.sl (P.cellsOf e) (es.map (Zdf P e))]∧es.length≤N∧∀x∈es,Zc2 P N m e x:=by
 cases n with
 | zero=>exact h.elim
 | succ n=>unfold Zc2 at h;rw [hu] at h;obtain⟨es,h1,h2,h3⟩:=h;exact⟨n,es,rfl,h1,h2,h3⟩
inductive ShapeF (P:Program) (N m:Nat):List Field→List AV→Prop
 | nil:ShapeF P N m [] []
 | cons {f:Field} {fs:List Field} {x y:List AV} (h:Zc2 P N m f.type x) (r:ShapeF P N m fs y):ShapeF P N m (f :: fs) (x++y)
theorem ShapeF.inv {m:Nat} {f:Field} {fs:List Field} {aS:List AV} (h:ShapeF P N m (f :: fs) aS):∃x y,aS=x++y∧Zc2 P N m f.type x∧ShapeF P N m fs y:=by
 cases h with
 | cons h r=>exact⟨_,_,rfl,h,r⟩
theorem ShapeF.inv0 {m:Nat} {aS:List AV} (h:ShapeF P N m [] aS):aS=[]:=by cases h;rfl
theorem Zl9 {m total:Nat}:∀{fs:List Field} {off:Nat} {aS:List AV},Zfn P total off fs=true→off≤total→aS.length=total→(∀f∈fs,Zc2 P N m f.type ((aS.drop f.offset).take (P.cellsOf f.type)))→ShapeF P N m fs (aS.drop off)
 | [],off,aS,hc,_,hl,_=>by
   unfold Zfn at hc;have:off=total:=by simpa using hc
   rw [List.drop_eq_nil_of_le (by omega)];exact .nil
 | f :: fs,off,aS,hc,ho,hl,hf=>by
   unfold Zfn at hc;simp only [Bool.and_eq_true,beq_iff_eq] at hc;have h1:=hf f List.mem_cons_self;rw [hc.1] at h1;rw [←List.take_append_drop (P.cellsOf f.type) (aS.drop off),List.drop_drop];refine .cons h1 ?_;by_cases hle:off+P.cellsOf f.type≤total
   ·exact Zl9 hc.2 hle hl λg hg=>hf g (List.mem_cons_of_mem _ hg)
   ·exfalso
    have key:∀(fs:List Field) (off:Nat),Zfn P total off fs=true→off≤total:=by
     intro fs
     induction fs with
     | nil=>intro off h;unfold Zfn at h;have:off=total:=by simpa using h
            omega
     | cons g gs ih=>intro off h;unfold Zfn at h;simp only [Bool.and_eq_true,beq_iff_eq] at h;have:=ih _ h.2;omega
    exact hle (key fs _ hc.2)
theorem Zfx (hu:P.underlying t=some (.struct fs)) (hc:Zfn P (P.cellsOf t) 0 fs.toList=true) (h:Zc2 P N n t aS):∃m,n=m+1∧ShapeF P N m fs.toList aS:=by
 cases n with
 | zero=>exact h.elim
 | succ n =>
   unfold Zc2 at h;rw [hu] at h;refine⟨n,rfl,?_⟩;have:=Zl9 (N:=N) (m:=n) hc (Nat.zero_le _) h.1 h.2
   rwa [List.drop_zero] at this
theorem map_of {α β:Type} {g:β→α} {Q:β→Prop}:∀{l:List α},(∀x∈l,∃b,x=g b∧Q b)→∃bs:List β,l=bs.map g∧∀b∈bs,Q b
 | [],_=>⟨[],rfl,by simp⟩
 | x :: l,h=>by
   obtain⟨b,hb,hq⟩:=h x List.mem_cons_self;obtain⟨bs,hbs,hqs⟩:=map_of (l:=l) λy hy=>h y (List.mem_cons_of_mem _ hy);refine⟨b :: bs,by rw [hb,hbs];rfl,λc hc=>?_⟩;rcases List.mem_cons.1 hc with rfl | hc
   ·exact hq
   ·exact hqs c hc
theorem Zrc (hu:P.underlying t=some (.struct fs)) (aS:List AV):Zdf P t aS=.agg aS:=by simp [Zdf,Zfs,hu]
theorem Zft (h:Zfs P t=false) (a:AV):Zdf P t [a]=a:=by simp [Zdf,h]
theorem Zfa {β:Type} {g:β→List AV} {Q:β→Prop} (hu:P.underlying t=some (.slice e)) (h:Zc2 P N n t aS) (hx:∀m x,Zc2 P N m e x→∃b,x=g b∧Q b) :
 ∃bs:List β,aS=[.sl (P.cellsOf e) (bs.map λb=>Zdf P e (g b))]∧bs.length≤N∧∀b∈bs,Q b:=by
 obtain⟨m,es,rfl,rfl,hl,hs⟩:=Zns hu h;obtain⟨bs,rfl,hq⟩:=map_of λx hx'=>hx m x (hs x hx');refine⟨bs,by rw [List.map_map];rfl,by simpa using hl,hq⟩
theorem ShapeL.inv {N n:Nat} {t:TypeId} {ts:List TypeId} {aS:List AV} (h:ShapeL P N n (t :: ts) aS):∃x bs,aS=Zdf P t x :: bs∧Zc2 P N n t x∧ShapeL P N n ts bs:=by
 cases h with
 | cons h r=>obtain⟨x,rfl,hx⟩:=h;exact⟨x,_,rfl,hx,r⟩
theorem ShapeL.inv0 {N n:Nat} {aS:List AV} (h:ShapeL P N n [] aS):aS=[]:=by cases h;rfl
theorem wf_u16 {i:Int} (h:(Lit.int .u16 i).wf=true):0≤i∧i < 65536:=by
 have h:(decide ((0:Int)≤i) && decide (i≤65535))=true:=h;simp only [Bool.and_eq_true,decide_eq_true_eq] at h;omega
end
end
mutual
def AV.sh:AV→AV
 | .agg cs=>.agg (AV.shL cs)
 | .tup cs=>.tup (AV.shL cs)
 | .fn f cs=>.fn f (AV.shL cs)
 | .ifc t x=>.ifc t (AV.sh x)
 | .own k sv=>.own (k+1000) sv
 | .prow k sv m i off=>.prow (k+1000) sv m i off
 | .pbox k g off=>.pbox (k+1000) g off
 | .view k sv m i len=>.view (k+1000) sv m i len
 | .mp k g=>.mp (k+1000) g
 | .v x=>.v x
 | .sl m es=>.sl m es
 | .pimm cs=>.pimm cs
 | .u=>.u
def AV.shL:List AV→List AV
 | []=>[]
 | a :: r=>AV.sh a :: AV.shL r
end
theorem AV.shL_len:∀(l:List AV),(AV.shL l).length=l.length
 | []=>rfl
 | a :: r=>by simp only [AV.shL,List.length_cons,AV.shL_len r]
theorem AV.shL_at:∀(l:List AV) (j:Nat),(AV.shL l)[j]?=(l[j]?).map AV.sh
 | [],j=>by simp [AV.shL]
 | a :: r,0=>by simp [AV.shL]
 | a :: r,j+1=>by simp only [AV.shL,List.getElem?_cons_succ];exact AV.shL_at r j
theorem AV.sh_one (a:AV):a.sh.one=a.one:=by cases a<;>simp only [AV.sh]<;>rfl
theorem Sub.agg (aS bs:List AV) (hl:aS.length=bs.length) (h:∀(j:Nat) (a b:AV),aS[j]?=some a→bs[j]?=some b→Sub a b):Sub (.agg aS) (.agg bs):=λw imm x hx=>by
 obtain⟨vs,rfl,h1,h2⟩:=hx.agg_inv;refine .agg _ _ (by omega) λj b y hb hy=>?_;have hj:j < aS.length:=by rw [hl];exact(List.getElem?_eq_some_iff.1 hb).1
 exact h j aS[j] b (List.getElem?_eq_getElem hj) hb w imm y (h2 j aS[j] y (List.getElem?_eq_getElem hj) hy)
theorem Sub.fn (f:FuncId) (aS bs:List AV) (hl:aS.length=bs.length) (h:∀(j:Nat) (a b:AV),aS[j]?=some a→bs[j]?=some b→Sub a b):Sub (.fn f aS) (.fn f bs):=λw imm x hx=>by
 obtain⟨vs,rfl,h1,h2⟩:=hx.fn_inv;refine .fn _ _ _ (by omega) λj b y hb hy=>?_;have hj:j < aS.length:=by rw [hl];exact(List.getElem?_eq_some_iff.1 hb).1
 exact h j aS[j] b (List.getElem?_eq_getElem hj) hb w imm y (h2 j aS[j] y (List.getElem?_eq_getElem hj) hy)
theorem Sub.ifc (t:TypeId) {a b:AV} (h:Sub a b):Sub (.ifc t a) (.ifc t b):=λw imm x hx=>by
 obtain⟨y,rfl,h1⟩:=hx.ifc_inv;exact .ifc _ _ _ (h w imm y h1)
mutual
theorem AV.sub_sh:∀(a:AV),Sub a a.sh∧Sub a.sh a
 | .agg cs=>by
   have h:=AV.subL_sh cs;refine⟨Sub.agg _ _ (AV.shL_len cs).symm λj a b h1 h2=>?_,Sub.agg _ _ (AV.shL_len cs) λj a b h1 h2=>?_⟩
   ·rw [AV.shL_at,h1] at h2;cases h2;exact(h a (List.mem_of_getElem? h1)).1
   ·rw [AV.shL_at,h2] at h1;cases h1;exact(h b (List.mem_of_getElem? h2)).2
 | .tup cs=>by
   have h:=AV.subL_sh cs;refine⟨Sub.tup _ _ (AV.shL_len cs).symm λj a b h1 h2=>?_,Sub.tup _ _ (AV.shL_len cs) λj a b h1 h2=>?_⟩
   ·rw [AV.shL_at,h1] at h2;cases h2;exact(h a (List.mem_of_getElem? h1)).1
   ·rw [AV.shL_at,h2] at h1;cases h1;exact(h b (List.mem_of_getElem? h2)).2
 | .fn f cs=>by
   have h:=AV.subL_sh cs;refine⟨Sub.fn _ _ _ (AV.shL_len cs).symm λj a b h1 h2=>?_,Sub.fn _ _ _ (AV.shL_len cs) λj a b h1 h2=>?_⟩
   ·rw [AV.shL_at,h1] at h2;cases h2;exact(h a (List.mem_of_getElem? h1)).1
   ·rw [AV.shL_at,h2] at h1;cases h1;exact(h b (List.mem_of_getElem? h2)).2
 | .ifc t x=>⟨Sub.ifc t (AV.sub_sh x).1,Sub.ifc t (AV.sub_sh x).2⟩
 | .own k sv=>⟨Sub.own _ _ _,Sub.own _ _ _⟩
 | .prow k sv m i off=>⟨Sub.prow _ _ _ _ _ _,Sub.prow _ _ _ _ _ _⟩
 | .pbox k g off=>⟨Sub.pbox _ _ _ _,Sub.pbox _ _ _ _⟩
 | .view k sv m i len=>⟨Sub.view _ _ _ _ _ _,Sub.view _ _ _ _ _ _⟩
 | .mp k g=>⟨Sub.mp _ _ _,Sub.mp _ _ _⟩
 | .v x=>⟨Sub.refl _,Sub.refl _⟩
 | .sl m es=>⟨Sub.refl _,Sub.refl _⟩
 | .pimm cs=>⟨Sub.refl _,Sub.refl _⟩
 | .u=>⟨Sub.refl _,Sub.refl _⟩
theorem AV.subL_sh:∀(l:List AV) (a:AV),a∈l→Sub a a.sh∧Sub a.sh a
 | [],a,h=>by simp at h
 | b :: r,a,h=>by
   by_cases e:a=b
   ·rw [e];exact AV.sub_sh b
   ·exact AV.subL_sh r a ((List.mem_cons.1 h).resolve_left e)
end
def Ent.sh:Ent→Ent
 | .row sv e m es pub=>.row sv e m es pub
 | .box g e cs pub=>.box g e (AV.shL cs) pub
 | .map g es=>.map g es
theorem Ent.sh_blk (e:Ent):e.sh.blk=e.blk:=by cases e<;>rfl
theorem Ent.sh_ok {B:Nat} {w:World} {imm:Imm} {e:Ent} (h:EntOk B w imm e):EntOk B w imm e.sh:=by
 cases e with
 | row=>exact h
 | box g e cs pub =>
   obtain⟨cur,h1,h2,h3,h4,h5,h6,h7⟩:=h;refine⟨cur,h1,h2,by rw [AV.shL_len];exact h3,λx hx=>?_,λj a x ha hx=>?_,h6,λhp off ho=>h7 hp off (by rw [AV.shL_len] at ho;exact ho)⟩
   ·obtain⟨j,hj⟩:=List.mem_iff_getElem?.1 hx;rw [AV.shL_at] at hj;obtain⟨y,hy,rfl⟩:=Option.map_eq_some_iff.1 hj;rw [AV.sh_one];exact h4 y (List.mem_of_getElem? hy)
   ·rw [AV.shL_at] at ha;obtain⟨y,hy,rfl⟩:=Option.map_eq_some_iff.1 ha;exact(AV.sub_sh y).1 w imm x (h5 j y x hy hx)
 | map=>exact h
theorem Ent.of_sh {B:Nat} {w:World} {imm:Imm} {e:Ent} (h:EntOk B w imm e.sh):EntOk B w imm e:=by
 cases e with
 | row=>exact h
 | box g e cs pub =>
   obtain⟨cur,h1,h2,h3,h4,h5,h6,h7⟩:=h;refine⟨cur,h1,h2,by rw [AV.shL_len] at h3;exact h3,λx hx=>?_,λj a x ha hx=>?_,h6,λhp off ho=>h7 hp off (by rw [AV.shL_len];exact ho)⟩
   ·obtain⟨j,hj⟩:=List.mem_iff_getElem?.1 hx;have h8:=h4 x.sh (List.mem_of_getElem? (i:=j) (by rw [AV.shL_at,hj];rfl));rw [AV.sh_one] at h8;exact h8
   ·exact(AV.sub_sh a).2 w imm x (h5 j a.sh x (by rw [AV.shL_at,ha];rfl) hx)
 | map=>exact h
def Zie (σ:Mem):Mem:=λk=>if k < 1000 then none else (σ (k - 1000)).map Ent.sh
theorem Zb7 {σ:Mem} {k:Nat} {e:Ent} (h:σ k=some e):Zie σ (k+1000)=some e.sh:=by
 unfold Zie;rw [if_neg (by omega),Nat.add_sub_cancel,h];rfl
theorem Zcn {σ:Mem} {k:Nat} (h:k < 1000):Zie σ k=none:=by unfold Zie;rw [if_pos h]
def Agr (m σ:Mem):Prop:=∀k,m (k+1000)=(σ k).map Ent.sh
theorem Agr.start (σ:Mem):Agr (Zie σ) σ:=λk=>by unfold Zie;rw [if_neg (by omega),Nat.add_sub_cancel]
theorem Agr.own {m σ:Mem} (h:Agr m σ) {t:Nat} {x:Option Ent} (ht:t < 1000):Agr (upd m t x) σ:=λk=>by
 rw [Zaz,if_neg (by omega)];exact h k
theorem Agr.mark {m σ:Mem} (h:Agr m σ) {t:Nat} (ht:t < 1000):Agr (mark m t) σ:=h.own ht
theorem Agr.put {m σ:Mem} (h:Agr m σ) {t k:Nat} {e e':Ent} (ht:t=k+1000) (he:e'=e.sh):Agr (upd m t (some e')) (upd σ k (some e)):=λj=>by
 subst ht;subst he;rw [Zaz,Zaz];by_cases hj:j=k
 ·subst hj;rw [if_pos rfl,if_pos rfl];rfl
 ·rw [if_neg (by omega),if_neg hj];exact h j
theorem Agr.same {m σ:Mem} (h:Agr m σ) {t k:Nat} {e e':Ent} (ht:t=k+1000) (hk:σ k=some e) (he:e'=e.sh):Agr (upd m t (some e')) σ:=by
 have:=h.put (k:=k) (e:=e) ht he
 rwa [show upd σ k (some e)=σ from by funext j;rw [Zaz];split;(subst_vars;exact hk.symm);rfl] at this
def BackS (R:AV→Mem→Prop) (b:AV) (m:Mem):Prop:=∃(r:AV) (σ':Mem),Sub b r∧R r σ'∧Agr m σ'
theorem Zox {R:AV→Mem→Prop} {b r:AV} {m σ':Mem} (h:Sub b r) (hR:R r σ') (ha:Agr m σ'):BackS R b m:=⟨r,σ',h,hR,ha⟩
theorem Zc1 {P:Program} {f n:Nat} {fn:Func} {code:Code} {rs:List ResultVar} {args:List AV} {σ:Mem} {R:AV→Mem→Prop} (hf:P.funcs[f]?=some fn) (hb:fn.body=some code) (hn:fn.ntmps=n) (hrs:fn.results=rs.toArray)
 (hc:∀(vs:Array Value) (w:World),(callFunc f vs).run P w=.ok (.enter f vs) w) (hfit:Zbo n code=true) (hal:args.length≤n)
 (h:Za7 P 0 n code (Done P rs λst b=>BackS R b st.mem) ⟨λt=>(AV.shL args).getD t .u,Zie σ⟩):ACall P f args σ R:=by
 have key:=Zcg (σ:=Zie σ) (R:=BackS R) hf hb hn hrs hc hfit (by rw [AV.shL_len];exact hal) h;refine⟨hc,λc w imm vs hm hl hr=>?_⟩
 have hm':Mx c (Zie σ) w imm:=by
  refine⟨⟨λk e hk=>?_,λk k' e e' b h1 h2 h3 h4=>?_,hm.ok.lt,hm.ok.spot⟩,hm.below,hm.lt,hm.old,hm.new,hm.cells⟩
  ·unfold Zie at hk;split at hk
   ·cases hk
   ·obtain⟨e0,h0,rfl⟩:=Option.map_eq_some_iff.1 hk;exact Ent.sh_ok (hm.ok.ent _ _ h0)
  ·unfold Zie at h1 h2;split at h1
   ·cases h1
   ·split at h2
    ·cases h2
    ·obtain⟨e0,k0,rfl⟩:=Option.map_eq_some_iff.1 h1;obtain⟨e1,k1,rfl⟩:=Option.map_eq_some_iff.1 h2;rw [Ent.sh_blk] at h3 h4;have:=hm.ok.apart _ _ _ _ b k0 k1 h3 h4;omega
 refine(key.2 c w imm vs hm' (by rw [AV.shL_len];exact hl) λj a x h1 h2=>?_).mono λe w' he=>?_
 ·rw [AV.shL_at] at h1;obtain⟨y,hy,rfl⟩:=Option.map_eq_some_iff.1 h1;exact(AV.sub_sh y).1 w imm x (hr j y x hy h2)
 ·obtain⟨b,m,imm',x,rfl,⟨r,σ',h1,h2,h3⟩,h5,h6,h7⟩:=he;refine⟨r,σ',imm',x,rfl,h2,h1 _ _ _ h5,⟨⟨λk e hk=>?_,λk k' e e' b h1 h2 k3 k4=>?_,h6.ok.lt,h6.ok.spot⟩,h6.below,h6.lt,h6.old,h6.new,h6.cells⟩,h7⟩
  ·have:=h3 k;rw [hk] at this;exact Ent.of_sh (h6.ok.ent _ _ this)
  ·have e1:=h3 k;have e2:=h3 k';rw [h1] at e1;rw [h2] at e2;have:=h6.ok.apart _ _ _ _ b e1 e2 (by rw [Ent.sh_blk];exact k3) (by rw [Ent.sh_blk];exact k4);omega
theorem Frz.nilBox {n:Nat} {e:Nat→AV} {m:Mem} {k g:Nat} {bt:TypeId} {cs:List AV} (j t mm:Nat) (ty:TypeId) (hm:m k=some (.box g bt cs false)) (hj:cs[j]?=some (.v (.slice none 0 0))) (ht:t≠k) :
 Frz n ⟨e,m⟩ ⟨e,upd (upd m k (some (.box g bt (cs.set j (.own t (.slice none 0 0))) false))) t (some (.row (.slice none 0 0) ty mm [] 0))⟩:=by
 intro c a w imm h
 have h1:Mx c (upd m k (some (.box g bt (cs.set j (.own t (.slice none 0 0))) false))) w imm:=by
  have hk:=h.mem.ok.ent k _ hm;obtain⟨cur,k1,k2,k3,k4,k5,k6,k7⟩:=hk;refine(Zes h.mem (World.grownBy.refl w none) (by simp) (λ_ _=>rfl) k (.box g bt (cs.set j (.own t (.slice none 0 0))) false) ⟨cur,k1,k2,by simpa using k3,λx hx=>?_,λi a x ha hx=>?_,k6,λhp=>by cases hp⟩ λj2 e2 b h1 h2 h3=>⟨by simp,?_⟩).1
  ·rcases List.mem_or_eq_of_mem_set hx with h1 | h1
   ·exact k4 x h1
   ·subst h1;rfl
  ·rw [List.getElem?_set] at ha;split at ha
   ·rename_i hij;subst hij;split at ha
    ·simp only [Option.some.injEq] at ha;subst ha;have:=(k5 j _ x hj hx).v_inv;subst this;exact .own _ _ rfl
    ·cases ha
   ·exact k5 i a x ha hx
  ·show some g≠some b;intro hb;exact h1 (h.mem.ok.apart j2 k e2 _ b h2 hm h3 hb)
 refine⟨imm,h.env,h.size,h.defers,?_⟩;exact(Zes h1 (World.grownBy.refl w none) (by simp) (λ_ _=>rfl) t (.row (.slice none 0 0) ty mm [] 0) ⟨[],World.ownsRow_nil w c.B ty mm,by simp,by simp,by simp [flat],by simp,λad _ h2=>by simp [Value.ownBlock] at h2,λg off h1 _=>by simp [Value.ownBlock] at h1⟩ λj e2 b _ _ _=>⟨by simp,by simp [Ent.blk,Value.ownBlock]⟩).1
attribute [go_sem] AV.sh AV.shL Ent.sh
def EntSub (e e':Ent):Prop:=e'.blk=e.blk∧∀(B:Nat) (w:World) (imm:Imm),EntOk B w imm e→EntOk B w imm e'
theorem EntSub.refl (e:Ent):EntSub e e:=⟨rfl,λ_ _ _ h=>h⟩
theorem EntSub.box {g:Nat} {t:TypeId} {cs cs':List AV} {pub:Bool} (hl:cs'.length=cs.length) (h1:∀x∈cs',x.one=true) (h:∀(j:Nat) (a b:AV),cs[j]?=some a→cs'[j]?=some b→Sub a b):EntSub (.box g t cs pub) (.box g t cs' pub):=by
 refine⟨rfl,λB w imm h0=>?_⟩;obtain⟨cur,k1,k2,k3,k4,k5,k6,k7⟩:=h0;refine⟨cur,k1,k2,by rw [hl];exact k3,h1,λj a x ha hx=>?_,k6,λhp off ho=>k7 hp off (by rw [←hl];exact ho)⟩;have hj:j < cs.length:=by rw [←hl];exact(List.getElem?_eq_some_iff.1 ha).1
 exact h j cs[j] a (List.getElem?_eq_getElem hj) ha w imm x (k5 j cs[j] x (List.getElem?_eq_getElem hj) hx)
def BackG (R:AV→Mem→Prop) (b:AV) (m:Mem):Prop:=∃(r:AV) (σ':Mem) (ρ:Nat→Nat),Sub b r∧R r σ'∧(∀k e,σ' k=some e→∃e0,m (ρ k)=some e0∧EntSub e0 e)∧(∀k k',σ' k≠none→σ' k'≠none→ρ k=ρ k'→k=k')
theorem EntSub.of_sh (e:Ent):EntSub e.sh e:=⟨(Ent.sh_blk e).symm,λ_ _ _ h=>Ent.of_sh h⟩
section
variable {P:Program} {n:Nat} {Q:AE→St→Prop} {e:Nat→AV} {m:Mem}
end
section
variable {P:Program} {c:Cx} {n:Nat}
def LastK (P:Program) (n:Nat) (o:Oper) (K:St→Prop) (st:St):Prop:=(∃c a w imm,Rel c n st a w imm)→∃st',Frz n st st'∧Zbj P 0 [o] [o] (λst1=>∃st2,Frz n st1 st2∧K st2) st'
def LastsK (P:Program) (n:Nat):List Oper→(St→Prop)→St→Prop
 | [],K=>K
 | o :: s,K=>LastK P n o (LastsK P n s K)
def lastOk (n:Nat) (l s:List Oper):Bool :=
 s.all (λo=>Zfk n o && o.guard.isNone) && l.all (λx=>x.guard.isNone) &&
 ((List.range (l.length+s.length)).all λj=>match (l++s).toArray[j]? with
   | some x=>x.after.toList.all λe=>!Region.binds .any e || decide (e.on < j)
   | none=>true) && (List.range s.length).all λk=>(List.range (l.length+k)).all λj=>Zj3 (l++s).toArray (l.length+s.length) j (l.length+k)
structure LastOk (n:Nat) (l s:List Oper):Prop where
 fits:∀o∈s,Zfk n o=true
 g:∀o∈s,o.guard=none
 gl:∀x∈l,x.guard=none
 dj:∀j x,(l++s).toArray[j]?=some x→∀e∈x.after,Region.binds .any e=true→e.on < j
 r:∀k,k < s.length→∀j,j < l.length+k→Zj3 (l++s).toArray (l.length+s.length) j (l.length+k)=true
theorem r_loopZ {body:Code} {st:St} {Q:AE→St→Prop} (h:Za7 P 0 n (.loop body) (λae st'=>∃st'',Frz n st' st''∧Q ae st'') st):Za7 P 0 n (.loop body) Q st:=λc a w imm hr =>
 Code.wp_mono (λe a' w' hp=>by
  obtain⟨ae,st',imm',rfl,⟨st'',hF,hq⟩,hr'⟩:=hp;obtain⟨imm2,h2⟩:=hF c a' w' imm' hr';exact⟨ae,st'',imm2,rfl,hq,h2⟩) (h c a w imm hr)
end
section
variable {n:Nat} {e:Nat→AV} {m:Mem}
theorem own_one {d k:Nat} {sv:Value} (he:e d=.own k sv) (h:∃c a w imm,Rel c n ⟨e,m⟩ a w imm):sv.oneCell'=true:=by
 obtain⟨c,a,w,imm,h⟩:=h;have ht:=h.env d;rw [show(St.mk e m).env d=_ from he] at ht;exact ht.own_one
end
end Go.Pg
namespace Go.Proofs.YtimmnimikmnljaaGreat
open Go Go.RowKit Go.Pg
attribute [-bool_to_prop] Bool.and_eq_decide Bool.or_eq_decide Bool.decide_beq_decide decide_eq_decide
theorem sz3:szOf Tryz.prog 3=some 1:=by kernel_rfl
theorem by3:Zif Tryz.prog 3=some 8:=by kernel_rfl
theorem z3:Zb1 Tryz.prog 3=some (.int .i64 0):=by kernel_rfl
theorem szL:szOf Tryz.prog 104=some 1:=by kernel_rfl
theorem byL:Zif Tryz.prog 104=some 2:=by kernel_rfl
theorem zL:Zb1 Tryz.prog 104=some (.int .u16 0):=by kernel_rfl
theorem szQ:szOf Tryz.prog 115=some 1:=by kernel_rfl
theorem zQ:Zb1 Tryz.prog 115=some (.int .u64 0):=by kernel_rfl
attribute [local go_sem] Tryz.underlying40 Tryz.underlying3 Tryz.underlying104 Tryz.underlying161 Tryz.underlying115 Tryz.underlying21 sz3 by3 z3 szL byL zL
theorem Za3 (l:List Nat) (hs:l.length≤1000000000) (hl:Lm l):Pure Tryz.prog 170 [lim l] (lim (toL (nv l))):=by
 refine Zaa (tok:=0) (rs:=[.tmp 2]) Tryz.func170 rfl Tryz.ntmps170 Tryz.results170 Tryz.call170 (by rfl) (by simp) ?_;(focus (refine wkvp w_t w_t ?_;(repeat' first|exact w_t|apply w_l);all_goals intros));refine Zal (ι:=Nat) (λk e m=>k≤l.length∧e 0=lim l∧e 3=.v (.int .i64 (k:Int))∧∀j,k≤j→gN l j=0) (λk=>k) l.length (by rfl) ?_ ?_
 ·rintro k e m ⟨hk,e0,e3,hz⟩
  have gl:=Zbw hl (k - 1);by_cases h0:k=0
  ·subst h0;(focus (refine wkvp (w_2 e0 e3) w_t ?_;(repeat' first|exact w_t|apply w_l);all_goals intros));have:=Zje hl hk hz (.inl rfl);simp (disch:=omega) only [go_sem];rw [←this];rfl
  ·by_cases h1:gN l (k - 1)=0
   ·(focus (refine wkvp (w_2 e0 e3) w_t ?_;(repeat' first|exact w_t|apply w_l);all_goals intros));exact⟨k - 1,⟨by omega,by exact gW e0,by simp (disch:=omega) only [go_sem,e3];congr 2;omega,λj hj=>by
     rcases Nat.lt_or_ge j k with h2 | h2
     ·rw [show j=k - 1 by omega];exact h1
     ·exact hz j h2⟩,by omega⟩
   ·(focus (refine wkvp (w_2 e0 e3) w_t ?_;(repeat' first|exact w_t|apply w_l);all_goals intros));have:=Zje hl hk hz (.inr (by omega));simp (disch:=omega) only [go_sem,this]
 ·exact⟨Nat.le_refl _,by exact gC,by exact gC,λj hj=>Zdy hj⟩
theorem slN {l:List Nat} (h:l=[]):lim l=.sl 1 []:=by subst h;rfl
theorem Zlh (l:List Nat) (hs:l.length≤1000000000) (hl:Lm l):Pure Tryz.prog 141 [lim l] (lim (toL (nv l))):=by
 have h1:=Zax hl;by_cases h0:toL (nv l)=[]
 ·rw [slN h0];refine Pure.wk (r:=.v (.slice none 0 0)) ?_ (.nil 1);have h2:(toL (nv l)).length=0:=by rw [h0];rfl
  refine Zaa (tok:=0) (rs:=[.tmp 2]) Tryz.func141 rfl Tryz.ntmps141 Tryz.results141 Tryz.call141 (by rfl) (by simp) ?_;(focus (refine wkvp (w_1 h2) (w_1 (Za3 l hs hl)) ?_;(repeat' first|exact w_t|apply w_l);all_goals intros));simp (disch:=omega) only [go_sem]
 ·have h2:0 < (toL (nv l)).length:=List.length_pos_iff.2 h0;refine Zaa (tok:=0) (rs:=[.tmp 2]) Tryz.func141 rfl Tryz.ntmps141 Tryz.results141 Tryz.call141 (by rfl) (by simp) ?_;(focus (refine wkvp w_t (w_1 (Za3 l hs hl)) ?_;(repeat' first|exact w_t|apply w_l);all_goals intros));simp (disch:=omega) only [go_sem,List.take_of_length_le,List.drop_replicate,Nat.sub_self,Nat.le_refl]
theorem natOf (n:Nat) (hn:n < 18446744073709551616):Pure Tryz.prog 143 [.v (.int .u64 (n:Int))] (lim (toL n)):=by
 by_cases h0:n=0
 ·subst h0;rw [slN Za4];refine Pure.wk (r:=.v (.slice none 0 0)) ?_ (.nil 1);refine Zaa (tok:=0) (rs:=[.tmp 2]) Tryz.func143 rfl Tryz.ntmps143 Tryz.results143 Tryz.call143 (by rfl) (by simp) ?_;(focus (refine wkvp w_t w_t ?_;(repeat' first|exact w_t|apply w_l);all_goals intros));refine Zal (ι:=Nat) (λk e m=>e 0=.v (.int .u64 0)∧e 3=.v (.slice none 0 0)) (λk=>k) 0 (by rfl) ?_ ?_
  ·rintro k e m ⟨e0,e3⟩
   (focus (refine wkvp (w_2 e0 e3) w_t ?_;(repeat' first|exact w_t|apply w_l);all_goals intros));simp (disch:=omega) only [go_sem]
  ·exact⟨by simp (disch:=omega) only [go_sem];rfl,by exact gC⟩
 ·refine Zaa (tok:=0) (rs:=[.tmp 2]) Tryz.func143 rfl Tryz.ntmps143 Tryz.results143 Tryz.call143 (by rfl) (by simp) ?_;(focus (refine wkvp w_t w_t ?_;(repeat' first|exact w_t|apply w_l);all_goals intros));refine Zal (ι:=Nat) (λk e m=>k≤n∧e 0=.v (.int .u64 (k:Int))∧((k=n∧e 3=.v (.slice none 0 0))∨(k < n∧∃sv l,e 3=.own 12 sv∧m 12=some (.row sv 104 1 (u16s l) 0)∧l++toL k=toL n))) (λk=>k) n (by rfl) ?_ ?_
  ·rintro k e m ⟨hk,e0,hor⟩
   by_cases hk0:k=0
   ·subst hk0;rcases hor with⟨h1,_⟩ | ⟨_,sv,l,e3,em,hl⟩
    ·omega
    ·(focus (refine wkvp (w_2 e0 e3) w_t ?_;(repeat' first|exact w_t|apply w_l);all_goals intros));simp (disch:=omega) only [go_sem,em];rw [Za4,List.append_nil] at hl;rw [hl]
   ·rcases hor with⟨rfl,e3⟩ | ⟨_,sv,l,e3,em,hl⟩
    ·(focus (refine wkvp (w_3 e0 e3 @Zba) w_t ?_;(repeat' first|exact w_t|apply w_l);all_goals intros));refine⟨k/65536,⟨by omega,by exact gW e0,.inr ⟨by omega,_,[k%65536],by exact gC,by exact gC,?_⟩⟩,by omega⟩;rw [Zep hk0];rfl
    ·have b1:=(Zah (n:=n) (k:=4)).2 hn;have b2:l.length≤(toL n).length:=by rw [←hl];simp
     (focus (refine wkvp (w_4 e0 e3 em @Zba) w_t ?_;(repeat' first|exact w_t|apply w_l);all_goals intros));refine⟨k/65536,⟨by omega,by exact gW e0,.inr ⟨by omega,_,l++[k%65536],by exact gC,by exact gC,?_⟩⟩,by omega⟩;rw [←hl,Zep hk0];simp
  ·exact⟨Nat.le_refl _,by exact gC,.inl ⟨rfl,by exact gC⟩⟩
def cmpN (a b:Nat):Int:=if a < b then -1 else if b < a then 1 else 0
theorem Zpu (a b:List Nat) (ha:a.length≤1000000000) (hb:b.length≤1000000000) (la:Lm a) (lb:Lm b):Pure Tryz.prog 173 [lim a,lim b] (.v (.int .i64 (cmpN (nv a) (nv b)))):=by
 have h1:=Zax la;have h2:=Zax lb;have va:=Zas (nv a);have vb:=Zas (nv b);have ma:=Zav (nv a);have mb:=Zav (nv b);refine Zaa (tok:=0) (rs:=[.tmp 4]) Tryz.func173 rfl Tryz.ntmps173 Tryz.results173 Tryz.call173 (by rfl) (by simp) ?_;by_cases hlt:(toL (nv a)).length < (toL (nv b)).length
 ·have:nv a < nv b:=by
   rcases Nat.lt_or_ge (nv a) (nv b) with h | h
   ·exact h
   ·have:=Za8 h;omega
  (focus (refine wkvp w_t (w_2 (Za3 a ha la) (Za3 b hb lb)) ?_;(repeat' first|exact w_t|apply w_l);all_goals intros));simp (disch:=omega) only [go_sem,cmpN,if_pos this]
 ·by_cases hgt:(toL (nv b)).length < (toL (nv a)).length
  ·have:nv b < nv a:=by
    rcases Nat.lt_or_ge (nv b) (nv a) with h | h
    ·exact h
    ·have:=Za8 h;omega
   have this2:¬nv a < nv b:=by omega
   (focus (refine wkvp w_t (w_2 (Za3 a ha la) (Za3 b hb lb)) ?_;(repeat' first|exact w_t|apply w_l);all_goals intros));simp (disch:=omega) only [go_sem,cmpN,if_pos this,if_neg this2]
  ·(focus (refine wkvp w_t (w_2 (Za3 a ha la) (Za3 b hb lb)) ?_;(repeat' first|exact w_t|apply w_l);all_goals intros));refine Zal (ι:=Nat) (λk e m=>k≤(toL (nv a)).length∧e 0=lim (toL (nv a))∧e 1=lim (toL (nv b))∧e 5=.v (.int .i64 ((k:Int) - 1))∧nv ((toL (nv a)).drop k)=nv ((toL (nv b)).drop k)) (λk=>k) (toL (nv a)).length (by rfl) ?_ ?_
   ·rintro k e m ⟨hk,e0,e1,e5,hz⟩
    by_cases h0:k=0
    ·subst h0;rw [List.drop_zero,List.drop_zero,va,vb] at hz;(focus (refine wkvp (w_3 e0 e1 e5) w_t ?_;(repeat' first|exact w_t|apply w_l);all_goals intros));simp (disch:=omega) only [go_sem,cmpN,hz,Nat.lt_irrefl,if_false]
    ·have hk1:k - 1+1=k:=by omega
     have ga:=Zbw ma (k - 1);have gb:=Zbw mb (k - 1);by_cases p1:gN (toL (nv a)) (k - 1) < gN (toL (nv b)) (k - 1)
     ·have:=Zpt (k:=k - 1) ma mb (by rw [hk1];exact hz) p1;rw [va,vb] at this;(focus (refine wkvd (w_3 e0 e1 e5) w_t w_t ?_;(repeat' first|exact w_t|apply w_l);all_goals intros));simp (disch:=omega) only [go_sem,cmpN,if_pos this]
     ·by_cases p2:gN (toL (nv b)) (k - 1) < gN (toL (nv a)) (k - 1)
      ·have:=Zpt (k:=k - 1) mb ma (by rw [hk1];exact hz.symm) p2;rw [va,vb] at this;have this2:¬nv a < nv b:=by omega
       (focus (refine wkvd (w_3 e0 e1 e5) w_t w_t ?_;(repeat' first|exact w_t|apply w_l);all_goals intros));simp (disch:=omega) only [go_sem,cmpN,if_pos this,if_neg this2]
      ·(focus (refine wkvd (w_3 e0 e1 e5) w_t w_t ?_;(repeat' first|exact w_t|apply w_l);all_goals intros));refine⟨k - 1,⟨by omega,by exact gW e0,by exact gW e1,by simp (disch:=omega) only [go_sem,e5];congr 2;omega,?_⟩,by omega⟩;rw [Zby,Zby (toL (nv b)),hk1,hz];omega
   ·refine⟨Nat.le_refl _,by exact gC,by exact gC,by exact gC,?_⟩;rw [List.drop_eq_nil_of_le (Nat.le_refl _),List.drop_eq_nil_of_le (by omega)]
theorem natAdd (a b:List Nat) (ha:a.length≤1000000000) (hb:b.length≤1000000000) (la:Lm a) (lb:Lm b):Pure Tryz.prog 188 [lim a,lim b] (lim (toL (nv a+nv b))):=by
 have h1:=Zax la;have h2:=Zax lb;have va:=Zas (nv a);have vb:=Zas (nv b);have ma:=Zav (nv a);have mb:=Zav (nv b)
 obtain⟨A,B,hA,hB,hle,hAl,hLA,hLB,hAB,hm⟩:∃A B,A=(if (toL (nv a)).length < (toL (nv b)).length then toL (nv b) else toL (nv a))∧B=(if (toL (nv a)).length < (toL (nv b)).length then toL (nv a) else toL (nv b))∧B.length≤A.length∧A.length≤1000000000∧Lm A∧Lm B∧nv A+nv B=nv a+nv b∧A.length≤(toL (nv a+nv b)).length:=by
  by_cases hlt:(toL (nv a)).length < (toL (nv b)).length
  ·exact⟨_,_,(if_pos hlt).symm,(if_pos hlt).symm,by omega,by omega,mb,ma,by omega,Za8 (by omega)⟩
  ·exact⟨_,_,(if_neg hlt).symm,(if_neg hlt).symm,by omega,by omega,ma,mb,by omega,Za8 (by omega)⟩
 refine Zaa (tok:=0) (rs:=[.tmp 4]) Tryz.func188 rfl Tryz.ntmps188 Tryz.results188 Tryz.call188 (by rfl) (by simp) ?_;rcases Nat.lt_or_ge (toL (nv a)).length (toL (nv b)).length with hlt | hge
 rotate_left
 have hlt:¬(toL (nv a)).length < (toL (nv b)).length:=by omega
 all_goals
  (first|rw [if_pos hlt] at hA hB|rw [if_neg hlt] at hA hB)
  (focus (refine wkvp w_t (w_2 (Za3 a ha la) (Za3 b hb lb)) ?_;(repeat' first|exact w_t|apply w_l);all_goals intros));rw [←hA]
  try rw [←hB]
  refine Zal (ι:=Nat) (λk e m=>k≤A.length∧e 0=lim A∧e 1=lim B∧e 26=lim A∧e 27=.v (.int .i64 A.length)∧e 28=.v (.int .i64 k)∧∃sv o c,e 5=.own 25 sv∧e 6=.v (.int .u32 (c:Nat))∧m 25=some (.row sv 104 1 (u16s o) 0)∧o.length=A.length∧Lm o∧c≤1∧nv (o.take k)+65536 ^ k*c=nv (A.take k)+nv (B.take k)) (λk=>A.length - k) 0 (by rfl) ?_ ?_
  ·rintro k e m ⟨hk,e0,e1,e26,e27,e28,sv,o,c,e5,e6,em,hol,hLo,hc,hv⟩
   have ga:=Zbw hLA k;have gb:=Zbw hLB k;have hs:=Zl3 (x:=gN A k) (y:=gN B k) hv;have w1:(c+gN A k+gN B k)/65536≤1:=by omega
   have w2:(c+gN A k+gN B k)%65536 < 65536:=by omega
   by_cases hlt2:k < A.length
   ·rw [←Zcy (o:=o) (by omega),←Nat.pow_succ,←Zay,←Zay] at hs;by_cases hkb:k < B.length
    ·(focus (refine wkvp (w_11 e0 e1 e26 e27 e28 e5 e6 em hol @Za0 @Zba) w_t ?_;(repeat' first|exact w_t|apply w_l);all_goals intros));exact⟨k+1,⟨by omega,by exact gW e0,by exact gW e1,by exact gW e26,by exact gW e27,by exact gV e28,_,_,_,by exact gW e5,by exact gC,by exact gC,by simpa using hol,hLo.set k w2,w1,hs⟩,by omega⟩
    ·have g0:gN B k=0:=Zdy (by omega);simp only [g0,Nat.add_zero] at hs w1 w2;(focus (refine wkvp (w_11 e0 e1 e26 e27 e28 e5 e6 em hol @Za0 @Zba) w_t ?_;(repeat' first|exact w_t|apply w_l);all_goals intros));exact⟨k+1,⟨by omega,by exact gW e0,by exact gW e1,by exact gW e26,by exact gW e27,by exact gV e28,_,_,_,by exact gW e5,by exact gC,by exact gC,by simpa using hol,hLo.set k w2,w1,hs⟩,by omega⟩
   ·have hkA:k=A.length:=by omega
    subst hkA;rw [Zbk (Nat.le_refl _),Zbk hle,Zbk (by omega),hAB] at hv;by_cases hc0:c=0
    ·subst hc0;rw [Nat.mul_zero,Nat.add_zero] at hv;(focus (refine wkvp (w_9 e0 e1 e26 e27 e28 e5 e6 em hol) w_t ?_;(repeat' first|exact w_t|apply w_l);all_goals intros));simp (disch:=omega) only [go_sem,em];rw [canon' hLo (by rw [hv];omega),hv]
    ·have hc1:c=1:=by omega
     subst hc1;(focus (refine wkvp (w_10 e0 e1 e26 e27 e28 e5 e6 em hol @Zba) w_t ?_;(repeat' first|exact w_t|apply w_l);all_goals intros));simp (disch:=omega) only [go_sem];have h3:nv (o++[1])=nv a+nv b:=by rw [Zda,hol];simpa [nv] using hv
     rw [←h3,←canon (hLo.append (Lm.one (by omega))) (.inr (by simp [gN]))]
  ·refine⟨Nat.zero_le _,by exact gC,by exact gC,by exact gC,by exact gC,by exact gC,_,List.replicate A.length 0,0,by exact gC,by exact gC,by exact gC,by simp,Lm.zeros _,by omega,by simp [nv]⟩
theorem okTup {a:AV} {n:Int} (h:a=.v (.slice none 0 0)):Wk (.tup [a,.v (.int .i64 n)]) (.tup [lim [],.v (.int .i64 n)]):=by
 subst h;exact Wk.pair (.nil 1)
theorem natSub (a b:List Nat) (ha:a.length≤1000000000) (hb:b.length≤1000000000) (la:Lm a) (lb:Lm b) :
 Pure Tryz.prog 189 [lim a,lim b] (.tup [lim (if nv a < nv b then [] else toL (nv a - nv b)),.v (.int .i64 (if nv a < nv b then 2 else 0))]):=by
 by_cases hlt:nv a < nv b
 ·rw [if_pos hlt,if_pos hlt];refine Pure.wk ?_ (okTup rfl);refine Zaa (tok:=0) (rs:=[.tmp 4,.tmp 5]) Tryz.func189 rfl Tryz.ntmps189 Tryz.results189 Tryz.call189 (by rfl) (by simp) ?_;have hc:cmpN (nv a) (nv b)=-1:=by unfold cmpN;rw [if_pos hlt]
  (focus (refine wkvp (w_1 hc) (w_1 (Zpu a b ha hb la lb)) ?_;(repeat' first|exact w_t|apply w_l);all_goals intros));simp (disch:=omega) only [go_sem]
 ·rw [if_neg hlt,if_neg hlt];have h1:=Zax la;have va:=Zas (nv a);have vb:=Zas (nv b);have ma:=Zav (nv a);have mb:=Zav (nv b);have h2:(toL (nv b)).length≤(toL (nv a)).length:=Za8 (by omega);have hc:0≤cmpN (nv a) (nv b):=by unfold cmpN;rw [if_neg hlt];split<;>omega
  generalize hA:toL (nv a)=A at *;generalize hB:toL (nv b)=B at *;refine Zaa (tok:=0) (rs:=[.tmp 4,.tmp 5]) Tryz.func189 rfl Tryz.ntmps189 Tryz.results189 Tryz.call189 (by rfl) (by simp) ?_;(focus (refine wkvp (w_2 hA hB) (w_3 (Zpu a b ha hb la lb) (Za3 a ha la) (Za3 b hb lb)) ?_;(repeat' first|exact w_t|apply w_l);all_goals intros));rw [hA,hB];refine Zal (ι:=Nat) (λk e m=>k≤A.length∧(e 1=lim B∧e 22=lim A∧e 23=.v (.int .i64 A.length)∧e 24=.v (.int .i64 k))∧∃sv o r,(e 6=.own 21 sv∧e 7=.v (.int .i32 (r:Nat))∧m 21=some (.row sv 104 1 (u16s o) 0))∧o.length=A.length∧Lm o∧r≤1∧nv (o.take k)+nv (B.take k)=nv (A.take k)+65536 ^ k*r) (λk=>A.length - k) 0 (by rfl) ?_ ?_
  ·rintro k e m ⟨hk,⟨e1,e22,e23,e24⟩,sv,o,r,⟨e6,e7,em⟩,hol,hLo,hr,hv⟩
   have ga:=Zbw ma k;have gb:=Zbw mb k;by_cases hlt2:k < A.length
   ·have step:∀(d r':Nat),d+r+gN B k=gN A k+65536*r'→d < 65536→r'≤1→(o.set k d).length=A.length∧Lm (o.set k d)∧r'≤1∧nv ((o.set k d).take (k+1))+nv (B.take (k+1))=nv (A.take (k+1))+65536 ^ (k+1)*r':=by
     intro d r' hd h3 h4;have:=Zo6 hv hd;rw [Zcy (by omega),Zay,Zay,Nat.pow_succ];exact⟨by simpa using hol,hLo.set k h3,h4,this⟩
    by_cases hneg:gN A k < r+gN B k
    ·have hs:=step (gN A k+65536 - r - gN B k) 1 (by omega) (by omega) (by omega);have w:(gN A k:Int) - r - gN B k+65536=((gN A k+65536 - r - gN B k:Nat):Int):=by omega
     by_cases hkb:k < B.length
     ·(focus (refine wkvp (w_9 e1 e22 e23 e24 e6 e7 em hol w) w_t ?_;(repeat' first|exact w_t|apply w_l);all_goals intros));exact⟨k+1,⟨by omega,by exact gV (And.intro e1 (And.intro e22 (And.intro e23 e24))),sv,_,1,by exact gW e6,hs⟩,by omega⟩
     ·have g0:gN B k=0:=Zdy (by omega);simp only [g0,Nat.sub_zero,Nat.add_zero] at hs w hneg;have w:(gN A k:Int) - r+65536=((gN A k+65536 - r:Nat):Int):=by omega
      (focus (refine wkvp (w_9 e1 e22 e23 e24 e6 e7 em hol w) w_t ?_;(repeat' first|exact w_t|apply w_l);all_goals intros));exact⟨k+1,⟨by omega,by exact gV (And.intro e1 (And.intro e22 (And.intro e23 e24))),sv,_,1,by exact gW e6,hs⟩,by omega⟩
    ·have hs:=step (gN A k - r - gN B k) 0 (by omega) (by omega) (by omega);have w:(gN A k:Int) - r - gN B k=((gN A k - r - gN B k:Nat):Int):=by omega
     by_cases hkb:k < B.length
     ·(focus (refine wkvp (w_9 e1 e22 e23 e24 e6 e7 em hol w) w_t ?_;(repeat' first|exact w_t|apply w_l);all_goals intros));exact⟨k+1,⟨by omega,by exact gV (And.intro e1 (And.intro e22 (And.intro e23 e24))),sv,_,0,by(simp (disch:=omega) only [go_sem,e6,Int.natCast_zero]<;>repeat' first|rfl|refine⟨?_,?_⟩),hs⟩,by omega⟩
     ·have g0:gN B k=0:=Zdy (by omega);simp only [g0,Nat.sub_zero,Nat.add_zero] at hs hneg;have w:(gN A k:Int) - r=((gN A k - r:Nat):Int):=by omega
      (focus (refine wkvp (w_9 e1 e22 e23 e24 e6 e7 em hol w) w_t ?_;(repeat' first|exact w_t|apply w_l);all_goals intros));exact⟨k+1,⟨by omega,by exact gV (And.intro e1 (And.intro e22 (And.intro e23 e24))),sv,_,0,by(simp (disch:=omega) only [go_sem,e6,Int.natCast_zero]<;>repeat' first|rfl|refine⟨?_,?_⟩),hs⟩,by omega⟩
   ·have hkA:k=A.length:=by omega
    subst hkA;rw [Zbk (by omega),Zbk (Nat.le_refl _),Zbk h2,va,vb] at hv;have hno:=Zgq hLo;rw [hol] at hno
    have hr0:r=0:=by
     rcases Nat.eq_zero_or_pos r with h3 | h3
     ·exact h3
     ·have:r=1:=by omega
      subst this;omega
    subst hr0;have hno2:nv o=nv a - nv b:=by omega
    (focus (refine wkax (w_8 e1 e22 e23 e24 e6 e7 em hol) w_t w_t (w_1 (Za3 o (by omega) hLo)) w_t w_t (w_r 0) ?_;(repeat' first|exact w_t|apply w_l);all_goals intros));simp (disch:=omega) only [go_sem,hno2]
  ·exact⟨Nat.zero_le _,by exact gC,_,List.replicate A.length 0,0,⟨by exact gC,by exact gC,by exact gC⟩,by simp,Lm.zeros _,by omega,by simp [nv]⟩
theorem natMul (a b:List Nat) (ha:a.length≤400000000) (hb:b.length≤400000000) (la:Lm a) (lb:Lm b):Pure Tryz.prog 128 [lim a,lim b] (lim (toL (nv a*nv b))):=by
 have h1:=Zax la;have h2:=Zax lb;have va:=Zas (nv a);have vb:=Zas (nv b);have ma:=Zav (nv a);have mb:=Zav (nv b);by_cases h0:nv a=0∨nv b=0
 ·have hz:nv a*nv b=0:=Nat.mul_eq_zero.2 h0;rw [slN (show toL (nv a*nv b)=[] by rw [hz,Za4])];refine Pure.wk (r:=.v (.slice none 0 0)) ?_ (.nil 1);refine Zaa (tok:=0) (rs:=[.tmp 4]) Tryz.func128 rfl Tryz.ntmps128 Tryz.results128 Tryz.call128 (by rfl) (by simp) ?_;by_cases h3:nv a=0
  ·have h4:=Zbn.2 h3;(focus (refine wkvp (w_1 h4) (w_2 (Za3 a (by omega) la) (Za3 b (by omega) lb)) ?_;(repeat' first|exact w_t|apply w_l);all_goals intros));simp (disch:=omega) only [go_sem]
  ·have h4:(toL (nv a)).length≠0:=λh=>h3 (Zbn.1 h);have h5:=Zbn.2 (h0.resolve_left h3);(focus (refine wkvp (w_1 h5) (w_2 (Za3 a (by omega) la) (Za3 b (by omega) lb)) ?_;(repeat' first|exact w_t|apply w_l);all_goals intros));simp (disch:=omega) only [go_sem]
 ·have h3:(toL (nv a)).length≠0:=λh=>h0 (.inl (Zbn.1 h));have h4:(toL (nv b)).length≠0:=λh=>h0 (.inr (Zbn.1 h));generalize hA:toL (nv a)=A at *;generalize hB:toL (nv b)=B at *;refine Zaa (tok:=0) (rs:=[.tmp 4]) Tryz.func128 rfl Tryz.ntmps128 Tryz.results128 Tryz.call128 (by rfl) (by simp) ?_;(focus (refine wkvp (w_3 hA hB @Za0) (w_2 (Za3 a (by omega) la) (Za3 b (by omega) lb)) ?_;(repeat' first|exact w_t|apply w_l);all_goals intros));rw [hA,hB];refine Zal (ι:=Nat) (λi e m=>i≤A.length∧(e 1=lim B∧e 29=lim A∧e 30=.v (.int .i64 A.length)∧e 31=.v (.int .i64 i))∧∃sv o,(e 5=.own 28 sv∧m 28=some (.row sv 104 1 (u16s o) 0))∧o.length=A.length+B.length∧Lm o∧(∀j,i+B.length≤j→gN o j=0)∧nv o=nv (A.take i)*nv B) (λi=>A.length - i) 0 (by rfl) ?_ ?_
  ·rintro i e m ⟨hi,⟨e1,e29,e30,e31⟩,sv,o,⟨e5,em⟩,hol,hLo,hz,hv⟩
   by_cases hlt:i < A.length
   ·have gx:=Zbw ma i;(focus (refine wkvp (w_8 e1 e29 e30 e31 e5 em hol @Za0) w_t ?_;(repeat' first|exact w_t|apply w_l);all_goals intros));refine Zal (ι:=Nat) (λk e' m'=>k≤B.length∧(e' 1=lim B∧e' 29=lim A∧e' 30=.v (.int .i64 A.length)∧e' 31=.v (.int .i64 i)∧e' 36=lim B∧e' 37=.v (.int .i64 B.length)∧e' 38=.v (.int .i64 k)∧e' 6=.v (.int .i64 i)∧e' 7=.v (.int .u16 (gN A i:Nat))∧e' 5=.own 28 sv)∧∃o' c,(e' 8=.v (.int .u32 (c:Nat))∧m' 28=some (.row sv 104 1 (u16s o') 0))∧o'.length=A.length+B.length∧Lm o'∧c < 65536∧(∀j,i+B.length≤j→gN o' j=0)∧nv o'+65536 ^ (i+k)*c=nv o+65536 ^ i*nv (B.take k)*gN A i) (λk=>B.length - k) 0 (by rfl) ?_ ?_
    ·rintro k e m ⟨hk,⟨e1,e29,e30,e31,e36,e37,e38,e6,e7,e5⟩,o',c,⟨e8,em⟩,hol',hLo',hc,hz',hv'⟩
     have gy:=Zbw mb k;have go:=Zbw hLo' (i+k);have bd:=Zmw gx gy;by_cases hkb:k < B.length
     ·have hs:=Zpv (x:=gN A i) (y:=gN B k) rfl (Zmr (o:=o') (j:=i+k) (by omega) _) hv';rw [←Zpw,←Zay,←Nat.pow_succ,Nat.succ_eq_add_one,Nat.add_assoc i] at hs;have w1:(c+(gN o' (i+k)+gN A i*gN B k))/65536 < 65536:=by omega
      have w2:(c+(gN o' (i+k)+gN A i*gN B k))%65536 < 65536:=by omega
      generalize hxy:gN A i*gN B k=xy at *;(focus (refine wkvp (w_17 e1 e29 e30 e31 e36 e37 e38 e6 e7 e5 e8 em hol' @Za0 @Zec @Zba hxy) w_t ?_;(repeat' first|exact w_t|apply w_l);all_goals intros));refine⟨k+1,⟨by omega,by exact gV (And.intro e1 (And.intro e29 (And.intro e30 (And.intro e31 (And.intro e36 (And.intro e37 (And.intro e38 (And.intro e6 (And.intro e7 e5))))))))),_,_,⟨by exact gC,by exact gC⟩,by simpa using hol',hLo'.set _ w2,w1,λj hj=>?_,hs⟩,by omega⟩;rw [Ze5 (by omega),if_neg (by omega)];exact hz' j hj
     ·have hkB:k=B.length:=by omega
      subst hkB;rw [Zbk (Nat.le_refl _)] at hv';have g0:=hz' (i+B.length) (Nat.le_refl _);have h5:=Zmr (o:=o') (j:=i+B.length) (by omega) c;rw [g0,Nat.mul_zero,Nat.add_zero] at h5;have hcc:c%65536=c:=Nat.mod_eq_of_lt hc;(focus (refine wkvp (w_16 e1 e29 e30 e31 e36 e37 e38 e6 e7 e5 e8 em hol' @Za0 @Zba hcc) w_t ?_;(repeat' first|exact w_t|apply w_l);all_goals intros));refine⟨i+1,⟨by omega,by exact gV (And.intro e1 (And.intro e29 (And.intro e30 e31))),sv,_,⟨by exact gW e5,by exact gC⟩,by simpa using hol',hLo'.set _ hc,λj hj=>?_,?_⟩,by omega⟩
      ·rw [Ze5 (by omega),if_neg (by omega)];exact hz' j (by omega)
      ·rw [h5,hv',hv,Zay,Nat.add_mul];congr 1;simp only [Nat.mul_assoc,Nat.mul_comm,Nat.mul_left_comm]
    ·exact⟨Nat.zero_le _,by exact gW (And.intro e1 (And.intro e29 (And.intro e30 (And.intro e31 e5)))),_,0,⟨by exact gC,by exact gW em⟩,hol,hLo,by omega,hz,by simp [nv]⟩
   ·have hiA:i=A.length:=by omega
    subst hiA;rw [Zbk (Nat.le_refl _),va,vb] at hv;(focus (refine wkax (w_7 e1 e29 e30 e31 e5 em hol) w_t w_t (w_1 (Za3 o (by omega) hLo)) w_t w_t (w_r 0) ?_;(repeat' first|exact w_t|apply w_l);all_goals intros));simp (disch:=omega) only [go_sem,hv]
  ·exact⟨Nat.zero_le _,by exact gC,_,List.replicate (A.length+B.length) 0,⟨by exact gC,by exact gC⟩,by simp,Lm.zeros _,λj hj=>Zgk _ _,by simp [nv,Zlf]⟩
attribute [local go_sem] Tryz.underlying9 Tryz.underlying5 Tryz.underlying126
theorem Znh (x:Nat) (hx:x < 65536):Pure Tryz.prog 178 [.v (.int .u16 (x:Int))] (.v (.int .i64 (Zeg x:Nat))):=by
 refine Zaa (tok:=0) (rs:=[.tmp 2]) Tryz.func178 rfl Tryz.ntmps178 Tryz.results178 Tryz.call178 (by rfl) (by simp) ?_;by_cases h:256≤x
 ·have b:=Zjj (i:=x/256) (by omega);have e:Zeg x=8+len8 (x/256):=if_pos h
  (repeat' (first|(apply o_tab (g:=len8) (n:=256) (by kernel_rfl) (by kernel_rfl) (by omega))|(with_reducible first|refine stp ?_|apply gx1|apply gx2|apply gx3|apply gx4|apply gx5|apply gx6|apply gx7)|(with_reducible refine Zbi ?_;intro _)|((with_reducible refine gE ?_);(try simp (disch:=omega) only [go_sem])<;>first|rfl|omega)|with_reducible refine Zaf (by decide) ?_))
  simp (disch:=omega) only [go_sem,e,Int.natCast_add,Int.cast_ofNat_Int]
 ·have b:=Zjj (i:=x) (by omega);have e:Zeg x=len8 x:=if_neg h
  (repeat' (first|(apply o_tab (g:=len8) (n:=256) (by kernel_rfl) (by kernel_rfl) (by omega))|(with_reducible first|refine stp ?_|apply gx1|apply gx2|apply gx3|apply gx4|apply gx5|apply gx6|apply gx7)|(with_reducible refine Zbi ?_;intro _)|((with_reducible refine gE ?_);(try simp (disch:=omega) only [go_sem])<;>first|rfl|omega)|with_reducible refine Zaf (by decide) ?_))
  simp (disch:=omega) only [go_sem,e,Int.zero_add]
theorem bitsLz16 (x:Nat) (hx:x < 65536):Pure Tryz.prog 175 [.v (.int .u16 (x:Int))] (.v (.int .i64 ((16 - Zeg x:Nat):Int))):=by
 refine Zaa (tok:=0) (rs:=[.tmp 2]) Tryz.func175 rfl Tryz.ntmps175 Tryz.results175 Tryz.call175 (by rfl) (by simp) ?_;have b:=Zhl hx;have w:(16:Int) - (Zeg x:Int)=((16 - Zeg x:Nat):Int):=by omega
 (focus (refine wkvp (w_1 w) (w_1 (Znh x hx)) ?_;(repeat' first|exact w_t|apply w_l);all_goals intros));simp (disch:=omega) only [go_sem]
def Zl0 (n:Nat):Nat:=if n=0 then 0 else 16*((toL n).length - 1)+Zeg (gN (toL n) ((toL n).length - 1))
theorem Zgm {n:Nat}:Zl0 n=0↔n=0:=by
 constructor
 ·intro h;unfold Zl0 at h;split at h
  ·assumption
  ·rename_i h0;have h1:=Zdr h0;have:=(Zhl (Zbw (Zav n) ((toL n).length - 1))).2 h1.2;omega
 ·rintro rfl;rfl
theorem natBits (l:List Nat) (hs:l.length≤1000000000) (hl:Lm l):Pure Tryz.prog 145 [lim l] (.v (.int .i64 (Zl0 (nv l):Nat))):=by
 have h1:=Zax hl;refine Zaa (tok:=0) (rs:=[.tmp 2]) Tryz.func145 rfl Tryz.ntmps145 Tryz.results145 Tryz.call145 (by rfl) (by simp) ?_;by_cases h0:nv l=0
 ·have h2:=Zbn.2 h0;have h3:=Zgm.2 h0;(focus (refine wkvp (w_1 h2) (w_1 (Za3 l hs hl)) ?_;(repeat' first|exact w_t|apply w_l);all_goals intros));simp (disch:=omega) only [go_sem,h3];rfl
 ·obtain⟨h2,h3⟩:=Zdr h0;have hb:Zl0 (nv l)=16*((toL (nv l)).length - 1)+Zeg (gN (toL (nv l)) ((toL (nv l)).length - 1)):=if_neg h0;have b:=Zhl (Zbw (Zav (nv l)) ((toL (nv l)).length - 1));have w:(16:Int)*(((toL (nv l)).length:Int) - 1)+(Zeg (gN (toL (nv l)) ((toL (nv l)).length - 1)):Nat)=(Zl0 (nv l):Nat):=by omega
  (repeat' (first|(with_reducible first|refine stp ?_|apply gx1|apply gx2|apply gx3|apply gx4|apply gx5|apply gx6|apply gx7|refine gw0 (Za3 l hs hl) ?_ ?_|refine gw0 (Znh (gN (toL (nv l)) ((toL (nv l)).length - 1)) (Zbw (Zav (nv l)) _)) ?_ ?_)|(with_reducible refine Zbi ?_;intro _)|((with_reducible refine gE ?_);(try simp (disch:=omega) only [go_sem,w])<;>first|rfl|omega)|with_reducible refine Zaf (by decide) ?_))
  simp (disch:=omega) only [go_sem,w]
theorem Zsj (a:List Nat) (d:Nat) (ha:a.length≤1000000000) (la:Lm a) (hd0:0 < d) (hd:d < 65536):Pure Tryz.prog 174 [lim a,.v (.int .u16 (d:Int))] (.tup [lim (toL (nv a/d)),.v (.int .u16 ((nv a%d:Nat):Int))]):=by
 refine Zaa (tok:=0) (rs:=[.tmp 4,.tmp 5]) Tryz.func174 rfl Tryz.ntmps174 Tryz.results174 Tryz.call174 (by rfl) (by simp) ?_;(focus (refine wkvp w_t w_t ?_;(repeat' first|exact w_t|apply w_l);all_goals intros));refine Zal (ι:=Nat) (λk e m=>k≤a.length∧(e 0=lim a∧e 1=.v (.int .u16 (d:Int))∧e 8=.v (.int .i64 ((k:Int) - 1)))∧∃sv q r,(e 6=.own 11 sv∧e 7=.v (.int .u32 (r:Nat))∧m 11=some (.row sv 104 1 (u16s q) 0))∧q.length=a.length∧Lm q∧r < d∧(∀j,j < k→gN q j=0)∧nv (a.drop k)=d*nv (q.drop k)+r) (λk=>k) a.length (by rfl) ?_ ?_
 ·rintro k e m ⟨hk,⟨e0,e1,e8⟩,sv,q,r,⟨e6,e7,em⟩,hql,hLq,hr,hz,hv⟩
  by_cases h0:k=0
  ·subst h0;rw [List.drop_zero,List.drop_zero] at hv;have h2:nv a/d=nv q:=by rw [hv,Nat.mul_add_div hd0,Nat.div_eq_of_lt hr,Nat.add_zero]
   have h3:nv a%d=r:=by rw [hv,Nat.mul_add_mod,Nat.mod_eq_of_lt hr]
   (focus (refine wkax (w_7 e0 e1 e8 e6 e7 em hql) w_t w_t (w_1 (Za3 q (by omega) hLq)) w_t w_t (w_r 0) ?_;(repeat' first|exact w_t|apply w_l);all_goals intros));simp (disch:=omega) only [go_sem,h2,h3]
  ·have ga:=Zbw la (k - 1);have hd1:=div_step (x:=gN a (k - 1)) rfl hv
   have w1:(r*65536+gN a (k - 1))/d < 65536:=by
    rw [Nat.div_lt_iff_lt_mul hd0];have:(r+1)*65536≤d*65536:=Nat.mul_le_mul_right _ hr;rw [Nat.mul_comm 65536 d];omega
   have w2:(r*65536+gN a (k - 1))%d < d:=Nat.mod_lt _ hd0;have hk1:k - 1+1=k:=by omega
   have hrr:r < 65536:=by omega
   have w3:((r*65536+gN a (k - 1))/d)%65536=(r*65536+gN a (k - 1))/d:=Nat.mod_eq_of_lt w1;(focus (refine wkvp (w_11 e0 e1 e8 e6 e7 em hql @Zdu @Zea @Zba w3) w_t ?_;(repeat' first|exact w_t|apply w_l);all_goals intros));refine⟨k - 1,⟨by omega,⟨by exact gW e0,by exact gW e1,by(simp (disch:=omega) only [go_sem,e8];congr 2;omega)⟩,sv,_,_,⟨by exact gW e6,by exact gC,by exact gC⟩,by simpa using hql,hLq.set _ w1,w2,λj hj=>?_,?_⟩,by omega⟩
   ·rw [Ze5 (by omega),if_neg (by omega)];exact hz j (by omega)
   ·rw [Zby,hk1,hd1,Zby (q.set _ _),hk1,Ze5 (by omega),if_pos rfl,List.drop_set_of_lt (by omega)]
 ·exact⟨Nat.le_refl _,by exact gC,_,List.replicate a.length 0,0,⟨by exact gC,by exact gC,by exact gC⟩,by simp,Lm.zeros _,hd0,λj hj=>Zgk _ _,by rw [List.drop_eq_nil_of_le (Nat.le_refl _),List.drop_eq_nil_of_le (by simp)];simp [nv]⟩
theorem natUint (l:List Nat) (hs:l.length≤1000000000) (hl:Lm l):Pure Tryz.prog 142 [lim l] (.tup [.v (.int .u64 (if nv l < 18446744073709551616 then (nv l:Int) else 0)),.v (.bool (decide (nv l < 18446744073709551616)))]):=by
 have h1:=Zax hl;have hk:=Zah (n:=nv l) (k:=4);have va:=Zas (nv l);have ma:=Zav (nv l);refine Zaa (tok:=0) (rs:=[.tmp 2,.tmp 3]) Tryz.func142 rfl Tryz.ntmps142 Tryz.results142 Tryz.call142 (by rfl) (by simp) ?_;by_cases hb:nv l < 18446744073709551616
 ·have h4:=hk.2 hb;generalize hA:toL (nv l)=A at *;(focus (refine wkvp (w_1 hA) (w_1 (Za3 l hs hl)) ?_;(repeat' first|exact w_t|apply w_l);all_goals intros));rw [hA];refine Zal (ι:=Nat) (λk e m=>k≤A.length∧(e 12=lim A∧e 13=.v (.int .i64 A.length)∧e 14=.v (.int .i64 k)∧e 4=.v (.int .u64 (nv (A.take k):Nat)))) (λk=>A.length - k) 0 (by rfl) ?_ ?_
  ·rintro k e m ⟨hk,⟨e12,e13,e14,e4⟩⟩
   have ga:=Zbw ma k;by_cases hlt:k < A.length
   ·have b1:nv (A.take k) < 65536 ^ k:=Nat.lt_of_lt_of_le (Zgq (ma.take k)) (Nat.pow_le_pow_right (by omega) (by rw [List.length_take];omega));rw [Zmi] at b1;have w:=orS_64 (n:=nv (A.take k)) (x:=gN A k) (s:=16*k) b1 (by omega) ga;rw [←Zmi,←Zay,Zmi] at w
    have w2:shlI .u64 (gN A k:Int) ((16:Int)*(k:Int))=((gN A k*2 ^ (16*k):Nat):Int):=by
     have e:(16:Int)*(k:Int)=((16*k:Nat):Int):=by omega
     rw [e];refine shl_64 (by omega) ?_;have:(2:Nat) ^ (16*k)≤2 ^ 48:=Nat.pow_le_pow_right (by omega) (by omega);have h5:gN A k*2 ^ (16*k)≤65535*2 ^ 48:=Nat.mul_le_mul (by omega) this;omega
    (focus (refine wkvp (w_6 e12 e13 e14 e4 w2 w) w_t ?_;(repeat' first|exact w_t|apply w_l);all_goals intros));exact⟨k+1,⟨by omega,by exact gV (And.intro e12 (And.intro e13 (And.intro e14 e4)))⟩,by omega⟩
   ·rw [Zbk (by omega),va] at e4;(focus (refine wkvp (w_4 e12 e13 e14 e4) w_t ?_;(repeat' first|exact w_t|apply w_l);all_goals intros));simp (disch:=omega) only [go_sem,if_pos hb,decide_eq_true hb]
  ·exact⟨Nat.zero_le _,by exact gC⟩
 ·have h4:4 < (toL (nv l)).length:=by
   rcases Nat.lt_or_ge 4 (toL (nv l)).length with h | h
   ·exact h
   ·exact absurd (hk.1 h) hb
  (focus (refine wkvp w_t (w_1 (Za3 l hs hl)) ?_;(repeat' first|exact w_t|apply w_l);all_goals intros));simp (disch:=omega) only [go_sem,if_neg hb,decide_eq_false hb]
end Go.Proofs.YtimmnimikmnljaaGreat
