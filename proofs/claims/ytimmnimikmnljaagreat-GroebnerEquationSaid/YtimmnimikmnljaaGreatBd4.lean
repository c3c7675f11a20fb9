/- Contracts of the functions that the law reaches, and the rules by which they are walked. They say what a call hands back for every input within the bounds that each names; no other condition. -/
import Derived.Test.YtimmnimikmnljaaGreatBd3
set_option linter.unusedSimpArgs false
set_option linter.unusedVariables false
set_option maxRecDepth 20000
set_option maxHeartbeats 16000000
namespace Go.Pg
open Go Go.RowKit
def Znm (σ σ':Mem):Mem:=λk=>match σ' k with
 | some e=>some e
 | none=>σ k
theorem EntOk.lower {B B':Nat} {w:World} {imm:Imm} {e:Ent} (h:EntOk B w imm e) (hB:B'≤B):EntOk B' w imm e:=by
 cases e with
 | row sv e m es pub =>
   obtain⟨xs,hown,hrest⟩:=h;refine⟨xs,⟨hown.1,?_⟩,hrest⟩;rcases hown.2 with h1 | ⟨g,cap,cur,h1,h2,h3⟩
   ·exact .inl h1
   ·exact .inr ⟨g,cap,cur,h1,by omega,h3⟩
 | box g e cs pub =>
   obtain⟨cur,h1,h2,h3⟩:=h;exact⟨cur,h1,by omega,h3⟩
 | map g es =>
   obtain⟨arr,clock,h1,h2,h3⟩:=h;exact⟨arr,clock,h1,by omega,h3⟩
section
variable {P:Program} {c:Cx} {n tok:Nat} {st:St} {a:Act} {w:World} {imm:Imm} {K:St→Prop} {o:Oper} {Q:Exit→Act→World→Prop}
def KQ (K:St→Prop) (tok:Nat) (dst:Option Nat) (st st':St):Prop :=
 K ⟨st'.env,Znm st.mem st'.mem⟩∨∃(sv:Value) (e:TypeId) (m:Nat) (es:List AV),st'=St.put ⟨st.env,upd Zan tok (some (.row sv e m es 0))⟩ dst (.own tok sv)∧K (St.put st dst (.sl m es))
theorem Zpb (σ:Mem):Znm σ Zan=σ:=rfl
theorem Zot {e:Nat→AV} {sv:Value} {t:TypeId} {m:Nat} {es:List AV} {dst:Option Nat} {a:Act} {w:World} {imm:Imm} (h:Rel c n (St.put ⟨e,upd Zan tok (some (.row sv t m es 0))⟩ dst (.own tok sv)) a w imm) :
 ∃imm',Rel c n (St.put ⟨e,Zan⟩ dst (.sl m es)) a w imm':=by
 have none_mx:∀{σ:Mem} {imm:Imm},Mx c σ w imm→Mx c Zan w imm:=λhm=>⟨⟨λk e hk=>by simp [Zan] at hk,λk k' e e' b hk=>by simp [Zan] at hk,hm.ok.lt,hm.ok.spot⟩,hm.below,hm.lt,hm.old,hm.new,hm.cells⟩
 cases dst with
 | none=>exact⟨imm,h.env,h.size,h.defers,none_mx h.mem⟩
 | some d =>
   obtain⟨i1,hm1,hk1⟩:=Zdp [tok] h.mem;refine⟨i1,λt'=>?_,h.size,h.defers,none_mx hm1⟩;have h1:=hk1.rs (h.env t');show Rs w i1 (upd e d (.sl m es) t') _;have h2:Rs w i1 (upd e d (.own tok sv) t') (a.tmps.getD t' undef):=h1;rw [Zaz] at h2 ⊢;by_cases htd:t'=d
   ·rw [if_pos htd] at h2 ⊢
    have hme:marks (St.put ⟨e,upd Zan tok (some (.row sv t m es 0))⟩ (some d) (.own tok sv)).mem [tok] tok=some (.row sv t m es es.length):=by
     show upd (upd Zan tok (some (.row sv t m es 0))) tok ((upd Zan tok (some (.row sv t m es 0)) tok).map Ent.mark) tok=_;simp [Zaz,Ent.mark]
    have:=Zhp hm1 h2 (by simp only [Zer,Zfe,hme,and_self]);simp only [pubV,Zjt,hme] at this;exact .pure this
   ·rw [if_neg htd] at h2 ⊢;exact h2
theorem Zrv (h:Rel c n st a w imm) (hd:∀d,o.dst=some d→d < n)
 (hK:aRes P tok o.dst (Zal P ⟨st.env,Zan⟩ o.op) (KQ K tok o.dst st) ⟨st.env,Zan⟩):o.wp P a w (Zcc c n K) Q:=by
 have hrel:Rel ⟨w.heap.size,w,imm⟩ n ⟨st.env,Zan⟩ a w imm :=
  ⟨h.env,h.size,h.defers,⟨⟨λk e hk=>by simp [Zan] at hk,λk k' e e' b hk=>by simp [Zan] at hk,h.mem.ok.lt,h.mem.ok.spot⟩,Below.refl _ _,Nat.le_refl _,λ_ h1=>h1,λ_ h1=>.inl h1,λ_ _=>rfl⟩⟩
 refine Oper.wp_mono (λa' w' hg=>?_) (Zdo hrel hd hK)
 have hg:∃st' imm',K ⟨st'.env,Znm st.mem st'.mem⟩∧Rel ⟨w.heap.size,w,imm⟩ n st' a' w' imm':=by
  obtain⟨st',imm',hk,hr⟩:=hg;rcases hk with hk | ⟨sv,e,m,es,rfl,hk⟩
  ·exact⟨st',imm',hk,hr⟩
  ·obtain⟨i2,hr2⟩:=Zot hr;refine⟨_,i2,?_,hr2⟩;have e1:(St.put ⟨st.env,Zan⟩ o.dst (.sl m es)).mem=Zan:=by cases o.dst<;>rfl
   have e2:(⟨(St.put ⟨st.env,Zan⟩ o.dst (.sl m es)).env,st.mem⟩:St)=St.put st o.dst (.sl m es):=by cases o.dst<;>rfl
   rw [e1,Zpb,e2];exact hk
 obtain⟨st',imm',hk,hr⟩:=hg;have hb:=hr.mem.below;have hgr:w.grownBy w' none:=⟨hb.os,hb.tape,hb.output,hb.size,λk hk _=>hb.block k hk⟩;have hi:∀ad,imm ad→imm' ad:=hr.mem.old;have hcell:∀ad,imm ad→w'.cell? ad=w.cell? ad:=hr.mem.cells
 have hold:∀k e,st.mem k=some e→EntOk c.B w' imm' e:=by
  intro k e hk;refine(h.mem.ok.ent k e hk).keep hgr ?_ hi hcell λad h1=>?_
  ·rcases hbk:e.blk with _ | b
   ·exact .inl rfl
   ·exact .inr (by simp)
  ·rcases hr.mem.new ad h1 with h2 | h2
   ·exact .inl h2
   ·refine .inr λh3=>?_;have:=((h.mem.ok.ent k e hk).blk_lt h3).2;simp only at h2;omega
 have hnewb:∀k e b,st'.mem k=some e→e.blk=some b→w.heap.size≤b:=λk e b hk he=>((hr.mem.ok.ent k e hk).blk_lt he).1;have holdb:∀k e b,st.mem k=some e→e.blk=some b→b < w.heap.size:=λk e b hk he=>((h.mem.ok.ent k e hk).blk_lt he).2;refine⟨_,imm',hk,hr.env,hr.size,hr.defers,⟨⟨λk e hk=>?_,λk k' e e' b hk hk' he he'=>?_,hr.mem.ok.lt,hr.mem.ok.spot⟩,h.mem.below.trans (hb.mono h.mem.lt),Nat.le_trans h.mem.lt hb.size,λad h1=>hi _ (h.mem.old ad h1),λad h1=>?_,λad h1=>(hcell ad (h.mem.old ad h1)).trans (h.mem.cells ad h1)⟩⟩
 ·simp only [Znm] at hk;split at hk
  ·rename_i e' he';cases hk;exact(hr.mem.ok.ent k _ he').lower h.mem.lt
  ·exact hold k e hk
 ·simp only [Znm] at hk hk';split at hk<;>split at hk'
  ·rename_i _ e1 h1 _ e2 h2;cases hk;cases hk';exact hr.mem.ok.apart k k' _ _ b h1 h2 he he'
  ·rename_i _ e1 h1 _ h2;cases hk;have:=hnewb k _ b h1 he;have:=holdb k' _ b hk' he';omega
  ·rename_i _ h1 _ e2 h2;cases hk';have:=hnewb k' _ b h2 he';have:=holdb k _ b hk he;omega
  ·exact h.mem.ok.apart k k' _ _ b hk hk' he he'
 ·rcases hr.mem.new ad h1 with h2 | h2
  ·exact h.mem.new ad h2
  ·exact .inr (Nat.le_trans h.mem.lt h2)
end
inductive Out where
 | val (a:AV)
 | box (e:TypeId) (cs:List AV)
 | row (e:TypeId) (m:Nat) (es:List AV)
 | sto (k:Nat) (ent:Ent)
def AV.said:AV→Bool
 | .u=>false
 | _=>true
def Zb9 (r0:AV):Res→Option Out
 | .val a []=>some (.val a)
 | .need _ r=>Zb9 r0 r
 | .box e cs=>some (.box e cs)
 | .row e m es []=>some (if r0.said then .val r0 else .row e m es)
 | .call _ _=>some (.val r0)
 | _=>none
def Ze4 (P:Program) (r0:AV):Res→Prop
 | .val _ []=>True
 | .need p r=>p∧Ze4 P r0 r
 | .box _ _=>True
 | .row _ m es []=>r0.said=true→r0=.sl m es
 | .call f args=>AV.toksL args=[]∧Zdv Zan args∧Pure P f (Zdt Zan args) r0
 | _=>False
def Part (σs σ:Mem):Prop:=∀t e,σs t=some e→σ t=some e
def outK (tok:Nat) (dst:Option Nat):Out→(St→Prop)→St→Prop
 | .val a,K,st=>K (St.put st dst a)
 | .box e cs,K,st=>∀g:Nat,K (St.put ⟨st.env,upd st.mem tok (some (.box g e cs false))⟩ dst (.pbox tok g 0))
 | .row e m es,K,st=>∀sv:Value,K (St.put ⟨st.env,upd st.mem tok (some (.row sv e m es 0))⟩ dst (.own tok sv))
 | .sto k ent,K,st=>K (St.put ⟨st.env,upd st.mem k (some ent)⟩ dst .u)
def Zsx (σs:Mem) (tok:Nat):Out→Prop
 | .val _=>True
 | .box _ _ | .row _ _ _=>σs tok=none
 | .sto k ent=>σs k=none∨σs k=some ent
def optK (σs:Mem) (tok:Nat) (dst:Option Nat) (o:Option Out) (K:St→Prop) (st:St):Prop :=
 match o with
 | some out=>Zsx σs tok out∧outK tok dst out K st
 | none=>False
theorem Part.upd {σs σ:Mem} {k:Nat} {e:Option Ent} (h:Part σs σ) (hk:σs k=none):Part σs (upd σ k e):=λt e' ht=>by
 rw [Zaz];split
 ·subst_vars;rw [hk] at ht;cases ht
 ·exact h t e' ht
theorem Part.same {σs σ:Mem} {k:Nat} {e:Ent} (h:Part σs σ) (hk:σs k=none∨σs k=some e):Part σs (Go.Pg.upd σ k (some e)):=λt e' ht=>by
 rw [Zaz];split
 ·subst_vars
  rcases hk with hk | hk
  ·rw [hk] at ht;cases ht
  ·rw [hk] at ht;exact ht
 ·exact h t e' ht
theorem Zsy {σs:Mem} {tok:Nat} {dst:Option Nat} {K:St→Prop} {st:St} (hp:Part σs st.mem):∀(out:Out),Zsx σs tok out→outK tok dst out K st→outK tok dst out (λst'=>K st'∧Part σs st'.mem) st
 | .val a,_,h=>⟨h,by cases dst<;>exact hp⟩
 | .box e cs,h0,h=>λg=>⟨h g,by cases dst<;>exact hp.upd h0⟩
 | .row e m es,h0,h=>λg=>⟨h g,by cases dst<;>exact hp.upd h0⟩
 | .sto k ent,h0,h=>⟨h,by cases dst<;>exact hp.same h0⟩
theorem Zkx (σ:Mem):Znm σ Zan=σ:=rfl
theorem Znl (σ:Mem) (k:Nat) (e:Ent):Znm σ (upd Zan k (some e))=upd σ k (some e):=by
 funext j
 simp only [Znm,Zaz];by_cases h:j=k
 ·simp [h]
 ·simp [h,Zan]
theorem Zll (e:Nat→AV) (σ:Mem) (d:Option Nat) (a:AV):(St.put ⟨e,σ⟩ d a).mem=σ:=by cases d<;>rfl
theorem put_eq (st:St) (σ:Mem) (d:Option Nat) (a:AV):(⟨(St.put ⟨st.env,σ⟩ d a).env,st.mem⟩:St)=St.put st d a:=by cases d<;>rfl
theorem Zud {P:Program} {tok:Nat} {dst:Option Nat} {r0:AV} {K:St→Prop} {st:St}:∀(r:Res),Ze4 P r0 r→∀out,Zb9 r0 r=some out→outK tok dst out K st→aRes P tok dst r (KQ K tok dst st) ⟨st.env,Zan⟩
 | .val a [],_,out,ho,h=>by
   cases ho;refine .inl ?_;simp only [marks,Zll,Zkx];rw [put_eq];exact h
 | .val a (_ :: _),h,_,_,_=>h.elim
 | .need p r,h,out,ho,h2=>⟨h.1,Zud r h.2 out ho h2⟩
 | .box e cs,_,out,ho,h=>λg=>by
   cases ho;refine .inl ?_;simp only [Zll,Znl];have:=h g;cases dst<;>exact this
 | .row e m es [],hn,out,ho,h=>λg=>by
   by_cases hs:r0.said=true
   ·have ho':out=.val r0:=by simp only [Zb9,hs,if_true,Option.some.injEq] at ho;exact ho.symm
    subst ho';have h:K (St.put st dst r0):=h;rw [hn hs] at h;exact .inr ⟨g,e,m,es,rfl,h⟩
   ·have ho':out=.row e m es:=by simp only [Zb9,hs,if_false,Option.some.injEq,Bool.false_eq_true] at ho;exact ho.symm
    subst ho';refine .inl ?_;simp only [marks,Zll,Znl];have:=h g;cases dst<;>exact this
 | .row e m es (_ :: _),h,_,_,_=>h.elim
 | .call f args,h,out,ho,h2=>by
   cases ho;obtain⟨h1,h3,h4⟩:=h;refine Zbe (args':=Zdt Zan args) h4 ?_ ?_ ?_
   ·rw [h1];exact h3
   ·rw [h1];rfl
   ·rw [h1];refine .inl ?_;simp only [marks,Zll,Zkx];rw [put_eq];exact h2
 | .app ..,h,_,_,_=>h.elim
 | .appv ..,h,_,_,_=>h.elim
 | .sto ..,h,_,_,_=>h.elim
 | .bad,h,_,_,_=>h.elim
def opS (P:Program) (tok:Nat) (σs:Mem) (st:St):Op→Res
 | .load t x=>Zc6 P ⟨st.env,σs⟩ t (St.ev ⟨st.env,σs⟩ x)
 | .store t (.tmp p) x=>match st.env p with
   | .pbox k g off=>if k=tok+p then Zeu P st t (.pbox k g off) (St.ev ⟨st.env,Zan⟩ x) else .bad
   | _=>.bad
 | .store _ _ _=>.bad
 | .indexAddr t x i=>Zbh P ⟨st.env,σs⟩ t (St.ev ⟨st.env,σs⟩ x) (St.ev ⟨st.env,σs⟩ i)
 | .call ⟨.builtin .len,args,ts⟩=>Zcp P ⟨st.env,σs⟩ ⟨.builtin .len,args,ts⟩
 | .slice t x lo hi mx=>Zal P ⟨st.env,σs⟩ (.slice t x lo hi mx)
 | op=>Zal P ⟨st.env,Zan⟩ op
def Zaw:Op→Bool
 | .store _ _ _=>true
 | _=>false
def Zkk:Res→Option Out
 | .need _ r=>Zkk r
 | .sto _ k ent []=>some (.sto k ent)
 | _=>none
def Zi2:Res→Prop
 | .need p r=>p∧Zi2 r
 | .sto .u _ _ []=>True
 | _=>False
def Zdg (r0:AV) (op:Op) (r:Res):Option Out:=if Zaw op then Zkk r else Zb9 r0 r
def Reads (P:Program) (σs:Mem) (f:FuncId) (args:List AV) (r0:AV):Prop:=∀σ,Part σs σ→ACall P f args σ λr σ'=>r=r0∧σ'=σ
def readRes (P:Program) (σs:Mem) (r0:AV):Res→Prop
 | .call f args=>Reads P σs f args r0
 | _=>False
def isVC:Op→Bool
 | .call ⟨.value _,_,_⟩=>true
 | _=>false
def Zc8 (P:Program) (σs:Mem) (r0:AV) (op:Op) (r:Res):Prop:=if Zaw op then Zi2 r else (Ze4 P r0 r∨(isVC op=true∧readRes P σs r0 r))
def Zb2:Res→Prop
 | .val _ []=>True
 | .need _ r=>Zb2 r
 | .bad=>True
 | _=>False
theorem Ze6 {P:Program} {t:TypeId} {cs:List AV}:Zb2 (Zg1 P t cs):=by
 unfold Zg1;split
 ·split
  ·unfold Zh1;split<;>trivial
  ·cases cs<;>trivial
 ·trivial
theorem Zf4 {P:Program} {st:St} {t:TypeId} {av:AV}:Zb2 (Zc6 P st t av):=by
 unfold Zc6;split
 ·exact Ze6
 ·split
  ·exact Ze6
  ·trivial
 ·split
  ·exact Ze6
  ·trivial
 ·trivial
theorem Zlr {P:Program} {st:St} {t:TypeId} {a b:AV}:Zb2 (Zbh P st t a b):=by
 unfold Zbh
 repeat' (first|trivial|split)
theorem Zoy {P:Program} {st:St} {args:Array Operand} {ts:Array TypeId}:Zb2 (Zcp P st ⟨.builtin .len,args,ts⟩):=by
 unfold Zcp;simp only;split
 ·split
  ·unfold Zky
   repeat' (first|trivial|split)
  ·trivial
 ·trivial
theorem Zrm {P:Program} {e:Nat→AV} {σs σ:Mem} {t:TypeId} {a b:AV} (h:Part σs σ):Zbh P ⟨e,σs⟩ t a b=Zbh P ⟨e,σ⟩ t a b∨∀(P':Program) (r0:AV),¬Ze4 P' r0 (Zbh P ⟨e,σs⟩ t a b):=by
 unfold Zbh;split
 ·split
  ·split
   ·exact .inl rfl
   ·rename_i k sv;simp only
    cases hk:σs k with
    | none=>exact .inr λP' r0 hh=>hh
    | some en=>rw [h k en hk];exact .inl rfl
   ·exact .inl rfl
   ·exact .inl rfl
  ·exact .inl rfl
 ·exact .inl rfl
 ·exact .inl rfl
theorem len_part {P:Program} {e:Nat→AV} {σs σ:Mem} {args:Array Operand} {ts:Array TypeId} (h:Part σs σ):Zcp P ⟨e,σs⟩ ⟨.builtin .len,args,ts⟩=Zcp P ⟨e,σ⟩ ⟨.builtin .len,args,ts⟩∨∀(P':Program) (r0:AV),¬Ze4 P' r0 (Zcp P ⟨e,σs⟩ ⟨.builtin .len,args,ts⟩):=by
 unfold Zcp;simp only;split
 ·rename_i x t _ _;have hx:St.ev ⟨e,σs⟩ x=St.ev ⟨e,σ⟩ x:=by cases x<;>rfl
  split
  ·rw [hx];generalize St.ev ⟨e,σ⟩ x=av;unfold Zky;split
   ·exact .inl rfl
   ·rename_i k sv _;simp only
    cases hk:σs k with
    | none=>exact .inr λP' r0 hh=>hh
    | some en=>rw [h k en hk];exact .inl rfl
   ·exact .inl rfl
   ·exact .inl rfl
   ·exact .inl rfl
   ·rename_i k sv _;simp only
    cases hk:σs k with
    | none=>exact .inr λP' r0 hh=>hh
    | some en=>rw [h k en hk];exact .inl rfl
   all_goals exact .inl rfl
  ·exact .inl rfl
 ·exact .inl rfl
theorem Zjq {K:Int→Res} {lo:Option AV} (h:∀l,Zb2 (K l)):Zb2 (Zdx lo K):=by
 unfold Zdx;split<;>first|exact h _|trivial
theorem Zhc {K:Int→Res} {n:Nat} {hi:Option AV} (h:∀l,Zb2 (K l)):Zb2 (Zdb n hi K):=by
 unfold Zdb;split<;>first|exact h _|trivial
theorem Zq4 {P:Program} {e:Nat→AV} {σs σ:Mem} {t:TypeId} {x:Operand} {lo hi mx:Option Operand} (h:Part σs σ) :
 (Zal P ⟨e,σs⟩ (.slice t x lo hi mx)=Zal P ⟨e,σ⟩ (.slice t x lo hi mx)∧Zb2 (Zal P ⟨e,σs⟩ (.slice t x lo hi mx)))∨∀(P':Program) (r0:AV),¬Ze4 P' r0 (Zal P ⟨e,σs⟩ (.slice t x lo hi mx)):=by
 simp only [Zal];have e2:St.ev ⟨e,σ⟩=St.ev ⟨e,σs⟩:=funext λy=>by cases y<;>rfl
 rw [e2];generalize St.ev ⟨e,σs⟩ x=av;generalize lo.map (St.ev ⟨e,σs⟩)=l;generalize hi.map (St.ev ⟨e,σs⟩)=u;generalize mx.map (St.ev ⟨e,σs⟩)=v;unfold Zgi;split
 ·refine .inl ⟨rfl,?_⟩;split
  ·exact Zjq λ_=>Zhc λ_=>trivial
  ·trivial
 ·refine .inl ⟨rfl,?_⟩;split
  ·exact Zjq λ_=>Zhc λ_=>Zhc λ_=>trivial
  ·trivial
 ·rename_i k sv _
  cases hk:σs k with
  | none=>exact .inr λP' r0 hh=>by simp only [hk] at hh;exact hh
  | some en =>
    refine .inl ⟨by simp only [h k en hk,hk],?_⟩;simp only [hk];split
    ·split
     ·exact Zjq λ_=>Zhc λ_=>trivial
     ·trivial
    ·trivial
 ·refine .inl ⟨rfl,?_⟩;split
  ·exact Zjq λ_=>Zhc λ_=>trivial
  ·trivial
 ·refine .inl ⟨rfl,?_⟩;split
  ·exact Zjq λ_=>Zhc λ_=>Zhc λ_=>trivial
  ·trivial
 ·refine .inr λP' r0 hh=>?_;split at hh
  ·exact hh.2
  ·exact hh
 ·exact .inl ⟨rfl,trivial⟩
theorem Zgw {P:Program} {tok:Nat} {dst:Option Nat} {r0:AV} {K:St→Prop} {st:St}:∀(r:Res),Zb2 r→Ze4 P r0 r→∀out,Zb9 r0 r=some out→outK tok dst out K st→aRes P tok dst r K st
 | .val a [],_,_,out,ho,h=>by cases ho;exact h
 | .val a (_ :: _),h,_,_,_,_=>h.elim
 | .need p r,h,h1,out,ho,h2=>⟨h1.1,Zgw r h h1.2 out ho h2⟩
 | .bad,_,h,_,_,_=>h.elim
 | .box ..,h,_,_,_,_=>h.elim
 | .row ..,h,_,_,_,_=>h.elim
 | .app ..,h,_,_,_,_=>h.elim
 | .appv ..,h,_,_,_,_=>h.elim
 | .sto ..,h,_,_,_,_=>h.elim
 | .call ..,h,_,_,_,_=>h.elim
theorem Zp4 {P:Program} {r0:AV} {tok:Nat} {dst:Option Nat} {K:St→Prop} {st:St}:∀(r:Res),Zb2 r→Ze4 P r0 r→∀out,Zb9 r0 r=some out→outK tok dst out K st→resK r λb=>K (St.put st dst b)
 | .val a [],_,_,out,ho,h=>by cases ho;exact h
 | .val a (_ :: _),h,_,_,_,_=>h.elim
 | .need p r,h,h1,out,ho,h2=>⟨h1.1,Zp4 r h h1.2 out ho h2⟩
 | .bad,_,h,_,_,_=>h.elim
 | .box ..,h,_,_,_,_=>h.elim
 | .row ..,h,_,_,_,_=>h.elim
 | .app ..,h,_,_,_,_=>h.elim
 | .appv ..,h,_,_,_,_=>h.elim
 | .sto ..,h,_,_,_,_=>h.elim
 | .call ..,h,_,_,_,_=>h.elim
theorem Zqy {P:Program} {tok:Nat} {dst:Option Nat} {K:St→Prop} {st:St}:∀(r:Res),Zi2 r→∀out,Zkk r=some out→outK tok dst out K st→aRes P tok dst r K st
 | .need p r,h,out,ho,h2=>⟨h.1,Zqy r h.2 out ho h2⟩
 | .sto a k ent [],h,out,ho,h2=>by
   cases ho
   have:a=.u:=by
    cases a<;>first|rfl|exact h.elim
   subst this;exact h2
 | .sto a k ent (_ :: _),_,_,ho,_=>by cases ho
 | .val ..,h,_,_,_=>h.elim
 | .bad,h,_,_,_=>h.elim
 | .box ..,h,_,_,_=>h.elim
 | .row ..,h,_,_,_=>h.elim
 | .app ..,h,_,_,_=>h.elim
 | .appv ..,h,_,_,_=>h.elim
 | .call ..,h,_,_,_=>h.elim
section
variable {P:Program} {c:Cx} {n tok tok':Nat} {st:St} {a:Act} {w:World} {imm:Imm} {K:St→Prop} {o:Oper} {Q:Exit→Act→World→Prop}
theorem load_run {σs:Mem} {t:TypeId} {av:AV} {x:Value} {e:Nat→AV} {K:AV→Prop} (hs:Mx c σs w imm) (hx:Rs w imm av x) (hK:resK (Zc6 P ⟨e,σs⟩ t av) K):∃y b,(Instr.loadAt t x).run P w=.ok y w∧K b∧Rs w imm b y:=by
 have fin:∀(ad:Addr),x=.pointer (some ad)→(Instr.loadAt t x).run P w=(loadVar t ad).run P w:=by
  rintro ad rfl;rfl
 cases av with
 | pbox k g off =>
   have hv:=hx.pbox_inv;unfold Zc6 at hK;simp only at hK
   cases hk:σs k with
   | none=>simp only [hk] at hK;exact hK.elim
   | some e =>
     cases e with
     | row=>simp only [hk] at hK;exact hK.elim
     | map=>simp only [hk] at hK;exact hK.elim
     | box g' e cs pub =>
       simp only [hk] at hK;obtain⟨rfl,hK⟩:=hK;have hca:=(Zkb hs hk).drop off;rw [Addr.add_lit,Nat.zero_add] at hca;obtain⟨y,b,h1,h2,h3⟩:=Zd9 hK hca;exact⟨y,b,(fin _ hv).trans h1,h2,h3⟩
 | pimm cs =>
   obtain⟨ad,f,hv,h1,h2⟩:=hx.pimm_inv;obtain⟨y,b,h3,h4,h5⟩:=Zd9 (ad:=ad) hK λj b hb=>⟨f j,(h1 j (Zby hb)).2,.pure (h2 j b hb)⟩;exact⟨y,b,(fin _ hv).trans h3,h4,h5⟩
 | prow k sv m i off =>
   obtain⟨g,nn,cc,e1,hv⟩:=hx.prow_inv;subst e1;unfold Zc6 at hK;simp only at hK
   cases hk:σs k with
   | none=>simp only [hk] at hK;exact hK.elim
   | some e =>
     cases e with
     | box=>simp only [hk] at hK;exact hK.elim
     | map=>simp only [hk] at hK;exact hK.elim
     | row sv' e m' es pub =>
       simp only [hk] at hK;obtain⟨⟨rfl,rfl,hi⟩,hK⟩:=hK;have hca:=(Zi6 hs hk hi).drop off;rw [Addr.add_lit] at hca;obtain⟨y,b,h1,h2,h3⟩:=Zd9 hK hca;exact⟨y,b,(fin _ hv).trans h1,h2,h3⟩
 | _=>exact hK.elim
theorem Part.mx {σs σ:Mem} (h:Part σs σ) (hm:Mx c σ w imm):Mx c σs w imm :=
 ⟨⟨λk e hk=>hm.ok.ent k e (h k e hk),λk k' e e' b h1 h2 h3 h4=>hm.ok.apart k k' e e' b (h k e h1) (h k' e' h2) h3 h4,hm.ok.lt,hm.ok.spot⟩,hm.below,hm.lt,hm.old,hm.new,hm.cells⟩
theorem Znb {σs:Mem} {r0:AV} (h:Rel c n st a w imm) (hp:Part σs st.mem) (hd:∀d,o.dst=some d→d < n) (h1:Zc8 P σs r0 o.op (opS P tok' σs st o.op)) (h2:optK σs tok o.dst (Zdg r0 o.op (opS P tok' σs st o.op)) K st) :
 o.wp P a w (Zcc c n λst'=>K st'∧Part σs st'.mem) Q:=by
 unfold optK at h2;split at h2
 ·rename_i out hout;have h2:=Zsy hp out h2.1 h2.2;by_cases hl:∃t x,o.op=.load t x
  ·obtain⟨t,x,ho⟩:=hl;simp only [ho,opS,Zc8,Zdg,Zaw,isVC,Bool.false_eq_true,if_false,false_and,or_false] at h1 hout;have hs:=hp.mx h.mem;have hev:Rs w imm (St.ev ⟨st.env,σs⟩ x) (a.eval x):=(show Rel c n ⟨st.env,σs⟩ a w imm from⟨h.env,h.size,h.defers,hs⟩).ev x;obtain⟨y,b,h3,h4,h5⟩:=load_run hs hev (Zp4 _ Zf4 h1 out hout h2);unfold Oper.wp
   have hrun:(execOp a.eval o).run P w=.ok (.value y) w:=by
    simp only [execOp,ho];exact Zlf h3
   rw [hrun];exact⟨_,imm,h4,h.step (Keeps.refl w imm) h.mem hd h5⟩
  ·by_cases hst:∃t p x,o.op=.store t p x
   ·obtain⟨t,p,x,ho⟩:=hst;simp only [ho,Zc8,Zdg,Zaw,if_true] at h1 hout;refine Zdo (tok:=tok) h hd ?_;have e:aRes P tok o.dst (opS P tok' σs st (.store t p x)) (λst'=>K st'∧Part σs st'.mem) st:=Zqy _ h1 out hout h2;rw [ho]
    cases p with
    | tmp p =>
      simp only [opS] at e;simp only [Zal];split at e
      ·rename_i k g off hpe;split at e
       ·have hpe':St.ev st (.tmp p)=.pbox k g off:=hpe;have hxe:St.ev st x=St.ev ⟨st.env,Zan⟩ x:=by cases x<;>rfl
        rw [hpe',hxe];exact e
       ·exact e.elim
      ·exact e.elim
    | _=>exact e.elim
   ·by_cases hix:∃t x i,o.op=.indexAddr t x i
    ·obtain⟨t,x,i,ho⟩:=hix;simp only [ho,opS,Zc8,Zdg,Zaw,isVC,Bool.false_eq_true,if_false,false_and,or_false] at h1 hout;refine Zdo (tok:=tok) h hd ?_;rw [ho];have e1:∀y,St.ev st y=St.ev ⟨st.env,σs⟩ y:=λy=>by cases y<;>rfl
     simp only [Zal];rw [e1,e1];rcases Zrm (P:=P) (e:=st.env) (t:=t) (a:=St.ev ⟨st.env,σs⟩ x) (b:=St.ev ⟨st.env,σs⟩ i) hp with hh | hh
     ·rw [hh] at h1 hout;exact Zgw _ Zlr h1 out hout h2
     ·exact absurd h1 (hh P r0)
    ·by_cases hln:∃args ts,o.op=.call ⟨.builtin .len,args,ts⟩
     ·obtain⟨args,ts,ho⟩:=hln;simp only [ho,opS,Zc8,Zdg,Zaw,isVC,Bool.false_eq_true,if_false,false_and,or_false] at h1 hout;refine Zdo (tok:=tok) h hd ?_;rw [ho];simp only [Zal];rcases len_part (P:=P) (e:=st.env) (args:=args) (ts:=ts) hp with hh | hh
      ·rw [hh] at h1 hout;exact Zgw _ Zoy h1 out hout h2
      ·exact absurd h1 (hh P r0)
     ·by_cases hsl:∃t x lo hi mx,o.op=.slice t x lo hi mx
      ·obtain⟨t,x,lo,hi,mx,ho⟩:=hsl;simp only [ho,opS,Zc8,Zdg,Zaw,isVC,Bool.false_eq_true,if_false,false_and,or_false] at h1 hout;refine Zdo (tok:=tok) h hd ?_;rw [ho];rcases Zq4 (P:=P) (e:=st.env) (t:=t) (x:=x) (lo:=lo) (hi:=hi) (mx:=mx) hp with⟨hh,hv⟩ | hh
       ·have hh':Zal P ⟨st.env,σs⟩ (.slice t x lo hi mx)=Zal P st (.slice t x lo hi mx):=hh;rw [←hh'];exact Zgw _ hv h1 out hout h2
       ·exact absurd h1 (hh P r0)
      have e:opS P tok' σs st o.op=Zal P ⟨st.env,Zan⟩ o.op:=by
       cases ho:o.op with
       | load t x=>exact absurd ⟨t,x,ho⟩ hl
       | store t p x=>exact absurd ⟨t,p,x,ho⟩ hst
       | indexAddr t x i=>exact absurd ⟨t,x,i,ho⟩ hix
       | slice t x lo hi mx=>exact absurd ⟨t,x,lo,hi,mx,ho⟩ hsl
       | call c =>
         obtain⟨cl,args,ts⟩:=c
         cases cl with
         | builtin b =>
           cases b with
           | len=>exact absurd ⟨args,ts,ho⟩ hln
           | _=>rfl
         | _=>rfl
       | _=>rfl
      have e2:Zaw o.op=false:=by
       cases ho:o.op with
       | store t p x=>exact absurd ⟨t,p,x,ho⟩ hst
       | _=>rfl
      rw [e] at h1 hout;simp only [Zc8,Zdg,e2,Bool.false_eq_true,if_false] at h1 hout;rcases h1 with h1 | ⟨hv,h1⟩
      ·exact Zrv h hd (Zud _ h1 out hout h2)
      ·have e3:Zal P st o.op=Zal P ⟨st.env,Zan⟩ o.op:=by
        cases ho:o.op with
        | call c =>
          obtain⟨cl,args,ts⟩:=c
          cases cl with
          | value g =>
            have ev:∀x,St.ev st x=St.ev ⟨st.env,Zan⟩ x:=λx=>by cases x<;>rfl
            have em:st.ev=St.ev ⟨st.env,Zan⟩:=funext ev;simp only [Zal,Zcp,em]
          | _=>rw [ho] at hv;cases hv
        | _=>rw [ho] at hv;cases hv
       refine Zdo (tok:=tok) h hd ?_;rw [e3];generalize Zal P ⟨st.env,Zan⟩ o.op=r at *
       cases r with
       | call f args =>
         have ho':out=.val r0:=by simp only [Zb9,Option.some.injEq] at hout;exact hout.symm
         subst ho';refine(h1 st.mem hp).mono λr σ' hr=>?_;obtain⟨rfl,rfl⟩:=hr;exact h2
       | _=>exact h1.elim
 ·exact h2.elim
end
def Zcm (P:Program) (tok:Nat) (σs:Mem) (all:List Oper) (rs:Nat→AV) (i:Nat) (o:Oper) (K:St→Prop) (st:St):Prop :=
 match o.guard with
 | none=>Zc8 P σs (rs i) o.op (opS P tok σs st o.op)∧optK σs (tok+o.dst.getD 0) o.dst (Zdg (rs i) o.op (opS P tok σs st o.op)) K st
 | some (j,want)=>Zjw (Zbj all ⟨st.env,Zan⟩ j)∧if says (Zbj all ⟨st.env,Zan⟩ j) want=true then Zc8 P σs (rs i) o.op (opS P tok σs st o.op)∧optK σs (tok+o.dst.getD 0) o.dst (Zdg (rs i) o.op (opS P tok σs st o.op)) K st else K (st.put o.dst (.v (.tuple #[])))
def Zfy (P:Program) (tok:Nat) (all:List Oper) (o:Oper) (K:St→Prop) (st:St):Prop:=Zbk P tok all [o] K st
def Zcl (σs:Mem):Res→Prop
 | .need _ r=>Zcl σs r
 | .app k _ ks=>σs k=none∧∀t∈ks,σs t=none
 | .appv k _ _=>σs k=none
 | .sto .u k _ []=>σs k=none
 | _=>False
def Zhy (tok:Nat) (env:Nat→AV):Op→Bool
 | .call ⟨.builtin .append,args,_⟩=>match args.toList with
   | [.tmp d,x]=>(match env d with
     | .own k _=>k == tok+d || decide (tok+1000≤k)
     | _=>false) && (match St.ev ⟨env,Zan⟩ x with
     | .sl _ _=>true
     | .v _=>true
     | .own kx _=>(match x with
       | .tmp dx=>kx == tok+dx
       | _=>false)
     | _=>false)
   | _=>false
 | _=>false
def Ze8 (P:Program) (tok:Nat) (σs:Mem) (all:List Oper) (semi cr:Bool) (o:Oper) (K:St→Prop) (st:St):Prop :=
 Zfy P tok all o K st∧(semi=true→o.guard=none∧Zcl σs (Zal P st o.op)∧(cr=true→Zhy tok st.env o.op=true))
def Zdr (P:Program) (tok:Nat) (σs:Mem) (all:List Oper) (rs:Nat→AV) (bar:List Nat) (i:Nat) (K:St→Prop) (st:St):Prop :=
 match all[i]? with
 | some o=>if bar.contains i then Ze8 P tok (if bar.contains (i+1000) then σs else Zan) all (bar.contains (i+1000) || bar.contains (i+2000)) (bar.contains (i+3000)) o K st else Zcm P tok σs all rs i o K st
 | none=>K st
def Zb7 (bar:List Nat) (i:Nat) (σs:Mem):Mem:=if bar.contains i then (if bar.contains (i+1000) then σs else Zan) else σs
def aAny (P:Program) (tok:Nat) (all:List Oper) (rs:Nat→AV) (bar:List Nat):Mem→Nat→Array Bool→(St→Prop)→St→Prop
 | _,0,listed,K,st=>Region.ready .any all.toArray listed=[]∧K st
 | σs,f+1,listed,K,st=>(Region.ready .any all.toArray listed=[]→K st)∧∀i∈Region.ready .any all.toArray listed,Zdr P tok σs all rs bar i (aAny P tok all rs bar (Zb7 bar i σs) f (listed.setIfInBounds i true) K) st
section
variable {P:Program} {c:Cx} {n tok:Nat}
theorem Zih {all:List Oper} {st:St} {a:Act} {w:World} {imm:Imm} {j:Nat} {want:Bool} (henv:∀t,Rs w imm (st.env t) (a.tmps.getD t undef)) (hk:Zjw (Zbj all st j)):(yielded all.toArray a.tmps j == some want)=says (Zbj all st j) want:=by
 unfold Zbj at hk ⊢;split at hk
 ·rename_i d hdj;have hdj':((all.toArray[j]?).bind (·.dst))=some d:=by simpa using hdj
  cases hb:st.env d with
  | v x =>
    have hv:=henv d;rw [hb] at hv;have hv:=hv.v_inv;unfold yielded;rw [hdj'];simp only [Option.bind_some,hb];by_cases hx:∃b,x=.bool b
    ·obtain⟨b,rfl⟩:=hx
     have hlt:d < a.tmps.size:=by
      rcases Nat.lt_or_ge d a.tmps.size with h1 | h1
      ·exact h1
      ·rw [Array.getD_eq_getD_getElem?,Array.getElem?_eq_none h1] at hv;simp [undef] at hv
     have hget:a.tmps[d]?=some (.bool b):=by
      rw [Array.getElem?_eq_getElem hlt];rw [Array.getD_eq_getD_getElem?,Array.getElem?_eq_getElem hlt] at hv
      simpa using hv
     rw [hget];simp [says]
    ·have hs:says (.v x) want=false:=by cases x<;>first|rfl|exact absurd ⟨_,rfl⟩ hx
     rw [hs];rcases ht:a.tmps[d]? with _ | y
     ·rfl
     ·rw [Array.getD_eq_getD_getElem?,ht] at hv;simp only [Option.getD_some] at hv;subst hv;cases y<;>first|rfl|exact absurd ⟨_,rfl⟩ hx
  | _=>rw [hb] at hk;exact hk.elim
 ·exact hk.elim
theorem Part.none {σ:Mem}:Part Zan σ:=λt e h=>by simp [Zan] at h
theorem Part.marks {σs:Mem}:∀(ks:List Nat) {σ:Mem},Part σs σ→(∀t∈ks,σs t=.none)→Part σs (Go.Pg.marks σ ks)
 | [],_,h,_=>h
 | k :: ks,σ,h,hk=>Part.marks ks (σ:=mark σ k) (h.upd (hk k (by simp))) λt ht=>hk t (by simp [ht])
theorem Znu {σs:Mem} {dst:Option Nat} {K:St→Prop}:∀(r:Res) {st:St},Zcl σs r→Part σs st.mem→aRes P tok dst r K st→aRes P tok dst r (λst'=>K st'∧Part σs st'.mem) st
 | .need p r,st,hr,hp,h=>⟨h.1,Znu r hr hp h.2⟩
 | .app k news ks,st,hr,hp,h=>by
   unfold aRes at h ⊢;split at h
   ·exact λsv=>⟨h sv,by cases dst<;>exact(hp.marks ks hr.2).upd hr.1⟩
   ·exact h.elim
 | .appv k n news,st,hr,hp,h=>by
   unfold aRes at h ⊢;split at h
   ·exact λsv=>⟨h sv,by cases dst<;>exact hp.upd hr⟩
   ·exact h.elim
 | .val _ _,_,hr,_,_=>hr.elim
 | .box _ _,_,hr,_,_=>hr.elim
 | .row _ _ _ _,_,hr,_,_=>hr.elim
 | .mapn,_,hr,_,_=>hr.elim
 | .sto a k ent ks,st,hr,hp,h=>by
   cases ks with
   | cons x r=>cases a<;>exact hr.elim
   | nil=>cases a<;>first|exact hr.elim|exact⟨h,by cases dst<;>exact hp.upd hr⟩
 | .call _ _,_,hr,_,_=>hr.elim
 | .bad,_,hr,_,_=>hr.elim
theorem Zn8 {all:List Oper} {rs:Nat→AV} {bar:List Nat} {Q:Exit→Act→World→Prop} {K:St→Prop} {σs:Mem} (hf:all.all (Zfv n)=true) {i:Nat} {st:St} {a:Act} {w:World} {imm:Imm} (h:Rel c n st a w imm) (hp:Part σs st.mem)
 (hK:Zdr P tok σs all rs bar i K st):wpOp P all.toArray Q i (Zcc c n λst'=>K st'∧Part (Zb7 bar i σs) st'.mem) a w:=by
 have next_ok:Part (Zb7 bar i σs) st.mem:=by
  unfold Zb7;split
  ·split
   ·exact hp
   ·exact Part.none
  ·exact hp
 unfold Zdr at hK;unfold wpOp
 cases ho:all[i]? with
 | none =>
   rw [ho] at hK;simp only [List.getElem?_toArray,ho];exact⟨st,imm,⟨hK,next_ok⟩,h⟩
 | some o =>
   rw [ho] at hK;simp only [List.getElem?_toArray,ho];have hof:Zfv n o=true:=List.all_eq_true.1 hf o (List.mem_of_getElem? ho)
   have hd:∀d,o.dst=some d→d < n:=by
    intro d hdd;rw [Zfv,hdd] at hof
    simpa using hof
   have skip:K (st.put o.dst (.v (.tuple #[])))→Zcc c n (λst'=>K st'∧Part (Zb7 bar i σs) st'.mem) (a.put o.dst undef) w:=λhk =>
    ⟨_,imm,⟨hk,by cases o.dst<;>exact next_ok⟩,h.step (Keeps.refl _ _) h.mem hd (.pure (.v _))⟩
   simp only at hK;by_cases hb:bar.contains i=true
   ·rw [if_pos hb] at hK;obtain⟨hK,hkeep⟩:=hK;by_cases hsemi:bar.contains (i+1000)=true
    ·have hnx:Zb7 bar i σs=σs:=by unfold Zb7;rw [if_pos hb,if_pos hsemi]
     obtain⟨hg,hkp,-⟩:=hkeep (by rw [hsemi];rfl);rw [if_pos hsemi] at hkp;unfold Zfy Zbk at hK;rw [hg] at hK;rw [if_pos (by simp [Region.wanted,hg])];rw [hnx];have hK:aRes P (tok+o.dst.getD 0) o.dst (Zal P st o.op) K st:=hK;exact .inl (Zdo h hd (Znu _ hkp hp hK))
    have hnx:Zb7 bar i σs=Zan:=by unfold Zb7;rw [if_pos hb,if_neg hsemi]
    have go2:∀{a':Act} {w':World},Zcc c n K a' w'→Zcc c n (λst'=>K st'∧Part (Zb7 bar i σs) st'.mem) a' w':=fun⟨st',imm',h1,h2⟩=>⟨st',imm',⟨h1,by rw [hnx];exact Part.none⟩,h2⟩;unfold Zfy Zbk at hK
    cases hg:o.guard with
    | none =>
      rw [hg] at hK;rw [if_pos (by simp [Region.wanted,hg])];exact .inl (Oper.wp_mono (λ_ _ h1=>go2 h1) (Zdo h hd hK))
    | some jw =>
      obtain⟨j,want⟩:=jw;rw [hg] at hK;obtain⟨hkn,hK⟩:=hK;have hw:=Zih (want:=want) h.env hkn;by_cases hs:says (Zbj all st j) want=true
      ·rw [if_pos hs] at hK;rw [if_pos (by simp only [Region.wanted,hg];rw [hw];exact hs)];exact .inl (Oper.wp_mono (λ_ _ h1=>go2 h1) (Zdo h hd hK))
      ·rw [if_neg hs] at hK;rw [if_neg (by simp only [Region.wanted,hg];rw [hw];exact hs)];exact skip hK
   ·have hnx:Zb7 bar i σs=σs:=if_neg hb;rw [if_neg hb] at hK;unfold Zcm at hK
    cases hg:o.guard with
    | none =>
      rw [hg] at hK;rw [if_pos (by simp [Region.wanted,hg])];exact .inl (by rw [hnx];exact Znb h hp hd hK.1 hK.2)
    | some jw =>
      obtain⟨j,want⟩:=jw;rw [hg] at hK;obtain⟨hkn,hK⟩:=hK;have hw:=Zih (st:=⟨st.env,Zan⟩) (want:=want) h.env hkn;by_cases hs:says (Zbj all ⟨st.env,Zan⟩ j) want=true
      ·rw [if_pos hs] at hK;rw [if_pos (by simp only [Region.wanted,hg];rw [hw];exact hs)];exact .inl (by rw [hnx];exact Znb h hp hd hK.1 hK.2)
      ·rw [if_neg hs] at hK;rw [if_neg (by simp only [Region.wanted,hg];rw [hw];exact hs)];exact skip hK
theorem Zk6 {all:List Oper} {rs:Nat→AV} {bar:List Nat} {Q:AE→St→Prop} (hf:all.all (Zfv n)=true):∀(f:Nat) (σs:Mem) (listed:Array Bool) (st:St) (a:Act) (w:World) (imm:Imm),Rel c n st a w imm→Part σs st.mem →
 aAny P tok all rs bar σs f listed (Q .normal) st→wpAny P .any all.toArray (post c n Q) f listed a w
 | 0,σs,listed,st,a,w,imm,h,_,hK=>⟨hK.1,.normal,st,imm,rfl,hK.2,h⟩
 | f+1,σs,listed,st,a,w,imm,h,hs,hK=>by
   refine⟨λh0=>⟨.normal,st,imm,rfl,hK.1 h0,h⟩,λi hi=>?_⟩;refine wpOp_mono (λa' w' hg=>?_) (Zn8 hf h hs (hK.2 i hi));obtain⟨st',imm',⟨hk,hs'⟩,hr⟩:=hg;exact Zk6 hf f _ _ st' a' w' imm' hr hs' hk
end
theorem Zfs {e e':Nat→AV} {σ:Mem} {x:Operand} (h:∀t,x=.tmp t→e t=e' t):St.ev ⟨e,σ⟩ x=St.ev ⟨e',σ⟩ x:=by
 cases x with
 | tmp t=>exact h t rfl
 | _=>rfl
theorem Zel {P:Program} {σ:Mem} {e e':Nat→AV} {op:Op} (hs:∀cs b,op≠.select cs b) (h:∀x∈op.operands,∀t,x=.tmp t→e t=e' t):Zal P ⟨e,σ⟩ op=Zal P ⟨e',σ⟩ op:=by
 have hev:∀x∈op.operands,St.ev ⟨e,σ⟩ x=St.ev ⟨e',σ⟩ x:=λx hx=>Zfs (h x hx)
 have hl:∀xs:Array Operand,(∀x∈xs,x∈op.operands)→xs.toList.map (St.ev ⟨e,σ⟩)=xs.toList.map (St.ev ⟨e',σ⟩):=λxs hx =>
  List.map_congr_left λx hm=>hev x (hx x (Array.mem_toList_iff.1 hm))
 have hp:∀ps:Array (Nat × Operand),(∀p∈ps,p.2∈op.operands)→ps.toList.map (λp=>(p.1,St.ev ⟨e,σ⟩ p.2))=ps.toList.map (λp=>(p.1,St.ev ⟨e',σ⟩ p.2)):=λps hx =>
  List.map_congr_left λp hm=>by rw [hev p.2 (hx p (Array.mem_toList_iff.1 hm))]
 have ho:∀b:Option Operand,(∀x,b=some x→x∈op.operands)→b.map (St.ev ⟨e,σ⟩)=b.map (St.ev ⟨e',σ⟩):=by
  intro b hb
  cases b with
  | none=>rfl
  | some x=>simp only [Option.map_some];rw [hev x (hb x rfl)]
 cases op with
 | call cl =>
   simp only [Zal];unfold Zcp;have ha:=hl cl.args (λx hx=>by simp only [Op.operands,Call.operands];exact Array.mem_append.2 (.inr hx));have h1:∀x∈cl.args.toList,St.ev ⟨e,σ⟩ x=St.ev ⟨e',σ⟩ x:=λx hx=>hev x (by simp only [Op.operands,Call.operands];exact Array.mem_append.2 (.inr (Array.mem_toList_iff.1 hx)))
   cases hc:cl.callee with
   | builtin b =>
     cases b<;>simp only<;>first
      | rfl
      | (rw [ha];done)
      | (split<;>first
       | rfl
       | (rename_i hx _
          rw [hx] at h1
          first
          | (rw [h1 _ (by simp)];done)
          | (rw [h1 _ (by simp)];rfl)
          | (rw [h1 _ (by simp)];rw [h1 _ (by simp)];rfl)
          | (rw [h1 _ (by simp)];rename_i hx2 _;rw [h1 _ (by simp)];rfl)))
   | value f =>
     simp only;rw [hev f (by simp [Op.operands,Call.operands,hc]),ha]
   | invoke r nm=>rfl
 | move x=>simp only [Zal];rw [hev x (by simp [Op.operands])]
 | assign x=>simp only [Zal];rw [hev x (by simp [Op.operands])]
 | pick cc x y=>simp only [Zal,Zjc];rw [hev cc (by simp [Op.operands]),hev x (by simp [Op.operands]),hev y (by simp [Op.operands])]
 | alloc t=>rfl
 | box t x=>simp only [Zal];rw [hev x (by simp [Op.operands])]
 | build t ps=>simp only [Zal];rw [hp ps (λp hpp=>by simp only [Op.operands];simp;exact⟨p.1,hpp⟩)]
 | buildSlice t len ps=>simp only [Zal];rw [hp ps (λp hpp=>by simp only [Op.operands];simp;exact⟨p.1,hpp⟩)];rfl
 | load t x=>simp only [Zal];rw [hev x (by simp [Op.operands])];rfl
 | store t p x=>simp only [Zal];rw [hev p (by simp [Op.operands]),hev x (by simp [Op.operands])];rfl
 | nilCheck x=>simp only [Zal];rw [hev x (by simp [Op.operands])]
 | binOp b t x y u=>simp only [Zal];rw [hev x (by simp [Op.operands]),hev y (by simp [Op.operands])]
 | unOp b t x=>simp only [Zal];rw [hev x (by simp [Op.operands])]
 | convert s d x=>simp only [Zal];first|(rw [hev x (by simp [Op.operands])];done)|(rw [hev x (by simp [Op.operands])];rfl)
 | makeFunc fn first caps =>
   cases fn with
   | func f=>simp only [Zal];rw [hl caps (λx hx=>by simp only [Op.operands];exact Array.mem_append.2 (.inr hx))]
   | _=>rfl
 | makeSlice t l cp=>simp only [Zal];rw [hev l (by simp [Op.operands]),hev cp (by simp [Op.operands])]
 | slice t x lo hi mx =>
   simp only [Zal];rw [hev x (by simp [Op.operands]),ho lo (λy hy=>by simp [Op.operands,hy]),ho hi (λy hy=>by simp [Op.operands,hy]),ho mx (λy hy=>by simp [Op.operands,hy])];rfl
 | fieldAddr s x f=>simp only [Zal];rw [hev x (by simp [Op.operands])]
 | field s x f=>simp only [Zal];rw [hev x (by simp [Op.operands])]
 | indexAddr t x i=>simp only [Zal];rw [hev x (by simp [Op.operands]),hev i (by simp [Op.operands])];rfl
 | index t x i=>simp only [Zal];rw [hev x (by simp [Op.operands]),hev i (by simp [Op.operands])]
 | extract x i=>simp only [Zal];rw [hev x (by simp [Op.operands])]
 | makeInterface t x=>simp only [Zal];rw [hev x (by simp [Op.operands])]
 | makeMap t r=>cases r<;>rfl
 | lookup t m k b=>simp only [Zal];rw [hev m (by simp [Op.operands]),hev k (by simp [Op.operands])];rfl
 | mapUpdate t m k x=>simp only [Zal];rw [hev m (by simp [Op.operands]),hev k (by simp [Op.operands]),hev x (by simp [Op.operands])];rfl
 | _=>rfl
def Zj6 (P:Program) (tok:Nat) (σs:Mem) (all:List Oper) (r0:AV) (o:Oper) (st:St):Prop :=
 match o.guard with
 | none=>Zc8 P σs r0 o.op (opS P tok σs st o.op)
 | some (j,want)=>Zjw (Zbj all ⟨st.env,Zan⟩ j)∧(says (Zbj all ⟨st.env,Zan⟩ j) want=true→Zc8 P σs r0 o.op (opS P tok σs st o.op))
def dOut (P:Program) (tok:Nat) (σs:Mem) (all:List Oper) (r0:AV) (o:Oper) (st:St):Option Out :=
 match o.guard with
 | none=>Zdg r0 o.op (opS P tok σs st o.op)
 | some (j,want)=>if says (Zbj all ⟨st.env,Zan⟩ j) want=true then Zdg r0 o.op (opS P tok σs st o.op) else some (.val (.v (.tuple #[])))
def Zgy (tok:Nat) (dst:Option Nat) (st:St) (x:Nat × Value):Out→St
 | .val a=>St.put st dst a
 | .box e cs=>St.put ⟨st.env,upd st.mem tok (some (.box x.1 e cs false))⟩ dst (.pbox tok x.1 0)
 | .row e m es=>St.put ⟨st.env,upd st.mem tok (some (.row x.2 e m es 0))⟩ dst (.own tok x.2)
 | .sto k ent=>St.put ⟨st.env,upd st.mem k (some ent)⟩ dst .u
theorem Zcj {P:Program} {tok:Nat} {σs:Mem} {all:List Oper} {rs:Nat→AV} {i:Nat} {o:Oper} {st:St} {K:St→Prop} :
 Zcm P tok σs all rs i o K st↔Zj6 P tok σs all (rs i) o st∧∃out,dOut P tok σs all (rs i) o st=some out∧Zsx σs (tok+o.dst.getD 0) out∧∀x,K (Zgy (tok+o.dst.getD 0) o.dst st x out):=by
 have key:∀(ou:Option Out),optK σs (tok+o.dst.getD 0) o.dst ou K st↔∃out,ou=some out∧Zsx σs (tok+o.dst.getD 0) out∧∀x,K (Zgy (tok+o.dst.getD 0) o.dst st x out):=by
  intro ou
  cases ou with
  | none=>simp [optK]
  | some out =>
    simp only [optK,Option.some.injEq,exists_eq_left'];refine and_congr_right λ_=>?_
    cases out with
    | val a=>exact⟨λh _=>h,λh=>h (0,undef)⟩
    | box e cs=>exact⟨λh x=>h x.1,λh g=>h (g,undef)⟩
    | row e m es=>exact⟨λh x=>h x.2,λh sv=>h (0,sv)⟩
    | sto k ent=>exact⟨λh _=>h,λh=>h (0,undef)⟩
 unfold Zcm Zj6 dOut
 cases hg:o.guard with
 | none=>simp only [key]
 | some jw =>
   obtain⟨j,want⟩:=jw;simp only;by_cases hs:says (Zbj all ⟨st.env,Zan⟩ j) want=true
   ·simp only [hs,if_true,forall_const,key,and_assoc]
   ·have hs':says (Zbj all ⟨st.env,Zan⟩ j) want=false:=by simpa using hs
    simp only [hs',Bool.false_eq_true,if_false,false_imp_iff,and_true];refine and_congr_right λ_=>⟨λh=>⟨_,rfl,trivial,λ_=>h⟩,fun⟨out,h1,_,h2⟩=>?_⟩;cases h1;exact h2 (0,undef)
theorem Zcq {ops:Array Oper} {o:Oper} {t:Nat} (h:Operand.tmp t∈o.op.operands):t∈o.looksAt ops:=by
 unfold Oper.looksAt;refine List.mem_append.2 (.inl ?_);rw [List.mem_filterMap];exact⟨.tmp t,Array.mem_toList_iff.2 h,rfl⟩
theorem Zs1 {P:Program} {tok:Nat} {σs:Mem} {ops:Array Oper} {o:Oper} {st st':St} (hsel:∀cs b,o.op≠.select cs b) (h:∀t∈o.looksAt ops,st.env t=st'.env t) (hm:Zaw o.op=true→∀t∈o.looksAt ops,st.mem (tok+t)=st'.mem (tok+t)) :
 opS P tok σs st o.op=opS P tok σs st' o.op:=by
 have h0:=Zel (P:=P) (σ:=Zan) (e:=st.env) (e':=st'.env) hsel λx hx t ht=>h t (Zcq (ht ▸ hx))
 cases ho:o.op with
 | load t x =>
   have hx:St.ev ⟨st.env,σs⟩ x=St.ev ⟨st'.env,σs⟩ x:=Zfs λt ht=>h t (Zcq (by rw [ho];simp [Op.operands,ht]));simp only [opS];rw [hx];rfl
 | store t p x =>
   have hx:St.ev ⟨st.env,Zan⟩ x=St.ev ⟨st'.env,Zan⟩ x:=Zfs λt ht=>h t (Zcq (by rw [ho];simp [Op.operands,ht]))
   cases p with
   | tmp p =>
     have hp:p∈o.looksAt ops:=Zcq (by rw [ho];simp [Op.operands]);have hm':=hm (by rw [ho];rfl) p hp;simp only [opS,h p hp,hx];split
     ·rename_i k g off _;by_cases hk:k=tok+p
      ·rw [if_pos hk,if_pos hk];unfold Zeu;split
       ·simp only [hk,hm']
       ·rfl
      ·rw [if_neg hk,if_neg hk]
     ·rfl
   | _=>rfl
 | indexAddr t x i =>
   have hx:St.ev ⟨st.env,σs⟩ x=St.ev ⟨st'.env,σs⟩ x:=Zfs λt ht=>h t (Zcq (by rw [ho];simp [Op.operands,ht]));have hi:St.ev ⟨st.env,σs⟩ i=St.ev ⟨st'.env,σs⟩ i:=Zfs λt ht=>h t (Zcq (by rw [ho];simp [Op.operands,ht]));simp only [opS];rw [hx,hi];rfl
 | slice t x lo hi mx =>
   have h9:=Zel (P:=P) (σ:=σs) (e:=st.env) (e':=st'.env) hsel λx hx t ht=>h t (Zcq (ht ▸ hx));rw [ho] at h9;simp only [opS];exact h9
 | call c =>
   rw [ho] at h0;obtain⟨cl,args,ts⟩:=c
   cases cl with
   | builtin b =>
     cases b with
     | len =>
       have h1:∀x∈args.toList,St.ev ⟨st.env,σs⟩ x=St.ev ⟨st'.env,σs⟩ x:=λx hx=>Zfs λt ht=>h t (Zcq (by rw [ho];simp only [Op.operands,Call.operands];exact Array.mem_append.2 (.inr (Array.mem_toList_iff.1 (ht ▸ hx)))));simp only [opS];unfold Zcp;simp only;split
       ·rename_i hx _;rw [hx] at h1;rw [h1 _ (by simp)];rfl
       ·rfl
     | _=>exact h0
   | _=>exact h0
 | _=>rw [ho] at h0;exact h0
theorem Zj5 {P:Program} {tok:Nat} {σs:Mem} {all:List Oper} {r0:AV} {o:Oper} {st st':St} (hsel:∀cs b,o.op≠.select cs b) (h:∀t∈o.looksAt all.toArray,st.env t=st'.env t) (hm:Zaw o.op=true→∀t∈o.looksAt all.toArray,st.mem (tok+t)=st'.mem (tok+t)) :
 Zj6 P tok σs all r0 o st=Zj6 P tok σs all r0 o st'∧dOut P tok σs all r0 o st=dOut P tok σs all r0 o st':=by
 have h1:opS P tok σs st o.op=opS P tok σs st' o.op:=Zs1 hsel h hm;unfold Zj6 dOut;rw [h1]
 cases hg:o.guard with
 | none=>exact⟨rfl,rfl⟩
 | some jw =>
   obtain⟨j,want⟩:=jw
   have h2:Zbj all ⟨st.env,Zan⟩ j=Zbj all ⟨st'.env,Zan⟩ j:=by
    unfold Zbj;rcases hd:(all[j]?).bind (·.dst) with _ | d
    ·rfl
    ·refine h d ?_;unfold Oper.looksAt;refine List.mem_append.2 (.inr ?_);rw [hg];simp only [List.getElem?_toArray,hd];simp
   simp only [h2];exact⟨trivial,trivial⟩
theorem Zm8 {tok:Nat} {d:Option Nat} {st:St} {x:Nat × Value} {out:Out} {t:Nat} (h:d≠some t):(Zgy tok d st x out).env t=st.env t:=by
 cases d with
 | none=>cases out<;>rfl
 | some d =>
   have h':t≠d:=λe=>h (by rw [e]);cases out<;>simp [Zgy,St.put,Zaz,h']
theorem sto_at {P:Program} {tok:Nat} {σs:Mem} {all:List Oper} {r0:AV} {o:Oper} {st:St} {out:Out} (hs:Zaw o.op=true) (h:dOut P tok σs all r0 o st=some out):(∃a,out=.val a)∨∃p ent,p∈o.looksAt all.toArray∧out=.sto (tok+p) ent:=by
 have key:Zdg r0 o.op (opS P tok σs st o.op)=some out→∃p ent,p∈o.looksAt all.toArray∧out=.sto (tok+p) ent:=by
  intro h;simp only [Zdg,hs,if_true] at h
  cases ho:o.op with
  | store t p x =>
    rw [ho] at h
    cases p with
    | tmp p =>
      simp only [opS] at h;split at h
      ·rename_i k g off _;split at h
       ·rename_i hk;unfold Zeu at h;split at h
        ·simp only at h;split at h
         ·simp only [Zkk,Option.some.injEq] at h;exact⟨p,_,Zcq (by rw [ho];simp [Op.operands]),by rw [←h,hk]⟩
         ·cases h
        ·cases h
       ·cases h
      ·cases h
    | _=>cases h
  | _=>rw [ho] at hs;cases hs
 unfold dOut at h
 cases hg:o.guard with
 | none=>rw [hg] at h;exact .inr (key h)
 | some jw =>
   rw [hg] at h;simp only at h;split at h
   ·exact .inr (key h)
   ·cases h;exact .inl ⟨_,rfl⟩
theorem Zo2 {P:Program} {tok:Nat} {σs:Mem} {all:List Oper} {r0:AV} {o:Oper} {st:St} {out:Out} (hs:Zaw o.op=false) (h:dOut P tok σs all r0 o st=some out):∀k ent,out≠.sto k ent:=by
 have key:∀r out,Zb9 r0 r=some out→∀k ent,out≠.sto k ent:=by
  intro r
  induction r with
  | val a ks=>cases ks<;>intro out h k ent<;>cases h<;>simp
  | box e cs=>intro out h k ent;cases h;simp
  | row e m es ks=>cases ks<;>intro out h k ent<;>cases h<;>first|(split<;>simp)|simp
  | call f args=>intro out h k ent;cases h;simp
  | need p r ih=>exact λout h=>ih out h
  | _=>intro out h;cases h
 unfold dOut at h
 cases hg:o.guard with
 | none=>rw [hg] at h;simp only [Zdg,hs,Bool.false_eq_true,if_false] at h;exact key _ _ h
 | some jw =>
   rw [hg] at h;simp only [Zdg,hs,Bool.false_eq_true,if_false] at h;split at h
   ·exact key _ _ h
   ·cases h;intro k ent;simp
theorem Zco {α:Type} (f:Nat→α) {k n:Nat} (v:α) (h:n≠k):upd f k v n=f n:=by rw [Zaz,if_neg h]
theorem Zgg {α:Type} (f:Nat→α) {k j:Nat} (u v:α) (h:k≠j):upd (upd f k u) j v=upd (upd f j v) k u:=by
 funext n
 simp only [Zaz];by_cases h1:n=j<;>by_cases h2:n=k
 ·exact absurd (h2.symm.trans h1) h
 ·simp [h1,h2];intro h3;exact absurd h3.symm h
 ·simp [h1,h2];intro h3;exact absurd h3 h
 ·simp [h1,h2]
def Zdh (tok:Nat):Out→Option Nat
 | .val _=>none
 | .box _ _ | .row _ _ _=>some tok
 | .sto k _=>some k
theorem Zm7 {tok:Nat} {d:Option Nat} {st:St} {x:Nat × Value} {out:Out} {k:Nat} (h:Zdh tok out≠some k):(Zgy tok d st x out).mem k=st.mem k:=by
 cases d<;>cases out<;>simp only [Zgy,St.put,Zaz,Zdh,ne_eq,Option.some.injEq] at h ⊢<;>first
  | rfl
  | rw [if_neg (λe=>h e.symm)]
def putE (e:Nat→AV) (d:Option Nat) (a:AV):Nat→AV:=match d with
 | some d=>upd e d a
 | none=>e
theorem Zrb {tok tok':Nat} {d e:Option Nat} {st:St} {x y:Nat × Value} {o1 o2:Out} (h:∀t,d=some t→e≠some t) (hk:∀k,Zdh tok o1=some k→Zdh tok' o2≠some k) :
 Zgy tok' e (Zgy tok d st x o1) y o2=Zgy tok d (Zgy tok' e st y o2) x o1:=by
 have hp:∀(env:Nat→AV) (a b:AV),putE (putE env d a) e b=putE (putE env e b) d a:=by
  intro env a b
  cases d with
  | none=>cases e<;>rfl
  | some d=>cases e with
    | none=>rfl
    | some e=>exact Zgg _ _ _ (λhe=>h d rfl (by rw [he]))
 have st_eq:∀(s1 s2:St),s1.env=s2.env→s1.mem=s2.mem→s1=s2:=by
  intro s1 s2 h1 h2;cases s1;cases s2;simp only at h1 h2;rw [h1,h2]
 refine st_eq _ _ ?_ ?_
 ·have env_of:∀(tok:Nat) (d:Option Nat) (st:St) (x:Nat × Value) (o:Out),∃a,∀st',(Zgy tok d st' x o).env=putE st'.env d a:=by
   intro tok d st x o
   cases o with
   | val a=>exact⟨a,λst'=>by cases d<;>rfl⟩
   | box e cs=>exact⟨_,λst'=>by cases d<;>rfl⟩
   | row e m es=>exact⟨_,λst'=>by cases d<;>rfl⟩
   | sto k ent=>exact⟨_,λst'=>by cases d<;>rfl⟩
  obtain⟨a,ha⟩:=env_of tok d st x o1;obtain⟨b,hb⟩:=env_of tok' e st y o2;rw [ha,hb,hb,ha];exact hp st.env a b
 ·have mem_of:∀(tok:Nat) (d:Option Nat) (x:Nat × Value) (o:Out),(Zdh tok o=none∧∀st',(Zgy tok d st' x o).mem=st'.mem)∨∃k v,Zdh tok o=some k∧∀st',(Zgy tok d st' x o).mem=upd st'.mem k v:=by
   intro tok d x o
   cases o with
   | val a=>exact .inl ⟨rfl,λst'=>by cases d<;>rfl⟩
   | box e cs=>exact .inr ⟨_,_,rfl,λst'=>by cases d<;>rfl⟩
   | row e m es=>exact .inr ⟨_,_,rfl,λst'=>by cases d<;>rfl⟩
   | sto k ent=>exact .inr ⟨_,_,rfl,λst'=>by cases d<;>rfl⟩
  rcases mem_of tok d x o1 with⟨_,h1⟩ | ⟨k1,v1,t1,h1⟩<;>rcases mem_of tok' e y o2 with⟨_,h2⟩ | ⟨k2,v2,t2,h2⟩<;>rw [h2,h1,h1,h2]
  exact Zgg _ _ _ (λhe=>hk k1 t1 (by rw [t2,he]))
theorem Zrp {P:Program} {tok:Nat} {σs:Mem} {all:List Oper} {rs:Nat→AV} {i j:Nat} {oi oj:Oper} {st:St} {K:St→Prop} (hdi:oi.dst.isSome=true∨Zaw oi.op=true) (hdj:oj.dst.isSome=true∨Zaw oj.op=true) (h2s:¬(Zaw oi.op=true∧Zaw oj.op=true))
 (hsi:∀cs b,oi.op≠.select cs b) (hsj:∀cs b,oj.op≠.select cs b) (hap:oi.apart all.toArray oj=true)
 (h:Zcm P tok σs all rs i oi (Zcm P tok σs all rs j oj K) st):Zcm P tok σs all rs j oj (Zcm P tok σs all rs i oi K) st:=by
 obtain⟨h1,h2,h3⟩:=Oper.apart_spec hap;have hne:∀t,oi.dst=some t→oj.dst≠some t:=h2
 have tokOf:∀(o o':Oper) (r0:AV) (out:Out) (st:St),(o.dst.isSome=true∨Zaw o.op=true)→¬(Zaw o.op=true∧Zaw o'.op=true)→dOut P tok σs all r0 o st=some out→(∀d,o.dst=some d→d ∉ o'.looksAt all.toArray)→Zaw o'.op=true→∀t∈o'.looksAt all.toArray,Zdh (tok+o.dst.getD 0) out≠some (tok+t):=by
  intro o o' r0 out st hd h2s ho hl hs' t ht
  have hs:Zaw o.op=false:=by
   cases hx:Zaw o.op
   ·rfl
   ·exact absurd ⟨hx,hs'⟩ h2s
  have hd:o.dst.isSome=true:=hd.resolve_right (by rw [hs];simp);obtain⟨d,hd⟩:=Option.isSome_iff_exists.1 hd;have hdt:d≠t:=λe=>hl d hd (e ▸ ht);have:=Zo2 hs ho
  cases out with
  | val a=>simp [Zdh]
  | box e cs=>simp [Zdh,hd];omega
  | row e m es=>simp [Zdh,hd];omega
  | sto k ent=>exact absurd rfl (this k ent)
 have ai:∀x out,∀t∈oj.looksAt all.toArray,(Zgy (tok+oi.dst.getD 0) oi.dst st x out).env t=st.env t:=λx out t ht=>Zm8 (λe=>h1 t e ht);have aj:∀x out,∀t∈oi.looksAt all.toArray,(Zgy (tok+oj.dst.getD 0) oj.dst st x out).env t=st.env t:=λx out t ht=>Zm8 (λe=>h3 t e ht);rw [Zcj] at h ⊢;obtain⟨n1,out1,e1,ok1,k1⟩:=h;have k1':=λx=>Zcj.1 (k1 x);obtain⟨n2,out2,e2,ok2,_⟩:=k1' (0,undef);have c2:=λx=>Zj5 (P:=P) (tok:=tok) (σs:=σs) (r0:=rs j) hsj (ai x out1) λhs t ht=>Zm7 (tokOf oi oj _ out1 st hdi h2s e1 h1 hs t ht);rw [(c2 (0,undef)).1] at n2;rw [(c2 (0,undef)).2] at e2
 refine⟨n2,out2,e2,ok2,λy=>?_⟩;rw [Zcj];have c1:=Zj5 (P:=P) (tok:=tok) (σs:=σs) (r0:=rs i) hsi (aj y out2) λhs t ht=>Zm7 (tokOf oj oi _ out2 st hdj (λhh=>h2s hh.symm) e2 h3 hs t ht);rw [c1.1,c1.2];refine⟨n1,out1,e1,ok1,λx=>?_⟩;obtain⟨_,out3,e3,_,k3⟩:=k1' x;rw [(c2 x).2,e2] at e3;cases e3
 have hk:∀k,Zdh (tok+oi.dst.getD 0) out1=some k→Zdh (tok+oj.dst.getD 0) out2≠some k:=by
  intro k t1 t2;by_cases hsi':Zaw oi.op=true
  ·have hsj':Zaw oj.op=false:=by
    cases hx:Zaw oj.op
    ·rfl
    ·exact absurd ⟨hsi',hx⟩ h2s
   rcases sto_at hsi' e1 with⟨a,rfl⟩ | ⟨p,ent,hp,rfl⟩
   ·cases t1
   ·simp only [Zdh,Option.some.injEq] at t1;exact tokOf oj oi _ out2 st hdj (λhh=>h2s hh.symm) e2 h3 hsi' p hp (by rw [t1];exact t2)
  ·have hsi0:Zaw oi.op=false:=by simpa using hsi'
   have hdi':=hdi.resolve_right hsi';obtain⟨di,hdi'⟩:=Option.isSome_iff_exists.1 hdi';have ns:=Zo2 hsi0 e1
   have t1':k=tok+di:=by
    cases out1 with
    | val a=>cases t1
    | box e cs=>simp [Zdh,hdi'] at t1;omega
    | row e m es=>simp [Zdh,hdi'] at t1;omega
    | sto k ent=>exact absurd rfl (ns k ent)
   by_cases hsj':Zaw oj.op=true
   ·rcases sto_at hsj' e2 with⟨a,rfl⟩ | ⟨p,ent,hp,rfl⟩
    ·cases t2
    ·simp only [Zdh,Option.some.injEq] at t2;have e:di=p:=Nat.add_left_cancel (t1'.symm.trans t2.symm);exact h1 di hdi' (by rw [e];exact hp)
   ·have hsj0:Zaw oj.op=false:=by simpa using hsj'
    obtain⟨dj,hdj'⟩:=Option.isSome_iff_exists.1 (hdj.resolve_right hsj');have ns2:=Zo2 hsj0 e2
    have t2':k=tok+dj:=by
     cases out2 with
     | val a=>cases t2
     | box e cs=>simp [Zdh,hdj'] at t2;omega
     | row e m es=>simp [Zdh,hdj'] at t2;omega
     | sto k ent=>exact absurd rfl (ns2 k ent)
    have e:dj=di:=Nat.add_left_cancel (t2'.symm.trans t1');exact hne di hdi' (by rw [hdj',e])
 have:=k3 y;rw [Zrb hne hk] at this;exact this
theorem Zc9 {P:Program} {tok:Nat} {σs:Mem} {all:List Oper} {rs:Nat→AV} {i:Nat} {o:Oper} {st:St} {K K':St→Prop} (h:∀st,K st→K' st) (hd:Zcm P tok σs all rs i o K st):Zcm P tok σs all rs i o K' st:=by
 rw [Zcj] at hd ⊢;obtain⟨h1,out,h2,h4,h3⟩:=hd;exact⟨h1,out,h2,h4,λx=>h _ (h3 x)⟩
theorem Zg6 {r0:AV}:∀(r:Res),Zb2 r→∀out,Zb9 r0 r=some out→∃a,out=.val a
 | .val a [],_,out,h=>⟨a,by cases h;rfl⟩
 | .val a (_ :: _),h,_,_=>h.elim
 | .need p r,h,out,ho=>Zg6 r h out ho
 | .bad,_,out,h=>by cases h
 | .box _ _,h,_,_=>h.elim
 | .row _ _ _ _,h,_,_=>h.elim
 | .app _ _ _,h,_,_=>h.elim
 | .appv _ _ _,h,_,_=>h.elim
 | .sto _ _ _ _,h,_,_=>h.elim
 | .call _ _,h,_,_=>h.elim
theorem Zhq {P:Program} {s:TypeId} {x:AV} {f:Nat}:Zb2 (Zgt P s x f):=by
 unfold Zgt;split
 ·split
  ·split
   ·unfold Zb2;split<;>trivial
   ·trivial
  ·trivial
 ·trivial
theorem Zif {p:Prop} {r:Res} (h:Zb2 r):Zb2 (.need p r):=h
theorem Zcv {P:Program}:∀(l:List (TypeId × Nat)) (xs ys:List AV) (R:Bool→Res),(∀c,Zb2 (R c))→Zb2 (Zen P l xs ys R)
 | [],_,_,R,h=>h true
 | (t,off) :: r,xs,ys,R,h=>by
   unfold Zen;split
   ·exact Zcv r xs ys _ λc=>h _
   ·exact Zcv r xs ys _ λc=>h _
   ·exact Zcv r xs ys _ λc=>h _
   ·trivial
theorem Zhr {P:Program} {t:TypeId} {xs ys:List AV} {R:Bool→Res} (h:∀c,Zb2 (R c)):Zb2 (Zpm P t xs ys R):=by
 unfold Zpm;split
 ·exact Zif (Zcv _ _ _ _ h)
 ·split
  ·exact Zif (Zcv _ _ _ _ h)
  ·trivial
 ·trivial
theorem Zji {P:Program} {op:BinOp} {t:TypeId} {x y:AV}:Zb2 (Zk4 P op t x y):=by
 unfold Zk4;split
 ·split
  ·trivial
  ·trivial
  ·unfold Zqn;split<;>trivial
 ·unfold Zpy;split<;>trivial
 ·split<;>trivial
 ·split
  ·exact Zhr λ_=>trivial
  ·exact Zhr λ_=>trivial
  ·trivial
 ·split<;>trivial
 ·split<;>trivial
 ·trivial
theorem Zjh {x:AV}:Zb2 (Zku x):=by
 unfold Zku;split<;>trivial
theorem Zks {op:UnOp} {x:AV}:Zb2 (Zqz op x):=by
 unfold Zqz;split<;>trivial
def Zq9 (oj:Oper):Bool:=oj.guard.isNone && oj.dst.isSome && (match oj.op with
 | .move _ | .load _ _ | .fieldAddr _ _ _ | .binOp _ _ _ _ _ | .unOp _ _ _ | .nilCheck _ | .slice _ _ _ _ _=>true
 | _=>false)
def Zkt:Op→Bool
 | .load _ _=>false
 | .slice _ _ _ _ _=>false
 | _=>true
def blind (oj:Oper):Bool:=Zq9 oj && Zkt oj.op
def cre (oj:Oper):Bool:=oj.guard.isNone && oj.dst.isSome && decide (oj.dst.getD 0 < 1000) && (match oj.op with
 | .alloc _ | .buildSlice _ _ _=>true
 | _=>false)
structure Cre (oj:Oper):Prop where
 guard:oj.guard=none
 lt:oj.dst.getD 0 < 1000
 dst:∃d,oj.dst=some d
 op:(∃t,oj.op=.alloc t)∨∃t n ps,oj.op=.buildSlice t n ps
theorem cre_spec {oj:Oper} (h:cre oj=true):Cre oj:=by
 unfold cre at h;simp only [Bool.and_eq_true,decide_eq_true_eq] at h;obtain⟨⟨⟨h1,h2⟩,h4⟩,h3⟩:=h;refine⟨Option.isNone_iff_eq_none.1 h1,h4,Option.isSome_iff_exists.1 h2,?_⟩;split at h3
 ·exact .inl ⟨_,by assumption⟩
 ·exact .inr ⟨_,_,_,by assumption⟩
 ·cases h3
theorem Cre.sto {oj:Oper} (h:Cre oj):Zaw oj.op=false:=by
 rcases h.op with⟨t,e⟩ | ⟨t,n,ps,e⟩<;>rw [e]<;>rfl
theorem Cre.sel {oj:Oper} (h:Cre oj):∀cs b,oj.op≠.select cs b:=by
 intro cs b e0;rcases h.op with⟨t,e⟩ | ⟨t,n,ps,e⟩<;>rw [e] at e0<;>cases e0
def Zkn (tj:Nat):Res→Prop
 | .need _ r=>Zkn tj r
 | .app k _ ks=>k≠tj∧ks=[]
 | .bad=>True
 | _=>False
theorem Zkm {r0:AV} {k:Nat} {ent:Ent}:∀(r:Res),Zb9 r0 r=some (.sto k ent)→False
 | .need _ r,h=>Zkm r h
 | .val _ ks,h=>by cases ks<;>simp [Zb9] at h
 | .box _ _,h=>by simp [Zb9] at h
 | .row _ _ _ ks,h=>by
   cases ks with
   | nil =>
     simp only [Zb9,Option.some.injEq] at h;split at h<;>cases h
   | cons a b=>simp [Zb9] at h
 | .app _ _ _,h=>by simp [Zb9] at h
 | .appv _ _ _,h=>by simp [Zb9] at h
 | .sto _ _ _ _,h=>by simp [Zb9] at h
 | .mapn,h=>by simp [Zb9] at h
 | .call _ _,h=>by simp [Zb9] at h
 | .bad,h=>by simp [Zb9] at h
structure Quiet (oj:Oper):Prop where
 guard:oj.guard=none
 dst:∃d,oj.dst=some d
 op:(∃x,oj.op=.move x)∨(∃t x,oj.op=.load t x)∨(∃s x f,oj.op=.fieldAddr s x f)∨(∃b t x y u,oj.op=.binOp b t x y u)∨(∃b t x,oj.op=.unOp b t x)∨(∃x,oj.op=.nilCheck x)∨∃t x lo hi mx,oj.op=.slice t x lo hi mx
theorem Zgm {oj:Oper} (h:Zq9 oj=true):Quiet oj:=by
 unfold Zq9 at h;simp only [Bool.and_eq_true] at h;obtain⟨⟨h1,h2⟩,h3⟩:=h;refine⟨Option.isNone_iff_eq_none.1 h1,Option.isSome_iff_exists.1 h2,?_⟩;split at h3
 ·exact .inl ⟨_,by assumption⟩
 ·exact .inr (.inl ⟨_,_,by assumption⟩)
 ·exact .inr (.inr (.inl ⟨_,_,_,by assumption⟩))
 ·exact .inr (.inr (.inr (.inl ⟨_,_,_,_,_,by assumption⟩)))
 ·exact .inr (.inr (.inr (.inr (.inl ⟨_,_,_,by assumption⟩))))
 ·exact .inr (.inr (.inr (.inr (.inr (.inl ⟨_,by assumption⟩)))))
 ·exact .inr (.inr (.inr (.inr (.inr (.inr ⟨_,_,_,_,_,by assumption⟩)))))
 ·cases h3
theorem Quiet.sto {oj:Oper} (h:Quiet oj):Zaw oj.op=false:=by
 rcases h.op with⟨x,e⟩ | ⟨t,x,e⟩ | ⟨s,x,f,e⟩ | ⟨b,t,x,y,u,e⟩ | ⟨b,t,x,e⟩ | ⟨x,e⟩ | ⟨t,x,lo,hi,mx,e⟩<;>rw [e]<;>rfl
theorem Quiet.vc {oj:Oper} (h:Quiet oj):isVC oj.op=false:=by
 rcases h.op with⟨x,e⟩ | ⟨t,x,e⟩ | ⟨s,x,f,e⟩ | ⟨b,t,x,y,u,e⟩ | ⟨b,t,x,e⟩ | ⟨x,e⟩ | ⟨t,x,lo,hi,mx,e⟩<;>rw [e]<;>rfl
theorem Zre {P:Program} {σ σ':Mem} {r0:AV} {op:Op} {r:Res} (h:isVC op=false):Zc8 P σ r0 op r=Zc8 P σ' r0 op r:=by
 unfold Zc8;rw [h];simp only [Bool.false_eq_true,false_and]
theorem Quiet.sel {oj:Oper} (h:Quiet oj):∀cs b,oj.op≠.select cs b:=by
 intro cs b e0;rcases h.op with⟨x,e⟩ | ⟨t,x,e⟩ | ⟨s,x,f,e⟩ | ⟨b,t,x,y,u,e⟩ | ⟨b,t,x,e⟩ | ⟨x,e⟩ | ⟨t,x,lo,hi,mx,e⟩<;>rw [e] at e0<;>cases e0
theorem lo_out {r0:AV} {K:Int→Res} {lo:Option AV} (h:∀l out,Zb9 r0 (K l)=some out→∃a,out=.val a) {out:Out} (ho:Zb9 r0 (Zdx lo K)=some out):∃a,out=.val a:=by
 unfold Zdx at ho;split at ho<;>first|exact h _ _ ho|cases ho
theorem Ztn {r0:AV} {K:Int→Res} {n:Nat} {hi:Option AV} (h:∀l out,Zb9 r0 (K l)=some out→∃a,out=.val a) {out:Out} (ho:Zb9 r0 (Zdb n hi K)=some out):∃a,out=.val a:=by
 unfold Zdb at ho;split at ho<;>first|exact h _ _ ho|cases ho
theorem Zlv {r0 a:AV} {p:Prop} {ks:List Nat} {out:Out} (ho:Zb9 r0 (.need p (.val a ks))=some out):∃a,out=.val a:=by
 cases ks with
 | nil=>simp only [Zb9,Option.some.injEq] at ho;exact⟨_,ho.symm⟩
 | cons=>cases ho
theorem Zsa {P:Program} {tok:Nat} {σs:Mem} {r0:AV} {st:St} {t:TypeId} {x:Operand} {lo hi mx:Option Operand} {out:Out} (ho:Zb9 r0 (opS P tok σs st (.slice t x lo hi mx))=some out):∃a,out=.val a:=by
 simp only [opS,Zal] at ho;unfold Zgi at ho
 repeat' split at ho
 all_goals first
  | exact Zlv ho
  | exact lo_out (λ_ _ ho=>Ztn (λ_ _ ho=>Zlv ho) ho) ho
  | exact lo_out (λ_ _ ho=>Ztn (λ_ _ ho=>Ztn (λ_ _ ho=>Zlv ho) ho) ho) ho
  | cases ho
theorem Quiet.out {P:Program} {tok:Nat} {σs:Mem} {all:List Oper} {r0:AV} {oj:Oper} (h:Quiet oj) {st:St} {out:Out} (ho:dOut P tok σs all r0 oj st=some out):∃a,out=.val a:=by
 unfold dOut at ho;rw [h.guard] at ho;simp only [Zdg,h.sto,Bool.false_eq_true,if_false] at ho;by_cases hsl:∃t x lo hi mx,oj.op=.slice t x lo hi mx
 ·obtain⟨t,x,lo,hi,mx,e⟩:=hsl;rw [e] at ho;exact Zsa ho
 refine Zg6 _ ?_ out ho;rcases h.op with⟨x,e⟩ | ⟨t,x,e⟩ | ⟨s,x,f,e⟩ | ⟨b,t,x,y,u,e⟩ | ⟨b,t,x,e⟩ | ⟨x,e⟩ | ⟨t,x,lo,hi,mx,e⟩
 ·rw [e];exact trivial
 ·rw [e];exact Zf4
 ·rw [e];exact Zhq
 ·rw [e];exact Zji
 ·rw [e];exact Zks
 ·rw [e];exact Zjh
 ·exact absurd ⟨t,x,lo,hi,mx,e⟩ hsl
theorem Zk3 {P:Program} {tok:Nat} {σ σ':Mem} {all:List Oper} {rs:Nat→AV} {j:Nat} {oj:Oper} {K:St→Prop} {st:St} (hq:Quiet oj) (hb:Zkt oj.op=true):Zcm P tok σ all rs j oj K st=Zcm P tok σ' all rs j oj K st:=by
 have hop:opS P tok σ st oj.op=opS P tok σ' st oj.op:=by
  rcases hq.op with⟨x,e⟩ | ⟨t,x,e⟩ | ⟨s,x,f,e⟩ | ⟨b,t,x,y,u,e⟩ | ⟨b,t,x,e⟩ | ⟨x,e⟩ | ⟨t,x,lo,hi,mx,e⟩
  ·rw [e];rfl
  ·rw [e] at hb;cases hb
  ·rw [e];rfl
  ·rw [e];rfl
  ·rw [e];rfl
  ·rw [e];rfl
  ·rw [e] at hb;cases hb
 have hout:∀out,Zdg (rs j) oj.op (opS P tok σ' st oj.op)=some out→∃a,out=.val a:=by
  intro out ho;simp only [Zdg,hq.sto,Bool.false_eq_true,if_false] at ho;refine Zg6 _ ?_ out ho;rcases hq.op with⟨x,e⟩ | ⟨t,x,e⟩ | ⟨s,x,f,e⟩ | ⟨b,t,x,y,u,e⟩ | ⟨b,t,x,e⟩ | ⟨x,e⟩ | ⟨t,x,lo,hi,mx,e⟩
  ·rw [e];exact trivial
  ·rw [e];exact Zf4
  ·rw [e];exact Zhq
  ·rw [e];exact Zji
  ·rw [e];exact Zks
  ·rw [e];exact Zjh
  ·rw [e] at hb;cases hb
 have hopt:optK σ (tok+oj.dst.getD 0) oj.dst (Zdg (rs j) oj.op (opS P tok σ' st oj.op)) K st=optK σ' (tok+oj.dst.getD 0) oj.dst (Zdg (rs j) oj.op (opS P tok σ' st oj.op)) K st:=by
  cases h:Zdg (rs j) oj.op (opS P tok σ' st oj.op) with
  | none=>rfl
  | some out =>
    obtain⟨a,rfl⟩:=hout out h;rfl
 unfold Zcm;rw [hq.guard];simp only [hop,hopt,Zre (σ:=σ) (σ':=σ') hq.vc]
theorem Zl5 {P:Program} {tok:Nat} {σs:Mem} {dst:Option Nat} {K:St→Prop}:∀(r:Res) {st:St},Zcl σs r→aRes P tok dst r K st→aRes P tok dst r (λst'=>K st'∧∀t,dst≠some t→st'.env t=st.env t) st
 | .need p r,st,hr,h=>⟨h.1,Zl5 r hr h.2⟩
 | .app k news ks,st,hr,h=>by
   unfold aRes at h ⊢;split at h
   ·refine λsv=>⟨h sv,λt ht=>?_⟩
    cases dst with
    | none=>rfl
    | some d=>exact Zco _ _ (λe=>ht (by rw [e]))
   ·exact h.elim
 | .appv k n news,st,hr,h=>by
   unfold aRes at h ⊢;split at h
   ·refine λsv=>⟨h sv,λt ht=>?_⟩
    cases dst with
    | none=>rfl
    | some d=>exact Zco _ _ (λe=>ht (by rw [e]))
   ·exact h.elim
 | .val _ _,_,hr,_=>hr.elim
 | .box _ _,_,hr,_=>hr.elim
 | .row _ _ _ _,_,hr,_=>hr.elim
 | .mapn,_,hr,_=>hr.elim
 | .sto _ _ _ _,st,hr,h=>⟨h,λt ht=>by
  cases dst with
  | none=>rfl
  | some d=>exact Zco _ _ (λe=>ht (by rw [e]))⟩
 | .call _ _,_,hr,_=>hr.elim
 | .bad,_,hr,_=>hr.elim
theorem Zff {P:Program} {tok:Nat} {σs:Mem} {dst:Option Nat} {K:St→Prop}:∀(r:Res) {st:St},Zcl σs r→aRes P tok dst r K st→∃st1,K st1
 | .need p r,st,hr,h=>Zff r hr h.2
 | .app k news ks,st,hr,h=>by
   unfold aRes at h;split at h
   ·exact⟨_,h undef⟩
   ·exact h.elim
 | .appv k n news,st,hr,h=>by
   unfold aRes at h;split at h
   ·exact⟨_,h undef⟩
   ·exact h.elim
 | .val _ _,_,hr,_=>hr.elim
 | .box _ _,_,hr,_=>hr.elim
 | .row _ _ _ _,_,hr,_=>hr.elim
 | .mapn,_,hr,_=>hr.elim
 | .sto _ _ _ _,st,hr,h=>⟨_,h⟩
 | .call _ _,_,hr,_=>hr.elim
 | .bad,_,hr,_=>hr.elim
theorem Zgn {e:Nat→AV} {m:Mem} {dst:Option Nat} {dj:Nat} {a b:AV} (h:dst≠some dj):St.put (St.put ⟨e,m⟩ dst b) (some dj) a=St.put ⟨upd e dj a,m⟩ dst b:=by
 cases dst with
 | none=>rfl
 | some d =>
   show(⟨upd (upd e d b) dj a,m⟩:St)=⟨upd (upd e dj a) d b,m⟩;rw [Zgg _ _ _ (λe=>h (by rw [e]))]
theorem Zib {P:Program} {tok:Nat} {σs:Mem} {dst:Option Nat} {dj:Nat} {a:AV} {K K':St→Prop} (hne:dst≠some dj) {st:St} (hK:∀st1,(∀t,dst≠some t→st1.env t=st.env t)→K' st1→K (St.put st1 (some dj) a)):∀(r:Res),Zcl σs r→aRes P tok dst r K' st→aRes P tok dst r K (St.put st (some dj) a)
 | .need p r,hr,h=>⟨h.1,Zib hne hK r hr h.2⟩
 | .app k news ks,hr,h=>by
   unfold aRes at h ⊢;have hmm:(St.put st (some dj) a).mem=st.mem:=rfl;rw [hmm];split at h
   ·intro sv;have:=hK _ (λt ht=>by
     cases dst with
     | none=>rfl
     | some d=>exact Zco _ _ (λe=>ht (by rw [e]))) (h sv)
    rwa [Zgn hne] at this
   ·exact h.elim
 | .appv k n news,hr,h=>by
   unfold aRes at h ⊢;have hmm:(St.put st (some dj) a).mem=st.mem:=rfl;rw [hmm];split at h
   ·intro sv;have:=hK _ (λt ht=>by
     cases dst with
     | none=>rfl
     | some d=>exact Zco _ _ (λe=>ht (by rw [e]))) (h sv)
    rwa [Zgn hne] at this
   ·exact h.elim
 | .val _ _,hr,_=>hr.elim
 | .box _ _,hr,_=>hr.elim
 | .row _ _ _ _,hr,_=>hr.elim
 | .mapn,hr,_=>hr.elim
 | .sto _ k ent ks,hr,h=>by
   unfold aRes at h ⊢;have hmm:(St.put st (some dj) a).mem=st.mem:=rfl;rw [hmm];have:=hK _ (λt ht=>by
    cases dst with
    | none=>rfl
    | some d=>exact Zco _ _ (λe=>ht (by rw [e]))) h
   rwa [Zgn hne] at this
 | .call _ _,hr,_=>hr.elim
 | .bad,hr,_=>hr.elim
theorem Zgf {σ:Mem} {tok:Nat} {e e':Nat→AV} {op:Op} (h:∀t,Operand.tmp t∈op.operands→e t=e' t):Zhy tok e op=Zhy tok e' op:=by
 cases op with
 | call cl =>
   obtain⟨callee,args,ts⟩:=cl;unfold Zhy;split
   ·rename_i heq;cases heq;split
    ·rename_i d x hxs;have hm:∀y∈args.toList,y∈(Op.call ⟨.builtin .append,args,ts⟩).operands:=λy hy=>by
      simp only [Op.operands,Call.operands,Array.mem_append];exact .inr (by simpa using hy)
     rw [h d (hm _ (by rw [hxs];simp)),Zfs (σ:=Zan) (e:=e) (e':=e') (x:=x) λt ht=>h t (by subst ht;exact hm _ (by rw [hxs];simp))]
    ·rfl
   ·rfl
 | _=>rfl
theorem Zrw {P:Program} {tok tj:Nat} {e:Nat→AV} {m:Mem} {ent:Ent} {op:Op} (h:Zhy tok e op=true) (hne:∀d,Operand.tmp d∈op.operands→tok+d≠tj) (htj:tj < tok+1000) :
 Zal P ⟨e,upd m tj (some ent)⟩ op=Zal P ⟨e,m⟩ op∧∀r,Zal P ⟨e,m⟩ op=r→Zkn tj r:=by
 cases op with
 | call cl =>
   obtain⟨callee,args,ts⟩:=cl;unfold Zhy at h;split at h
   ·rename_i heq;cases heq;split at h
    ·rename_i d x hxs;have hop:∀y∈args.toList,y∈(Op.call ⟨.builtin .append,args,ts⟩).operands:=λy hy=>by
      simp only [Op.operands,Call.operands,Array.mem_append];exact .inr (by simpa using hy)
     have hd:tok+d≠tj:=hne d (hop _ (by rw [hxs];simp));simp only [Bool.and_eq_true] at h;obtain⟨h1,h2⟩:=h
     have hx:∀(mm:Nat) (R:List AV→Res),Zdm (upd m tj (some ent)) mm (St.ev ⟨e,Zan⟩ x) R=Zdm m mm (St.ev ⟨e,Zan⟩ x) R:=by
      intro mm R;split at h2
      ·rename_i hx;rw [hx];rfl
      ·rename_i v hx;rw [hx];cases v<;>try rfl
       rename_i A n c;cases A<;>try rfl
       cases n<;>try rfl
       cases c<;>rfl
      ·rename_i kx svx hx;split at h2
       ·rename_i dx;have hkx:kx=tok+dx:=by simpa using h2
        rw [hx];have hmx:upd m tj (some ent) kx=m kx:=Zco _ _ (by rw [hkx];exact hne dx (hop _ (by rw [hxs];simp)));simp only [Zdm,hmx]
       ·cases h2
      ·cases h2
     have hR:∀(σ:Mem) (mm:Nat) (R:List AV→Res) (ra:Nat),(∀l,Zkn ra (R l))→Zkn ra (Zdm σ mm (St.ev ⟨e,Zan⟩ x) R):=by
      intro σ mm R ra hr;unfold Zdm
      repeat' split
      all_goals first|exact hr _|trivial
     split at h1
     ·rename_i k sv hk
      have hk2:k≠tj:=by
       simp only [Bool.or_eq_true,beq_iff_eq,decide_eq_true_eq] at h1;rcases h1 with h1 | h1
       ·rw [h1];exact hd
       ·omega
      have hev:∀σ:Mem,St.ev ⟨e,σ⟩ x=St.ev ⟨e,Zan⟩ x:=λσ=>by cases x<;>rfl
      have hevd:∀σ:Mem,St.ev ⟨e,σ⟩ (.tmp d)=.own k sv:=λσ=>hk
      have key:∀σ:Mem,Zal P ⟨e,σ⟩ (.call ⟨.builtin .append,args,ts⟩)=match ts.toList with
       | [t,t']=>Zge P ⟨e,σ⟩ t t' (.own k sv) (St.ev ⟨e,Zan⟩ x)
       | _=>.bad:=λσ=>by
       show Zcp P ⟨e,σ⟩ ⟨.builtin .append,args,ts⟩=_;unfold Zcp;simp only [hxs]
       cases ts.toList with
       | nil=>rfl
       | cons t r =>
         cases r with
         | nil=>rfl
         | cons t' r =>
           cases r with
           | nil=>show Zge P ⟨e,σ⟩ t t' (St.ev ⟨e,σ⟩ (.tmp d)) (St.ev ⟨e,σ⟩ x)=_;rw [hev,hevd]
           | cons a b=>rfl
      rw [key,key];have hm:upd m tj (some ent) k=m k:=Zco _ _ hk2;have happ:∀t t',Zge P ⟨e,upd m tj (some ent)⟩ t t' (.own k sv) (St.ev ⟨e,Zan⟩ x)=Zge P ⟨e,m⟩ t t' (.own k sv) (St.ev ⟨e,Zan⟩ x):=λt t'=>by
       unfold Zge;simp only [hm,hx]
      have hres:∀t t',Zkn tj (Zge P ⟨e,m⟩ t t' (.own k sv) (St.ev ⟨e,Zan⟩ x)):=λt t'=>by
       unfold Zge;dsimp only
       repeat' split
       all_goals first|trivial|exact hR _ _ _ _ λl=>⟨hk2,rfl⟩
      refine⟨?_,λr hr=>?_⟩
      ·split
       ·exact happ _ _
       ·rfl
      ·subst hr;split
       ·exact hres _ _
       ·trivial
     ·cases h1
    ·cases h
   ·cases h
 | _=>cases h
theorem Zkd {P:Program} {tok:Nat} {dst:Option Nat} {dj tj:Nat} {a:AV} {ent:Ent} {K K':St→Prop} (hne:dst≠some dj) {st:St} (hK:∀st1,(∀t,dst≠some t→st1.env t=st.env t)→K' st1→K ⟨upd st1.env dj a,upd st1.mem tj (some ent)⟩):∀(r:Res),Zkn tj r→aRes P tok dst r K' st→aRes P tok dst r K ⟨upd st.env dj a,upd st.mem tj (some ent)⟩
 | .need p r,hr,h=>⟨h.1,Zkd hne hK r hr h.2⟩
 | .app k news ks,hr,h=>by
   obtain⟨hk,rfl⟩:=hr;unfold aRes at h ⊢;rw [show marks (upd st.mem tj (some ent)) [] k=st.mem k from Zco _ _ hk];rw [show marks st.mem []=st.mem from rfl] at h;split at h
   ·rename_i sv0 e0 m0 es0 pub0 hm;simp only [hm];intro sv;have:=hK _ (λt ht=>by
     cases dst with
     | none=>rfl
     | some d=>exact Zco _ _ (λe=>ht (by rw [e]))) (h sv)
    cases dst with
    | none =>
      show K ⟨upd st.env dj a,upd (upd st.mem tj (some ent)) k _⟩;rw [Zgg _ _ _ (Ne.symm hk)];exact this
    | some d =>
      show K ⟨upd (upd st.env dj a) d _,upd (upd st.mem tj (some ent)) k _⟩;rw [Zgg _ _ _ (Ne.symm hk),Zgg _ _ _ (λe=>hne (by rw [e]))];exact this
   ·exact h.elim
 | .appv _ _ _,hr,_=>hr.elim
 | .val _ _,hr,_=>hr.elim
 | .box _ _,hr,_=>hr.elim
 | .row _ _ _ _,hr,_=>hr.elim
 | .mapn,hr,_=>hr.elim
 | .sto _ _ _ _,hr,_=>hr.elim
 | .call _ _,hr,_=>hr.elim
 | .bad,_,h=>h.elim
theorem b_swap {P:Program} {tok:Nat} {cr:Bool} {σs σi:Mem} {all:List Oper} {rs:Nat→AV} {j:Nat} {oi oj:Oper} {st:St} {K:St→Prop} (hseli:∀cs b,oi.op≠.select cs b) (hq:Quiet oj) (hap:oi.apart all.toArray oj=true)
 (h:Ze8 P tok σi all true cr oi (Zcm P tok σs all rs j oj K) st):Zcm P tok σs all rs j oj (Ze8 P tok σi all true cr oi K) st:=by
 obtain⟨hf,hk⟩:=h;obtain⟨hg,hkp,hcr⟩:=hk rfl;obtain⟨h1,h2,h3⟩:=Oper.apart_spec hap;obtain⟨dj,hdj⟩:=hq.dst;have hnd:oi.dst≠some dj:=λe=>h2 dj e hdj
 have hf':aRes P (tok+oi.dst.getD 0) oi.dst (Zal P st oi.op) (Zcm P tok σs all rs j oj K) st:=by
  unfold Zfy Zbk at hf;rw [hg] at hf;exact hf
 have cong:∀st1:St,(∀t,oi.dst≠some t→st1.env t=st.env t)→Zj6 P tok σs all (rs j) oj st1=Zj6 P tok σs all (rs j) oj st∧dOut P tok σs all (rs j) oj st1=dOut P tok σs all (rs j) oj st:=λst1 he =>
  Zj5 hq.sel (λt ht=>he t (λe=>h1 t e ht)) (λhs=>by rw [hq.sto] at hs;cases hs)
 obtain⟨st1,hk1,he1⟩:=Zff _ hkp (Zl5 _ hkp hf');rw [Zcj] at hk1 ⊢;obtain⟨n1,out,e1,_,_⟩:=hk1;rw [(cong st1 he1).1] at n1;rw [(cong st1 he1).2] at e1;obtain⟨a,rfl⟩:=hq.out e1;refine⟨n1,_,e1,trivial,λ_=>?_⟩;rw [hdj];show Ze8 P tok σi all true cr oi K (St.put st (some dj) a)
 have hr:Zal P (St.put st (some dj) a) oi.op=Zal P st oi.op:=by
  refine Zel (σ:=st.mem) (e:=upd st.env dj a) (e':=st.env) hseli λx hx t ht=>?_;subst ht;exact Zco _ _ (λe=>h3 t (by rw [hdj,e]) (Zcq hx))
 have hen:∀t,Operand.tmp t∈oi.op.operands→upd st.env dj a t=st.env t:=λt ht=>Zco _ _ (λe=>h3 t (by rw [hdj,e]) (Zcq ht));refine⟨?_,λ_=>⟨hg,by rw [hr];exact hkp,λhc=>(Zgf (σ:=Zan) hen).trans (hcr hc)⟩⟩;unfold Zfy Zbk;rw [hg];show aRes P (tok+oi.dst.getD 0) oi.dst (Zal P (St.put st (some dj) a) oi.op) K (St.put st (some dj) a);rw [hr];refine Zib hnd (λst2 he2 hd2=>?_) _ hkp hf';rw [Zcj] at hd2;obtain⟨_,out2,e2,_,k2⟩:=hd2;rw [(cong st2 he2).2,e1] at e2;cases e2;have:=k2 (0,undef);rw [hdj] at this;exact this
theorem b_swapC {P:Program} {tok:Nat} {σs:Mem} {all:List Oper} {rs:Nat→AV} {j:Nat} {oi oj:Oper} {st:St} {K:St→Prop} (hseli:∀cs b,oi.op≠.select cs b) (hq:Cre oj) (hap:oi.apart all.toArray oj=true)
 (h:Ze8 P tok σs all true true oi (Zcm P tok σs all rs j oj K) st):Zcm P tok σs all rs j oj (Ze8 P tok σs all true true oi K) st:=by
 obtain⟨hf,hk⟩:=h;obtain⟨hg,hkp,hcr⟩:=hk rfl;have hcr:=hcr rfl;obtain⟨h1,h2,h3⟩:=Oper.apart_spec hap;obtain⟨dj,hdj⟩:=hq.dst;have hnd:oi.dst≠some dj:=λe=>h2 dj e hdj
 have hf':aRes P (tok+oi.dst.getD 0) oi.dst (Zal P st oi.op) (Zcm P tok σs all rs j oj K) st:=by
  unfold Zfy Zbk at hf;rw [hg] at hf;exact hf
 have cong:∀st1:St,(∀t,oi.dst≠some t→st1.env t=st.env t)→Zj6 P tok σs all (rs j) oj st1=Zj6 P tok σs all (rs j) oj st∧dOut P tok σs all (rs j) oj st1=dOut P tok σs all (rs j) oj st:=λst1 he =>
  Zj5 hq.sel (λt ht=>he t (λe=>h1 t e ht)) (λhs=>by rw [hq.sto] at hs;cases hs)
 obtain⟨st1,hk1,he1⟩:=Zff _ hkp (Zl5 _ hkp hf');rw [Zcj] at hk1 ⊢;obtain⟨n1,out,e1,o1,_⟩:=hk1;rw [(cong st1 he1).1] at n1;rw [(cong st1 he1).2] at e1;have hop:∀t,Operand.tmp t∈oi.op.operands→t≠dj:=λt ht e=>h3 t (by rw [hdj,e]) (Zcq ht);have hen:∀(a:AV) t,Operand.tmp t∈oi.op.operands→upd st.env dj a t=st.env t:=λa t ht=>Zco _ _ (hop t ht);have hr0:∀(a:AV) (σ:Mem),Zal P ⟨upd st.env dj a,σ⟩ oi.op=Zal P ⟨st.env,σ⟩ oi.op:=λa σ=>by
  refine Zel (e:=upd st.env dj a) (e':=st.env) hseli λx hx t ht=>?_;subst ht;exact hen a t hx
 refine⟨n1,_,e1,o1,λx=>?_⟩;rw [hdj];have fin:∀(a:AV) (σ:Mem),Zal P ⟨st.env,σ⟩ oi.op=Zal P st oi.op→aRes P (tok+oi.dst.getD 0) oi.dst (Zal P st oi.op) K ⟨upd st.env dj a,σ⟩→Ze8 P tok σs all true true oi K ⟨upd st.env dj a,σ⟩:=λa σ hσ hh=>by
  refine⟨?_,λ_=>⟨hg,by rw [hr0,hσ];exact hkp,λ_=>(Zgf (σ:=Zan) (hen a)).trans hcr⟩⟩;unfold Zfy Zbk;rw [hg];show aRes P (tok+oi.dst.getD 0) oi.dst (Zal P ⟨upd st.env dj a,σ⟩ oi.op) K _;rw [hr0,hσ];exact hh
 have new:∀(a:AV) (ent:Ent),(∀st2:St,(∀t,oi.dst≠some t→st2.env t=st.env t)→Zcm P tok σs all rs j oj K st2→K ⟨upd st2.env dj a,upd st2.mem (tok+dj) (some ent)⟩)→Ze8 P tok σs all true true oi K ⟨upd st.env dj a,upd st.mem (tok+dj) (some ent)⟩:=λa ent hh=>by
  obtain⟨q1,q2⟩:=Zrw (P:=P) (m:=st.mem) (ent:=ent) (tj:=tok+dj) hcr (λd hd e=>hop d hd (Nat.add_left_cancel e)) (by have h9:(some dj).getD 0 < 1000:=hdj ▸ hq.lt;exact Nat.add_lt_add_left h9 tok);exact fin a _ q1 (Zkd hnd hh _ (q2 _ rfl) hf')
 have step2:∀st2:St,(∀t,oi.dst≠some t→st2.env t=st.env t)→Zcm P tok σs all rs j oj K st2→K (Zgy (tok+dj) (some dj) st2 x out):=λst2 he2 hd2=>by
  rw [Zcj] at hd2;obtain⟨_,out2,e2,_,k2⟩:=hd2;rw [(cong st2 he2).2,e1] at e2;cases e2;have:=k2 x;rw [hdj] at this;exact this
 cases out with
 | val a=>exact fin a _ rfl (Zib hnd (λst2 he2 hd2=>step2 st2 he2 hd2) _ hkp hf')
 | box e cs=>exact new _ _ λst2 he2 hd2=>step2 st2 he2 hd2
 | row e m es=>exact new _ _ λst2 he2 hd2=>step2 st2 he2 hd2
 | sto k ent =>
   exfalso;unfold dOut at e1;rw [hq.guard] at e1;simp only [Zdg,hq.sto,Bool.false_eq_true,if_false] at e1;exact Zkm _ e1
theorem Zic {P:Program} {K K':St→Prop} (h:∀st,K st→K' st) (tok:Nat) (dst:Option Nat) (r:Res):∀(st:St),aRes P tok dst r K st→aRes P tok dst r K' st:=by
 induction r with
 | val a ks=>exact λst hr=>h _ hr
 | box e cs=>exact λst hr g=>h _ (hr g)
 | row e m es ks=>exact λst hr g=>h _ (hr g)
 | mapn=>exact λst hr g=>h _ (hr g)
 | app k news ks =>
   intro st hr;unfold aRes at hr ⊢;split at hr
   ·exact λg=>h _ (hr g)
   ·exact hr.elim
 | appv k n news =>
   intro st hr;unfold aRes at hr ⊢;split at hr
   ·exact λg=>h _ (hr g)
   ·exact hr.elim
 | sto a k ent ks=>exact λst hr=>h _ hr
 | call f args =>
   intro st hr;refine⟨hr.1,λc w imm vs h1 h2 h3=>(hr.2 c w imm vs h1 h2 h3).mono λe w' he=>?_⟩;obtain⟨r,σ',imm',x,h1,h2,h3⟩:=he;exact⟨r,σ',imm',x,h1,h _ h2,h3⟩
 | need p r ih=>exact λst hr=>⟨hr.1,ih st hr.2⟩
 | bad=>exact λst hr=>hr.elim
theorem Zil {P:Program} {tok:Nat} {σs:Mem} {dst:Option Nat} {dj:Nat} {a:AV} {K:St→Prop} (hne:dst≠some dj) {st:St}:∀(r:Res),Zcl σs r→aRes P tok dst r K (St.put st (some dj) a)→aRes P tok dst r (λst1=>(∀t,dst≠some t→st1.env t=st.env t)∧K (St.put st1 (some dj) a)) st
 | .need p r,hr,h=>⟨h.1,Zil hne r hr h.2⟩
 | .app k news ks,hr,h=>by
   unfold aRes at h ⊢;have hmm:(St.put st (some dj) a).mem=st.mem:=rfl;rw [hmm] at h;split at h
   ·intro sv;refine⟨λt ht=>?_,?_⟩
    ·cases dst with
     | none=>rfl
     | some d=>exact Zco _ _ (λe=>ht (by rw [e]))
    ·rw [Zgn hne];exact h sv
   ·exact h.elim
 | .appv k n news,hr,h=>by
   unfold aRes at h ⊢;have hmm:(St.put st (some dj) a).mem=st.mem:=rfl;rw [hmm] at h;split at h
   ·intro sv;refine⟨λt ht=>?_,?_⟩
    ·cases dst with
     | none=>rfl
     | some d=>exact Zco _ _ (λe=>ht (by rw [e]))
    ·rw [Zgn hne];exact h sv
   ·exact h.elim
 | .sto _ k ent ks,hr,h=>by
   unfold aRes at h ⊢;have hmm:(St.put st (some dj) a).mem=st.mem:=rfl;rw [hmm] at h;refine⟨λt ht=>?_,?_⟩
   ·cases dst with
    | none=>rfl
    | some d=>exact Zco _ _ (λe=>ht (by rw [e]))
   ·rw [Zgn hne];exact h
 | .val _ _,hr,_=>hr.elim
 | .box _ _,hr,_=>hr.elim
 | .row _ _ _ _,hr,_=>hr.elim
 | .mapn,hr,_=>hr.elim
 | .call _ _,hr,_=>hr.elim
 | .bad,hr,_=>hr.elim
theorem b_back {P:Program} {tok:Nat} {cr:Bool} {σs σi:Mem} {all:List Oper} {rs:Nat→AV} {i:Nat} {oi oj:Oper} {st:St} {K:St→Prop} (hselj:∀cs b,oj.op≠.select cs b) (hq:Quiet oi) (hap:oj.apart all.toArray oi=true)
 (h:Zcm P tok σs all rs i oi (Ze8 P tok σi all true cr oj K) st):Ze8 P tok σi all true cr oj (Zcm P tok σs all rs i oi K) st:=by
 obtain⟨h1,h2,h3⟩:=Oper.apart_spec hap;obtain⟨di,hdi⟩:=hq.dst;have hnd:oj.dst≠some di:=λe=>h2 di e hdi;rw [Zcj] at h;obtain⟨n1,out,e1,_,hk⟩:=h;obtain⟨a,rfl⟩:=hq.out e1;have hk:=hk (0,undef);rw [hdi] at hk;have hk:Ze8 P tok σi all true cr oj K (St.put st (some di) a):=hk;obtain⟨hf,hg⟩:=hk;obtain⟨hg,hkp,hcr⟩:=hg rfl
 have hr:Zal P (St.put st (some di) a) oj.op=Zal P st oj.op:=by
  refine Zel (σ:=st.mem) (e:=upd st.env di a) (e':=st.env) hselj λx hx t ht=>?_;subst ht;exact Zco _ _ (λe=>h3 t (by rw [hdi,e]) (Zcq hx))
 rw [hr] at hkp;have hen:∀t,Operand.tmp t∈oj.op.operands→st.env t=upd st.env di a t:=λt ht=>(Zco _ _ (λe=>h3 t (by rw [hdi,e]) (Zcq ht))).symm;refine⟨?_,λ_=>⟨hg,hkp,λhc=>(Zgf (σ:=Zan) hen).trans (hcr hc)⟩⟩
 have hf':aRes P (tok+oj.dst.getD 0) oj.dst (Zal P (St.put st (some di) a) oj.op) K (St.put st (some di) a):=by
  unfold Zfy Zbk at hf;rw [hg] at hf;exact hf
 rw [hr] at hf';have hx:=Zil hnd _ hkp hf';unfold Zfy Zbk;rw [hg];show aRes P (tok+oj.dst.getD 0) oj.dst (Zal P st oj.op) (Zcm P tok σs all rs i oi K) st;refine Zic (λst1 hh=>?_) _ _ _ _ hx;obtain⟨he,hK⟩:=hh;have cong:Zj6 P tok σs all (rs i) oi st1=Zj6 P tok σs all (rs i) oi st∧dOut P tok σs all (rs i) oi st1=dOut P tok σs all (rs i) oi st :=
  Zj5 hq.sel (λt ht=>he t (λe=>h1 t e ht)) (λhs=>by rw [hq.sto] at hs;cases hs)
 rw [Zcj];refine⟨by rw [cong.1];exact n1,.val a,by rw [cong.2];exact e1,trivial,λ_=>?_⟩;rw [hdi];exact hK
def Zkf (ops:Array Oper):Nat→Nat→Nat→Bool
 | 0,_,_=>false
 | f+1,i,j=>match ops[j]? with
   | some o=>o.after.any λe=>Region.binds .any e && (e.on == i || (decide (i < e.on) && Zkf ops f i e.on))
   | none=>false
def Closed (ops:Array Oper) (listed:Array Bool):Prop:=∀j o,ops[j]?=some o→listed.getD j false=true→∀e∈o.after,Region.binds .any e=true→listed.getD e.on false=true
theorem Zid {ops:Array Oper} {listed:Array Bool} (hc:Closed ops listed) {i:Nat}:∀(f j:Nat) (o:Oper),ops[j]?=some o→(∀e∈o.after,Region.binds .any e=true→listed.getD e.on false=true)→Zkf ops f i j=true→listed.getD i false=true
 | 0,_,_,_,_,h=>by simp [Zkf] at h
 | f+1,j,o,ho,hall,h=>by
   simp only [Zkf,ho] at h;obtain⟨e,he,hb⟩:=Array.any_eq_true'.1 h;simp only [Bool.and_eq_true,Bool.or_eq_true,beq_iff_eq] at hb;obtain⟨hb,h1 | ⟨_,h1⟩⟩:=hb
   ·rw [←h1];exact hall e he hb
   ·have hl:=hall e he hb
    cases hx:ops[e.on]? with
    | none =>
      cases f with
      | zero=>simp [Zkf] at h1
      | succ f=>simp [Zkf,hx] at h1
    | some o'=>exact Zid hc f e.on o' hx (hc e.on o' hx hl) h1
theorem Closed.set {ops:Array Oper} {listed:Array Bool} (hc:Closed ops listed) {i:Nat} (hr:i∈Region.ready .any ops listed):Closed ops (listed.setIfInBounds i true):=by
 intro j o ho hj e he hb;by_cases hij:j=i
 ·subst hij;obtain⟨_,o',ho',hall⟩:=mem_ready.1 hr;rw [ho] at ho';cases ho';exact getD_set_true (hall e he hb)
 ·rw [getD_set_ne false (Ne.symm hij)] at hj;exact getD_set_true (hc j o ho hj e he hb)
def Zr8 (ops:Array Oper) (bar:List Nat) (listed:Array Bool) (i:Nat):Bool :=
 match ops[i]? with
 | none=>false
 | some oi=>(match oi.op with | .select ..=>false | _=>true) && (Region.ready .any ops listed).contains i && (bar.contains i || oi.dst.isSome || Zaw oi.op) &&
   (List.range ops.size).all λj=>j == i || listed.getD j true || Zkf ops ops.size i j || match ops[j]? with
    | some oj=>!bar.contains i && !bar.contains j && (oj.dst.isSome || Zaw oj.op) && !(Zaw oi.op && Zaw oj.op) && (match oj.op with | .select ..=>false | _=>true) && oi.apart ops oj || (bar.contains i && bar.contains (i+1000) && !bar.contains j && Zq9 oj && oi.apart ops oj) || (bar.contains i && bar.contains (i+1000) && bar.contains (i+3000) && !bar.contains j && cre oj && oi.apart ops oj) || (bar.contains i && bar.contains (i+2000) && !bar.contains (i+1000) && !bar.contains j && blind oj && oi.apart ops oj) || (!bar.contains i && bar.contains j && bar.contains (j+2000) && !bar.contains (j+1000) && blind oi && (match oj.op with | .select ..=>false | _=>true) && oj.apart ops oi) || (!bar.contains i && bar.contains j && bar.contains (j+1000) && Zq9 oi && (match oj.op with | .select ..=>false | _=>true) && oj.apart ops oi)
    | none=>true
theorem Zki {P:Program} {tok:Nat} {σs:Mem} {all:List Oper} {rs:Nat→AV} {bar:List Nat} {i:Nat} {st:St} {K K':St→Prop} (h:∀st,K st→K' st) (hx:Zdr P tok σs all rs bar i K st):Zdr P tok σs all rs bar i K' st:=by
 have amono:∀(tok:Nat) (dst:Option Nat) (r:Res) (st:St),aRes P tok dst r K st→aRes P tok dst r K' st:=by
  intro tok dst r
  induction r with
  | val a ks=>exact λst hr=>h _ hr
  | box e cs=>exact λst hr g=>h _ (hr g)
  | row e m es ks=>exact λst hr g=>h _ (hr g)
  | mapn=>exact λst hr g=>h _ (hr g)
  | app k news ks =>
    intro st hr;simp only [aRes] at hr ⊢;split at hr
    ·exact λsv=>h _ (hr sv)
    ·exact hr.elim
  | appv k n news =>
    intro st hr;simp only [aRes] at hr ⊢;split at hr
    ·exact λsv=>h _ (hr sv)
    ·exact hr.elim
  | sto a k ent ks=>exact λst hr=>h _ hr
  | call f args =>
    intro st hr;refine⟨hr.1,λc w imm vs hm hl hrr=>(hr.2 c w imm vs hm hl hrr).mono λe w' he=>?_⟩;obtain⟨r,σ',imm',x,h1,h2,h3⟩:=he;exact⟨r,σ',imm',x,h1,h _ h2,h3⟩
  | need p r ih=>exact λst hr=>⟨hr.1,ih st hr.2⟩
  | bad=>exact λst hr=>hr.elim
 unfold Zdr at hx ⊢;split at hx
 ·rename_i o ho;by_cases hb:bar.contains i=true
  ·rw [if_pos hb] at hx ⊢;obtain⟨hx,hkeep⟩:=hx;refine⟨?_,hkeep⟩;unfold Zfy Zbk at hx ⊢;split at hx
   ·exact amono _ _ _ _ hx
   ·refine⟨hx.1,?_⟩;have hx2:=hx.2;split at hx2
    ·rename_i hs;rw [if_pos hs];exact amono _ _ _ _ hx2
    ·rename_i hs;rw [if_neg hs];exact h _ hx2
  ·rw [if_neg hb] at hx ⊢;exact Zc9 h hx
 ·exact h _ hx
theorem Zfi {P:Program} {tok:Nat} {σs:Mem} {all:List Oper} {semi cr:Bool} {o:Oper} {st:St} {K K':St→Prop} (h:∀st,K st→K' st) (hd:Ze8 P tok σs all semi cr o K st):Ze8 P tok σs all semi cr o K' st:=by
 refine⟨?_,hd.2⟩;have hx:=hd.1;unfold Zfy Zbk at hx ⊢;split at hx
 ·exact Zic h _ _ _ _ hx
 ·refine⟨hx.1,?_⟩;have hx2:=hx.2;split at hx2
  ·rename_i hs;rw [if_pos hs];exact Zic h _ _ _ _ hx2
  ·rename_i hs;rw [if_neg hs];exact h _ hx2
structure TakeOk (ops:Array Oper) (bar:List Nat) (listed:Array Bool) (i:Nat) (oi:Oper):Prop where
 sel:∀cs b,oi.op≠.select cs b
 ready:i∈Region.ready .any ops listed
 other:∀j oj,ops[j]?=some oj→j≠i→listed.getD j true=false→Zkf ops ops.size i j=true ∨
  (bar.contains i=false∧bar.contains j=false∧(oi.dst.isSome=true∨Zaw oi.op=true)∧(oj.dst.isSome=true∨Zaw oj.op=true)∧¬(Zaw oi.op=true∧Zaw oj.op=true)∧(∀cs b,oj.op≠.select cs b)∧oi.apart ops oj=true) ∨
  (bar.contains i=true∧bar.contains (i+1000)=true∧bar.contains j=false∧Quiet oj∧oi.apart ops oj=true) ∨
  (bar.contains i=true∧bar.contains (i+1000)=true∧bar.contains (i+3000)=true∧bar.contains j=false∧Cre oj∧oi.apart ops oj=true) ∨
  (bar.contains i=true∧bar.contains (i+2000)=true∧bar.contains (i+1000)=false∧bar.contains j=false∧Quiet oj∧Zkt oj.op=true∧oi.apart ops oj=true) ∨
  (bar.contains i=false∧bar.contains j=true∧bar.contains (j+2000)=true∧bar.contains (j+1000)=false∧Quiet oi∧Zkt oi.op=true∧(∀cs b,oj.op≠.select cs b)∧oj.apart ops oi=true) ∨
  (bar.contains i=false∧bar.contains j=true∧bar.contains (j+1000)=true∧Quiet oi∧(∀cs b,oj.op≠.select cs b)∧oj.apart ops oi=true)
theorem Zoc {ops:Array Oper} {bar:List Nat} {listed:Array Bool} {i:Nat} (h:Zr8 ops bar listed i=true):∃oi,ops[i]?=some oi∧TakeOk ops bar listed i oi:=by
 unfold Zr8 at h;split at h
 ·cases h
 ·rename_i oi hoi;simp only [Bool.and_eq_true] at h;obtain⟨⟨⟨h1,h2⟩,h3⟩,h4⟩:=h;refine⟨oi,hoi,⟨λcs b e=>(by rw [e] at h1;cases h1),by simpa using h2,λj oj hj hji hun=>?_⟩⟩;have hjr:j∈List.range ops.size:=List.mem_range.2 (Array.getElem?_eq_some_iff.1 hj).1;have h5:=List.all_eq_true.1 h4 j hjr;simp only [hj,Bool.or_eq_true,beq_iff_eq,hji,hun,Bool.false_eq_true,false_or] at h5;rcases h5 with h5 | h5
  ·exact .inl h5
  rw [or_assoc,or_assoc,or_assoc,or_assoc] at h5;rcases h5 with h5 | h5
  ·simp only [Bool.and_eq_true,Bool.not_eq_true',Bool.or_eq_true] at h5;obtain⟨⟨⟨⟨⟨h6,h7⟩,h8⟩,h8'⟩,h9⟩,h10⟩:=h5;refine .inr (.inl ⟨h6,h7,?_,h8,λhh=>(by rw [hh.1,hh.2] at h8';cases h8'),λcs b e=>(by rw [e] at h9;cases h9),h10⟩);simp only [Bool.or_eq_true] at h3;rcases h3 with(h3 | h3) | h3
   ·rw [h6] at h3;cases h3
   ·exact .inl h3
   ·exact .inr h3
  rcases h5 with h5 | h5
  ·simp only [Bool.and_eq_true,Bool.not_eq_true'] at h5;obtain⟨⟨⟨⟨h6,h7⟩,h8⟩,h9⟩,h10⟩:=h5;exact .inr (.inr (.inl ⟨h6,h7,h8,Zgm h9,h10⟩))
  rcases h5 with h5 | h5
  ·simp only [Bool.and_eq_true,Bool.not_eq_true'] at h5;obtain⟨⟨⟨⟨⟨h6,h7⟩,h7'⟩,h8⟩,h9⟩,h10⟩:=h5;exact .inr (.inr (.inr (.inl ⟨h6,h7,h7',h8,cre_spec h9,h10⟩)))
  rcases h5 with h5 | h5
  ·simp only [Bool.and_eq_true,Bool.not_eq_true'] at h5;obtain⟨⟨⟨⟨⟨h6,h7⟩,h7'⟩,h8⟩,h9⟩,h10⟩:=h5;unfold blind at h9;simp only [Bool.and_eq_true] at h9;exact .inr (.inr (.inr (.inr (.inl ⟨h6,h7,h7',h8,Zgm h9.1,h9.2,h10⟩))))
  rcases h5 with h5 | h5
  ·simp only [Bool.and_eq_true,Bool.not_eq_true'] at h5;obtain⟨⟨⟨⟨⟨⟨h6,h7⟩,h7'⟩,h8⟩,h9⟩,h9'⟩,h10⟩:=h5;unfold blind at h9;simp only [Bool.and_eq_true] at h9;exact .inr (.inr (.inr (.inr (.inr (.inl ⟨h6,h7,h7',h8,Zgm h9.1,h9.2,λcs b e=>(by rw [e] at h9';cases h9'),h10⟩)))))
  ·simp only [Bool.and_eq_true,Bool.not_eq_true'] at h5;obtain⟨⟨⟨⟨⟨h6,h7⟩,h7'⟩,h9⟩,h9'⟩,h10⟩:=h5;exact .inr (.inr (.inr (.inr (.inr (.inr ⟨h6,h7,h7',Zgm h9,λcs b e=>(by rw [e] at h9';cases h9'),h10⟩)))))
theorem Zq2 {P:Program} {tok:Nat} {all:List Oper} {rs:Nat→AV} {bar:List Nat} {K:St→Prop} {i:Nat} {oi:Oper} (hoi:all.toArray[i]?=some oi):∀(f:Nat) (σs:Mem) (listed:Array Bool) (st:St),Closed all.toArray listed→TakeOk all.toArray bar listed i oi →
 Zdr P tok σs all rs bar i (aAny P tok all rs bar (Zb7 bar i σs) f (listed.setIfInBounds i true) K) st→aAny P tok all rs bar σs (f+1) listed K st:=by
 intro f;have hoi':all[i]?=some oi:=by simpa using hoi
 have pair:∀(listed:Array Bool),Closed all.toArray listed→TakeOk all.toArray bar listed i oi→∀j,j∈Region.ready .any all.toArray listed→j≠i→∃oj,all[j]?=some oj ∧
  ((bar.contains i=false∧bar.contains j=false∧(oi.dst.isSome=true∨Zaw oi.op=true)∧(oj.dst.isSome=true∨Zaw oj.op=true)∧¬(Zaw oi.op=true∧Zaw oj.op=true)∧(∀cs b,oj.op≠.select cs b)∧oi.apart all.toArray oj=true) ∨
  (bar.contains i=true∧bar.contains (i+1000)=true∧bar.contains j=false∧Quiet oj∧oi.apart all.toArray oj=true) ∨
  (bar.contains i=true∧bar.contains (i+1000)=true∧bar.contains (i+3000)=true∧bar.contains j=false∧Cre oj∧oi.apart all.toArray oj=true) ∨
  (bar.contains i=true∧bar.contains (i+2000)=true∧bar.contains (i+1000)=false∧bar.contains j=false∧Quiet oj∧Zkt oj.op=true∧oi.apart all.toArray oj=true) ∨
  (bar.contains i=false∧bar.contains j=true∧bar.contains (j+2000)=true∧bar.contains (j+1000)=false∧Quiet oi∧Zkt oi.op=true∧(∀cs b,oj.op≠.select cs b)∧oj.apart all.toArray oi=true) ∨
  (bar.contains i=false∧bar.contains j=true∧bar.contains (j+1000)=true∧Quiet oi∧(∀cs b,oj.op≠.select cs b)∧oj.apart all.toArray oi=true)):=by
  intro listed hc ht j hj hji;obtain⟨hun,oj,hoj,hall⟩:=mem_ready.1 hj;refine⟨oj,by simpa using hoj,?_⟩;rcases ht.other j oj hoj hji hun with h1 | h1
  ·exfalso;have h2:=Zid hc _ j oj hoj hall h1;have h3:=(mem_ready.1 ht.ready).1;rcases Nat.lt_or_ge i listed.size with h' | h'
   ·simp [h'] at h3 h2;rw [h3] at h2;cases h2
   ·simp [Array.getElem?_eq_none h'] at h2
  ·exact h1
 have calm:∀(σs:Mem) (k:Nat) (ok:Oper),all[k]?=some ok→bar.contains k=false→∀(K:St→Prop) (st:St),Zdr P tok σs all rs bar k K st=Zcm P tok σs all rs k ok K st:=by
  intro σs k ok hk hb K st;unfold Zdr;rw [hk];exact if_neg (by rw [hb];simp)
 have semi:∀(σs:Mem) (k:Nat) (ok:Oper),all[k]?=some ok→bar.contains k=true→(bar.contains (k+1000) || bar.contains (k+2000))=true→∀(K:St→Prop) (st:St),Zdr P tok σs all rs bar k K st=Ze8 P tok (if bar.contains (k+1000) then σs else Zan) all true (bar.contains (k+3000)) ok K st:=by
  intro σs k ok hk hb hb' K st;unfold Zdr;rw [hk];refine(if_pos hb).trans ?_;rw [hb']
 induction f with
 | zero =>
   intro σs listed st hc ht h;refine⟨λh0=>(by have:=ht.ready;rw [h0] at this;cases this),λj hj=>?_⟩;by_cases hji:j=i
   ·subst hji;exact h
   ·exfalso;obtain⟨oj,hoj,⟨h1,h2,h3,h4,h45,h5,h6⟩ | ⟨h1,h1',h2,h3,h4⟩ | ⟨h1,h1',h1c,h2,h3,h4⟩ | ⟨h1,h1',h1'',h2,h3,h3',h4⟩ | ⟨h1,h2,h2',h2'',h3,h3',h3'',h4⟩ | ⟨h1,h2,h2',h3,h3'',h4⟩⟩:=pair listed hc ht j hj hji
    ·rw [calm _ i oi hoi' h1,Zcj] at h;obtain⟨_,out,_,_,hk⟩:=h;have:=ready_mono hj hji;rw [(hk (0,undef)).1] at this;cases this
    ·rw [semi _ i oi hoi' h1 (by rw [h1'];rfl)] at h;obtain⟨hf,hk⟩:=h;obtain⟨hg,hkp,-⟩:=hk rfl
     have hf':aRes P (tok+oi.dst.getD 0) oi.dst (Zal P st oi.op) (aAny P tok all rs bar (Zb7 bar i σs) 0 (listed.setIfInBounds i true) K) st:=by
      unfold Zfy Zbk at hf;rw [hg] at hf;exact hf
     obtain⟨st1,hk1⟩:=Zff _ hkp hf';have:=ready_mono hj hji;rw [hk1.1] at this;cases this
    ·rw [semi _ i oi hoi' h1 (by rw [h1'];rfl)] at h;obtain⟨hf,hk⟩:=h;obtain⟨hg,hkp,-⟩:=hk rfl
     have hf':aRes P (tok+oi.dst.getD 0) oi.dst (Zal P st oi.op) (aAny P tok all rs bar (Zb7 bar i σs) 0 (listed.setIfInBounds i true) K) st:=by
      unfold Zfy Zbk at hf;rw [hg] at hf;exact hf
     obtain⟨st1,hk1⟩:=Zff _ hkp hf';have:=ready_mono hj hji;rw [hk1.1] at this;cases this
    ·rw [semi _ i oi hoi' h1 (by rw [h1',h1''];rfl)] at h;obtain⟨hf,hk⟩:=h;obtain⟨hg,hkp,-⟩:=hk rfl
     have hf':aRes P (tok+oi.dst.getD 0) oi.dst (Zal P st oi.op) (aAny P tok all rs bar (Zb7 bar i σs) 0 (listed.setIfInBounds i true) K) st:=by
      unfold Zfy Zbk at hf;rw [hg] at hf;exact hf
     obtain⟨st1,hk1⟩:=Zff _ hkp hf';have:=ready_mono hj hji;rw [hk1.1] at this;cases this
    ·rw [calm _ i oi hoi' h1,Zcj] at h;obtain⟨_,out,_,_,hk⟩:=h;have:=ready_mono hj hji;rw [(hk (0,undef)).1] at this;cases this
    ·rw [calm _ i oi hoi' h1,Zcj] at h;obtain⟨_,out,_,_,hk⟩:=h;have:=ready_mono hj hji;rw [(hk (0,undef)).1] at this;cases this
 | succ f ih =>
   intro σs listed st hc ht h;refine⟨λh0=>(by have:=ht.ready;rw [h0] at this;cases this),λj hj=>?_⟩;by_cases hji:j=i
   ·subst hji;exact h
   ·obtain⟨oj,hoj,⟨h1,h2,h3,h4,h45,h5,h6⟩ | ⟨h1,h1',h2,h3,h4⟩ | ⟨h1,h1',h1c,h2,h3,h4⟩ | ⟨h1,h1',h1'',h2,h3,h3',h4⟩ | ⟨h1,h2,h2',h2'',h3,h3',h3'',h4⟩ | ⟨h1,h2,h2',h3,h3'',h4⟩⟩:=pair listed hc ht j hj hji
    ·have n1:Zb7 bar i σs=σs:=if_neg (by rw [h1];simp);have n2:Zb7 bar j σs=σs:=if_neg (by rw [h2];simp);rw [calm _ i oi hoi' h1,n1] at h
     have hstep:Zcm P tok σs all rs i oi (Zcm P tok σs all rs j oj (aAny P tok all rs bar σs f ((listed.setIfInBounds i true).setIfInBounds j true) K)) st:=by
      refine Zc9 (λst1 hh=>?_) h;have:=hh.2 j (ready_mono hj hji)
      rwa [calm _ j oj hoj h2,n2] at this
     have hsw:=Zrp h3 h4 h45 ht.sel h5 h6 hstep;rw [calm _ j oj hoj h2,n2];refine Zc9 (λst2 hh=>?_) hsw
     have ht':TakeOk all.toArray bar (listed.setIfInBounds j true) i oi:=by
      refine⟨ht.sel,ready_mono ht.ready (Ne.symm hji),λk ok hk hki hun=>?_⟩;refine ht.other k ok hk hki ?_;by_cases hjk:j=k
      ·subst hjk;exact(mem_ready.1 hj).1
      ·rwa [getD_set_ne true hjk] at hun
     refine ih _ (listed.setIfInBounds j true) st2 (hc.set hj) ht' ?_;rw [calm _ i oi hoi' h1,n1,Array.setIfInBounds_comm _ _ hji];exact hh
    ·have n1:Zb7 bar i σs=σs:=by unfold Zb7;rw [if_pos h1,if_pos h1']
     have n2:Zb7 bar j σs=σs:=if_neg (by rw [h2];simp);rw [semi _ i oi hoi' h1 (by rw [h1'];rfl),n1] at h
     have hstep:Ze8 P tok (if bar.contains (i+1000) then σs else Zan) all true (bar.contains (i+3000)) oi (Zcm P tok σs all rs j oj (aAny P tok all rs bar σs f ((listed.setIfInBounds i true).setIfInBounds j true) K)) st:=by
      refine Zfi (λst1 hh=>?_) h;have:=hh.2 j (ready_mono hj hji)
      rwa [calm _ j oj hoj h2,n2] at this
     have hsw:=b_swap ht.sel h3 h4 hstep;rw [calm _ j oj hoj h2,n2];refine Zc9 (λst2 hh=>?_) hsw
     have ht':TakeOk all.toArray bar (listed.setIfInBounds j true) i oi:=by
      refine⟨ht.sel,ready_mono ht.ready (Ne.symm hji),λk ok hk hki hun=>?_⟩;refine ht.other k ok hk hki ?_;by_cases hjk:j=k
      ·subst hjk;exact(mem_ready.1 hj).1
      ·rwa [getD_set_ne true hjk] at hun
     refine ih _ (listed.setIfInBounds j true) st2 (hc.set hj) ht' ?_;rw [semi _ i oi hoi' h1 (by rw [h1'];rfl),n1,Array.setIfInBounds_comm _ _ hji];exact hh
    ·have n1:Zb7 bar i σs=σs:=by unfold Zb7;rw [if_pos h1,if_pos h1']
     have n2:Zb7 bar j σs=σs:=if_neg (by rw [h2];simp);rw [semi _ i oi hoi' h1 (by rw [h1'];rfl),n1] at h
     have hstep:Ze8 P tok (if bar.contains (i+1000) then σs else Zan) all true (bar.contains (i+3000)) oi (Zcm P tok σs all rs j oj (aAny P tok all rs bar σs f ((listed.setIfInBounds i true).setIfInBounds j true) K)) st:=by
      refine Zfi (λst1 hh=>?_) h;have:=hh.2 j (ready_mono hj hji)
      rwa [calm _ j oj hoj h2,n2] at this
     rw [if_pos h1',h1c] at hstep;have hsw:=b_swapC ht.sel h3 h4 hstep;rw [calm _ j oj hoj h2,n2];refine Zc9 (λst2 hh=>?_) hsw
     have ht':TakeOk all.toArray bar (listed.setIfInBounds j true) i oi:=by
      refine⟨ht.sel,ready_mono ht.ready (Ne.symm hji),λk ok hk hki hun=>?_⟩;refine ht.other k ok hk hki ?_;by_cases hjk:j=k
      ·subst hjk;exact(mem_ready.1 hj).1
      ·rwa [getD_set_ne true hjk] at hun
     refine ih _ (listed.setIfInBounds j true) st2 (hc.set hj) ht' ?_;rw [semi _ i oi hoi' h1 (by rw [h1'];rfl),n1,Array.setIfInBounds_comm _ _ hji,if_pos h1',h1c];exact hh
    ·have n1:Zb7 bar i σs=Zan:=by unfold Zb7;rw [if_pos h1,if_neg (by rw [h1''];simp)]
     have n2:Zb7 bar j Zan=Zan:=if_neg (by rw [h2];simp);have n3:Zb7 bar j σs=σs:=if_neg (by rw [h2];simp);rw [semi _ i oi hoi' h1 (by rw [h1',h1''];rfl),n1] at h
     have hstep:Ze8 P tok (if bar.contains (i+1000) then σs else Zan) all true (bar.contains (i+3000)) oi (Zcm P tok σs all rs j oj (aAny P tok all rs bar Zan f ((listed.setIfInBounds i true).setIfInBounds j true) K)) st:=by
      refine Zfi (λst1 hh=>?_) h;have:=hh.2 j (ready_mono hj hji);unfold Zdr at this;rw [hoj] at this;simp only [h2,Bool.false_eq_true,if_false,n2] at this
      rwa [Zk3 (σ':=σs) h3 h3'] at this
     have hsw:=b_swap ht.sel h3 h4 hstep;rw [calm _ j oj hoj h2,n3];refine Zc9 (λst2 hh=>?_) hsw
     have ht':TakeOk all.toArray bar (listed.setIfInBounds j true) i oi:=by
      refine⟨ht.sel,ready_mono ht.ready (Ne.symm hji),λk ok hk hki hun=>?_⟩;refine ht.other k ok hk hki ?_;by_cases hjk:j=k
      ·subst hjk;exact(mem_ready.1 hj).1
      ·rwa [getD_set_ne true hjk] at hun
     refine ih _ (listed.setIfInBounds j true) st2 (hc.set hj) ht' ?_;rw [semi _ i oi hoi' h1 (by rw [h1',h1''];rfl),n1,Array.setIfInBounds_comm _ _ hji];exact hh
    ·have n1:Zb7 bar i σs=σs:=if_neg (by rw [h1];simp);have n2:∀σ,Zb7 bar j σ=Zan:=λσ=>by unfold Zb7;rw [if_pos h2,if_neg (by rw [h2''];simp)]
     have n3:Zb7 bar i Zan=Zan:=if_neg (by rw [h1];simp);have sj:∀(K:St→Prop) (st:St),Zdr P tok σs all rs bar j K st=Ze8 P tok Zan all true (bar.contains (j+3000)) oj K st:=λK st=>by
      rw [semi _ j oj hoj h2 (by rw [h2',h2''];rfl),if_neg (by rw [h2''];simp)]
     rw [calm _ i oi hoi' h1,n1] at h
     have hstep:Zcm P tok σs all rs i oi (Ze8 P tok Zan all true (bar.contains (j+3000)) oj (aAny P tok all rs bar Zan f ((listed.setIfInBounds i true).setIfInBounds j true) K)) st:=by
      refine Zc9 (λst1 hh=>?_) h;have:=hh.2 j (ready_mono hj hji)
      rwa [sj,n2] at this
     have hsw:=b_back h3'' h3 h4 hstep;rw [sj,n2];refine Zfi (λst2 hh=>?_) hsw
     have ht':TakeOk all.toArray bar (listed.setIfInBounds j true) i oi:=by
      refine⟨ht.sel,ready_mono ht.ready (Ne.symm hji),λk ok hk hki hun=>?_⟩;refine ht.other k ok hk hki ?_;by_cases hjk:j=k
      ·subst hjk;exact(mem_ready.1 hj).1
      ·rwa [getD_set_ne true hjk] at hun
     refine ih _ (listed.setIfInBounds j true) st2 (hc.set hj) ht' ?_;rw [calm _ i oi hoi' h1,n3,Array.setIfInBounds_comm _ _ hji,Zk3 (σ':=σs) h3 h3'];exact hh
    ·have n1:Zb7 bar i σs=σs:=if_neg (by rw [h1];simp);have n2:Zb7 bar j σs=σs:=by unfold Zb7;rw [if_pos h2,if_pos h2']
     have sj:∀(K:St→Prop) (st:St),Zdr P tok σs all rs bar j K st=Ze8 P tok σs all true (bar.contains (j+3000)) oj K st:=λK st=>by
      rw [semi _ j oj hoj h2 (by rw [h2'];rfl),if_pos h2']
     rw [calm _ i oi hoi' h1,n1] at h
     have hstep:Zcm P tok σs all rs i oi (Ze8 P tok σs all true (bar.contains (j+3000)) oj (aAny P tok all rs bar σs f ((listed.setIfInBounds i true).setIfInBounds j true) K)) st:=by
      refine Zc9 (λst1 hh=>?_) h;have:=hh.2 j (ready_mono hj hji)
      rwa [sj,n2] at this
     have hsw:=b_back h3'' h3 h4 hstep;rw [sj,n2];refine Zfi (λst2 hh=>?_) hsw
     have ht':TakeOk all.toArray bar (listed.setIfInBounds j true) i oi:=by
      refine⟨ht.sel,ready_mono ht.ready (Ne.symm hji),λk ok hk hki hun=>?_⟩;refine ht.other k ok hk hki ?_;by_cases hjk:j=k
      ·subst hjk;exact(mem_ready.1 hj).1
      ·rwa [getD_set_ne true hjk] at hun
     refine ih _ (listed.setIfInBounds j true) st2 (hc.set hj) ht' ?_;rw [calm _ i oi hoi' h1,n1,Array.setIfInBounds_comm _ _ hji];exact hh
def Zpf (ops:Array Oper) (bar:List Nat):Nat→Nat→Array Bool→Bool
 | 0,_,listed=>(Region.ready .any ops listed).isEmpty
 | f+1,k,listed=>Zr8 ops bar listed k && Zpf ops bar f (k+1) (listed.setIfInBounds k true)
def Zb0 (P:Program) (tok:Nat) (all:List Oper) (rs:Nat→AV) (bar:List Nat):Mem→Nat→Nat→(St→Prop)→St→Prop
 | _,0,_,K,st=>K st
 | σs,f+1,k,K,st=>Zdr P tok σs all rs bar k (Zb0 P tok all rs bar (Zb7 bar k σs) f (k+1) K) st
theorem Ztc {P:Program} {tok:Nat} {all:List Oper} {rs:Nat→AV} {bar:List Nat} {K:St→Prop}:∀(f k:Nat) (σs:Mem) (listed:Array Bool) (st:St),Closed all.toArray listed→Zpf all.toArray bar f k listed=true →
 Zb0 P tok all rs bar σs f k K st→aAny P tok all rs bar σs f listed K st
 | 0,k,σs,listed,st,_,hl,h=>⟨by simpa [Zpf] using hl,h⟩
 | f+1,k,σs,listed,st,hc,hl,h=>by
   simp only [Zpf,Bool.and_eq_true] at hl;obtain⟨oi,hoi,ht⟩:=Zoc hl.1;refine Zq2 hoi f _ listed st hc ht ?_;exact Zki (λst' h'=>Ztc f (k+1) _ _ st' (hc.set ht.ready) hl.2 h') h
def cutM (cut:List Nat) (σ:Mem):Mem:=λt=>if cut.contains t then none else σ t
theorem r_draw {P:Program} {tok n:Nat} {Q:AE→St→Prop} {st:St} {id:Nat} {l:List Oper} (rs:Nat→AV) (bar cut:List Nat) (hm:P.follows .mixedOrders=true) (hf:l.all (Zfv n)=true)
 (hlex:Zpf l.toArray bar l.length 0 (Array.replicate l.length false)=true) (h:∀K:St→Prop,(∀st',Q .normal st'→K st')→Zb0 P tok l rs bar (cutM cut st.mem) l.length 0 K st):Za8 P tok n (.region id l.toArray true) Q st:=by
 intro c a w imm hr;refine wp_region_any hm ?_;have kd:Keeps w imm w.drew imm:=λad h=>⟨h,rfl⟩;have hgd:w.grownBy w.drew none:=⟨rfl,rfl,rfl,Nat.le_refl _,λ_ _ _=>rfl⟩;have hdr:Rel c n st a w.drew imm:=⟨λt=>kd.rs (hr.env t),hr.size,hr.defers,⟨⟨λk e hk=>(hr.mem.ok.ent k e hk).keep hgd (by cases e.blk<;>simp) (λ_ h=>h) (λ_ _=>rfl) (λ_ h=>.inl h),hr.mem.ok.apart,hr.mem.ok.lt,hr.mem.ok.spot⟩,hr.mem.below.drew,hr.mem.lt,hr.mem.old,hr.mem.new,hr.mem.cells⟩⟩
 have hcl:Closed l.toArray (Array.replicate l.length false):=by
  intro j o ho hj;exfalso;by_cases hjl:j < l.length<;>simp [Array.getElem?_replicate,hjl] at hj
 have:=Ztc (K:=Q .normal) l.length 0 (cutM cut st.mem) _ st hcl hlex (h _ λ_ h=>h);have h2:=Zk6 (c:=c) (Q:=Q) hf l.length (cutM cut st.mem) _ st a w.drew imm hdr (λt e ht=>by unfold cutM at ht;split at ht;cases ht;exact ht) this
 simpa using h2
end Go.Pg
