/- Contracts of the functions that the law reaches, and the rules by which they are walked. They say what a call hands back for every input within the bounds that each names; no other condition. -/
import Derived.Test.YtjbjejmmnbdbiaaGreatBe2
set_option linter.unusedSimpArgs false
set_option linter.unusedVariables false
set_option maxRecDepth 20000
set_option maxHeartbeats 16000000
namespace Go.Pg
open Go Go.RowKit
def Zoy (σ σ':Mem):Mem:=λk=>match σ' k with
 | some e=>some e
 | none=>σ k
theorem EntOk.lower {B B':Nat} {w:World} {imm:Imm} {e:Ent} (h:EntOk B w imm e) (hB:B'≤B):EntOk B' w imm e:=by
 cases e with
 | row sv e m es pub =>
   obtain⟨xs,hown,hrest⟩:=h;refine⟨xs,⟨hown.1,?_⟩,hrest⟩;rcases hown.2 with h1 | ⟨g,cap,cur,h1,h2,h3⟩
   ·exact .inl h1
   ·exact .inr ⟨g,cap,cur,h1,zo,h3⟩
 | box g e cs pub =>
   obtain⟨cur,h1,h2,h3⟩:=h;exact⟨cur,h1,zo,h3⟩
 | map g es =>
   obtain⟨arr,clock,h1,h2,h3⟩:=h;exact⟨arr,clock,h1,zo,h3⟩
 | obj g o =>
   obtain⟨h1,h2,h3⟩:=h;exact⟨h1,zo,h3⟩
section
variable {P:Program} {c:Cx} {n tok:Nat} {st:St} {a:Act} {w:World} {imm:Imm} {K:St→Prop} {o:Oper} {Q:Exit→Act→World→Prop}
def KQ (K:St→Prop) (tok:Nat) (dst:Option Nat) (st st':St):Prop :=
 K ⟨st'.env,Zoy st.mem st'.mem⟩∨∃(sv:Value) (e:TypeId) (m:Nat) (es:List AV),st'=St.put ⟨st.env,upd Zac tok (some (.row sv e m es 0))⟩ dst (.own tok sv)∧K (St.put st dst (.sl m es))
theorem Zqr (σ:Mem):Zoy σ Zac=σ:=rfl
theorem Zqc {e:Nat→AV} {sv:Value} {t:TypeId} {m:Nat} {es:List AV} {dst:Option Nat} {a:Act} {w:World} {imm:Imm} (h:Rel c n (St.put ⟨e,upd Zac tok (some (.row sv t m es 0))⟩ dst (.own tok sv)) a w imm) :
 ∃imm',Rel c n (St.put ⟨e,Zac⟩ dst (.sl m es)) a w imm':=by
 have none_mx:∀{σ:Mem} {imm:Imm},Mx c σ w imm→Mx c Zac w imm:=λhm=>⟨⟨λk e hk=>by simp [Zac] at hk,λk k' e e' b hk=>by simp [Zac] at hk,hm.ok.lt,hm.ok.spot⟩,hm.below,hm.lt,hm.old,hm.new,hm.cells⟩
 cases dst with
 | none=>exact⟨imm,h.env,h.size,h.defers,none_mx h.mem⟩
 | some d =>
   obtain⟨i1,hm1,hk1⟩:=Zc1 [tok] h.mem;refine⟨i1,λt'=>?_,h.size,h.defers,none_mx hm1⟩;have h1:=hk1.rs (h.env t');show Rs w i1 (upd e d (.sl m es) t') _;have h2:Rs w i1 (upd e d (.own tok sv) t') (a.tmps.getD t' undef):=h1;rw [Zal] at h2 ⊢;by_cases htd:t'=d
   ·rw [Zyk htd] at h2 ⊢
    have hme:marks (St.put ⟨e,upd Zac tok (some (.row sv t m es 0))⟩ (some d) (.own tok sv)).mem [tok] tok=some (.row sv t m es es.length):=by
     show upd (upd Zac tok (some (.row sv t m es 0))) tok ((upd Zac tok (some (.row sv t m es 0)) tok).map Ent.mark) tok=_;simp [Zal,Ent.mark]
    have:=Zgc hm1 h2 (by simp only [Zfs,Zgd,hme,and_self]);simp only [pubV,Zli,hme] at this;exact .pure this
   ·rw [Zyj htd] at h2 ⊢;exact h2
theorem Zug (h:Rel c n st a w imm) (hd:∀d,o.dst=some d→d < n)
 (hK:aRes P tok o.dst (Zag P ⟨st.env,Zac⟩ o.op) (KQ K tok o.dst st) ⟨st.env,Zac⟩):o.wp P a w (Zbv c n K) Q:=by
 have hrel:Rel ⟨w.heap.size,w,imm,h.mem.tb.here⟩ n ⟨st.env,Zac⟩ a w imm :=
  ⟨h.env,h.size,h.defers,⟨⟨λk e hk=>by simp [Zac] at hk,λk k' e e' b hk=>by simp [Zac] at hk,h.mem.ok.lt,h.mem.ok.spot⟩,Blw.refl _ _,Zyp _,λ_ h1=>h1,λ_ h1=>.inl h1,λ_ _=>rfl⟩⟩
 refine Oper.wp_mono (λa' w' hg=>?_) (Zc7 hrel hd hK)
 have hg:∃st' imm',K ⟨st'.env,Zoy st.mem st'.mem⟩∧Rel ⟨w.heap.size,w,imm,h.mem.tb.here⟩ n st' a' w' imm':=by
  obtain⟨st',imm',hk,hr⟩:=hg;rcases hk with hk | ⟨sv,e,m,es,rfl,hk⟩
  ·exact⟨st',imm',hk,hr⟩
  ·obtain⟨i2,hr2⟩:=Zqc hr;refine⟨_,i2,?_,hr2⟩;have e1:(St.put ⟨st.env,Zac⟩ o.dst (.sl m es)).mem=Zac:=by cases o.dst<;>rfl
   have e2:(⟨(St.put ⟨st.env,Zac⟩ o.dst (.sl m es)).env,st.mem⟩:St)=St.put st o.dst (.sl m es):=by cases o.dst<;>rfl
   rw [e1,Zqr,e2];exact hk
 obtain⟨st',imm',hk,hr⟩:=hg;have hb:=hr.mem.below;have hgr:w.grownBy w' none:=⟨hb.os,hb.tape,hb.output,hb.size,λk hk _=>hb.block k hk⟩;have hi:∀ad,imm ad→imm' ad:=hr.mem.old;have hcell:∀ad,imm ad→w'.cell? ad=w.cell? ad:=hr.mem.cells
 have hold:∀k e,st.mem k=some e→EntOk c.B w' imm' e:=by
  intro k e hk;refine(h.mem.ok.ent k e hk).keep hgr ?_ hi hcell λad h1=>?_
  ·rcases hbk:e.blk with _ | b
   ·exact .inl rfl
   ·exact .inr zs
  ·rcases hr.mem.new ad h1 with h2 | h2
   ·exact .inl h2
   ·refine .inr λh3=>?_;have:=((h.mem.ok.ent k e hk).blk_lt h3).2;simp only at h2;omega
 have hnewb:∀k e b,st'.mem k=some e→e.blk=some b→w.heap.size≤b:=λk e b hk he=>((hr.mem.ok.ent k e hk).blk_lt he).1;have holdb:∀k e b,st.mem k=some e→e.blk=some b→b < w.heap.size:=λk e b hk he=>((h.mem.ok.ent k e hk).blk_lt he).2;refine⟨_,imm',hk,hr.env,hr.size,hr.defers,⟨⟨λk e hk=>?_,λk k' e e' b hk hk' he he'=>?_,hr.mem.ok.lt,hr.mem.ok.spot⟩,h.mem.below.trans (hb.mono h.mem.lt),Zyz h.mem.lt hb.size,λad h1=>hi _ (h.mem.old ad h1),λad h1=>?_,λad h1=>(hcell ad (h.mem.old ad h1)).trans (h.mem.cells ad h1)⟩⟩
 ·simp only [Zoy] at hk;split at hk
  ·rename_i e' he';cases hk;exact(hr.mem.ok.ent k _ he').lower h.mem.lt
  ·exact hold k e hk
 ·simp only [Zoy] at hk hk';split at hk<;>split at hk'
  ·rename_i _ e1 h1 _ e2 h2;cases hk;cases hk';exact hr.mem.ok.apart k k' _ _ b h1 h2 he he'
  ·rename_i _ e1 h1 _ h2;cases hk;have:=hnewb k _ b h1 he;have:=holdb k' _ b hk' he';omega
  ·rename_i _ h1 _ e2 h2;cases hk';have:=hnewb k' _ b h2 he';have:=holdb k _ b hk he;omega
  ·exact h.mem.ok.apart k k' _ _ b hk hk' he he'
 ·rcases hr.mem.new ad h1 with h2 | h2
  ·exact h.mem.new ad h2
  ·exact .inr (Zyz h.mem.lt h2)
end
inductive Out where
 | val (a:AV)
 | box (e:TypeId) (cs:List AV)
 | row (e:TypeId) (m:Nat) (es:List AV)
 | sto (k:Nat) (ent:Ent)
def AV.said:AV→Bool
 | .u=>false
 | _=>true
def Zb1 (r0:AV):Res→Option Out
 | .val a []=>some (.val a)
 | .need _ r=>Zb1 r0 r
 | .box e cs=>some (.box e cs)
 | .row e m es []=>some (if r0.said then .val r0 else .row e m es)
 | .call _ _=>some (.val r0)
 | _=>none
def Zfl (P:Program) (r0:AV):Res→Prop
 | .val _ []=>True
 | .need p r=>p∧Zfl P r0 r
 | .box _ _=>True
 | .row _ m es []=>r0.said=true→r0=.sl m es
 | .call f args=>AV.toksL args=[]∧Ze3 Zac args∧Pure P f (Zeo Zac args) r0
 | _=>False
def Part (σs σ:Mem):Prop:=∀t e,σs t=some e→σ t=some e
def outK (tok:Nat) (dst:Option Nat):Out→(St→Prop)→St→Prop
 | .val a,K,st=>K (St.put st dst a)
 | .box e cs,K,st=>∀g:Nat,K (St.put ⟨st.env,upd st.mem tok (some (.box g e cs false))⟩ dst (.pbox tok g 0))
 | .row e m es,K,st=>∀sv:Value,K (St.put ⟨st.env,upd st.mem tok (some (.row sv e m es 0))⟩ dst (.own tok sv))
 | .sto k ent,K,st=>K (St.put ⟨st.env,upd st.mem k (some ent)⟩ dst .u)
def Zwi (σs:Mem) (tok:Nat):Out→Prop
 | .val _=>True
 | .box _ _ | .row _ _ _=>σs tok=none
 | .sto k ent=>σs k=none∨σs k=some ent
def optK (σs:Mem) (tok:Nat) (dst:Option Nat) (o:Option Out) (K:St→Prop) (st:St):Prop :=
 match o with
 | some out=>Zwi σs tok out∧outK tok dst out K st
 | none=>False
theorem Part.upd {σs σ:Mem} {k:Nat} {e:Option Ent} (h:Part σs σ) (hk:σs k=none):Part σs (upd σ k e):=λt e' ht=>by
 rw [Zal];split
 ·subst_vars;rw [hk] at ht;cases ht
 ·exact h t e' ht
theorem Part.same {σs σ:Mem} {k:Nat} {e:Ent} (h:Part σs σ) (hk:σs k=none∨σs k=some e):Part σs (Go.Pg.upd σ k (some e)):=λt e' ht=>by
 rw [Zal];split
 ·subst_vars
  rcases hk with hk | hk
  ·rw [hk] at ht;cases ht
  ·rw [hk] at ht;exact ht
 ·exact h t e' ht
theorem Zwl {σs:Mem} {tok:Nat} {dst:Option Nat} {K:St→Prop} {st:St} (hp:Part σs st.mem):∀(out:Out),Zwi σs tok out→outK tok dst out K st→outK tok dst out (λst'=>K st'∧Part σs st'.mem) st
 | .val a,_,h=>⟨h,by cases dst<;>exact hp⟩
 | .box e cs,h0,h=>λg=>⟨h g,by cases dst<;>exact hp.upd h0⟩
 | .row e m es,h0,h=>λg=>⟨h g,by cases dst<;>exact hp.upd h0⟩
 | .sto k ent,h0,h=>⟨h,by cases dst<;>exact hp.same h0⟩
theorem Zl1 (σ:Mem):Zoy σ Zac=σ:=rfl
theorem Zox (σ:Mem) (k:Nat) (e:Ent):Zoy σ (upd Zac k (some e))=upd σ k (some e):=by
 funext j
 simp only [Zoy,Zal];by_cases h:j=k
 ·simp [h]
 ·simp [h,Zac]
theorem Zmt (e:Nat→AV) (σ:Mem) (d:Option Nat) (a:AV):(St.put ⟨e,σ⟩ d a).mem=σ:=by cases d<;>rfl
theorem put_eq (st:St) (σ:Mem) (d:Option Nat) (a:AV):(⟨(St.put ⟨st.env,σ⟩ d a).env,st.mem⟩:St)=St.put st d a:=by cases d<;>rfl
theorem Zyg {P:Program} {tok:Nat} {dst:Option Nat} {r0:AV} {K:St→Prop} {st:St}:∀(r:Res),Zfl P r0 r→∀out,Zb1 r0 r=some out→outK tok dst out K st→aRes P tok dst r (KQ K tok dst st) ⟨st.env,Zac⟩
 | .val a [],_,out,ho,h=>by
   cases ho;refine .inl ?_;simp only [marks,Zmt,Zl1];rw [put_eq];exact h
 | .val a (_ :: _),h,_,_,_=>h.elim
 | .need p r,h,out,ho,h2=>⟨h.1,Zyg r h.2 out ho h2⟩
 | .box e cs,_,out,ho,h=>λg=>by
   cases ho;refine .inl ?_;simp only [Zmt,Zox];have:=h g;cases dst<;>exact this
 | .row e m es [],hn,out,ho,h=>λg=>by
   by_cases hs:r0.said=true
   ·have ho':out=.val r0:=by simp only [Zb1,hs,Zzb,Option.some.injEq] at ho;exact ho.symm
    subst ho';have h:K (St.put st dst r0):=h;rw [hn hs] at h;exact .inr ⟨g,e,m,es,rfl,h⟩
   ·have ho':out=.row e m es:=by simp only [Zb1,hs,Zy8,Option.some.injEq,Zyy] at ho;exact ho.symm
    subst ho';refine .inl ?_;simp only [marks,Zmt,Zox];have:=h g;cases dst<;>exact this
 | .row e m es (_ :: _),h,_,_,_=>h.elim
 | .call f args,h,out,ho,h2=>by
   cases ho;obtain⟨h1,h3,h4⟩:=h;refine Zi1 (args':=Zeo Zac args) h4 ?_ ?_ ?_
   ·rw [h1];exact h3
   ·rw [h1];rfl
   ·rw [h1];refine .inl ?_;simp only [marks,Zmt,Zl1];rw [put_eq];exact h2
 | .app ..,h,_,_,_=>h.elim
 | .appv ..,h,_,_,_=>h.elim
 | .sto ..,h,_,_,_=>h.elim
 | .bad,h,_,_,_=>h.elim
def opS (P:Program) (tok:Nat) (σs:Mem) (st:St):Op→Res
 | .load t x=>Zdb P ⟨st.env,σs⟩ t (St.ev ⟨st.env,σs⟩ x)
 | .store t (.tmp p) x=>match st.env p with
   | .pbox k g off=>if k=tok+p then Zfb P st t (.pbox k g off) (St.ev ⟨st.env,Zac⟩ x) else .bad
   | _=>.bad
 | .store _ _ _=>.bad
 | .indexAddr t x i=>Zbb P ⟨st.env,σs⟩ t (St.ev ⟨st.env,σs⟩ x) (St.ev ⟨st.env,σs⟩ i)
 | .call ⟨.builtin .len,args,ts⟩=>Zco P ⟨st.env,σs⟩ ⟨.builtin .len,args,ts⟩
 | .slice t x lo hi mx=>Zag P ⟨st.env,σs⟩ (.slice t x lo hi mx)
 | op=>Zag P ⟨st.env,Zac⟩ op
def Zao:Op→Bool
 | .store _ _ _=>true
 | _=>false
def Zlp:Res→Option Out
 | .need _ r=>Zlp r
 | .sto _ k ent []=>some (.sto k ent)
 | _=>none
def Zj3:Res→Prop
 | .need p r=>p∧Zj3 r
 | .sto .u _ _ []=>True
 | _=>False
def Zdx (r0:AV) (op:Op) (r:Res):Option Out:=if Zao op then Zlp r else Zb1 r0 r
def Reads (P:Program) (σs:Mem) (f:FuncId) (args:List AV) (r0:AV):Prop:=∀σ,Part σs σ→ACall P f args σ λr σ'=>r=r0∧σ'=σ
def readRes (P:Program) (σs:Mem) (r0:AV):Res→Prop
 | .call f args=>Reads P σs f args r0
 | _=>False
def isVC:Op→Bool
 | .call ⟨.value _,_,_⟩=>true
 | _=>false
def Zdo (P:Program) (σs:Mem) (r0:AV) (op:Op) (r:Res):Prop:=if Zao op then Zj3 r else (Zfl P r0 r∨(isVC op=true∧readRes P σs r0 r))
def Zbs:Res→Prop
 | .val _ []=>True
 | .need _ r=>Zbs r
 | .bad=>True
 | _=>False
theorem Zfm {P:Program} {t:TypeId} {cs:List AV}:Zbs (Zhk P t cs):=by
 unfold Zhk;split
 ·split
  ·unfold Zip;split<;>trivial
  ·cases cs<;>trivial
 ·trivial
theorem Zgj {P:Program} {st:St} {t:TypeId} {av:AV}:Zbs (Zdb P st t av):=by
 unfold Zdb;split
 ·exact Zfm
 ·split
  ·exact Zfm
  ·trivial
 ·split
  ·exact Zfm
  ·trivial
 ·trivial
theorem Zmw {P:Program} {st:St} {t:TypeId} {a b:AV}:Zbs (Zbb P st t a b):=by
 unfold Zbb
 repeat' (first|trivial|split)
theorem Zqh {P:Program} {st:St} {args:Array Operand} {ts:Array TypeId}:Zbs (Zco P st ⟨.builtin .len,args,ts⟩):=by
 unfold Zco;simp only;split
 ·split
  ·unfold Zl2
   repeat' (first|trivial|split)
  ·trivial
 ·trivial
theorem Zt4 {P:Program} {e:Nat→AV} {σs σ:Mem} {t:TypeId} {a b:AV} (h:Part σs σ):Zbb P ⟨e,σs⟩ t a b=Zbb P ⟨e,σ⟩ t a b∨∀(P':Program) (r0:AV),¬Zfl P' r0 (Zbb P ⟨e,σs⟩ t a b):=by
 unfold Zbb;split
 ·split
  ·split
   ·exact .inl rfl
   ·rename_i k sv;simp only
    cases hk:σs k with
    | none=>exact .inr λP' r0 hh=>hh
    | some en=>rw [h k en hk];exact .inl rfl
   ·exact .inl rfl
   ·exact .inl rfl
  ·exact .inl rfl
 ·exact .inl rfl
 ·exact .inl rfl
theorem len_part {P:Program} {e:Nat→AV} {σs σ:Mem} {args:Array Operand} {ts:Array TypeId} (h:Part σs σ):Zco P ⟨e,σs⟩ ⟨.builtin .len,args,ts⟩=Zco P ⟨e,σ⟩ ⟨.builtin .len,args,ts⟩∨∀(P':Program) (r0:AV),¬Zfl P' r0 (Zco P ⟨e,σs⟩ ⟨.builtin .len,args,ts⟩):=by
 unfold Zco;simp only;split
 ·rename_i x t _ _;have hx:St.ev ⟨e,σs⟩ x=St.ev ⟨e,σ⟩ x:=by cases x<;>rfl
  split
  ·rw [hx];generalize St.ev ⟨e,σ⟩ x=av;unfold Zl2;split
   ·exact .inl rfl
   ·rename_i k sv _;simp only
    cases hk:σs k with
    | none=>exact .inr λP' r0 hh=>hh
    | some en=>rw [h k en hk];exact .inl rfl
   ·exact .inl rfl
   ·exact .inl rfl
   ·exact .inl rfl
   ·rename_i k sv _;simp only
    cases hk:σs k with
    | none=>exact .inr λP' r0 hh=>hh
    | some en=>rw [h k en hk];exact .inl rfl
   all_goals exact .inl rfl
  ·exact .inl rfl
 ·exact .inl rfl
theorem Zkq {K:Int→Res} {lo:Option AV} (h:∀l,Zbs (K l)):Zbs (Zed lo K):=by
 unfold Zed;split<;>first|exact h _|trivial
theorem Zhx {K:Int→Res} {n:Nat} {hi:Option AV} (h:∀l,Zbs (K l)):Zbs (Zdk n hi K):=by
 unfold Zdk;split<;>first|exact h _|trivial
theorem Zte {P:Program} {e:Nat→AV} {σs σ:Mem} {t:TypeId} {x:Operand} {lo hi mx:Option Operand} (h:Part σs σ) :
 (Zag P ⟨e,σs⟩ (.slice t x lo hi mx)=Zag P ⟨e,σ⟩ (.slice t x lo hi mx)∧Zbs (Zag P ⟨e,σs⟩ (.slice t x lo hi mx)))∨∀(P':Program) (r0:AV),¬Zfl P' r0 (Zag P ⟨e,σs⟩ (.slice t x lo hi mx)):=by
 simp only [Zag];have e2:St.ev ⟨e,σ⟩=St.ev ⟨e,σs⟩:=funext λy=>by cases y<;>rfl
 rw [e2];generalize St.ev ⟨e,σs⟩ x=av;generalize lo.map (St.ev ⟨e,σs⟩)=l;generalize hi.map (St.ev ⟨e,σs⟩)=u;generalize mx.map (St.ev ⟨e,σs⟩)=v;unfold Zgz;split
 ·refine .inl ⟨rfl,?_⟩;split
  ·exact Zkq λ_=>Zhx λ_=>trivial
  ·trivial
 ·refine .inl ⟨rfl,?_⟩;split
  ·exact Zkq λ_=>Zhx λ_=>Zhx λ_=>trivial
  ·trivial
 ·rename_i k sv _
  cases hk:σs k with
  | none=>exact .inr λP' r0 hh=>by simp only [hk] at hh;exact hh
  | some en =>
    refine .inl ⟨by simp only [h k en hk,hk],?_⟩;simp only [hk];split
    ·split
     ·exact Zkq λ_=>Zhx λ_=>trivial
     ·trivial
    ·trivial
 ·refine .inl ⟨rfl,?_⟩;split
  ·exact Zkq λ_=>Zhx λ_=>trivial
  ·trivial
 ·refine .inl ⟨rfl,?_⟩;split
  ·exact Zkq λ_=>Zhx λ_=>Zhx λ_=>trivial
  ·trivial
 ·refine .inr λP' r0 hh=>?_;split at hh
  ·exact hh.2
  ·exact hh
 ·exact .inl ⟨rfl,trivial⟩
theorem Zha {P:Program} {tok:Nat} {dst:Option Nat} {r0:AV} {K:St→Prop} {st:St}:∀(r:Res),Zbs r→Zfl P r0 r→∀out,Zb1 r0 r=some out→outK tok dst out K st→aRes P tok dst r K st
 | .val a [],_,_,out,ho,h=>by cases ho;exact h
 | .val a (_ :: _),h,_,_,_,_=>h.elim
 | .need p r,h,h1,out,ho,h2=>⟨h1.1,Zha r h h1.2 out ho h2⟩
 | .bad,_,h,_,_,_=>h.elim
 | .box ..,h,_,_,_,_=>h.elim
 | .row ..,h,_,_,_,_=>h.elim
 | .app ..,h,_,_,_,_=>h.elim
 | .appv ..,h,_,_,_,_=>h.elim
 | .sto ..,h,_,_,_,_=>h.elim
 | .call ..,h,_,_,_,_=>h.elim
theorem Zrr {P:Program} {r0:AV} {tok:Nat} {dst:Option Nat} {K:St→Prop} {st:St}:∀(r:Res),Zbs r→Zfl P r0 r→∀out,Zb1 r0 r=some out→outK tok dst out K st→resK r λb=>K (St.put st dst b)
 | .val a [],_,_,out,ho,h=>by cases ho;exact h
 | .val a (_ :: _),h,_,_,_,_=>h.elim
 | .need p r,h,h1,out,ho,h2=>⟨h1.1,Zrr r h h1.2 out ho h2⟩
 | .bad,_,h,_,_,_=>h.elim
 | .box ..,h,_,_,_,_=>h.elim
 | .row ..,h,_,_,_,_=>h.elim
 | .app ..,h,_,_,_,_=>h.elim
 | .appv ..,h,_,_,_,_=>h.elim
 | .sto ..,h,_,_,_,_=>h.elim
 | .call ..,h,_,_,_,_=>h.elim
theorem Zs1 {P:Program} {tok:Nat} {dst:Option Nat} {K:St→Prop} {st:St}:∀(r:Res),Zj3 r→∀out,Zlp r=some out→outK tok dst out K st→aRes P tok dst r K st
 | .need p r,h,out,ho,h2=>⟨h.1,Zs1 r h.2 out ho h2⟩
 | .sto a k ent [],h,out,ho,h2=>by
   cases ho
   have:a=.u:=by
    cases a<;>first|rfl|exact h.elim
   subst this;exact h2
 | .sto a k ent (_ :: _),_,_,ho,_=>by cases ho
 | .val ..,h,_,_,_=>h.elim
 | .bad,h,_,_,_=>h.elim
 | .box ..,h,_,_,_=>h.elim
 | .row ..,h,_,_,_=>h.elim
 | .app ..,h,_,_,_=>h.elim
 | .appv ..,h,_,_,_=>h.elim
 | .call ..,h,_,_,_=>h.elim
section
variable {P:Program} {c:Cx} {n tok tok':Nat} {st:St} {a:Act} {w:World} {imm:Imm} {K:St→Prop} {o:Oper} {Q:Exit→Act→World→Prop}
theorem load_run {σs:Mem} {t:TypeId} {av:AV} {x:Value} {e:Nat→AV} {K:AV→Prop} (hs:Mx c σs w imm) (hx:Rs w imm av x) (hK:resK (Zdb P ⟨e,σs⟩ t av) K):∃y b,(Instr.loadAt t x).run P w=.ok y w∧K b∧Rs w imm b y:=by
 have fin:∀(ad:Addr),x=.pointer (some ad)→(Instr.loadAt t x).run P w=(loadVar t ad).run P w:=by
  rintro ad rfl;rfl
 cases av with
 | pbox k g off =>
   have hv:=hx.pbox_inv;unfold Zdb at hK;simp only at hK
   cases hk:σs k with
   | none=>simp only [hk] at hK;exact hK.elim
   | some e =>
     cases e with
     | row=>simp only [hk] at hK;exact hK.elim
     | map=>simp only [hk] at hK;exact hK.elim
     | obj=>simp only [hk] at hK;exact hK.elim
     | box g' e cs pub =>
       simp only [hk] at hK;obtain⟨rfl,hK⟩:=hK;have hca:=(Zk9 hs hk).drop off;rw [Zz4,Zzd] at hca;obtain⟨y,b,h1,h2,h3⟩:=Zes hK hca;exact⟨y,b,(fin _ hv).trans h1,h2,h3⟩
 | pimm cs =>
   obtain⟨ad,f,hv,h1,h2⟩:=hx.pimm_inv;obtain⟨y,b,h3,h4,h5⟩:=Zes (ad:=ad) hK λj b hb=>⟨f j,(h1 j (Zbl hb)).2,.pure (h2 j b hb)⟩;exact⟨y,b,(fin _ hv).trans h3,h4,h5⟩
 | prow k sv m i off =>
   obtain⟨g,nn,cc,e1,hv⟩:=hx.prow_inv;subst e1;unfold Zdb at hK;simp only at hK
   cases hk:σs k with
   | none=>simp only [hk] at hK;exact hK.elim
   | some e =>
     cases e with
     | box=>simp only [hk] at hK;exact hK.elim
     | map=>simp only [hk] at hK;exact hK.elim
     | obj=>simp only [hk] at hK;exact hK.elim
     | row sv' e m' es pub =>
       simp only [hk] at hK;obtain⟨⟨rfl,rfl,hi⟩,hK⟩:=hK;have hca:=(Zkc hs hk hi).drop off;rw [Zz4] at hca;obtain⟨y,b,h1,h2,h3⟩:=Zes hK hca;exact⟨y,b,(fin _ hv).trans h1,h2,h3⟩
 | _=>exact hK.elim
theorem Part.mx {σs σ:Mem} (h:Part σs σ) (hm:Mx c σ w imm):Mx c σs w imm :=
 ⟨⟨λk e hk=>hm.ok.ent k e (h k e hk),λk k' e e' b h1 h2 h3 h4=>hm.ok.apart k k' e e' b (h k e h1) (h k' e' h2) h3 h4,hm.ok.lt,hm.ok.spot⟩,hm.below,hm.lt,hm.old,hm.new,hm.cells⟩
theorem Zon {σs:Mem} {r0:AV} (h:Rel c n st a w imm) (hp:Part σs st.mem) (hd:∀d,o.dst=some d→d < n) (h1:Zdo P σs r0 o.op (opS P tok' σs st o.op)) (h2:optK σs tok o.dst (Zdx r0 o.op (opS P tok' σs st o.op)) K st) :
 o.wp P a w (Zbv c n λst'=>K st'∧Part σs st'.mem) Q:=by
 unfold optK at h2;split at h2
 ·rename_i out hout;have h2:=Zwl hp out h2.1 h2.2;by_cases hl:∃t x,o.op=.load t x
  ·obtain⟨t,x,ho⟩:=hl;simp only [ho,opS,Zdo,Zdx,Zao,isVC,Zyy,Zy8,false_and,or_false] at h1 hout;have hs:=hp.mx h.mem;have hev:Rs w imm (St.ev ⟨st.env,σs⟩ x) (a.eval x):=(show Rel c n ⟨st.env,σs⟩ a w imm from⟨h.env,h.size,h.defers,hs⟩).ev x;obtain⟨y,b,h3,h4,h5⟩:=load_run hs hev (Zrr _ Zgj h1 out hout h2);unfold Oper.wp
   have hrun:(execOp a.eval o).run P w=.ok (.value y) w:=by
    simp only [execOp,ho];exact Zht h3
   rw [hrun];exact⟨_,imm,h4,h.step (Keeps.refl w imm) h.mem hd h5⟩
  ·by_cases hst:∃t p x,o.op=.store t p x
   ·obtain⟨t,p,x,ho⟩:=hst;simp only [ho,Zdo,Zdx,Zao,Zzb] at h1 hout;refine Zc7 (tok:=tok) h hd ?_;have e:aRes P tok o.dst (opS P tok' σs st (.store t p x)) (λst'=>K st'∧Part σs st'.mem) st:=Zs1 _ h1 out hout h2;rw [ho]
    cases p with
    | tmp p =>
      simp only [opS] at e;simp only [Zag];split at e
      ·rename_i k g off hpe;split at e
       ·have hpe':St.ev st (.tmp p)=.pbox k g off:=hpe;have hxe:St.ev st x=St.ev ⟨st.env,Zac⟩ x:=by cases x<;>rfl
        rw [hpe',hxe];exact e
       ·exact e.elim
      ·exact e.elim
    | _=>exact e.elim
   ·by_cases hix:∃t x i,o.op=.indexAddr t x i
    ·obtain⟨t,x,i,ho⟩:=hix;simp only [ho,opS,Zdo,Zdx,Zao,isVC,Zyy,Zy8,false_and,or_false] at h1 hout;refine Zc7 (tok:=tok) h hd ?_;rw [ho];have e1:∀y,St.ev st y=St.ev ⟨st.env,σs⟩ y:=λy=>by cases y<;>rfl
     simp only [Zag];rw [e1,e1];rcases Zt4 (P:=P) (e:=st.env) (t:=t) (a:=St.ev ⟨st.env,σs⟩ x) (b:=St.ev ⟨st.env,σs⟩ i) hp with hh | hh
     ·rw [hh] at h1 hout;exact Zha _ Zmw h1 out hout h2
     ·exact absurd h1 (hh P r0)
    ·by_cases hln:∃args ts,o.op=.call ⟨.builtin .len,args,ts⟩
     ·obtain⟨args,ts,ho⟩:=hln;simp only [ho,opS,Zdo,Zdx,Zao,isVC,Zyy,Zy8,false_and,or_false] at h1 hout;refine Zc7 (tok:=tok) h hd ?_;rw [ho];simp only [Zag];rcases len_part (P:=P) (e:=st.env) (args:=args) (ts:=ts) hp with hh | hh
      ·rw [hh] at h1 hout;exact Zha _ Zqh h1 out hout h2
      ·exact absurd h1 (hh P r0)
     ·by_cases hsl:∃t x lo hi mx,o.op=.slice t x lo hi mx
      ·obtain⟨t,x,lo,hi,mx,ho⟩:=hsl;simp only [ho,opS,Zdo,Zdx,Zao,isVC,Zyy,Zy8,false_and,or_false] at h1 hout;refine Zc7 (tok:=tok) h hd ?_;rw [ho];rcases Zte (P:=P) (e:=st.env) (t:=t) (x:=x) (lo:=lo) (hi:=hi) (mx:=mx) hp with⟨hh,hv⟩ | hh
       ·have hh':Zag P ⟨st.env,σs⟩ (.slice t x lo hi mx)=Zag P st (.slice t x lo hi mx):=hh;rw [←hh'];exact Zha _ hv h1 out hout h2
       ·exact absurd h1 (hh P r0)
      have e:opS P tok' σs st o.op=Zag P ⟨st.env,Zac⟩ o.op:=by
       cases ho:o.op with
       | load t x=>exact absurd ⟨t,x,ho⟩ hl
       | store t p x=>exact absurd ⟨t,p,x,ho⟩ hst
       | indexAddr t x i=>exact absurd ⟨t,x,i,ho⟩ hix
       | slice t x lo hi mx=>exact absurd ⟨t,x,lo,hi,mx,ho⟩ hsl
       | call c =>
         obtain⟨cl,args,ts⟩:=c
         cases cl with
         | builtin b =>
           cases b with
           | len=>exact absurd ⟨args,ts,ho⟩ hln
           | _=>rfl
         | _=>rfl
       | _=>rfl
      have e2:Zao o.op=false:=by
       cases ho:o.op with
       | store t p x=>exact absurd ⟨t,p,x,ho⟩ hst
       | _=>rfl
      rw [e] at h1 hout;simp only [Zdo,Zdx,e2,Zyy,Zy8] at h1 hout;rcases h1 with h1 | ⟨hv,h1⟩
      ·exact Zug h hd (Zyg _ h1 out hout h2)
      ·have e3:Zag P st o.op=Zag P ⟨st.env,Zac⟩ o.op:=by
        cases ho:o.op with
        | call c =>
          obtain⟨cl,args,ts⟩:=c
          cases cl with
          | value g =>
            have ev:∀x,St.ev st x=St.ev ⟨st.env,Zac⟩ x:=λx=>by cases x<;>rfl
            have em:st.ev=St.ev ⟨st.env,Zac⟩:=funext ev;simp only [Zag,Zco,em]
          | _=>rw [ho] at hv;cases hv
        | _=>rw [ho] at hv;cases hv
       refine Zc7 (tok:=tok) h hd ?_;rw [e3];generalize Zag P ⟨st.env,Zac⟩ o.op=r at *
       cases r with
       | call f args =>
         have ho':out=.val r0:=by simp only [Zb1,Option.some.injEq] at hout;exact hout.symm
         subst ho';refine(h1 st.mem hp).mono λr σ' hr=>?_;obtain⟨rfl,rfl⟩:=hr;exact h2
       | _=>exact h1.elim
 ·exact h2.elim
end
def Zcn (P:Program) (tok:Nat) (σs:Mem) (all:List Oper) (rs:Nat→AV) (i:Nat) (o:Oper) (K:St→Prop) (st:St):Prop :=
 match o.guard with
 | none=>Zdo P σs (rs i) o.op (opS P tok σs st o.op)∧optK σs (tok+o.dst.getD 0) o.dst (Zdx (rs i) o.op (opS P tok σs st o.op)) K st
 | some (j,want)=>Zhe (Zbe all ⟨st.env,Zac⟩ j)∧if says (Zbe all ⟨st.env,Zac⟩ j) want=true then Zdo P σs (rs i) o.op (opS P tok σs st o.op)∧optK σs (tok+o.dst.getD 0) o.dst (Zdx (rs i) o.op (opS P tok σs st o.op)) K st else K (st.put o.dst (.v (.tuple #[])))
def Zf9 (P:Program) (tok:Nat) (all:List Oper) (o:Oper) (K:St→Prop) (st:St):Prop:=Za3 P tok all [o] K st
def Zb9 (σs:Mem):Res→Prop
 | .need _ r=>Zb9 σs r
 | .app k _ ks=>σs k=none∧∀t∈ks,σs t=none
 | .appv k _ _=>σs k=none
 | .sto .u k _ []=>σs k=none
 | _=>False
def Zin (tok:Nat) (env:Nat→AV):Op→Bool
 | .call ⟨.builtin .append,args,_⟩=>match args.toList with
   | [.tmp d,x]=>(match env d with
     | .own k _=>k == tok+d || decide (tok+1000≤k)
     | _=>false) && (match St.ev ⟨env,Zac⟩ x with
     | .sl _ _=>true
     | .v _=>true
     | .own kx _=>(match x with
       | .tmp dx=>kx == tok+dx
       | _=>false)
     | _=>false)
   | _=>false
 | _=>false
def Zfo (P:Program) (tok:Nat) (σs:Mem) (all:List Oper) (semi cr:Bool) (o:Oper) (K:St→Prop) (st:St):Prop :=
 Zf9 P tok all o K st∧(semi=true→o.guard=none∧Zb9 σs (Zag P st o.op)∧(cr=true→Zin tok st.env o.op=true))
def Zd6 (P:Program) (tok:Nat) (σs:Mem) (all:List Oper) (rs:Nat→AV) (bar:List Nat) (i:Nat) (K:St→Prop) (st:St):Prop :=
 match all[i]? with
 | some o=>if bar.contains i then Zfo P tok (if bar.contains (i+1000) then σs else Zac) all (bar.contains (i+1000) || bar.contains (i+2000)) (bar.contains (i+3000)) o K st else Zcn P tok σs all rs i o K st
 | none=>K st
def Zbz (bar:List Nat) (i:Nat) (σs:Mem):Mem:=if bar.contains i then (if bar.contains (i+1000) then σs else Zac) else σs
def aAny (P:Program) (tok:Nat) (all:List Oper) (rs:Nat→AV) (bar:List Nat):Mem→Nat→Array Bool→(St→Prop)→St→Prop
 | _,0,listed,K,st=>Region.ready .any all.toArray listed=[]∧K st
 | σs,f+1,listed,K,st=>(Region.ready .any all.toArray listed=[]→K st)∧∀i∈Region.ready .any all.toArray listed,Zd6 P tok σs all rs bar i (aAny P tok all rs bar (Zbz bar i σs) f (listed.setIfInBounds i true) K) st
section
variable {P:Program} {c:Cx} {n tok:Nat}
theorem Zjb {all:List Oper} {st:St} {a:Act} {w:World} {imm:Imm} {j:Nat} {want:Bool} (henv:∀t,Rs w imm (st.env t) (a.tmps.getD t undef)) (hk:Zhe (Zbe all st j)):(yielded all.toArray a.tmps j == some want)=says (Zbe all st j) want:=by
 unfold Zbe at hk ⊢;split at hk
 ·rename_i d hdj;have hdj':((all.toArray[j]?).bind (·.dst))=some d:=by simpa using hdj
  cases hb:st.env d with
  | v x =>
    have hv:=henv d;rw [hb] at hv;have hv:=hv.v_inv;unfold yielded;rw [hdj'];simp only [ZCj,hb];by_cases hx:∃b,x=.bool b
    ·obtain⟨b,rfl⟩:=hx
     have hlt:d < a.tmps.size:=by
      rcases Zy5 d a.tmps.size with h1 | h1
      ·exact h1
      ·rw [ZAi,ZB1 h1] at hv;simp [undef] at hv
     have hget:a.tmps[d]?=some (.bool b):=by
      rw [Zzl hlt];rw [ZAi,Zzl hlt] at hv
      simpa using hv
     rw [hget];simp [says]
    ·have hs:says (.v x) want=false:=by cases x<;>first|rfl|exact absurd ⟨_,rfl⟩ hx
     rw [hs];rcases ht:a.tmps[d]? with _ | y
     ·rfl
     ·rw [ZAi,ht] at hv;simp only [Zz9] at hv;subst hv;cases y<;>first|rfl|exact absurd ⟨_,rfl⟩ hx
  | _=>rw [hb] at hk;exact hk.elim
 ·exact hk.elim
theorem Part.none {σ:Mem}:Part Zac σ:=λt e h=>by simp [Zac] at h
theorem Part.marks {σs:Mem}:∀(ks:List Nat) {σ:Mem},Part σs σ→(∀t∈ks,σs t=.none)→Part σs (Go.Pg.marks σ ks)
 | [],_,h,_=>h
 | k :: ks,σ,h,hk=>Part.marks ks (σ:=mark σ k) (h.upd (hk k zs)) λt ht=>hk t (by simp [ht])
theorem Zo5 {σs:Mem} {dst:Option Nat} {K:St→Prop}:∀(r:Res) {st:St},Zb9 σs r→Part σs st.mem→aRes P tok dst r K st→aRes P tok dst r (λst'=>K st'∧Part σs st'.mem) st
 | .need p r,st,hr,hp,h=>⟨h.1,Zo5 r hr hp h.2⟩
 | .app k news ks,st,hr,hp,h=>by
   unfold aRes at h ⊢;split at h
   ·exact λsv=>⟨h sv,by cases dst<;>exact(hp.marks ks hr.2).upd hr.1⟩
   ·exact h.elim
 | .appv k n news,st,hr,hp,h=>by
   unfold aRes at h ⊢;split at h
   ·exact λsv=>⟨h sv,by cases dst<;>exact hp.upd hr⟩
   ·exact h.elim
 | .val _ _,_,hr,_,_=>hr.elim
 | .box _ _,_,hr,_,_=>hr.elim
 | .row _ _ _ _,_,hr,_,_=>hr.elim
 | .mapn,_,hr,_,_=>hr.elim
 | .sto a k ent ks,st,hr,hp,h=>by
   cases ks with
   | cons x r=>cases a<;>exact hr.elim
   | nil=>cases a<;>first|exact hr.elim|exact⟨h,by cases dst<;>exact hp.upd hr⟩
 | .call _ _,_,hr,_,_=>hr.elim
 | .bad,_,hr,_,_=>hr.elim
theorem Zjz {all:List Oper} {rs:Nat→AV} {bar:List Nat} {Q:Exit→Act→World→Prop} {K:St→Prop} {σs:Mem} (hf:all.all (Zdt n)=true) {i:Nat} {st:St} {a:Act} {w:World} {imm:Imm} (h:Rel c n st a w imm) (hp:Part σs st.mem)
 (hK:Zd6 P tok σs all rs bar i K st):wpOp P all.toArray Q i (Zbv c n λst'=>K st'∧Part (Zbz bar i σs) st'.mem) a w:=by
 have next_ok:Part (Zbz bar i σs) st.mem:=by
  unfold Zbz;split
  ·split
   ·exact hp
   ·exact Part.none
  ·exact hp
 unfold Zd6 at hK;unfold wpOp
 cases ho:all[i]? with
 | none =>
   rw [ho] at hK;simp only [ZAm,ho];exact⟨st,imm,⟨hK,next_ok⟩,h⟩
 | some o =>
   rw [ho] at hK;simp only [ZAm,ho];have hof:Zdt n o=true:=List.all_eq_true.1 hf o (ZA6 ho)
   have hd:∀d,o.dst=some d→d < n:=by
    intro d hdd;rw [Zdt,hdd] at hof
    simpa using hof
   have skip:K (st.put o.dst (.v (.tuple #[])))→Zbv c n (λst'=>K st'∧Part (Zbz bar i σs) st'.mem) (a.put o.dst undef) w:=λhk =>
    ⟨_,imm,⟨hk,by cases o.dst<;>exact next_ok⟩,h.step (Keeps.refl _ _) h.mem hd (.pure (.v _))⟩
   simp only at hK;by_cases hb:bar.contains i=true
   ·rw [Zyk hb] at hK;obtain⟨hK,hkeep⟩:=hK;by_cases hsemi:bar.contains (i+1000)=true
    ·have hnx:Zbz bar i σs=σs:=by unfold Zbz;rw [Zyk hb,Zyk hsemi]
     obtain⟨hg,hkp,-⟩:=hkeep (by rw [hsemi];rfl);rw [Zyk hsemi] at hkp;unfold Zf9 Za3 at hK;rw [hg] at hK;rw [Zyk (by simp [Region.wanted,hg])];rw [hnx];have hK:aRes P (tok+o.dst.getD 0) o.dst (Zag P st o.op) K st:=hK;exact .inl (Zc7 h hd (Zo5 _ hkp hp hK))
    have hnx:Zbz bar i σs=Zac:=by unfold Zbz;rw [Zyk hb,Zyj hsemi]
    have go2:∀{a':Act} {w':World},Zbv c n K a' w'→Zbv c n (λst'=>K st'∧Part (Zbz bar i σs) st'.mem) a' w':=fun⟨st',imm',h1,h2⟩=>⟨st',imm',⟨h1,by rw [hnx];exact Part.none⟩,h2⟩;unfold Zf9 Za3 at hK
    cases hg:o.guard with
    | none =>
      rw [hg] at hK;rw [Zyk (by simp [Region.wanted,hg])];exact .inl (Oper.wp_mono (λ_ _ h1=>go2 h1) (Zc7 h hd hK))
    | some jw =>
      obtain⟨j,want⟩:=jw;rw [hg] at hK;obtain⟨hkn,hK⟩:=hK;have hw:=Zjb (want:=want) h.env hkn;by_cases hs:says (Zbe all st j) want=true
      ·rw [Zyk hs] at hK;rw [Zyk (by simp only [Region.wanted,hg];rw [hw];exact hs)];exact .inl (Oper.wp_mono (λ_ _ h1=>go2 h1) (Zc7 h hd hK))
      ·rw [Zyj hs] at hK;rw [Zyj (by simp only [Region.wanted,hg];rw [hw];exact hs)];exact skip hK
   ·have hnx:Zbz bar i σs=σs:=Zyj hb;rw [Zyj hb] at hK;unfold Zcn at hK
    cases hg:o.guard with
    | none =>
      rw [hg] at hK;rw [Zyk (by simp [Region.wanted,hg])];exact .inl (by rw [hnx];exact Zon h hp hd hK.1 hK.2)
    | some jw =>
      obtain⟨j,want⟩:=jw;rw [hg] at hK;obtain⟨hkn,hK⟩:=hK;have hw:=Zjb (st:=⟨st.env,Zac⟩) (want:=want) h.env hkn;by_cases hs:says (Zbe all ⟨st.env,Zac⟩ j) want=true
      ·rw [Zyk hs] at hK;rw [Zyk (by simp only [Region.wanted,hg];rw [hw];exact hs)];exact .inl (by rw [hnx];exact Zon h hp hd hK.1 hK.2)
      ·rw [Zyj hs] at hK;rw [Zyj (by simp only [Region.wanted,hg];rw [hw];exact hs)];exact skip hK
theorem Zmb {all:List Oper} {rs:Nat→AV} {bar:List Nat} {Q:AE→St→Prop} (hf:all.all (Zdt n)=true):∀(f:Nat) (σs:Mem) (listed:Array Bool) (st:St) (a:Act) (w:World) (imm:Imm),Rel c n st a w imm→Part σs st.mem →
 aAny P tok all rs bar σs f listed (Q .normal) st→wpAny P .any all.toArray (post c n Q) f listed a w
 | 0,σs,listed,st,a,w,imm,h,_,hK=>⟨hK.1,.normal,st,imm,rfl,hK.2,h⟩
 | f+1,σs,listed,st,a,w,imm,h,hs,hK=>by
   refine⟨λh0=>⟨.normal,st,imm,rfl,hK.1 h0,h⟩,λi hi=>?_⟩;refine wpOp_mono (λa' w' hg=>?_) (Zjz hf h hs (hK.2 i hi));obtain⟨st',imm',⟨hk,hs'⟩,hr⟩:=hg;exact Zmb hf f _ _ st' a' w' imm' hr hs' hk
end
theorem Zga {e e':Nat→AV} {σ:Mem} {x:Operand} (h:∀t,x=.tmp t→e t=e' t):St.ev ⟨e,σ⟩ x=St.ev ⟨e',σ⟩ x:=by
 cases x with
 | tmp t=>exact h t rfl
 | _=>rfl
theorem Ze4 {P:Program} {σ:Mem} {e e':Nat→AV} {op:Op} (hs:∀cs b,op≠.select cs b) (h:∀x∈op.operands,∀t,x=.tmp t→e t=e' t):Zag P ⟨e,σ⟩ op=Zag P ⟨e',σ⟩ op:=by
 have hev:∀x∈op.operands,St.ev ⟨e,σ⟩ x=St.ev ⟨e',σ⟩ x:=λx hx=>Zga (h x hx)
 have hl:∀xs:Array Operand,(∀x∈xs,x∈op.operands)→xs.toList.map (St.ev ⟨e,σ⟩)=xs.toList.map (St.ev ⟨e',σ⟩):=λxs hx =>
  ZBn λx hm=>hev x (hx x (Array.mem_toList_iff.1 hm))
 have hp:∀ps:Array (Nat × Operand),(∀p∈ps,p.2∈op.operands)→ps.toList.map (λp=>(p.1,St.ev ⟨e,σ⟩ p.2))=ps.toList.map (λp=>(p.1,St.ev ⟨e',σ⟩ p.2)):=λps hx =>
  ZBn λp hm=>by rw [hev p.2 (hx p (Array.mem_toList_iff.1 hm))]
 have ho:∀b:Option Operand,(∀x,b=some x→x∈op.operands)→b.map (St.ev ⟨e,σ⟩)=b.map (St.ev ⟨e',σ⟩):=by
  intro b hb
  cases b with
  | none=>rfl
  | some x=>simp only [Zz7];rw [hev x (hb x rfl)]
 cases op with
 | call cl =>
   simp only [Zag];unfold Zco;have ha:=hl cl.args (λx hx=>by simp only [Op.operands,Call.operands];exact Array.mem_append.2 (.inr hx));have h1:∀x∈cl.args.toList,St.ev ⟨e,σ⟩ x=St.ev ⟨e',σ⟩ x:=λx hx=>hev x (by simp only [Op.operands,Call.operands];exact Array.mem_append.2 (.inr (Array.mem_toList_iff.1 hx)))
   cases hc:cl.callee with
   | builtin b =>
     cases b<;>simp only<;>first
      | rfl
      | (rw [ha];done)
      | (split<;>first
       | rfl
       | (rename_i hx _
          rw [hx] at h1
          first
          | (rw [h1 _ zs];done)
          | (rw [h1 _ zs];rfl)
          | (rw [h1 _ zs];rw [h1 _ zs];rfl)
          | (rw [h1 _ zs];rename_i hx2 _;rw [h1 _ zs];rfl)))
   | value f =>
     simp only;rw [hev f (by simp [Op.operands,Call.operands,hc]),ha]
   | invoke r nm =>
     simp only;rw [hev r (by simp [Op.operands,Call.operands,hc]),ha]
 | move x=>simp only [Zag];rw [hev x (by simp [Op.operands])]
 | assign x=>simp only [Zag];rw [hev x (by simp [Op.operands])]
 | pick cc x y=>simp only [Zag,Zkh];rw [hev cc (by simp [Op.operands]),hev x (by simp [Op.operands]),hev y (by simp [Op.operands])]
 | alloc t=>rfl
 | box t x=>simp only [Zag];rw [hev x (by simp [Op.operands])]
 | build t ps=>simp only [Zag];rw [hp ps (λp hpp=>by simp only [Op.operands];simp;exact⟨p.1,hpp⟩)]
 | buildSlice t len ps=>simp only [Zag];rw [hp ps (λp hpp=>by simp only [Op.operands];simp;exact⟨p.1,hpp⟩)];rfl
 | load t x=>simp only [Zag];rw [hev x (by simp [Op.operands])];rfl
 | store t p x=>simp only [Zag];rw [hev p (by simp [Op.operands]),hev x (by simp [Op.operands])];rfl
 | nilCheck x=>simp only [Zag];rw [hev x (by simp [Op.operands])]
 | binOp b t x y u=>simp only [Zag];rw [hev x (by simp [Op.operands]),hev y (by simp [Op.operands])]
 | unOp b t x=>simp only [Zag];rw [hev x (by simp [Op.operands])]
 | convert s d x=>simp only [Zag];first|(rw [hev x (by simp [Op.operands])];done)|(rw [hev x (by simp [Op.operands])];rfl)
 | makeFunc fn first caps =>
   cases fn with
   | func f=>simp only [Zag];rw [hl caps (λx hx=>by simp only [Op.operands];exact Array.mem_append.2 (.inr hx))]
   | _=>rfl
 | makeSlice t l cp=>simp only [Zag];rw [hev l (by simp [Op.operands]),hev cp (by simp [Op.operands])]
 | slice t x lo hi mx =>
   simp only [Zag];rw [hev x (by simp [Op.operands]),ho lo (λy hy=>by simp [Op.operands,hy]),ho hi (λy hy=>by simp [Op.operands,hy]),ho mx (λy hy=>by simp [Op.operands,hy])];rfl
 | fieldAddr s x f=>simp only [Zag];rw [hev x (by simp [Op.operands])]
 | field s x f=>simp only [Zag];rw [hev x (by simp [Op.operands])]
 | indexAddr t x i=>simp only [Zag];rw [hev x (by simp [Op.operands]),hev i (by simp [Op.operands])];rfl
 | index t x i=>simp only [Zag];rw [hev x (by simp [Op.operands]),hev i (by simp [Op.operands])]
 | extract x i=>simp only [Zag];rw [hev x (by simp [Op.operands])]
 | makeInterface t x=>simp only [Zag];rw [hev x (by simp [Op.operands])]
 | makeMap t r=>cases r<;>rfl
 | lookup t m k b=>simp only [Zag];rw [hev m (by simp [Op.operands]),hev k (by simp [Op.operands])];rfl
 | mapUpdate t m k x=>simp only [Zag];rw [hev m (by simp [Op.operands]),hev k (by simp [Op.operands]),hev x (by simp [Op.operands])];rfl
 | _=>rfl
def Zk5 (P:Program) (tok:Nat) (σs:Mem) (all:List Oper) (r0:AV) (o:Oper) (st:St):Prop :=
 match o.guard with
 | none=>Zdo P σs r0 o.op (opS P tok σs st o.op)
 | some (j,want)=>Zhe (Zbe all ⟨st.env,Zac⟩ j)∧(says (Zbe all ⟨st.env,Zac⟩ j) want=true→Zdo P σs r0 o.op (opS P tok σs st o.op))
def dOut (P:Program) (tok:Nat) (σs:Mem) (all:List Oper) (r0:AV) (o:Oper) (st:St):Option Out :=
 match o.guard with
 | none=>Zdx r0 o.op (opS P tok σs st o.op)
 | some (j,want)=>if says (Zbe all ⟨st.env,Zac⟩ j) want=true then Zdx r0 o.op (opS P tok σs st o.op) else some (.val (.v (.tuple #[])))
def Zhc (tok:Nat) (dst:Option Nat) (st:St) (x:Nat × Value):Out→St
 | .val a=>St.put st dst a
 | .box e cs=>St.put ⟨st.env,upd st.mem tok (some (.box x.1 e cs false))⟩ dst (.pbox tok x.1 0)
 | .row e m es=>St.put ⟨st.env,upd st.mem tok (some (.row x.2 e m es 0))⟩ dst (.own tok x.2)
 | .sto k ent=>St.put ⟨st.env,upd st.mem k (some ent)⟩ dst .u
theorem Zcb {P:Program} {tok:Nat} {σs:Mem} {all:List Oper} {rs:Nat→AV} {i:Nat} {o:Oper} {st:St} {K:St→Prop} :
 Zcn P tok σs all rs i o K st↔Zk5 P tok σs all (rs i) o st∧∃out,dOut P tok σs all (rs i) o st=some out∧Zwi σs (tok+o.dst.getD 0) out∧∀x,K (Zhc (tok+o.dst.getD 0) o.dst st x out):=by
 have key:∀(ou:Option Out),optK σs (tok+o.dst.getD 0) o.dst ou K st↔∃out,ou=some out∧Zwi σs (tok+o.dst.getD 0) out∧∀x,K (Zhc (tok+o.dst.getD 0) o.dst st x out):=by
  intro ou
  cases ou with
  | none=>simp [optK]
  | some out =>
    simp only [optK,Option.some.injEq,exists_eq_left'];refine and_congr_right λ_=>?_
    cases out with
    | val a=>exact⟨λh _=>h,λh=>h (0,undef)⟩
    | box e cs=>exact⟨λh x=>h x.1,λh g=>h (g,undef)⟩
    | row e m es=>exact⟨λh x=>h x.2,λh sv=>h (0,sv)⟩
    | sto k ent=>exact⟨λh _=>h,λh=>h (0,undef)⟩
 unfold Zcn Zk5 dOut
 cases hg:o.guard with
 | none=>simp only [key]
 | some jw =>
   obtain⟨j,want⟩:=jw;simp only;by_cases hs:says (Zbe all ⟨st.env,Zac⟩ j) want=true
   ·simp only [hs,Zzb,forall_const,key,and_assoc]
   ·have hs':says (Zbe all ⟨st.env,Zac⟩ j) want=false:=by simpa using hs
    simp only [hs',Zyy,Zy8,false_imp_iff,and_true];refine and_congr_right λ_=>⟨λh=>⟨_,rfl,trivial,λ_=>h⟩,fun⟨out,h1,_,h2⟩=>?_⟩;cases h1;exact h2 (0,undef)
theorem Zct {ops:Array Oper} {o:Oper} {t:Nat} (h:Operand.tmp t∈o.op.operands):t∈o.looksAt ops:=by
 unfold Oper.looksAt;refine List.mem_append.2 (.inl ?_);rw [List.mem_filterMap];exact⟨.tmp t,Array.mem_toList_iff.2 h,rfl⟩
theorem Zwr {P:Program} {tok:Nat} {σs:Mem} {ops:Array Oper} {o:Oper} {st st':St} (hsel:∀cs b,o.op≠.select cs b) (h:∀t∈o.looksAt ops,st.env t=st'.env t) (hm:Zao o.op=true→∀t∈o.looksAt ops,st.mem (tok+t)=st'.mem (tok+t)) :
 opS P tok σs st o.op=opS P tok σs st' o.op:=by
 have h0:=Ze4 (P:=P) (σ:=Zac) (e:=st.env) (e':=st'.env) hsel λx hx t ht=>h t (Zct (ht ▸ hx))
 cases ho:o.op with
 | load t x =>
   have hx:St.ev ⟨st.env,σs⟩ x=St.ev ⟨st'.env,σs⟩ x:=Zga λt ht=>h t (Zct (by rw [ho];simp [Op.operands,ht]));simp only [opS];rw [hx];rfl
 | store t p x =>
   have hx:St.ev ⟨st.env,Zac⟩ x=St.ev ⟨st'.env,Zac⟩ x:=Zga λt ht=>h t (Zct (by rw [ho];simp [Op.operands,ht]))
   cases p with
   | tmp p =>
     have hp:p∈o.looksAt ops:=Zct (by rw [ho];simp [Op.operands]);have hm':=hm (by rw [ho];rfl) p hp;simp only [opS,h p hp,hx];split
     ·rename_i k g off _;by_cases hk:k=tok+p
      ·rw [Zyk hk,Zyk hk];unfold Zfb;split
       ·simp only [hk,hm']
       ·rfl
      ·rw [Zyj hk,Zyj hk]
     ·rfl
   | _=>rfl
 | indexAddr t x i =>
   have hx:St.ev ⟨st.env,σs⟩ x=St.ev ⟨st'.env,σs⟩ x:=Zga λt ht=>h t (Zct (by rw [ho];simp [Op.operands,ht]));have hi:St.ev ⟨st.env,σs⟩ i=St.ev ⟨st'.env,σs⟩ i:=Zga λt ht=>h t (Zct (by rw [ho];simp [Op.operands,ht]));simp only [opS];rw [hx,hi];rfl
 | slice t x lo hi mx =>
   have h9:=Ze4 (P:=P) (σ:=σs) (e:=st.env) (e':=st'.env) hsel λx hx t ht=>h t (Zct (ht ▸ hx));rw [ho] at h9;simp only [opS];exact h9
 | call c =>
   rw [ho] at h0;obtain⟨cl,args,ts⟩:=c
   cases cl with
   | builtin b =>
     cases b with
     | len =>
       have h1:∀x∈args.toList,St.ev ⟨st.env,σs⟩ x=St.ev ⟨st'.env,σs⟩ x:=λx hx=>Zga λt ht=>h t (Zct (by rw [ho];simp only [Op.operands,Call.operands];exact Array.mem_append.2 (.inr (Array.mem_toList_iff.1 (ht ▸ hx)))));simp only [opS];unfold Zco;simp only;split
       ·rename_i hx _;rw [hx] at h1;rw [h1 _ zs];rfl
       ·rfl
     | _=>exact h0
   | _=>exact h0
 | _=>rw [ho] at h0;exact h0
theorem Zk4 {P:Program} {tok:Nat} {σs:Mem} {all:List Oper} {r0:AV} {o:Oper} {st st':St} (hsel:∀cs b,o.op≠.select cs b) (h:∀t∈o.looksAt all.toArray,st.env t=st'.env t) (hm:Zao o.op=true→∀t∈o.looksAt all.toArray,st.mem (tok+t)=st'.mem (tok+t)) :
 Zk5 P tok σs all r0 o st=Zk5 P tok σs all r0 o st'∧dOut P tok σs all r0 o st=dOut P tok σs all r0 o st':=by
 have h1:opS P tok σs st o.op=opS P tok σs st' o.op:=Zwr hsel h hm;unfold Zk5 dOut;rw [h1]
 cases hg:o.guard with
 | none=>exact⟨rfl,rfl⟩
 | some jw =>
   obtain⟨j,want⟩:=jw
   have h2:Zbe all ⟨st.env,Zac⟩ j=Zbe all ⟨st'.env,Zac⟩ j:=by
    unfold Zbe;rcases hd:(all[j]?).bind (·.dst) with _ | d
    ·rfl
    ·refine h d ?_;unfold Oper.looksAt;refine List.mem_append.2 (.inr ?_);rw [hg];simp only [ZAm,hd];simp
   simp only [h2];exact⟨trivial,trivial⟩
theorem Zoj {tok:Nat} {d:Option Nat} {st:St} {x:Nat × Value} {out:Out} {t:Nat} (h:d≠some t):(Zhc tok d st x out).env t=st.env t:=by
 cases d with
 | none=>cases out<;>rfl
 | some d =>
   have h':t≠d:=λe=>h (by rw [e]);cases out<;>simp [Zhc,St.put,Zal,h']
theorem sto_at {P:Program} {tok:Nat} {σs:Mem} {all:List Oper} {r0:AV} {o:Oper} {st:St} {out:Out} (hs:Zao o.op=true) (h:dOut P tok σs all r0 o st=some out):(∃a,out=.val a)∨∃p ent,p∈o.looksAt all.toArray∧out=.sto (tok+p) ent:=by
 have key:Zdx r0 o.op (opS P tok σs st o.op)=some out→∃p ent,p∈o.looksAt all.toArray∧out=.sto (tok+p) ent:=by
  intro h;simp only [Zdx,hs,Zzb] at h
  cases ho:o.op with
  | store t p x =>
    rw [ho] at h
    cases p with
    | tmp p =>
      simp only [opS] at h;split at h
      ·rename_i k g off _;split at h
       ·rename_i hk;unfold Zfb at h;split at h
        ·simp only at h;split at h
         ·simp only [Zlp,Option.some.injEq] at h;exact⟨p,_,Zct (by rw [ho];simp [Op.operands]),by rw [←h,hk]⟩
         ·cases h
        ·cases h
       ·cases h
      ·cases h
    | _=>cases h
  | _=>rw [ho] at hs;cases hs
 unfold dOut at h
 cases hg:o.guard with
 | none=>rw [hg] at h;exact .inr (key h)
 | some jw =>
   rw [hg] at h;simp only at h;split at h
   ·exact .inr (key h)
   ·cases h;exact .inl ⟨_,rfl⟩
theorem Zqi {P:Program} {tok:Nat} {σs:Mem} {all:List Oper} {r0:AV} {o:Oper} {st:St} {out:Out} (hs:Zao o.op=false) (h:dOut P tok σs all r0 o st=some out):∀k ent,out≠.sto k ent:=by
 have key:∀r out,Zb1 r0 r=some out→∀k ent,out≠.sto k ent:=by
  intro r
  induction r with
  | val a ks=>cases ks<;>intro out h k ent<;>cases h<;>simp
  | box e cs=>intro out h k ent;cases h;simp
  | row e m es ks=>cases ks<;>intro out h k ent<;>cases h<;>first|(split<;>simp)|simp
  | call f args=>intro out h k ent;cases h;simp
  | need p r ih=>exact λout h=>ih out h
  | _=>intro out h;cases h
 unfold dOut at h
 cases hg:o.guard with
 | none=>rw [hg] at h;simp only [Zdx,hs,Zyy,Zy8] at h;exact key _ _ h
 | some jw =>
   rw [hg] at h;simp only [Zdx,hs,Zyy,Zy8] at h;split at h
   ·exact key _ _ h
   ·cases h;intro k ent;simp
theorem Zcl {α:Type} (f:Nat→α) {k n:Nat} (v:α) (h:n≠k):upd f k v n=f n:=by rw [Zal,Zyj h]
theorem Zgw {α:Type} (f:Nat→α) {k j:Nat} (u v:α) (h:k≠j):upd (upd f k u) j v=upd (upd f j v) k u:=by
 funext n
 simp only [Zal];by_cases h1:n=j<;>by_cases h2:n=k
 ·exact absurd (h2.symm.trans h1) h
 ·simp [h1,h2];intro h3;exact absurd h3.symm h
 ·simp [h1,h2];intro h3;exact absurd h3 h
 ·simp [h1,h2]
def Zds (tok:Nat):Out→Option Nat
 | .val _=>none
 | .box _ _ | .row _ _ _=>some tok
 | .sto k _=>some k
theorem Zoi {tok:Nat} {d:Option Nat} {st:St} {x:Nat × Value} {out:Out} {k:Nat} (h:Zds tok out≠some k):(Zhc tok d st x out).mem k=st.mem k:=by
 cases d<;>cases out<;>simp only [Zhc,St.put,Zal,Zds,ne_eq,Option.some.injEq] at h ⊢<;>first
  | rfl
  | rw [Zyj (λe=>h e.symm)]
def putE (e:Nat→AV) (d:Option Nat) (a:AV):Nat→AV:=match d with
 | some d=>upd e d a
 | none=>e
theorem Ztr {tok tok':Nat} {d e:Option Nat} {st:St} {x y:Nat × Value} {o1 o2:Out} (h:∀t,d=some t→e≠some t) (hk:∀k,Zds tok o1=some k→Zds tok' o2≠some k) :
 Zhc tok' e (Zhc tok d st x o1) y o2=Zhc tok d (Zhc tok' e st y o2) x o1:=by
 have hp:∀(env:Nat→AV) (a b:AV),putE (putE env d a) e b=putE (putE env e b) d a:=by
  intro env a b
  cases d with
  | none=>cases e<;>rfl
  | some d=>cases e with
    | none=>rfl
    | some e=>exact Zgw _ _ _ (λhe=>h d rfl (by rw [he]))
 have st_eq:∀(s1 s2:St),s1.env=s2.env→s1.mem=s2.mem→s1=s2:=by
  intro s1 s2 h1 h2;cases s1;cases s2;simp only at h1 h2;rw [h1,h2]
 refine st_eq _ _ ?_ ?_
 ·have env_of:∀(tok:Nat) (d:Option Nat) (st:St) (x:Nat × Value) (o:Out),∃a,∀st',(Zhc tok d st' x o).env=putE st'.env d a:=by
   intro tok d st x o
   cases o with
   | val a=>exact⟨a,λst'=>by cases d<;>rfl⟩
   | box e cs=>exact⟨_,λst'=>by cases d<;>rfl⟩
   | row e m es=>exact⟨_,λst'=>by cases d<;>rfl⟩
   | sto k ent=>exact⟨_,λst'=>by cases d<;>rfl⟩
  obtain⟨a,ha⟩:=env_of tok d st x o1;obtain⟨b,hb⟩:=env_of tok' e st y o2;rw [ha,hb,hb,ha];exact hp st.env a b
 ·have mem_of:∀(tok:Nat) (d:Option Nat) (x:Nat × Value) (o:Out),(Zds tok o=none∧∀st',(Zhc tok d st' x o).mem=st'.mem)∨∃k v,Zds tok o=some k∧∀st',(Zhc tok d st' x o).mem=upd st'.mem k v:=by
   intro tok d x o
   cases o with
   | val a=>exact .inl ⟨rfl,λst'=>by cases d<;>rfl⟩
   | box e cs=>exact .inr ⟨_,_,rfl,λst'=>by cases d<;>rfl⟩
   | row e m es=>exact .inr ⟨_,_,rfl,λst'=>by cases d<;>rfl⟩
   | sto k ent=>exact .inr ⟨_,_,rfl,λst'=>by cases d<;>rfl⟩
  rcases mem_of tok d x o1 with⟨_,h1⟩ | ⟨k1,v1,t1,h1⟩<;>rcases mem_of tok' e y o2 with⟨_,h2⟩ | ⟨k2,v2,t2,h2⟩<;>rw [h2,h1,h1,h2]
  exact Zgw _ _ _ (λhe=>hk k1 t1 (by rw [t2,he]))
theorem Zua {P:Program} {tok:Nat} {σs:Mem} {all:List Oper} {rs:Nat→AV} {i j:Nat} {oi oj:Oper} {st:St} {K:St→Prop} (hdi:oi.dst.isSome=true∨Zao oi.op=true) (hdj:oj.dst.isSome=true∨Zao oj.op=true) (h2s:¬(Zao oi.op=true∧Zao oj.op=true))
 (hsi:∀cs b,oi.op≠.select cs b) (hsj:∀cs b,oj.op≠.select cs b) (hap:oi.apart all.toArray oj=true)
 (h:Zcn P tok σs all rs i oi (Zcn P tok σs all rs j oj K) st):Zcn P tok σs all rs j oj (Zcn P tok σs all rs i oi K) st:=by
 obtain⟨h1,h2,h3⟩:=Oper.apart_spec hap;have hne:∀t,oi.dst=some t→oj.dst≠some t:=h2
 have tokOf:∀(o o':Oper) (r0:AV) (out:Out) (st:St),(o.dst.isSome=true∨Zao o.op=true)→¬(Zao o.op=true∧Zao o'.op=true)→dOut P tok σs all r0 o st=some out→(∀d,o.dst=some d→d ∉ o'.looksAt all.toArray)→Zao o'.op=true→∀t∈o'.looksAt all.toArray,Zds (tok+o.dst.getD 0) out≠some (tok+t):=by
  intro o o' r0 out st hd h2s ho hl hs' t ht
  have hs:Zao o.op=false:=by
   cases hx:Zao o.op
   ·rfl
   ·exact absurd ⟨hx,hs'⟩ h2s
  have hd:o.dst.isSome=true:=hd.resolve_right (by rw [hs];simp);obtain⟨d,hd⟩:=Option.isSome_iff_exists.1 hd;have hdt:d≠t:=λe=>hl d hd (e ▸ ht);have:=Zqi hs ho
  cases out with
  | val a=>simp [Zds]
  | box e cs=>simp [Zds,hd];omega
  | row e m es=>simp [Zds,hd];omega
  | sto k ent=>exact absurd rfl (this k ent)
 have ai:∀x out,∀t∈oj.looksAt all.toArray,(Zhc (tok+oi.dst.getD 0) oi.dst st x out).env t=st.env t:=λx out t ht=>Zoj (λe=>h1 t e ht);have aj:∀x out,∀t∈oi.looksAt all.toArray,(Zhc (tok+oj.dst.getD 0) oj.dst st x out).env t=st.env t:=λx out t ht=>Zoj (λe=>h3 t e ht);rw [Zcb] at h ⊢;obtain⟨n1,out1,e1,ok1,k1⟩:=h;have k1':=λx=>Zcb.1 (k1 x);obtain⟨n2,out2,e2,ok2,_⟩:=k1' (0,undef);have c2:=λx=>Zk4 (P:=P) (tok:=tok) (σs:=σs) (r0:=rs j) hsj (ai x out1) λhs t ht=>Zoi (tokOf oi oj _ out1 st hdi h2s e1 h1 hs t ht);rw [(c2 (0,undef)).1] at n2;rw [(c2 (0,undef)).2] at e2
 refine⟨n2,out2,e2,ok2,λy=>?_⟩;rw [Zcb];have c1:=Zk4 (P:=P) (tok:=tok) (σs:=σs) (r0:=rs i) hsi (aj y out2) λhs t ht=>Zoi (tokOf oj oi _ out2 st hdj (λhh=>h2s hh.symm) e2 h3 hs t ht);rw [c1.1,c1.2];refine⟨n1,out1,e1,ok1,λx=>?_⟩;obtain⟨_,out3,e3,_,k3⟩:=k1' x;rw [(c2 x).2,e2] at e3;cases e3
 have hk:∀k,Zds (tok+oi.dst.getD 0) out1=some k→Zds (tok+oj.dst.getD 0) out2≠some k:=by
  intro k t1 t2;by_cases hsi':Zao oi.op=true
  ·have hsj':Zao oj.op=false:=by
    cases hx:Zao oj.op
    ·rfl
    ·exact absurd ⟨hsi',hx⟩ h2s
   rcases sto_at hsi' e1 with⟨a,rfl⟩ | ⟨p,ent,hp,rfl⟩
   ·cases t1
   ·simp only [Zds,Option.some.injEq] at t1;exact tokOf oj oi _ out2 st hdj (λhh=>h2s hh.symm) e2 h3 hsi' p hp (by rw [t1];exact t2)
  ·have hsi0:Zao oi.op=false:=by simpa using hsi'
   have hdi':=hdi.resolve_right hsi';obtain⟨di,hdi'⟩:=Option.isSome_iff_exists.1 hdi';have ns:=Zqi hsi0 e1
   have t1':k=tok+di:=by
    cases out1 with
    | val a=>cases t1
    | box e cs=>simp [Zds,hdi'] at t1;omega
    | row e m es=>simp [Zds,hdi'] at t1;omega
    | sto k ent=>exact absurd rfl (ns k ent)
   by_cases hsj':Zao oj.op=true
   ·rcases sto_at hsj' e2 with⟨a,rfl⟩ | ⟨p,ent,hp,rfl⟩
    ·cases t2
    ·simp only [Zds,Option.some.injEq] at t2;have e:di=p:=Nat.add_left_cancel (t1'.symm.trans t2.symm);exact h1 di hdi' (by rw [e];exact hp)
   ·have hsj0:Zao oj.op=false:=by simpa using hsj'
    obtain⟨dj,hdj'⟩:=Option.isSome_iff_exists.1 (hdj.resolve_right hsj');have ns2:=Zqi hsj0 e2
    have t2':k=tok+dj:=by
     cases out2 with
     | val a=>cases t2
     | box e cs=>simp [Zds,hdj'] at t2;omega
     | row e m es=>simp [Zds,hdj'] at t2;omega
     | sto k ent=>exact absurd rfl (ns2 k ent)
    have e:dj=di:=Nat.add_left_cancel (t2'.symm.trans t1');exact hne di hdi' (by rw [hdj',e])
 have:=k3 y;rw [Ztr hne hk] at this;exact this
theorem Zdf {P:Program} {tok:Nat} {σs:Mem} {all:List Oper} {rs:Nat→AV} {i:Nat} {o:Oper} {st:St} {K K':St→Prop} (h:∀st,K st→K' st) (hd:Zcn P tok σs all rs i o K st):Zcn P tok σs all rs i o K' st:=by
 rw [Zcb] at hd ⊢;obtain⟨h1,out,h2,h4,h3⟩:=hd;exact⟨h1,out,h2,h4,λx=>h _ (h3 x)⟩
theorem Zho {r0:AV}:∀(r:Res),Zbs r→∀out,Zb1 r0 r=some out→∃a,out=.val a
 | .val a [],_,out,h=>⟨a,by cases h;rfl⟩
 | .val a (_ :: _),h,_,_=>h.elim
 | .need p r,h,out,ho=>Zho r h out ho
 | .bad,_,out,h=>by cases h
 | .box _ _,h,_,_=>h.elim
 | .row _ _ _ _,h,_,_=>h.elim
 | .app _ _ _,h,_,_=>h.elim
 | .appv _ _ _,h,_,_=>h.elim
 | .sto _ _ _ _,h,_,_=>h.elim
 | .call _ _,h,_,_=>h.elim
theorem Zic {P:Program} {s:TypeId} {x:AV} {f:Nat}:Zbs (Zg7 P s x f):=by
 unfold Zg7;split
 ·split
  ·split
   ·unfold Zbs;split<;>trivial
   ·trivial
  ·trivial
 ·trivial
theorem Zja {p:Prop} {r:Res} (h:Zbs r):Zbs (.need p r):=h
theorem Zcy {P:Program}:∀(l:List (TypeId × Nat)) (xs ys:List AV) (R:Bool→Res),(∀c,Zbs (R c))→Zbs (Ze6 P l xs ys R)
 | [],_,_,R,h=>h true
 | (t,off) :: r,xs,ys,R,h=>by
   unfold Ze6;split
   ·exact Zcy r xs ys _ λc=>h _
   ·exact Zcy r xs ys _ λc=>h _
   ·exact Zcy r xs ys _ λc=>h _
   ·trivial
theorem Zid {P:Program} {t:TypeId} {xs ys:List AV} {R:Bool→Res} (h:∀c,Zbs (R c)):Zbs (Zq3 P t xs ys R):=by
 unfold Zq3;split
 ·exact Zja (Zcy _ _ _ _ h)
 ·split
  ·exact Zja (Zcy _ _ _ _ h)
  ·trivial
 ·trivial
theorem Zkk {P:Program} {op:BinOp} {t:TypeId} {x y:AV}:Zbs (Zma P op t x y):=by
 unfold Zma;split
 ·split
  ·trivial
  ·trivial
  ·unfold Zsh;split<;>trivial
 ·unfold Zri;split<;>trivial
 ·split<;>trivial
 ·split
  ·exact Zid λ_=>trivial
  ·exact Zid λ_=>trivial
  ·trivial
 ·split<;>trivial
 ·split<;>trivial
 ·trivial
theorem Zkj {x:AV}:Zbs (Zl0 x):=by
 unfold Zl0;split<;>trivial
theorem Zly {op:UnOp} {x:AV}:Zbs (Zs5 op x):=by
 unfold Zs5;split<;>trivial
def Ztm (oj:Oper):Bool:=oj.guard.isNone && oj.dst.isSome && (match oj.op with
 | .move _ | .load _ _ | .fieldAddr _ _ _ | .binOp _ _ _ _ _ | .unOp _ _ _ | .nilCheck _ | .slice _ _ _ _ _=>true
 | _=>false)
def Zlz:Op→Bool
 | .load _ _=>false
 | .slice _ _ _ _ _=>false
 | _=>true
def blind (oj:Oper):Bool:=Ztm oj && Zlz oj.op
def cre (oj:Oper):Bool:=oj.guard.isNone && oj.dst.isSome && decide (oj.dst.getD 0 < 1000) && (match oj.op with
 | .alloc _ | .buildSlice _ _ _=>true
 | _=>false)
structure Cre (oj:Oper):Prop where
 guard:oj.guard=none
 lt:oj.dst.getD 0 < 1000
 dst:∃d,oj.dst=some d
 op:(∃t,oj.op=.alloc t)∨∃t n ps,oj.op=.buildSlice t n ps
theorem cre_spec {oj:Oper} (h:cre oj=true):Cre oj:=by
 unfold cre at h;simp only [Zy7,Zzi] at h;obtain⟨⟨⟨h1,h2⟩,h4⟩,h3⟩:=h;refine⟨Option.isNone_iff_eq_none.1 h1,h4,Option.isSome_iff_exists.1 h2,?_⟩;split at h3
 ·exact .inl ⟨_,by assumption⟩
 ·exact .inr ⟨_,_,_,by assumption⟩
 ·cases h3
theorem Cre.sto {oj:Oper} (h:Cre oj):Zao oj.op=false:=by
 rcases h.op with⟨t,e⟩ | ⟨t,n,ps,e⟩<;>rw [e]<;>rfl
theorem Cre.sel {oj:Oper} (h:Cre oj):∀cs b,oj.op≠.select cs b:=by
 intro cs b e0;rcases h.op with⟨t,e⟩ | ⟨t,n,ps,e⟩<;>rw [e] at e0<;>cases e0
def Zlt (tj:Nat):Res→Prop
 | .need _ r=>Zlt tj r
 | .app k _ ks=>k≠tj∧ks=[]
 | .bad=>True
 | _=>False
theorem Zls {r0:AV} {k:Nat} {ent:Ent}:∀(r:Res),Zb1 r0 r=some (.sto k ent)→False
 | .need _ r,h=>Zls r h
 | .val _ ks,h=>by cases ks<;>simp [Zb1] at h
 | .box _ _,h=>by simp [Zb1] at h
 | .row _ _ _ ks,h=>by
   cases ks with
   | nil =>
     simp only [Zb1,Option.some.injEq] at h;split at h<;>cases h
   | cons a b=>simp [Zb1] at h
 | .app _ _ _,h=>by simp [Zb1] at h
 | .appv _ _ _,h=>by simp [Zb1] at h
 | .sto _ _ _ _,h=>by simp [Zb1] at h
 | .mapn,h=>by simp [Zb1] at h
 | .call _ _,h=>by simp [Zb1] at h
 | .bad,h=>by simp [Zb1] at h
structure Quiet (oj:Oper):Prop where
 guard:oj.guard=none
 dst:∃d,oj.dst=some d
 op:(∃x,oj.op=.move x)∨(∃t x,oj.op=.load t x)∨(∃s x f,oj.op=.fieldAddr s x f)∨(∃b t x y u,oj.op=.binOp b t x y u)∨(∃b t x,oj.op=.unOp b t x)∨(∃x,oj.op=.nilCheck x)∨∃t x lo hi mx,oj.op=.slice t x lo hi mx
theorem Zg1 {oj:Oper} (h:Ztm oj=true):Quiet oj:=by
 unfold Ztm at h;simp only [Zy7] at h;obtain⟨⟨h1,h2⟩,h3⟩:=h;refine⟨Option.isNone_iff_eq_none.1 h1,Option.isSome_iff_exists.1 h2,?_⟩;split at h3
 ·exact .inl ⟨_,by assumption⟩
 ·exact .inr (.inl ⟨_,_,by assumption⟩)
 ·exact .inr (.inr (.inl ⟨_,_,_,by assumption⟩))
 ·exact .inr (.inr (.inr (.inl ⟨_,_,_,_,_,by assumption⟩)))
 ·exact .inr (.inr (.inr (.inr (.inl ⟨_,_,_,by assumption⟩))))
 ·exact .inr (.inr (.inr (.inr (.inr (.inl ⟨_,by assumption⟩)))))
 ·exact .inr (.inr (.inr (.inr (.inr (.inr ⟨_,_,_,_,_,by assumption⟩)))))
 ·cases h3
theorem Quiet.sto {oj:Oper} (h:Quiet oj):Zao oj.op=false:=by
 rcases h.op with⟨x,e⟩ | ⟨t,x,e⟩ | ⟨s,x,f,e⟩ | ⟨b,t,x,y,u,e⟩ | ⟨b,t,x,e⟩ | ⟨x,e⟩ | ⟨t,x,lo,hi,mx,e⟩<;>rw [e]<;>rfl
theorem Quiet.vc {oj:Oper} (h:Quiet oj):isVC oj.op=false:=by
 rcases h.op with⟨x,e⟩ | ⟨t,x,e⟩ | ⟨s,x,f,e⟩ | ⟨b,t,x,y,u,e⟩ | ⟨b,t,x,e⟩ | ⟨x,e⟩ | ⟨t,x,lo,hi,mx,e⟩<;>rw [e]<;>rfl
theorem Ztu {P:Program} {σ σ':Mem} {r0:AV} {op:Op} {r:Res} (h:isVC op=false):Zdo P σ r0 op r=Zdo P σ' r0 op r:=by
 unfold Zdo;rw [h];simp only [Zyy,false_and]
theorem Quiet.sel {oj:Oper} (h:Quiet oj):∀cs b,oj.op≠.select cs b:=by
 intro cs b e0;rcases h.op with⟨x,e⟩ | ⟨t,x,e⟩ | ⟨s,x,f,e⟩ | ⟨b,t,x,y,u,e⟩ | ⟨b,t,x,e⟩ | ⟨x,e⟩ | ⟨t,x,lo,hi,mx,e⟩<;>rw [e] at e0<;>cases e0
theorem lo_out {r0:AV} {K:Int→Res} {lo:Option AV} (h:∀l out,Zb1 r0 (K l)=some out→∃a,out=.val a) {out:Out} (ho:Zb1 r0 (Zed lo K)=some out):∃a,out=.val a:=by
 unfold Zed at ho;split at ho<;>first|exact h _ _ ho|cases ho
theorem Zxk {r0:AV} {K:Int→Res} {n:Nat} {hi:Option AV} (h:∀l out,Zb1 r0 (K l)=some out→∃a,out=.val a) {out:Out} (ho:Zb1 r0 (Zdk n hi K)=some out):∃a,out=.val a:=by
 unfold Zdk at ho;split at ho<;>first|exact h _ _ ho|cases ho
theorem Zm3 {r0 a:AV} {p:Prop} {ks:List Nat} {out:Out} (ho:Zb1 r0 (.need p (.val a ks))=some out):∃a,out=.val a:=by
 cases ks with
 | nil=>simp only [Zb1,Option.some.injEq] at ho;exact⟨_,ho.symm⟩
 | cons=>cases ho
theorem Zu4 {P:Program} {tok:Nat} {σs:Mem} {r0:AV} {st:St} {t:TypeId} {x:Operand} {lo hi mx:Option Operand} {out:Out} (ho:Zb1 r0 (opS P tok σs st (.slice t x lo hi mx))=some out):∃a,out=.val a:=by
 simp only [opS,Zag] at ho;unfold Zgz at ho
 repeat' split at ho
 all_goals first
  | exact Zm3 ho
  | exact lo_out (λ_ _ ho=>Zxk (λ_ _ ho=>Zm3 ho) ho) ho
  | exact lo_out (λ_ _ ho=>Zxk (λ_ _ ho=>Zxk (λ_ _ ho=>Zm3 ho) ho) ho) ho
  | cases ho
theorem Quiet.out {P:Program} {tok:Nat} {σs:Mem} {all:List Oper} {r0:AV} {oj:Oper} (h:Quiet oj) {st:St} {out:Out} (ho:dOut P tok σs all r0 oj st=some out):∃a,out=.val a:=by
 unfold dOut at ho;rw [h.guard] at ho;simp only [Zdx,h.sto,Zyy,Zy8] at ho;by_cases hsl:∃t x lo hi mx,oj.op=.slice t x lo hi mx
 ·obtain⟨t,x,lo,hi,mx,e⟩:=hsl;rw [e] at ho;exact Zu4 ho
 refine Zho _ ?_ out ho;rcases h.op with⟨x,e⟩ | ⟨t,x,e⟩ | ⟨s,x,f,e⟩ | ⟨b,t,x,y,u,e⟩ | ⟨b,t,x,e⟩ | ⟨x,e⟩ | ⟨t,x,lo,hi,mx,e⟩
 ·rw [e];exact trivial
 ·rw [e];exact Zgj
 ·rw [e];exact Zic
 ·rw [e];exact Zkk
 ·rw [e];exact Zly
 ·rw [e];exact Zkj
 ·exact absurd ⟨t,x,lo,hi,mx,e⟩ hsl
theorem Zl9 {P:Program} {tok:Nat} {σ σ':Mem} {all:List Oper} {rs:Nat→AV} {j:Nat} {oj:Oper} {K:St→Prop} {st:St} (hq:Quiet oj) (hb:Zlz oj.op=true):Zcn P tok σ all rs j oj K st=Zcn P tok σ' all rs j oj K st:=by
 have hop:opS P tok σ st oj.op=opS P tok σ' st oj.op:=by
  rcases hq.op with⟨x,e⟩ | ⟨t,x,e⟩ | ⟨s,x,f,e⟩ | ⟨b,t,x,y,u,e⟩ | ⟨b,t,x,e⟩ | ⟨x,e⟩ | ⟨t,x,lo,hi,mx,e⟩
  ·rw [e];rfl
  ·rw [e] at hb;cases hb
  ·rw [e];rfl
  ·rw [e];rfl
  ·rw [e];rfl
  ·rw [e];rfl
  ·rw [e] at hb;cases hb
 have hout:∀out,Zdx (rs j) oj.op (opS P tok σ' st oj.op)=some out→∃a,out=.val a:=by
  intro out ho;simp only [Zdx,hq.sto,Zyy,Zy8] at ho;refine Zho _ ?_ out ho;rcases hq.op with⟨x,e⟩ | ⟨t,x,e⟩ | ⟨s,x,f,e⟩ | ⟨b,t,x,y,u,e⟩ | ⟨b,t,x,e⟩ | ⟨x,e⟩ | ⟨t,x,lo,hi,mx,e⟩
  ·rw [e];exact trivial
  ·rw [e];exact Zgj
  ·rw [e];exact Zic
  ·rw [e];exact Zkk
  ·rw [e];exact Zly
  ·rw [e];exact Zkj
  ·rw [e] at hb;cases hb
 have hopt:optK σ (tok+oj.dst.getD 0) oj.dst (Zdx (rs j) oj.op (opS P tok σ' st oj.op)) K st=optK σ' (tok+oj.dst.getD 0) oj.dst (Zdx (rs j) oj.op (opS P tok σ' st oj.op)) K st:=by
  cases h:Zdx (rs j) oj.op (opS P tok σ' st oj.op) with
  | none=>rfl
  | some out =>
    obtain⟨a,rfl⟩:=hout out h;rfl
 unfold Zcn;rw [hq.guard];simp only [hop,hopt,Ztu (σ:=σ) (σ':=σ') hq.vc]
theorem Znd {P:Program} {tok:Nat} {σs:Mem} {dst:Option Nat} {K:St→Prop}:∀(r:Res) {st:St},Zb9 σs r→aRes P tok dst r K st→aRes P tok dst r (λst'=>K st'∧∀t,dst≠some t→st'.env t=st.env t) st
 | .need p r,st,hr,h=>⟨h.1,Znd r hr h.2⟩
 | .app k news ks,st,hr,h=>by
   unfold aRes at h ⊢;split at h
   ·refine λsv=>⟨h sv,λt ht=>?_⟩
    cases dst with
    | none=>rfl
    | some d=>exact Zcl _ _ (λe=>ht (by rw [e]))
   ·exact h.elim
 | .appv k n news,st,hr,h=>by
   unfold aRes at h ⊢;split at h
   ·refine λsv=>⟨h sv,λt ht=>?_⟩
    cases dst with
    | none=>rfl
    | some d=>exact Zcl _ _ (λe=>ht (by rw [e]))
   ·exact h.elim
 | .val _ _,_,hr,_=>hr.elim
 | .box _ _,_,hr,_=>hr.elim
 | .row _ _ _ _,_,hr,_=>hr.elim
 | .mapn,_,hr,_=>hr.elim
 | .sto _ _ _ _,st,hr,h=>⟨h,λt ht=>by
  cases dst with
  | none=>rfl
  | some d=>exact Zcl _ _ (λe=>ht (by rw [e]))⟩
 | .call _ _,_,hr,_=>hr.elim
 | .bad,_,hr,_=>hr.elim
theorem Zfu {P:Program} {tok:Nat} {σs:Mem} {dst:Option Nat} {K:St→Prop}:∀(r:Res) {st:St},Zb9 σs r→aRes P tok dst r K st→∃st1,K st1
 | .need p r,st,hr,h=>Zfu r hr h.2
 | .app k news ks,st,hr,h=>by
   unfold aRes at h;split at h
   ·exact⟨_,h undef⟩
   ·exact h.elim
 | .appv k n news,st,hr,h=>by
   unfold aRes at h;split at h
   ·exact⟨_,h undef⟩
   ·exact h.elim
 | .val _ _,_,hr,_=>hr.elim
 | .box _ _,_,hr,_=>hr.elim
 | .row _ _ _ _,_,hr,_=>hr.elim
 | .mapn,_,hr,_=>hr.elim
 | .sto _ _ _ _,st,hr,h=>⟨_,h⟩
 | .call _ _,_,hr,_=>hr.elim
 | .bad,_,hr,_=>hr.elim
theorem Zg2 {e:Nat→AV} {m:Mem} {dst:Option Nat} {dj:Nat} {a b:AV} (h:dst≠some dj):St.put (St.put ⟨e,m⟩ dst b) (some dj) a=St.put ⟨upd e dj a,m⟩ dst b:=by
 cases dst with
 | none=>rfl
 | some d =>
   show(⟨upd (upd e d b) dj a,m⟩:St)=⟨upd (upd e dj a) d b,m⟩;rw [Zgw _ _ _ (λe=>h (by rw [e]))]
theorem Zi2 {P:Program} {tok:Nat} {σs:Mem} {dst:Option Nat} {dj:Nat} {a:AV} {K K':St→Prop} (hne:dst≠some dj) {st:St} (hK:∀st1,(∀t,dst≠some t→st1.env t=st.env t)→K' st1→K (St.put st1 (some dj) a)):∀(r:Res),Zb9 σs r→aRes P tok dst r K' st→aRes P tok dst r K (St.put st (some dj) a)
 | .need p r,hr,h=>⟨h.1,Zi2 hne hK r hr h.2⟩
 | .app k news ks,hr,h=>by
   unfold aRes at h ⊢;have hmm:(St.put st (some dj) a).mem=st.mem:=rfl;rw [hmm];split at h
   ·intro sv;have:=hK _ (λt ht=>by
     cases dst with
     | none=>rfl
     | some d=>exact Zcl _ _ (λe=>ht (by rw [e]))) (h sv)
    rwa [Zg2 hne] at this
   ·exact h.elim
 | .appv k n news,hr,h=>by
   unfold aRes at h ⊢;have hmm:(St.put st (some dj) a).mem=st.mem:=rfl;rw [hmm];split at h
   ·intro sv;have:=hK _ (λt ht=>by
     cases dst with
     | none=>rfl
     | some d=>exact Zcl _ _ (λe=>ht (by rw [e]))) (h sv)
    rwa [Zg2 hne] at this
   ·exact h.elim
 | .val _ _,hr,_=>hr.elim
 | .box _ _,hr,_=>hr.elim
 | .row _ _ _ _,hr,_=>hr.elim
 | .mapn,hr,_=>hr.elim
 | .sto _ k ent ks,hr,h=>by
   unfold aRes at h ⊢;have hmm:(St.put st (some dj) a).mem=st.mem:=rfl;rw [hmm];have:=hK _ (λt ht=>by
    cases dst with
    | none=>rfl
    | some d=>exact Zcl _ _ (λe=>ht (by rw [e]))) h
   rwa [Zg2 hne] at this
 | .call _ _,hr,_=>hr.elim
 | .bad,hr,_=>hr.elim
theorem Zgs {σ:Mem} {tok:Nat} {e e':Nat→AV} {op:Op} (h:∀t,Operand.tmp t∈op.operands→e t=e' t):Zin tok e op=Zin tok e' op:=by
 cases op with
 | call cl =>
   obtain⟨callee,args,ts⟩:=cl;unfold Zin;split
   ·rename_i heq;cases heq;split
    ·rename_i d x hxs;have hm:∀y∈args.toList,y∈(Op.call ⟨.builtin .append,args,ts⟩).operands:=λy hy=>by
      simp only [Op.operands,Call.operands,Array.mem_append];exact .inr (by simpa using hy)
     rw [h d (hm _ (by rw [hxs];simp)),Zga (σ:=Zac) (e:=e) (e':=e') (x:=x) λt ht=>h t (by subst ht;exact hm _ (by rw [hxs];simp))]
    ·rfl
   ·rfl
 | _=>rfl
theorem Zui {P:Program} {tok tj:Nat} {e:Nat→AV} {m:Mem} {ent:Ent} {op:Op} (h:Zin tok e op=true) (hne:∀d,Operand.tmp d∈op.operands→tok+d≠tj) (htj:tj < tok+1000) :
 Zag P ⟨e,upd m tj (some ent)⟩ op=Zag P ⟨e,m⟩ op∧∀r,Zag P ⟨e,m⟩ op=r→Zlt tj r:=by
 cases op with
 | call cl =>
   obtain⟨callee,args,ts⟩:=cl;unfold Zin at h;split at h
   ·rename_i heq;cases heq;split at h
    ·rename_i d x hxs;have hop:∀y∈args.toList,y∈(Op.call ⟨.builtin .append,args,ts⟩).operands:=λy hy=>by
      simp only [Op.operands,Call.operands,Array.mem_append];exact .inr (by simpa using hy)
     have hd:tok+d≠tj:=hne d (hop _ (by rw [hxs];simp));simp only [Zy7] at h;obtain⟨h1,h2⟩:=h
     have hx:∀(mm:Nat) (R:List AV→Res),Zd1 (upd m tj (some ent)) mm (St.ev ⟨e,Zac⟩ x) R=Zd1 m mm (St.ev ⟨e,Zac⟩ x) R:=by
      intro mm R;split at h2
      ·rename_i hx;rw [hx];rfl
      ·rename_i v hx;rw [hx];cases v<;>try rfl
       rename_i A n c;cases A<;>try rfl
       cases n<;>try rfl
       cases c<;>rfl
      ·rename_i kx svx hx;split at h2
       ·rename_i dx;have hkx:kx=tok+dx:=by simpa using h2
        rw [hx];have hmx:upd m tj (some ent) kx=m kx:=Zcl _ _ (by rw [hkx];exact hne dx (hop _ (by rw [hxs];simp)));simp only [Zd1,hmx]
       ·cases h2
      ·cases h2
     have hR:∀(σ:Mem) (mm:Nat) (R:List AV→Res) (ra:Nat),(∀l,Zlt ra (R l))→Zlt ra (Zd1 σ mm (St.ev ⟨e,Zac⟩ x) R):=by
      intro σ mm R ra hr;unfold Zd1
      repeat' split
      all_goals first|exact hr _|trivial
     split at h1
     ·rename_i k sv hk
      have hk2:k≠tj:=by
       simp only [ZAc,ZAn,Zzi] at h1;rcases h1 with h1 | h1
       ·rw [h1];exact hd
       ·omega
      have hev:∀σ:Mem,St.ev ⟨e,σ⟩ x=St.ev ⟨e,Zac⟩ x:=λσ=>by cases x<;>rfl
      have hevd:∀σ:Mem,St.ev ⟨e,σ⟩ (.tmp d)=.own k sv:=λσ=>hk
      have key:∀σ:Mem,Zag P ⟨e,σ⟩ (.call ⟨.builtin .append,args,ts⟩)=match ts.toList with
       | [t,t']=>Zgr P ⟨e,σ⟩ t t' (.own k sv) (St.ev ⟨e,Zac⟩ x)
       | _=>.bad:=λσ=>by
       show Zco P ⟨e,σ⟩ ⟨.builtin .append,args,ts⟩=_;unfold Zco;simp only [hxs]
       cases ts.toList with
       | nil=>rfl
       | cons t r =>
         cases r with
         | nil=>rfl
         | cons t' r =>
           cases r with
           | nil=>show Zgr P ⟨e,σ⟩ t t' (St.ev ⟨e,σ⟩ (.tmp d)) (St.ev ⟨e,σ⟩ x)=_;rw [hev,hevd]
           | cons a b=>rfl
      rw [key,key];have hm:upd m tj (some ent) k=m k:=Zcl _ _ hk2;have happ:∀t t',Zgr P ⟨e,upd m tj (some ent)⟩ t t' (.own k sv) (St.ev ⟨e,Zac⟩ x)=Zgr P ⟨e,m⟩ t t' (.own k sv) (St.ev ⟨e,Zac⟩ x):=λt t'=>by
       revert hx
       generalize St.ev ⟨e,Zac⟩ x=y;intro hx;unfold Zgr;simp only [hm]
       cases y with
       | v u=>cases u<;>simp only [hx]
       | _=>simp only [hx]
      have hres:∀t t',Zlt tj (Zgr P ⟨e,m⟩ t t' (.own k sv) (St.ev ⟨e,Zac⟩ x)):=λt t'=>by
       revert hR
       generalize St.ev ⟨e,Zac⟩ x=y;intro hR;unfold Zgr;dsimp only
       repeat' split
       all_goals first|trivial|exact⟨hk2,rfl⟩|exact hR _ _ _ _ λl=>⟨hk2,rfl⟩
      refine⟨?_,λr hr=>?_⟩
      ·split
       ·exact happ _ _
       ·rfl
      ·subst hr;split
       ·exact hres _ _
       ·trivial
     ·cases h1
    ·cases h
   ·cases h
 | _=>cases h
theorem Zlc {P:Program} {tok:Nat} {dst:Option Nat} {dj tj:Nat} {a:AV} {ent:Ent} {K K':St→Prop} (hne:dst≠some dj) {st:St} (hK:∀st1,(∀t,dst≠some t→st1.env t=st.env t)→K' st1→K ⟨upd st1.env dj a,upd st1.mem tj (some ent)⟩):∀(r:Res),Zlt tj r→aRes P tok dst r K' st→aRes P tok dst r K ⟨upd st.env dj a,upd st.mem tj (some ent)⟩
 | .need p r,hr,h=>⟨h.1,Zlc hne hK r hr h.2⟩
 | .app k news ks,hr,h=>by
   obtain⟨hk,rfl⟩:=hr;unfold aRes at h ⊢;rw [show marks (upd st.mem tj (some ent)) [] k=st.mem k from Zcl _ _ hk];rw [show marks st.mem []=st.mem from rfl] at h;split at h
   ·rename_i sv0 e0 m0 es0 pub0 hm;simp only [hm];intro sv;have:=hK _ (λt ht=>by
     cases dst with
     | none=>rfl
     | some d=>exact Zcl _ _ (λe=>ht (by rw [e]))) (h sv)
    cases dst with
    | none =>
      show K ⟨upd st.env dj a,upd (upd st.mem tj (some ent)) k _⟩;rw [Zgw _ _ _ (ZAu hk)];exact this
    | some d =>
      show K ⟨upd (upd st.env dj a) d _,upd (upd st.mem tj (some ent)) k _⟩;rw [Zgw _ _ _ (ZAu hk),Zgw _ _ _ (λe=>hne (by rw [e]))];exact this
   ·exact h.elim
 | .appv _ _ _,hr,_=>hr.elim
 | .val _ _,hr,_=>hr.elim
 | .box _ _,hr,_=>hr.elim
 | .row _ _ _ _,hr,_=>hr.elim
 | .mapn,hr,_=>hr.elim
 | .sto _ _ _ _,hr,_=>hr.elim
 | .call _ _,hr,_=>hr.elim
 | .bad,_,h=>h.elim
theorem b_swap {P:Program} {tok:Nat} {cr:Bool} {σs σi:Mem} {all:List Oper} {rs:Nat→AV} {j:Nat} {oi oj:Oper} {st:St} {K:St→Prop} (hseli:∀cs b,oi.op≠.select cs b) (hq:Quiet oj) (hap:oi.apart all.toArray oj=true)
 (h:Zfo P tok σi all true cr oi (Zcn P tok σs all rs j oj K) st):Zcn P tok σs all rs j oj (Zfo P tok σi all true cr oi K) st:=by
 obtain⟨hf,hk⟩:=h;obtain⟨hg,hkp,hcr⟩:=hk rfl;obtain⟨h1,h2,h3⟩:=Oper.apart_spec hap;obtain⟨dj,hdj⟩:=hq.dst;have hnd:oi.dst≠some dj:=λe=>h2 dj e hdj
 have hf':aRes P (tok+oi.dst.getD 0) oi.dst (Zag P st oi.op) (Zcn P tok σs all rs j oj K) st:=by
  unfold Zf9 Za3 at hf;rw [hg] at hf;exact hf
 have cong:∀st1:St,(∀t,oi.dst≠some t→st1.env t=st.env t)→Zk5 P tok σs all (rs j) oj st1=Zk5 P tok σs all (rs j) oj st∧dOut P tok σs all (rs j) oj st1=dOut P tok σs all (rs j) oj st:=λst1 he =>
  Zk4 hq.sel (λt ht=>he t (λe=>h1 t e ht)) (λhs=>by rw [hq.sto] at hs;cases hs)
 obtain⟨st1,hk1,he1⟩:=Zfu _ hkp (Znd _ hkp hf');rw [Zcb] at hk1 ⊢;obtain⟨n1,out,e1,_,_⟩:=hk1;rw [(cong st1 he1).1] at n1;rw [(cong st1 he1).2] at e1;obtain⟨a,rfl⟩:=hq.out e1;refine⟨n1,_,e1,trivial,λ_=>?_⟩;rw [hdj];show Zfo P tok σi all true cr oi K (St.put st (some dj) a)
 have hr:Zag P (St.put st (some dj) a) oi.op=Zag P st oi.op:=by
  refine Ze4 (σ:=st.mem) (e:=upd st.env dj a) (e':=st.env) hseli λx hx t ht=>?_;subst ht;exact Zcl _ _ (λe=>h3 t (by rw [hdj,e]) (Zct hx))
 have hen:∀t,Operand.tmp t∈oi.op.operands→upd st.env dj a t=st.env t:=λt ht=>Zcl _ _ (λe=>h3 t (by rw [hdj,e]) (Zct ht));refine⟨?_,λ_=>⟨hg,by rw [hr];exact hkp,λhc=>(Zgs (σ:=Zac) hen).trans (hcr hc)⟩⟩;unfold Zf9 Za3;rw [hg];show aRes P (tok+oi.dst.getD 0) oi.dst (Zag P (St.put st (some dj) a) oi.op) K (St.put st (some dj) a);rw [hr];refine Zi2 hnd (λst2 he2 hd2=>?_) _ hkp hf';rw [Zcb] at hd2;obtain⟨_,out2,e2,_,k2⟩:=hd2;rw [(cong st2 he2).2,e1] at e2;cases e2;have:=k2 (0,undef);rw [hdj] at this;exact this
theorem b_swapC {P:Program} {tok:Nat} {σs:Mem} {all:List Oper} {rs:Nat→AV} {j:Nat} {oi oj:Oper} {st:St} {K:St→Prop} (hseli:∀cs b,oi.op≠.select cs b) (hq:Cre oj) (hap:oi.apart all.toArray oj=true)
 (h:Zfo P tok σs all true true oi (Zcn P tok σs all rs j oj K) st):Zcn P tok σs all rs j oj (Zfo P tok σs all true true oi K) st:=by
 obtain⟨hf,hk⟩:=h;obtain⟨hg,hkp,hcr⟩:=hk rfl;have hcr:=hcr rfl;obtain⟨h1,h2,h3⟩:=Oper.apart_spec hap;obtain⟨dj,hdj⟩:=hq.dst;have hnd:oi.dst≠some dj:=λe=>h2 dj e hdj
 have hf':aRes P (tok+oi.dst.getD 0) oi.dst (Zag P st oi.op) (Zcn P tok σs all rs j oj K) st:=by
  unfold Zf9 Za3 at hf;rw [hg] at hf;exact hf
 have cong:∀st1:St,(∀t,oi.dst≠some t→st1.env t=st.env t)→Zk5 P tok σs all (rs j) oj st1=Zk5 P tok σs all (rs j) oj st∧dOut P tok σs all (rs j) oj st1=dOut P tok σs all (rs j) oj st:=λst1 he =>
  Zk4 hq.sel (λt ht=>he t (λe=>h1 t e ht)) (λhs=>by rw [hq.sto] at hs;cases hs)
 obtain⟨st1,hk1,he1⟩:=Zfu _ hkp (Znd _ hkp hf');rw [Zcb] at hk1 ⊢;obtain⟨n1,out,e1,o1,_⟩:=hk1;rw [(cong st1 he1).1] at n1;rw [(cong st1 he1).2] at e1;have hop:∀t,Operand.tmp t∈oi.op.operands→t≠dj:=λt ht e=>h3 t (by rw [hdj,e]) (Zct ht);have hen:∀(a:AV) t,Operand.tmp t∈oi.op.operands→upd st.env dj a t=st.env t:=λa t ht=>Zcl _ _ (hop t ht);have hr0:∀(a:AV) (σ:Mem),Zag P ⟨upd st.env dj a,σ⟩ oi.op=Zag P ⟨st.env,σ⟩ oi.op:=λa σ=>by
  refine Ze4 (e:=upd st.env dj a) (e':=st.env) hseli λx hx t ht=>?_;subst ht;exact hen a t hx
 refine⟨n1,_,e1,o1,λx=>?_⟩;rw [hdj];have fin:∀(a:AV) (σ:Mem),Zag P ⟨st.env,σ⟩ oi.op=Zag P st oi.op→aRes P (tok+oi.dst.getD 0) oi.dst (Zag P st oi.op) K ⟨upd st.env dj a,σ⟩→Zfo P tok σs all true true oi K ⟨upd st.env dj a,σ⟩:=λa σ hσ hh=>by
  refine⟨?_,λ_=>⟨hg,by rw [hr0,hσ];exact hkp,λ_=>(Zgs (σ:=Zac) (hen a)).trans hcr⟩⟩;unfold Zf9 Za3;rw [hg];show aRes P (tok+oi.dst.getD 0) oi.dst (Zag P ⟨upd st.env dj a,σ⟩ oi.op) K _;rw [hr0,hσ];exact hh
 have new:∀(a:AV) (ent:Ent),(∀st2:St,(∀t,oi.dst≠some t→st2.env t=st.env t)→Zcn P tok σs all rs j oj K st2→K ⟨upd st2.env dj a,upd st2.mem (tok+dj) (some ent)⟩)→Zfo P tok σs all true true oi K ⟨upd st.env dj a,upd st.mem (tok+dj) (some ent)⟩:=λa ent hh=>by
  obtain⟨q1,q2⟩:=Zui (P:=P) (m:=st.mem) (ent:=ent) (tj:=tok+dj) hcr (λd hd e=>hop d hd (Nat.add_left_cancel e)) (by have h9:(some dj).getD 0 < 1000:=hdj ▸ hq.lt;exact Nat.add_lt_add_left h9 tok);exact fin a _ q1 (Zlc hnd hh _ (q2 _ rfl) hf')
 have step2:∀st2:St,(∀t,oi.dst≠some t→st2.env t=st.env t)→Zcn P tok σs all rs j oj K st2→K (Zhc (tok+dj) (some dj) st2 x out):=λst2 he2 hd2=>by
  rw [Zcb] at hd2;obtain⟨_,out2,e2,_,k2⟩:=hd2;rw [(cong st2 he2).2,e1] at e2;cases e2;have:=k2 x;rw [hdj] at this;exact this
 cases out with
 | val a=>exact fin a _ rfl (Zi2 hnd (λst2 he2 hd2=>step2 st2 he2 hd2) _ hkp hf')
 | box e cs=>exact new _ _ λst2 he2 hd2=>step2 st2 he2 hd2
 | row e m es=>exact new _ _ λst2 he2 hd2=>step2 st2 he2 hd2
 | sto k ent =>
   exfalso;unfold dOut at e1;rw [hq.guard] at e1;simp only [Zdx,hq.sto,Zyy,Zy8] at e1;exact Zls _ e1
theorem Zf1 {P:Program} {K K':St→Prop} (h:∀st,K st→K' st) (tok:Nat) (dst:Option Nat) (r:Res):∀(st:St),aRes P tok dst r K st→aRes P tok dst r K' st:=by
 induction r with
 | val a ks=>exact λst hr=>h _ hr
 | box e cs=>exact λst hr g=>h _ (hr g)
 | row e m es ks=>exact λst hr g=>h _ (hr g)
 | mapn=>exact λst hr g=>h _ (hr g)
 | app k news ks =>
   intro st hr;unfold aRes at hr ⊢;split at hr
   ·exact λg=>h _ (hr g)
   ·exact hr.elim
 | appv k n news =>
   intro st hr;unfold aRes at hr ⊢;split at hr
   ·exact λg=>h _ (hr g)
   ·exact hr.elim
 | sto a k ent ks=>exact λst hr=>h _ hr
 | call f args =>
   intro st hr;refine⟨hr.1,λc w imm vs h1 h2 h3=>(hr.2 c w imm vs h1 h2 h3).mono λe w' he=>?_⟩;obtain⟨r,σ',imm',x,h1,h2,h3⟩:=he;exact⟨r,σ',imm',x,h1,h _ h2,h3⟩
 | need p r ih=>exact λst hr=>⟨hr.1,ih st hr.2⟩
 | bad=>exact λst hr=>hr.elim
theorem Zjh {P:Program} {tok:Nat} {σs:Mem} {dst:Option Nat} {dj:Nat} {a:AV} {K:St→Prop} (hne:dst≠some dj) {st:St}:∀(r:Res),Zb9 σs r→aRes P tok dst r K (St.put st (some dj) a)→aRes P tok dst r (λst1=>(∀t,dst≠some t→st1.env t=st.env t)∧K (St.put st1 (some dj) a)) st
 | .need p r,hr,h=>⟨h.1,Zjh hne r hr h.2⟩
 | .app k news ks,hr,h=>by
   unfold aRes at h ⊢;have hmm:(St.put st (some dj) a).mem=st.mem:=rfl;rw [hmm] at h;split at h
   ·intro sv;refine⟨λt ht=>?_,?_⟩
    ·cases dst with
     | none=>rfl
     | some d=>exact Zcl _ _ (λe=>ht (by rw [e]))
    ·rw [Zg2 hne];exact h sv
   ·exact h.elim
 | .appv k n news,hr,h=>by
   unfold aRes at h ⊢;have hmm:(St.put st (some dj) a).mem=st.mem:=rfl;rw [hmm] at h;split at h
   ·intro sv;refine⟨λt ht=>?_,?_⟩
    ·cases dst with
     | none=>rfl
     | some d=>exact Zcl _ _ (λe=>ht (by rw [e]))
    ·rw [Zg2 hne];exact h sv
   ·exact h.elim
 | .sto _ k ent ks,hr,h=>by
   unfold aRes at h ⊢;have hmm:(St.put st (some dj) a).mem=st.mem:=rfl;rw [hmm] at h;refine⟨λt ht=>?_,?_⟩
   ·cases dst with
    | none=>rfl
    | some d=>exact Zcl _ _ (λe=>ht (by rw [e]))
   ·rw [Zg2 hne];exact h
 | .val _ _,hr,_=>hr.elim
 | .box _ _,hr,_=>hr.elim
 | .row _ _ _ _,hr,_=>hr.elim
 | .mapn,hr,_=>hr.elim
 | .call _ _,hr,_=>hr.elim
 | .bad,hr,_=>hr.elim
theorem b_back {P:Program} {tok:Nat} {cr:Bool} {σs σi:Mem} {all:List Oper} {rs:Nat→AV} {i:Nat} {oi oj:Oper} {st:St} {K:St→Prop} (hselj:∀cs b,oj.op≠.select cs b) (hq:Quiet oi) (hap:oj.apart all.toArray oi=true)
 (h:Zcn P tok σs all rs i oi (Zfo P tok σi all true cr oj K) st):Zfo P tok σi all true cr oj (Zcn P tok σs all rs i oi K) st:=by
 obtain⟨h1,h2,h3⟩:=Oper.apart_spec hap;obtain⟨di,hdi⟩:=hq.dst;have hnd:oj.dst≠some di:=λe=>h2 di e hdi;rw [Zcb] at h;obtain⟨n1,out,e1,_,hk⟩:=h;obtain⟨a,rfl⟩:=hq.out e1;have hk:=hk (0,undef);rw [hdi] at hk;have hk:Zfo P tok σi all true cr oj K (St.put st (some di) a):=hk;obtain⟨hf,hg⟩:=hk;obtain⟨hg,hkp,hcr⟩:=hg rfl
 have hr:Zag P (St.put st (some di) a) oj.op=Zag P st oj.op:=by
  refine Ze4 (σ:=st.mem) (e:=upd st.env di a) (e':=st.env) hselj λx hx t ht=>?_;subst ht;exact Zcl _ _ (λe=>h3 t (by rw [hdi,e]) (Zct hx))
 rw [hr] at hkp;have hen:∀t,Operand.tmp t∈oj.op.operands→st.env t=upd st.env di a t:=λt ht=>(Zcl _ _ (λe=>h3 t (by rw [hdi,e]) (Zct ht))).symm;refine⟨?_,λ_=>⟨hg,hkp,λhc=>(Zgs (σ:=Zac) hen).trans (hcr hc)⟩⟩
 have hf':aRes P (tok+oj.dst.getD 0) oj.dst (Zag P (St.put st (some di) a) oj.op) K (St.put st (some di) a):=by
  unfold Zf9 Za3 at hf;rw [hg] at hf;exact hf
 rw [hr] at hf';have hx:=Zjh hnd _ hkp hf';unfold Zf9 Za3;rw [hg];show aRes P (tok+oj.dst.getD 0) oj.dst (Zag P st oj.op) (Zcn P tok σs all rs i oi K) st;refine Zf1 (λst1 hh=>?_) _ _ _ _ hx;obtain⟨he,hK⟩:=hh;have cong:Zk5 P tok σs all (rs i) oi st1=Zk5 P tok σs all (rs i) oi st∧dOut P tok σs all (rs i) oi st1=dOut P tok σs all (rs i) oi st :=
  Zk4 hq.sel (λt ht=>he t (λe=>h1 t e ht)) (λhs=>by rw [hq.sto] at hs;cases hs)
 rw [Zcb];refine⟨by rw [cong.1];exact n1,.val a,by rw [cong.2];exact e1,trivial,λ_=>?_⟩;rw [hdi];exact hK
def Zlh (ops:Array Oper):Nat→Nat→Nat→Bool
 | 0,_,_=>false
 | f+1,i,j=>match ops[j]? with
   | some o=>o.after.any λe=>Region.binds .any e && (e.on == i || (decide (i < e.on) && Zlh ops f i e.on))
   | none=>false
def Closed (ops:Array Oper) (listed:Array Bool):Prop:=∀j o,ops[j]?=some o→listed.getD j false=true→∀e∈o.after,Region.binds .any e=true→listed.getD e.on false=true
theorem Zfd {ops:Array Oper} {listed:Array Bool} (hc:Closed ops listed) {i:Nat}:∀(f j:Nat) (o:Oper),ops[j]?=some o→(∀e∈o.after,Region.binds .any e=true→listed.getD e.on false=true)→Zlh ops f i j=true→listed.getD i false=true
 | 0,_,_,_,_,h=>by simp [Zlh] at h
 | f+1,j,o,ho,hall,h=>by
   simp only [Zlh,ho] at h;obtain⟨e,he,hb⟩:=Array.any_eq_true'.1 h;simp only [Zy7,ZAc,ZAn] at hb;obtain⟨hb,h1 | ⟨_,h1⟩⟩:=hb
   ·rw [←h1];exact hall e he hb
   ·have hl:=hall e he hb
    cases hx:ops[e.on]? with
    | none =>
      cases f with
      | zero=>simp [Zlh] at h1
      | succ f=>simp [Zlh,hx] at h1
    | some o'=>exact Zfd hc f e.on o' hx (hc e.on o' hx hl) h1
theorem Closed.set {ops:Array Oper} {listed:Array Bool} (hc:Closed ops listed) {i:Nat} (hr:i∈Region.ready .any ops listed):Closed ops (listed.setIfInBounds i true):=by
 intro j o ho hj e he hb;by_cases hij:j=i
 ·subst hij;obtain⟨_,o',ho',hall⟩:=mem_ready.1 hr;rw [ho] at ho';cases ho';exact getD_set_true (hall e he hb)
 ·rw [ZBo false (ZAu hij)] at hj;exact getD_set_true (hc j o ho hj e he hb)
def Zuz (ops:Array Oper) (bar:List Nat) (listed:Array Bool) (i:Nat):Bool :=
 match ops[i]? with
 | none=>false
 | some oi=>(match oi.op with | .select ..=>false | _=>true) && (Region.ready .any ops listed).contains i && (bar.contains i || oi.dst.isSome || Zao oi.op) &&
   (List.range ops.size).all λj=>j == i || listed.getD j true || Zlh ops ops.size i j || match ops[j]? with
    | some oj=>!bar.contains i && !bar.contains j && (oj.dst.isSome || Zao oj.op) && !(Zao oi.op && Zao oj.op) && (match oj.op with | .select ..=>false | _=>true) && oi.apart ops oj || (bar.contains i && bar.contains (i+1000) && !bar.contains j && Ztm oj && oi.apart ops oj) || (bar.contains i && bar.contains (i+1000) && bar.contains (i+3000) && !bar.contains j && cre oj && oi.apart ops oj) || (bar.contains i && bar.contains (i+2000) && !bar.contains (i+1000) && !bar.contains j && blind oj && oi.apart ops oj) || (!bar.contains i && bar.contains j && bar.contains (j+2000) && !bar.contains (j+1000) && blind oi && (match oj.op with | .select ..=>false | _=>true) && oj.apart ops oi) || (!bar.contains i && bar.contains j && bar.contains (j+1000) && Ztm oi && (match oj.op with | .select ..=>false | _=>true) && oj.apart ops oi)
    | none=>true
theorem Zln {P:Program} {tok:Nat} {σs:Mem} {all:List Oper} {rs:Nat→AV} {bar:List Nat} {i:Nat} {st:St} {K K':St→Prop} (h:∀st,K st→K' st) (hx:Zd6 P tok σs all rs bar i K st):Zd6 P tok σs all rs bar i K' st:=by
 have amono:∀(tok:Nat) (dst:Option Nat) (r:Res) (st:St),aRes P tok dst r K st→aRes P tok dst r K' st:=by
  intro tok dst r
  induction r with
  | val a ks=>exact λst hr=>h _ hr
  | box e cs=>exact λst hr g=>h _ (hr g)
  | row e m es ks=>exact λst hr g=>h _ (hr g)
  | mapn=>exact λst hr g=>h _ (hr g)
  | app k news ks =>
    intro st hr;simp only [aRes] at hr ⊢;split at hr
    ·exact λsv=>h _ (hr sv)
    ·exact hr.elim
  | appv k n news =>
    intro st hr;simp only [aRes] at hr ⊢;split at hr
    ·exact λsv=>h _ (hr sv)
    ·exact hr.elim
  | sto a k ent ks=>exact λst hr=>h _ hr
  | call f args =>
    intro st hr;refine⟨hr.1,λc w imm vs hm hl hrr=>(hr.2 c w imm vs hm hl hrr).mono λe w' he=>?_⟩;obtain⟨r,σ',imm',x,h1,h2,h3⟩:=he;exact⟨r,σ',imm',x,h1,h _ h2,h3⟩
  | need p r ih=>exact λst hr=>⟨hr.1,ih st hr.2⟩
  | bad=>exact λst hr=>hr.elim
 unfold Zd6 at hx ⊢;split at hx
 ·rename_i o ho;by_cases hb:bar.contains i=true
  ·rw [Zyk hb] at hx ⊢;obtain⟨hx,hkeep⟩:=hx;refine⟨?_,hkeep⟩;unfold Zf9 Za3 at hx ⊢;split at hx
   ·exact amono _ _ _ _ hx
   ·refine⟨hx.1,?_⟩;have hx2:=hx.2;split at hx2
    ·rename_i hs;rw [Zyk hs];exact amono _ _ _ _ hx2
    ·rename_i hs;rw [Zyj hs];exact h _ hx2
  ·rw [Zyj hb] at hx ⊢;exact Zdf h hx
 ·exact h _ hx
theorem Zf0 {P:Program} {tok:Nat} {σs:Mem} {all:List Oper} {semi cr:Bool} {o:Oper} {st:St} {K K':St→Prop} (h:∀st,K st→K' st) (hd:Zfo P tok σs all semi cr o K st):Zfo P tok σs all semi cr o K' st:=by
 refine⟨?_,hd.2⟩;have hx:=hd.1;unfold Zf9 Za3 at hx ⊢;split at hx
 ·exact Zf1 h _ _ _ _ hx
 ·refine⟨hx.1,?_⟩;have hx2:=hx.2;split at hx2
  ·rename_i hs;rw [Zyk hs];exact Zf1 h _ _ _ _ hx2
  ·rename_i hs;rw [Zyj hs];exact h _ hx2
structure TakeOk (ops:Array Oper) (bar:List Nat) (listed:Array Bool) (i:Nat) (oi:Oper):Prop where
 sel:∀cs b,oi.op≠.select cs b
 ready:i∈Region.ready .any ops listed
 other:∀j oj,ops[j]?=some oj→j≠i→listed.getD j true=false→Zlh ops ops.size i j=true ∨
  (bar.contains i=false∧bar.contains j=false∧(oi.dst.isSome=true∨Zao oi.op=true)∧(oj.dst.isSome=true∨Zao oj.op=true)∧¬(Zao oi.op=true∧Zao oj.op=true)∧(∀cs b,oj.op≠.select cs b)∧oi.apart ops oj=true) ∨
  (bar.contains i=true∧bar.contains (i+1000)=true∧bar.contains j=false∧Quiet oj∧oi.apart ops oj=true) ∨
  (bar.contains i=true∧bar.contains (i+1000)=true∧bar.contains (i+3000)=true∧bar.contains j=false∧Cre oj∧oi.apart ops oj=true) ∨
  (bar.contains i=true∧bar.contains (i+2000)=true∧bar.contains (i+1000)=false∧bar.contains j=false∧Quiet oj∧Zlz oj.op=true∧oi.apart ops oj=true) ∨
  (bar.contains i=false∧bar.contains j=true∧bar.contains (j+2000)=true∧bar.contains (j+1000)=false∧Quiet oi∧Zlz oi.op=true∧(∀cs b,oj.op≠.select cs b)∧oj.apart ops oi=true) ∨
  (bar.contains i=false∧bar.contains j=true∧bar.contains (j+1000)=true∧Quiet oi∧(∀cs b,oj.op≠.select cs b)∧oj.apart ops oi=true)
theorem Zpp {ops:Array Oper} {bar:List Nat} {listed:Array Bool} {i:Nat} (h:Zuz ops bar listed i=true):∃oi,ops[i]?=some oi∧TakeOk ops bar listed i oi:=by
 unfold Zuz at h;split at h
 ·cases h
 ·rename_i oi hoi;simp only [Zy7] at h;obtain⟨⟨⟨h1,h2⟩,h3⟩,h4⟩:=h;refine⟨oi,hoi,⟨λcs b e=>(by rw [e] at h1;cases h1),by simpa using h2,λj oj hj hji hun=>?_⟩⟩;have hjr:j∈List.range ops.size:=List.mem_range.2 (Array.getElem?_eq_some_iff.1 hj).1;have h5:=List.all_eq_true.1 h4 j hjr;simp only [hj,ZAc,ZAn,hji,hun,Zyy,false_or] at h5;rcases h5 with h5 | h5
  ·exact .inl h5
  rw [or_assoc,or_assoc,or_assoc,or_assoc] at h5;rcases h5 with h5 | h5
  ·simp only [Zy7,ZAs,ZAc] at h5;obtain⟨⟨⟨⟨⟨h6,h7⟩,h8⟩,h8'⟩,h9⟩,h10⟩:=h5;refine .inr (.inl ⟨h6,h7,?_,h8,λhh=>(by rw [hh.1,hh.2] at h8';cases h8'),λcs b e=>(by rw [e] at h9;cases h9),h10⟩);simp only [ZAc] at h3;rcases h3 with(h3 | h3) | h3
   ·rw [h6] at h3;cases h3
   ·exact .inl h3
   ·exact .inr h3
  rcases h5 with h5 | h5
  ·simp only [Zy7,ZAs] at h5;obtain⟨⟨⟨⟨h6,h7⟩,h8⟩,h9⟩,h10⟩:=h5;exact .inr (.inr (.inl ⟨h6,h7,h8,Zg1 h9,h10⟩))
  rcases h5 with h5 | h5
  ·simp only [Zy7,ZAs] at h5;obtain⟨⟨⟨⟨⟨h6,h7⟩,h7'⟩,h8⟩,h9⟩,h10⟩:=h5;exact .inr (.inr (.inr (.inl ⟨h6,h7,h7',h8,cre_spec h9,h10⟩)))
  rcases h5 with h5 | h5
  ·simp only [Zy7,ZAs] at h5;obtain⟨⟨⟨⟨⟨h6,h7⟩,h7'⟩,h8⟩,h9⟩,h10⟩:=h5;unfold blind at h9;simp only [Zy7] at h9;exact .inr (.inr (.inr (.inr (.inl ⟨h6,h7,h7',h8,Zg1 h9.1,h9.2,h10⟩))))
  rcases h5 with h5 | h5
  ·simp only [Zy7,ZAs] at h5;obtain⟨⟨⟨⟨⟨⟨h6,h7⟩,h7'⟩,h8⟩,h9⟩,h9'⟩,h10⟩:=h5;unfold blind at h9;simp only [Zy7] at h9;exact .inr (.inr (.inr (.inr (.inr (.inl ⟨h6,h7,h7',h8,Zg1 h9.1,h9.2,λcs b e=>(by rw [e] at h9';cases h9'),h10⟩)))))
  ·simp only [Zy7,ZAs] at h5;obtain⟨⟨⟨⟨⟨h6,h7⟩,h7'⟩,h9⟩,h9'⟩,h10⟩:=h5;exact .inr (.inr (.inr (.inr (.inr (.inr ⟨h6,h7,h7',Zg1 h9,λcs b e=>(by rw [e] at h9';cases h9'),h10⟩)))))
theorem Zs8 {P:Program} {tok:Nat} {all:List Oper} {rs:Nat→AV} {bar:List Nat} {K:St→Prop} {i:Nat} {oi:Oper} (hoi:all.toArray[i]?=some oi):∀(f:Nat) (σs:Mem) (listed:Array Bool) (st:St),Closed all.toArray listed→TakeOk all.toArray bar listed i oi →
 Zd6 P tok σs all rs bar i (aAny P tok all rs bar (Zbz bar i σs) f (listed.setIfInBounds i true) K) st→aAny P tok all rs bar σs (f+1) listed K st:=by
 intro f;have hoi':all[i]?=some oi:=by simpa using hoi
 have pair:∀(listed:Array Bool),Closed all.toArray listed→TakeOk all.toArray bar listed i oi→∀j,j∈Region.ready .any all.toArray listed→j≠i→∃oj,all[j]?=some oj ∧
  ((bar.contains i=false∧bar.contains j=false∧(oi.dst.isSome=true∨Zao oi.op=true)∧(oj.dst.isSome=true∨Zao oj.op=true)∧¬(Zao oi.op=true∧Zao oj.op=true)∧(∀cs b,oj.op≠.select cs b)∧oi.apart all.toArray oj=true) ∨
  (bar.contains i=true∧bar.contains (i+1000)=true∧bar.contains j=false∧Quiet oj∧oi.apart all.toArray oj=true) ∨
  (bar.contains i=true∧bar.contains (i+1000)=true∧bar.contains (i+3000)=true∧bar.contains j=false∧Cre oj∧oi.apart all.toArray oj=true) ∨
  (bar.contains i=true∧bar.contains (i+2000)=true∧bar.contains (i+1000)=false∧bar.contains j=false∧Quiet oj∧Zlz oj.op=true∧oi.apart all.toArray oj=true) ∨
  (bar.contains i=false∧bar.contains j=true∧bar.contains (j+2000)=true∧bar.contains (j+1000)=false∧Quiet oi∧Zlz oi.op=true∧(∀cs b,oj.op≠.select cs b)∧oj.apart all.toArray oi=true) ∨
  (bar.contains i=false∧bar.contains j=true∧bar.contains (j+1000)=true∧Quiet oi∧(∀cs b,oj.op≠.select cs b)∧oj.apart all.toArray oi=true)):=by
  intro listed hc ht j hj hji;obtain⟨hun,oj,hoj,hall⟩:=mem_ready.1 hj;refine⟨oj,by simpa using hoj,?_⟩;rcases ht.other j oj hoj hji hun with h1 | h1
  ·exfalso;have h2:=Zfd hc _ j oj hoj hall h1;have h3:=(mem_ready.1 ht.ready).1;rcases Zy5 i listed.size with h' | h'
   ·simp [h'] at h3 h2;rw [h3] at h2;cases h2
   ·simp [ZB1 h'] at h2
  ·exact h1
 have calm:∀(σs:Mem) (k:Nat) (ok:Oper),all[k]?=some ok→bar.contains k=false→∀(K:St→Prop) (st:St),Zd6 P tok σs all rs bar k K st=Zcn P tok σs all rs k ok K st:=by
  intro σs k ok hk hb K st;unfold Zd6;rw [hk];exact Zyj (by rw [hb];simp)
 have semi:∀(σs:Mem) (k:Nat) (ok:Oper),all[k]?=some ok→bar.contains k=true→(bar.contains (k+1000) || bar.contains (k+2000))=true→∀(K:St→Prop) (st:St),Zd6 P tok σs all rs bar k K st=Zfo P tok (if bar.contains (k+1000) then σs else Zac) all true (bar.contains (k+3000)) ok K st:=by
  intro σs k ok hk hb hb' K st;unfold Zd6;rw [hk];refine(Zyk hb).trans ?_;rw [hb']
 induction f with
 | zero =>
   intro σs listed st hc ht h;refine⟨λh0=>(by have:=ht.ready;rw [h0] at this;cases this),λj hj=>?_⟩;by_cases hji:j=i
   ·subst hji;exact h
   ·exfalso;obtain⟨oj,hoj,⟨h1,h2,h3,h4,h45,h5,h6⟩ | ⟨h1,h1',h2,h3,h4⟩ | ⟨h1,h1',h1c,h2,h3,h4⟩ | ⟨h1,h1',h1'',h2,h3,h3',h4⟩ | ⟨h1,h2,h2',h2'',h3,h3',h3'',h4⟩ | ⟨h1,h2,h2',h3,h3'',h4⟩⟩:=pair listed hc ht j hj hji
    ·rw [calm _ i oi hoi' h1,Zcb] at h;obtain⟨_,out,_,_,hk⟩:=h;have:=ZAo hj hji;rw [(hk (0,undef)).1] at this;cases this
    ·rw [semi _ i oi hoi' h1 (by rw [h1'];rfl)] at h;obtain⟨hf,hk⟩:=h;obtain⟨hg,hkp,-⟩:=hk rfl
     have hf':aRes P (tok+oi.dst.getD 0) oi.dst (Zag P st oi.op) (aAny P tok all rs bar (Zbz bar i σs) 0 (listed.setIfInBounds i true) K) st:=by
      unfold Zf9 Za3 at hf;rw [hg] at hf;exact hf
     obtain⟨st1,hk1⟩:=Zfu _ hkp hf';have:=ZAo hj hji;rw [hk1.1] at this;cases this
    ·rw [semi _ i oi hoi' h1 (by rw [h1'];rfl)] at h;obtain⟨hf,hk⟩:=h;obtain⟨hg,hkp,-⟩:=hk rfl
     have hf':aRes P (tok+oi.dst.getD 0) oi.dst (Zag P st oi.op) (aAny P tok all rs bar (Zbz bar i σs) 0 (listed.setIfInBounds i true) K) st:=by
      unfold Zf9 Za3 at hf;rw [hg] at hf;exact hf
     obtain⟨st1,hk1⟩:=Zfu _ hkp hf';have:=ZAo hj hji;rw [hk1.1] at this;cases this
    ·rw [semi _ i oi hoi' h1 (by rw [h1',h1''];rfl)] at h;obtain⟨hf,hk⟩:=h;obtain⟨hg,hkp,-⟩:=hk rfl
     have hf':aRes P (tok+oi.dst.getD 0) oi.dst (Zag P st oi.op) (aAny P tok all rs bar (Zbz bar i σs) 0 (listed.setIfInBounds i true) K) st:=by
      unfold Zf9 Za3 at hf;rw [hg] at hf;exact hf
     obtain⟨st1,hk1⟩:=Zfu _ hkp hf';have:=ZAo hj hji;rw [hk1.1] at this;cases this
    ·rw [calm _ i oi hoi' h1,Zcb] at h;obtain⟨_,out,_,_,hk⟩:=h;have:=ZAo hj hji;rw [(hk (0,undef)).1] at this;cases this
    ·rw [calm _ i oi hoi' h1,Zcb] at h;obtain⟨_,out,_,_,hk⟩:=h;have:=ZAo hj hji;rw [(hk (0,undef)).1] at this;cases this
 | succ f ih =>
   intro σs listed st hc ht h;refine⟨λh0=>(by have:=ht.ready;rw [h0] at this;cases this),λj hj=>?_⟩;by_cases hji:j=i
   ·subst hji;exact h
   ·obtain⟨oj,hoj,⟨h1,h2,h3,h4,h45,h5,h6⟩ | ⟨h1,h1',h2,h3,h4⟩ | ⟨h1,h1',h1c,h2,h3,h4⟩ | ⟨h1,h1',h1'',h2,h3,h3',h4⟩ | ⟨h1,h2,h2',h2'',h3,h3',h3'',h4⟩ | ⟨h1,h2,h2',h3,h3'',h4⟩⟩:=pair listed hc ht j hj hji
    ·have n1:Zbz bar i σs=σs:=Zyj (by rw [h1];simp);have n2:Zbz bar j σs=σs:=Zyj (by rw [h2];simp);rw [calm _ i oi hoi' h1,n1] at h
     have hstep:Zcn P tok σs all rs i oi (Zcn P tok σs all rs j oj (aAny P tok all rs bar σs f ((listed.setIfInBounds i true).setIfInBounds j true) K)) st:=by
      refine Zdf (λst1 hh=>?_) h;have:=hh.2 j (ZAo hj hji)
      rwa [calm _ j oj hoj h2,n2] at this
     have hsw:=Zua h3 h4 h45 ht.sel h5 h6 hstep;rw [calm _ j oj hoj h2,n2];refine Zdf (λst2 hh=>?_) hsw
     have ht':TakeOk all.toArray bar (listed.setIfInBounds j true) i oi:=by
      refine⟨ht.sel,ZAo ht.ready (ZAu hji),λk ok hk hki hun=>?_⟩;refine ht.other k ok hk hki ?_;by_cases hjk:j=k
      ·subst hjk;exact(mem_ready.1 hj).1
      ·rwa [ZBo true hjk] at hun
     refine ih _ (listed.setIfInBounds j true) st2 (hc.set hj) ht' ?_;rw [calm _ i oi hoi' h1,n1,ZCq _ _ hji];exact hh
    ·have n1:Zbz bar i σs=σs:=by unfold Zbz;rw [Zyk h1,Zyk h1']
     have n2:Zbz bar j σs=σs:=Zyj (by rw [h2];simp);rw [semi _ i oi hoi' h1 (by rw [h1'];rfl),n1] at h
     have hstep:Zfo P tok (if bar.contains (i+1000) then σs else Zac) all true (bar.contains (i+3000)) oi (Zcn P tok σs all rs j oj (aAny P tok all rs bar σs f ((listed.setIfInBounds i true).setIfInBounds j true) K)) st:=by
      refine Zf0 (λst1 hh=>?_) h;have:=hh.2 j (ZAo hj hji)
      rwa [calm _ j oj hoj h2,n2] at this
     have hsw:=b_swap ht.sel h3 h4 hstep;rw [calm _ j oj hoj h2,n2];refine Zdf (λst2 hh=>?_) hsw
     have ht':TakeOk all.toArray bar (listed.setIfInBounds j true) i oi:=by
      refine⟨ht.sel,ZAo ht.ready (ZAu hji),λk ok hk hki hun=>?_⟩;refine ht.other k ok hk hki ?_;by_cases hjk:j=k
      ·subst hjk;exact(mem_ready.1 hj).1
      ·rwa [ZBo true hjk] at hun
     refine ih _ (listed.setIfInBounds j true) st2 (hc.set hj) ht' ?_;rw [semi _ i oi hoi' h1 (by rw [h1'];rfl),n1,ZCq _ _ hji];exact hh
    ·have n1:Zbz bar i σs=σs:=by unfold Zbz;rw [Zyk h1,Zyk h1']
     have n2:Zbz bar j σs=σs:=Zyj (by rw [h2];simp);rw [semi _ i oi hoi' h1 (by rw [h1'];rfl),n1] at h
     have hstep:Zfo P tok (if bar.contains (i+1000) then σs else Zac) all true (bar.contains (i+3000)) oi (Zcn P tok σs all rs j oj (aAny P tok all rs bar σs f ((listed.setIfInBounds i true).setIfInBounds j true) K)) st:=by
      refine Zf0 (λst1 hh=>?_) h;have:=hh.2 j (ZAo hj hji)
      rwa [calm _ j oj hoj h2,n2] at this
     rw [Zyk h1',h1c] at hstep;have hsw:=b_swapC ht.sel h3 h4 hstep;rw [calm _ j oj hoj h2,n2];refine Zdf (λst2 hh=>?_) hsw
     have ht':TakeOk all.toArray bar (listed.setIfInBounds j true) i oi:=by
      refine⟨ht.sel,ZAo ht.ready (ZAu hji),λk ok hk hki hun=>?_⟩;refine ht.other k ok hk hki ?_;by_cases hjk:j=k
      ·subst hjk;exact(mem_ready.1 hj).1
      ·rwa [ZBo true hjk] at hun
     refine ih _ (listed.setIfInBounds j true) st2 (hc.set hj) ht' ?_;rw [semi _ i oi hoi' h1 (by rw [h1'];rfl),n1,ZCq _ _ hji,Zyk h1',h1c];exact hh
    ·have n1:Zbz bar i σs=Zac:=by unfold Zbz;rw [Zyk h1,Zyj (by rw [h1''];simp)]
     have n2:Zbz bar j Zac=Zac:=Zyj (by rw [h2];simp);have n3:Zbz bar j σs=σs:=Zyj (by rw [h2];simp);rw [semi _ i oi hoi' h1 (by rw [h1',h1''];rfl),n1] at h
     have hstep:Zfo P tok (if bar.contains (i+1000) then σs else Zac) all true (bar.contains (i+3000)) oi (Zcn P tok σs all rs j oj (aAny P tok all rs bar Zac f ((listed.setIfInBounds i true).setIfInBounds j true) K)) st:=by
      refine Zf0 (λst1 hh=>?_) h;have:=hh.2 j (ZAo hj hji);unfold Zd6 at this;rw [hoj] at this;simp only [h2,Zyy,Zy8,n2] at this
      rwa [Zl9 (σ':=σs) h3 h3'] at this
     have hsw:=b_swap ht.sel h3 h4 hstep;rw [calm _ j oj hoj h2,n3];refine Zdf (λst2 hh=>?_) hsw
     have ht':TakeOk all.toArray bar (listed.setIfInBounds j true) i oi:=by
      refine⟨ht.sel,ZAo ht.ready (ZAu hji),λk ok hk hki hun=>?_⟩;refine ht.other k ok hk hki ?_;by_cases hjk:j=k
      ·subst hjk;exact(mem_ready.1 hj).1
      ·rwa [ZBo true hjk] at hun
     refine ih _ (listed.setIfInBounds j true) st2 (hc.set hj) ht' ?_;rw [semi _ i oi hoi' h1 (by rw [h1',h1''];rfl),n1,ZCq _ _ hji];exact hh
    ·have n1:Zbz bar i σs=σs:=Zyj (by rw [h1];simp);have n2:∀σ,Zbz bar j σ=Zac:=λσ=>by unfold Zbz;rw [Zyk h2,Zyj (by rw [h2''];simp)]
     have n3:Zbz bar i Zac=Zac:=Zyj (by rw [h1];simp);have sj:∀(K:St→Prop) (st:St),Zd6 P tok σs all rs bar j K st=Zfo P tok Zac all true (bar.contains (j+3000)) oj K st:=λK st=>by
      rw [semi _ j oj hoj h2 (by rw [h2',h2''];rfl),Zyj (by rw [h2''];simp)]
     rw [calm _ i oi hoi' h1,n1] at h
     have hstep:Zcn P tok σs all rs i oi (Zfo P tok Zac all true (bar.contains (j+3000)) oj (aAny P tok all rs bar Zac f ((listed.setIfInBounds i true).setIfInBounds j true) K)) st:=by
      refine Zdf (λst1 hh=>?_) h;have:=hh.2 j (ZAo hj hji)
      rwa [sj,n2] at this
     have hsw:=b_back h3'' h3 h4 hstep;rw [sj,n2];refine Zf0 (λst2 hh=>?_) hsw
     have ht':TakeOk all.toArray bar (listed.setIfInBounds j true) i oi:=by
      refine⟨ht.sel,ZAo ht.ready (ZAu hji),λk ok hk hki hun=>?_⟩;refine ht.other k ok hk hki ?_;by_cases hjk:j=k
      ·subst hjk;exact(mem_ready.1 hj).1
      ·rwa [ZBo true hjk] at hun
     refine ih _ (listed.setIfInBounds j true) st2 (hc.set hj) ht' ?_;rw [calm _ i oi hoi' h1,n3,ZCq _ _ hji,Zl9 (σ':=σs) h3 h3'];exact hh
    ·have n1:Zbz bar i σs=σs:=Zyj (by rw [h1];simp);have n2:Zbz bar j σs=σs:=by unfold Zbz;rw [Zyk h2,Zyk h2']
     have sj:∀(K:St→Prop) (st:St),Zd6 P tok σs all rs bar j K st=Zfo P tok σs all true (bar.contains (j+3000)) oj K st:=λK st=>by
      rw [semi _ j oj hoj h2 (by rw [h2'];rfl),Zyk h2']
     rw [calm _ i oi hoi' h1,n1] at h
     have hstep:Zcn P tok σs all rs i oi (Zfo P tok σs all true (bar.contains (j+3000)) oj (aAny P tok all rs bar σs f ((listed.setIfInBounds i true).setIfInBounds j true) K)) st:=by
      refine Zdf (λst1 hh=>?_) h;have:=hh.2 j (ZAo hj hji)
      rwa [sj,n2] at this
     have hsw:=b_back h3'' h3 h4 hstep;rw [sj,n2];refine Zf0 (λst2 hh=>?_) hsw
     have ht':TakeOk all.toArray bar (listed.setIfInBounds j true) i oi:=by
      refine⟨ht.sel,ZAo ht.ready (ZAu hji),λk ok hk hki hun=>?_⟩;refine ht.other k ok hk hki ?_;by_cases hjk:j=k
      ·subst hjk;exact(mem_ready.1 hj).1
      ·rwa [ZBo true hjk] at hun
     refine ih _ (listed.setIfInBounds j true) st2 (hc.set hj) ht' ?_;rw [calm _ i oi hoi' h1,n1,ZCq _ _ hji];exact hh
def Zna (ops:Array Oper) (bar:List Nat):Nat→Nat→Array Bool→Bool
 | 0,_,listed=>(Region.ready .any ops listed).isEmpty
 | f+1,k,listed=>Zuz ops bar listed k && Zna ops bar f (k+1) (listed.setIfInBounds k true)
def Zbh (P:Program) (tok:Nat) (all:List Oper) (rs:Nat→AV) (bar:List Nat):Mem→Nat→Nat→(St→Prop)→St→Prop
 | _,0,_,K,st=>K st
 | σs,f+1,k,K,st=>Zd6 P tok σs all rs bar k (Zbh P tok all rs bar (Zbz bar k σs) f (k+1) K) st
theorem Zqx {P:Program} {tok:Nat} {all:List Oper} {rs:Nat→AV} {bar:List Nat} {K:St→Prop}:∀(f k:Nat) (σs:Mem) (listed:Array Bool) (st:St),Closed all.toArray listed→Zna all.toArray bar f k listed=true →
 Zbh P tok all rs bar σs f k K st→aAny P tok all rs bar σs f listed K st
 | 0,k,σs,listed,st,_,hl,h=>⟨by simpa [Zna] using hl,h⟩
 | f+1,k,σs,listed,st,hc,hl,h=>by
   simp only [Zna,Zy7] at hl;obtain⟨oi,hoi,ht⟩:=Zpp hl.1;refine Zs8 hoi f _ listed st hc ht ?_;exact Zln (λst' h'=>Zqx f (k+1) _ _ st' (hc.set ht.ready) hl.2 h') h
def cutM (cut:List Nat) (σ:Mem):Mem:=λt=>if cut.contains t then none else σ t
theorem r_draw {P:Program} {tok n:Nat} {Q:AE→St→Prop} {st:St} {id:Nat} {l:List Oper} (rs:Nat→AV) (bar cut:List Nat) (hm:P.follows .mixedOrders=true) (hf:l.all (Zdt n)=true)
 (hlex:Zna l.toArray bar l.length 0 (Array.replicate l.length false)=true) (h:∀K:St→Prop,(∀st',Q .normal st'→K st')→Zbh P tok l rs bar (cutM cut st.mem) l.length 0 K st):Zav P tok n (.region id l.toArray true) Q st:=by
 intro c a w imm hr;refine wp_region_any hm ?_;have kd:Keeps w imm w.drew imm:=λad h=>⟨h,rfl⟩;have hgd:w.grownBy w.drew none:=⟨rfl,rfl,rfl,Zyp _,λ_ _ _=>rfl⟩;have hdr:Rel c n st a w.drew imm:=⟨λt=>kd.rs (hr.env t),hr.size,hr.defers,⟨⟨λk e hk=>(hr.mem.ok.ent k e hk).keep hgd (by cases e.blk<;>simp) (λ_ h=>h) (λ_ _=>rfl) (λ_ h=>.inl h),hr.mem.ok.apart,hr.mem.ok.lt,hr.mem.ok.spot⟩,hr.mem.below.drew,hr.mem.lt,hr.mem.old,hr.mem.new,hr.mem.cells⟩⟩
 have hcl:Closed l.toArray (Array.replicate l.length false):=by
  intro j o ho hj;exfalso;by_cases hjl:j < l.length<;>simp [Array.getElem?_replicate,hjl] at hj
 have:=Zqx (K:=Q .normal) l.length 0 (cutM cut st.mem) _ st hcl hlex (h _ λ_ h=>h);have h2:=Zmb (c:=c) (Q:=Q) hf l.length (cutM cut st.mem) _ st a w.drew imm hdr (λt e ht=>by unfold cutM at ht;split at ht;cases ht;exact ht) this
 simpa using h2
def Zbr:List (Nat × AV)→Nat→AV
 | [],_=>.u
 | (k,a) :: l,i=>if i=k then a else Zbr l i
theorem Zub {P:Program} {tok:Nat} {all:List Oper} {rs:Nat→AV} {bar:List Nat} {k:Nat} {σs:Mem} {K:St→Prop} {st:St}:Zbh P tok all rs bar σs 0 k K st=K st:=rfl
theorem Zck {P:Program} {tok:Nat} {all:List Oper} {rs:Nat→AV} {bar:List Nat} {f k:Nat} {σs:Mem} {K:St→Prop} {st:St}:Zbh P tok all rs bar σs (f+1) k K st=Zd6 P tok σs all rs bar k (Zbh P tok all rs bar (Zbz bar k σs) f (k+1) K) st:=rfl
section
variable {P:Program} {tok:Nat} {σs:Mem} {st:St}
theorem opS_load (t:TypeId) (x:Operand):opS P tok σs st (.load t x)=Zdb P ⟨st.env,σs⟩ t (St.ev ⟨st.env,σs⟩ x):=rfl
theorem Zwp (t:TypeId) (p:Nat) (x:Operand):opS P tok σs st (.store t (.tmp p) x)=(match st.env p with
 | .pbox k g off=>if k=tok+p then Zfb P st t (.pbox k g off) (St.ev ⟨st.env,Zac⟩ x) else .bad
 | _=>.bad):=rfl
theorem opS_move (x:Operand):opS P tok σs st (.move x)=Zag P ⟨st.env,Zac⟩ (.move x):=rfl
theorem Zts (x:Operand):opS P tok σs st (.assign x)=Zag P ⟨st.env,Zac⟩ (.assign x):=rfl
theorem opS_pick (c x y:Operand):opS P tok σs st (.pick c x y)=Zag P ⟨st.env,Zac⟩ (.pick c x y):=rfl
theorem Zwu (t:TypeId):opS P tok σs st (.alloc t)=Zag P ⟨st.env,Zac⟩ (.alloc t):=rfl
theorem opS_box (t:TypeId) (x:Operand):opS P tok σs st (.box t x)=Zag P ⟨st.env,Zac⟩ (.box t x):=rfl
theorem Zwt (t:TypeId) (ps:Array (Nat × Operand)):opS P tok σs st (.build t ps)=Zag P ⟨st.env,Zac⟩ (.build t ps):=rfl
theorem opS_bs (t:TypeId) (n:Nat) (ps:Array (Nat × Operand)):opS P tok σs st (.buildSlice t n ps)=Zag P ⟨st.env,Zac⟩ (.buildSlice t n ps):=rfl
theorem opS_nil (x:Operand):opS P tok σs st (.nilCheck x)=Zag P ⟨st.env,Zac⟩ (.nilCheck x):=rfl
theorem opS_bin (b:BinOp) (t:TypeId) (x y:Operand) (u:TypeId):opS P tok σs st (.binOp b t x y u)=Zag P ⟨st.env,Zac⟩ (.binOp b t x y u):=rfl
theorem opS_un (b:UnOp) (t:TypeId) (x:Operand):opS P tok σs st (.unOp b t x)=Zag P ⟨st.env,Zac⟩ (.unOp b t x):=rfl
theorem opS_conv (t u:TypeId) (x:Operand):opS P tok σs st (.convert t u x)=Zag P ⟨st.env,Zac⟩ (.convert t u x):=rfl
theorem opS_mf (f:Fn) (a b:Array Operand):opS P tok σs st (.makeFunc f a b)=Zag P ⟨st.env,Zac⟩ (.makeFunc f a b):=rfl
theorem opS_mk (t:TypeId) (a b:Operand):opS P tok σs st (.makeSlice t a b)=Zag P ⟨st.env,Zac⟩ (.makeSlice t a b):=rfl
theorem Zwq (t:TypeId) (x:Operand) (a b c:Option Operand):opS P tok σs st (.slice t x a b c)=Zag P ⟨st.env,σs⟩ (.slice t x a b c):=rfl
theorem opS_fa (t:TypeId) (x:Operand) (n:Nat):opS P tok σs st (.fieldAddr t x n)=Zag P ⟨st.env,Zac⟩ (.fieldAddr t x n):=rfl
theorem opS_fi (t:TypeId) (x:Operand) (n:Nat):opS P tok σs st (.field t x n)=Zag P ⟨st.env,Zac⟩ (.field t x n):=rfl
theorem opS_ia (t:TypeId) (x y:Operand):opS P tok σs st (.indexAddr t x y)=Zbb P ⟨st.env,σs⟩ t (St.ev ⟨st.env,σs⟩ x) (St.ev ⟨st.env,σs⟩ y):=rfl
theorem opS_ix (t:TypeId) (x y:Operand):opS P tok σs st (.index t x y)=Zag P ⟨st.env,Zac⟩ (.index t x y):=rfl
theorem opS_ext (x:Operand) (n:Nat):opS P tok σs st (.extract x n)=Zag P ⟨st.env,Zac⟩ (.extract x n):=rfl
theorem opS_mi (t:TypeId) (x:Operand):opS P tok σs st (.makeInterface t x)=Zag P ⟨st.env,Zac⟩ (.makeInterface t x):=rfl
theorem opS_len (a:Array Operand) (ts:Array TypeId):opS P tok σs st (.call ⟨.builtin .len,a,ts⟩)=Zco P ⟨st.env,σs⟩ ⟨.builtin .len,a,ts⟩:=rfl
theorem Zws (f:Operand) (a:Array Operand) (ts:Array TypeId):opS P tok σs st (.call ⟨.value f,a,ts⟩)=Zag P ⟨st.env,Zac⟩ (.call ⟨.value f,a,ts⟩):=rfl
theorem Ztt (a:Array Operand) (ts:Array TypeId):opS P tok σs st (.call ⟨.builtin .append,a,ts⟩)=Zag P ⟨st.env,Zac⟩ (.call ⟨.builtin .append,a,ts⟩):=rfl
theorem opS_copy (a:Array Operand) (ts:Array TypeId):opS P tok σs st (.call ⟨.builtin .copy,a,ts⟩)=Zag P ⟨st.env,Zac⟩ (.call ⟨.builtin .copy,a,ts⟩):=rfl
theorem opS_max (a:Array Operand) (ts:Array TypeId):opS P tok σs st (.call ⟨.builtin .max,a,ts⟩)=Zag P ⟨st.env,Zac⟩ (.call ⟨.builtin .max,a,ts⟩):=rfl
theorem opS_min (a:Array Operand) (ts:Array TypeId):opS P tok σs st (.call ⟨.builtin .min,a,ts⟩)=Zag P ⟨st.env,Zac⟩ (.call ⟨.builtin .min,a,ts⟩):=rfl
end
attribute [go_sem ↓] Zwp opS_load opS_move Zts opS_pick Zwu opS_box Zwt opS_bs opS_nil opS_bin opS_un opS_conv opS_mf opS_mk Zwq opS_fa opS_fi opS_ia opS_ix opS_ext opS_mi opS_len Zws Ztt opS_copy opS_max opS_min
attribute [go_sem] cutM Zao Zdo Zdx Zlp Zj3 Zwi Zbz Zbr Zub Zck Zd6 Zcn Zf9 Zfl Zb1 optK outK List.contains_cons List.contains_nil Bool.or_false Bool.false_or Bool.or_true Bool.true_or Zac
theorem lt_t {a b:Int} (h:a < b):decide (a < b)=true:=Zyo h
theorem lt_f {a b:Int} (h:b≤a):decide (a < b)=false:=Zyl zo
theorem le_t {a b:Int} (h:a≤b):decide (a≤b)=true:=Zyo h
theorem le_f {a b:Int} (h:b < a):decide (a≤b)=false:=Zyl zo
theorem eq_t {a b:Int} (h:a=b):(a == b)=true:=by simp [h]
theorem eq_f {a b:Int} (h:a≠b):(a == b)=false:=by simp [h]
theorem ne_t {a b:Int} (h:a≠b):(a != b)=true:=by simp [h]
theorem ne_f {a b:Int} (h:a=b):(a != b)=false:=by simp [h]
theorem Ztp (n:Nat):((n:Int) - 1).toNat=n - 1:=zo
theorem Ztc (n:Nat):((n:Int)+1).toNat=n+1:=zo
def ints (l:List Int):AV:=.sl 1 (l.map λn=>.v (.int .i64 n))
def gI (l:List Int) (k:Nat):Int:=l.getD k 0
theorem ints_get {l:List Int} {k:Nat} (h:k < l.length):(l.map λn=>AV.v (.int .i64 n)).getD k .u=.v (.int .i64 (gI l k)):=Zsk h
theorem Zf8 {l:List Int} {k:Nat} (h:k < l.length):gI l k=l[k]:=by unfold gI;rw [Zyu,Zym h];rfl
theorem Zc2 {l:List Int} {k:Nat} (h:l.length≤k):gI l k=0:=by unfold gI;rw [Zyu,Zz1 h];rfl
theorem Zbo (n:Nat):(n:Int)+1=((n+1:Nat):Int):=zo
theorem if_max (x y:Int):(if y > x then y else x)=max x y:=by split<;>omega
theorem range2:List.range 2=[0,1]:=rfl
theorem range3:List.range 3=[0,1,2]:=rfl
theorem range4:List.range 4=[0,1,2,3]:=rfl
attribute [go_sem] range2 range3 range4 if_max lt_t lt_f le_t le_f eq_t eq_f ne_t ne_f Ztp Ztc ints_get
inductive Wk:AV→AV→Prop
 | refl (a:AV):Wk a a
 | nil (m:Nat):Wk (.v (.slice none 0 0)) (.sl m [])
 | tup (aS bs:List AV) (hl:aS.length=bs.length) (h:∀(j:Nat) (a b:AV),aS[j]?=some a→bs[j]?=some b→Wk a b):Wk (.tup aS) (.tup bs)
theorem Wk.rd {w:World} {imm:Imm} {a b:AV} (h:Wk a b):∀{x:Value},Rd w imm a x→Rd w imm b x:=by
 induction h with
 | refl a=>exact λh=>h
 | nil m =>
   intro x h;cases h;exact .sl m [] none 0 (λ_=>undef) zs zs (Zyp _) zs zs (by simp [flat])
 | tup aS bs hl _ ih =>
   intro x h
   cases h with
   | tup _ vs hl2 hr =>
     refine .tup bs vs zo λj b x h1 h2=>?_;have hj:j < aS.length:=by rw [hl];exact(List.getElem?_eq_some_iff.1 h1).1
     exact ih j aS[j] b (Zym hj) h1 (hr j aS[j] x (Zym hj) h2)
theorem Pure.wk {P:Program} {f:FuncId} {args:List AV} {r r':AV} (h:Pure P f args r) (hw:Wk r r'):Pure P f args r':=by
 refine⟨h.1,λw imm vs h1 h2 h3=>(h.2 w imm vs h1 h2 h3).mono λe w' he=>?_⟩;obtain⟨x,imm',e1,e2,e3⟩:=he;exact⟨x,imm',e1,hw.rd e2,e3⟩
theorem Wk.pair {a b c:AV} (h:Wk a b):Wk (.tup [a,c]) (.tup [b,c]):=by
 refine .tup _ _ rfl λj x y h1 h2=>?_
 match j with
 | 0=>simp at h1 h2;subst h1;subst h2;exact h
 | 1=>simp at h1 h2;subst h1;subst h2;exact .refl _
 | j+2=>simp at h1
attribute [go_sem] ne_eq true_and and_true implies_true Std.le_refl and_self not_true_eq_false not_false_eq_true forall_const Option.getD_some Option.getD_none List.getElem?_cons_zero List.getElem?_cons_succ List.getElem?_nil Option.bind_some Option.map_some Option.map_none Option.isSome_some Option.isSome_none
 Zz2 Zzx Zyx Zy0 Zyn Zy1 ZCc ZCw Zzz ZB2 ZBl ZAa ZAb List.getD_nil ZAg ZDi ZBd ZDb List.drop_nil List.take_nil
 List.set_cons_zero List.set_cons_succ List.replicate_succ List.replicate_zero ZB3 List.all_nil Bool.and_true ZAv Zyy Bool.true_eq_false ZB4 ZCe decide_true decide_false Zzi Zz5 Int.toNat_zero Int.toNat_one imp_false false_and and_false false_or or_false beq_self_eq_true beq_true beq_false Ze9
section
variable {P:Program} {all rest:List Oper} {K:St→Prop} {e:Nat→AV} {m:Mem} {dst:Option Nat} {d t j:Nat} {op:Op} {ty:TypeId} {pos:String} {af:Array Edge} {r:Res} {want:Bool} {a:AV} {f:FuncId} {args args':List AV}
theorem o_op (h:Zag P ⟨e,m⟩ op=r) (k:aRes P d (some d) r (Za3 P 0 all rest K) ⟨e,m⟩):Za3 P 0 all (⟨some d,op,ty,pos,af,none⟩ :: rest) K ⟨e,m⟩:=by
 rw [Zd2,h,Zz9,Zzd];exact k
theorem o_opN (h:Zag P ⟨e,m⟩ op=r) (k:aRes P 0 none r (Za3 P 0 all rest K) ⟨e,m⟩):Za3 P 0 all (⟨none,op,ty,pos,af,none⟩ :: rest) K ⟨e,m⟩:=by
 rw [Zd2,h];exact k
theorem o_val (h:K ⟨upd e d a,m⟩):aRes P t (some d) (.val a []) K ⟨e,m⟩:=h
theorem o_vals {ks:List Nat} (h:K ⟨upd e d a,marks m ks⟩):aRes P t (some d) (.val a ks) K ⟨e,m⟩:=h
theorem o_valN {ks:List Nat} (h:K ⟨e,marks m ks⟩):aRes P t none (.val a ks) K ⟨e,m⟩:=h
theorem o_need {p:Prop} (hp:p) (h:aRes P t dst r K ⟨e,m⟩):aRes P t dst (.need p r) K ⟨e,m⟩:=⟨hp,h⟩
theorem o_app {k mm pub:Nat} {sv0:Value} {es news:List AV} {ks:List Nat} (hk:marks m ks k=some (.row sv0 ty mm es pub)) (h:∀sv,K ⟨upd e d (.own k sv),upd (marks m ks) k (some (.row sv ty mm (es++news) pub))⟩) :
 aRes P t (some d) (.app k news ks) K ⟨e,m⟩:=by
 simp only [aRes,hk];exact h
theorem o_sto {k:Nat} {ent:Ent} {ks:List Nat} (h:K ⟨e,upd (marks m ks) k (some ent)⟩):aRes P t none (.sto a k ent ks) K ⟨e,m⟩:=h
theorem o_stoD {k:Nat} {ent:Ent} {ks:List Nat} (h:K ⟨upd e d a,upd (marks m ks) k (some ent)⟩):aRes P t (some d) (.sto a k ent ks) K ⟨e,m⟩:=h
theorem o_call {x:AV} (c:Pure P f args' x) (h0:AV.toksL args=[]) (ho:Ze3 m args) (ha:Zeo m args=args') (h:K ⟨upd e d x,m⟩):aRes P t (some d) (.call f args) K ⟨e,m⟩:=by
 refine Zi1 c ?_ ?_ ?_
 ·rw [h0];exact ho
 ·rw [h0];exact ha
 ·rw [h0];exact h
theorem o_calls {x:AV} {ks:List Nat} {m':Mem} (c:Pure P f args' x) (h0:AV.toksL args=ks) (hm:marks m ks=m') (ho:Ze3 m' args) (ha:Zeo m' args=args') (h:K ⟨upd e d x,m'⟩):aRes P t (some d) (.call f args) K ⟨e,m⟩:=by
 subst hm;subst h0;exact Zi1 c ho ha h
theorem Zr4 {x:AV} {m':Mem} (c:ACall P f args m λr σ'=>r=x∧σ'=m') (h:K ⟨upd e d x,m'⟩):aRes P t (some d) (.call f args) K ⟨e,m⟩ :=
 c.mono λr σ' ⟨h1,h2⟩=>by subst h1;subst h2;exact h
theorem Zcm {x:Value→AV} {m':Value→Mem} (c:ACall P f args m λr σ'=>∃sv,r=x sv∧σ'=m' sv) (h:∀sv,K ⟨upd e d (x sv),m' sv⟩):aRes P t (some d) (.call f args) K ⟨e,m⟩ :=
 c.mono λr σ' ⟨sv,h1,h2⟩=>by subst h1;subst h2;exact h sv
variable {rs:Nat→AV} {bar:List Nat} {fu k:Nat} {σs:Mem}
def dRes (P:Program) (σs:Mem) (t d:Nat) (r0:AV) (r:Res) (K:St→Prop) (st:St):Prop:=Zfl P r0 r∧optK σs t (some d) (Zb1 r0 r) K st
def dSto (σs:Mem) (r:Res) (K:St→Prop) (st:St):Prop:=Zj3 r∧optK σs 0 none (Zlp r) K st
theorem d_nil (h:K ⟨e,m⟩):Zbh P 0 all rs bar σs 0 k K ⟨e,m⟩:=h
theorem d_op (hb:bar.contains k=false) (ho:all[k]?=some ⟨some d,op,ty,pos,af,none⟩) (hst:Zao op=false) (h:opS P 0 σs ⟨e,m⟩ op=r) (hk:dRes P σs d d (rs k) r (Zbh P 0 all rs bar σs fu (k+1) K) ⟨e,m⟩):Zbh P 0 all rs bar σs (fu+1) k K ⟨e,m⟩:=by
 rw [Zck];unfold Zd6;rw [ho];simp only [Zbz,hb,Zyy,Zy8];unfold Zcn;simp only [Zdo,Zdx,hst,Zyy,Zy8,h,Zz9,Zzd];exact⟨.inl hk.1,hk.2⟩
def hasAll (σ:Mem):List (Nat × Ent)→Prop
 | []=>True
 | p :: l=>σ p.1=some p.2∧hasAll σ l
theorem Zt6 {σ:Mem}:hasAll σ []=True:=rfl
theorem Zq0 {σ:Mem} {p:Nat × Ent} {l:List (Nat × Ent)}:hasAll σ (p :: l)=(σ p.1=some p.2∧hasAll σ l):=rfl
theorem hasAll.part {σs σ:Mem} (hp:Part σs σ):∀{l:List (Nat × Ent)},hasAll σs l→hasAll σ l
 | [],_=>trivial
 | p :: l,h=>⟨hp _ _ h.1,hasAll.part hp h.2⟩
def RdC (P:Program) (L:List (Nat × Ent)) (f:FuncId) (args:List AV) (x:AV):Prop:=∀σ,hasAll σ L→ACall P f args σ λr σ'=>r=x∧σ'=σ
theorem o_rd {x:AV} {L:List (Nat × Ent)} (c:RdC P L f args x) (hL:hasAll m L) (h:K ⟨upd e d x,m⟩):aRes P t (some d) (.call f args) K ⟨e,m⟩:=Zr4 (c m hL) h
theorem d_read {x:AV} {L:List (Nat × Ent)} {g:Operand} {aS:Array Operand} {ts:Array TypeId} (c:RdC P L f args x) (hb:bar.contains k=false) (ho:all[k]?=some ⟨some d,.call ⟨.value g,aS,ts⟩,ty,pos,af,none⟩) (h:Zag P ⟨e,Zac⟩ (.call ⟨.value g,aS,ts⟩)=.call f args) (hL:hasAll σs L) (hx:rs k=x)
 (hk:Zbh P 0 all rs bar σs fu (k+1) K ⟨upd e d x,m⟩):Zbh P 0 all rs bar σs (fu+1) k K ⟨e,m⟩:=by
 rw [Zck];unfold Zd6;rw [ho];simp only [Zbz,hb,Zyy,Zy8];unfold Zcn;have hs:opS P 0 σs ⟨e,m⟩ (.call ⟨.value g,aS,ts⟩)=.call f args:=h;simp only [Zdo,Zdx,Zao,isVC,Zyy,Zy8,hs,Zz9,Zzd,hx];exact⟨.inr ⟨trivial,λσ hp=>c σ (hL.part hp)⟩,trivial,hk⟩
theorem d_sto {t p:Nat} {x:Operand} (hb:bar.contains k=false) (ho:all[k]?=some ⟨none,.store t (.tmp p) x,ty,pos,af,none⟩) (h:opS P 0 σs ⟨e,m⟩ (.store t (.tmp p) x)=r) (hk:dSto σs r (Zbh P 0 all rs bar σs fu (k+1) K) ⟨e,m⟩):Zbh P 0 all rs bar σs (fu+1) k K ⟨e,m⟩:=by
 rw [Zck];unfold Zd6;rw [ho];simp only [Zbz,hb,Zyy,Zy8];unfold Zcn;simp only [Zdo,Zdx,Zao,Zzb,h,Option.getD_none,Zzm];exact hk
theorem s_need {p:Prop} (hp:p) (h:dSto σs r K ⟨e,m⟩):dSto σs (.need p r) K ⟨e,m⟩:=⟨⟨hp,h.1⟩,h.2⟩
theorem s_sto {k:Nat} {ent:Ent} (hc:σs k=none) (h:K ⟨e,upd m k (some ent)⟩):dSto σs (.sto .u k ent []) K ⟨e,m⟩:=⟨trivial,.inl hc,h⟩
theorem s_same {k:Nat} {ent:Ent} (hc:σs k=some ent) (h:K ⟨e,upd m k (some ent)⟩):dSto σs (.sto .u k ent []) K ⟨e,m⟩:=⟨trivial,.inr hc,h⟩
theorem Zfy {o:Oper} (hb:bar.contains k=true) (ho:all[k]?=some o) (hs:(bar.contains (k+1000) || bar.contains (k+2000))=false) (hk:Za3 P 0 all [o] (Zbh P 0 all rs bar Zac fu (k+1) K) ⟨e,m⟩):Zbh P 0 all rs bar σs (fu+1) k K ⟨e,m⟩:=by
 rw [Zck];unfold Zd6;rw [ho];have h1:bar.contains (k+1000)=false:=(Bool.or_eq_false_iff.1 hs).1;simp only [Zbz,hb,h1,Zzb,Zyy,Zy8];exact⟨hk,λh=>by rw [←h1,hs] at h;cases h⟩
theorem d_semi (hb:bar.contains k=true) (hs:bar.contains (k+1000)=true) (h2:(bar.contains (k+2000) || bar.contains (k+3000))=false) (ho:all[k]?=some ⟨some d,op,ty,pos,af,none⟩) (h:Zag P ⟨e,m⟩ op=r) (hkp:Zb9 σs r) (hk:aRes P d (some d) r (Zbh P 0 all rs bar σs fu (k+1) K) ⟨e,m⟩):Zbh P 0 all rs bar σs (fu+1) k K ⟨e,m⟩:=by
 rw [Zck];unfold Zd6;rw [ho];simp only [ZBw] at h2;simp only [Zbz,hb,hs,h2,Zzb,Zyy,Zy8];refine⟨?_,λ_=>⟨rfl,by rw [h];exact hkp,λh=>by cases h⟩⟩;unfold Zf9;rw [Zd2,h,Zz9,Zzd];exact hk
theorem d_semiC (hb:bar.contains k=true) (hs:bar.contains (k+1000)=true) (h3:bar.contains (k+3000)=true) (ho:all[k]?=some ⟨some d,op,ty,pos,af,none⟩) (hn:Zin 0 e op=true) (h:Zag P ⟨e,m⟩ op=r) (hkp:Zb9 σs r) (hk:aRes P d (some d) r (Zbh P 0 all rs bar σs fu (k+1) K) ⟨e,m⟩):Zbh P 0 all rs bar σs (fu+1) k K ⟨e,m⟩:=by
 rw [Zck];unfold Zd6;rw [ho];simp only [Zbz,hb,hs,h3,Zzb,Bool.true_or];refine⟨?_,λ_=>⟨rfl,by rw [h];exact hkp,λ_=>hn⟩⟩;unfold Zf9;rw [Zd2,h,Zz9,Zzd];exact hk
theorem d_stay (hb:bar.contains k=true) (hs:(bar.contains (k+1000) || bar.contains (k+3000))=false) (h2:bar.contains (k+2000)=true) (ho:all[k]?=some ⟨none,op,ty,pos,af,none⟩) (h:Zag P ⟨e,m⟩ op=r) (hkp:Zb9 Zac r) (hk:aRes P 0 none r (Zbh P 0 all rs bar Zac fu (k+1) K) ⟨e,m⟩):Zbh P 0 all rs bar σs (fu+1) k K ⟨e,m⟩:=by
 rw [Zck];unfold Zd6;rw [ho];simp only [ZBw] at hs;simp only [Zbz,hb,hs,h2,Zzb,Zyy,Zy8];refine⟨?_,λ_=>⟨rfl,by rw [h];exact hkp,λh=>by cases h⟩⟩;unfold Zf9;rw [Zd2,h,Option.getD_none,Zzm];exact hk
def Ztx (σs:Mem):List Nat→Prop
 | []=>True
 | k :: ks=>σs k=none∧Ztx σs ks
theorem Zp8 {k:Nat} {news:List AV} {ks:List Nat}:Zb9 σs (.app k news ks)=(σs k=none∧Ztx σs ks):=by
 have:Ztx σs ks↔∀t∈ks,σs t=none:=by
  induction ks with
  | nil=>simp [Ztx]
  | cons a ks ih=>simp [Ztx,ih]
 simp only [Zb9,this]
theorem Zn7 {k n:Nat} {news:List AV}:Zb9 σs (.appv k n news)=(σs k=none):=rfl
theorem Zp7 {k:Nat} {ent:Ent}:Zb9 σs (.sto .u k ent [])=(σs k=none):=rfl
theorem Zn6 {p:Prop}:Zb9 σs (.need p r)=Zb9 σs r:=rfl
theorem e_val {r0:AV} (h:K ⟨upd e d a,m⟩):dRes P σs t d r0 (.val a []) K ⟨e,m⟩:=⟨trivial,trivial,h⟩
theorem e_need {r0:AV} {p:Prop} (hp:p) (h:dRes P σs t d r0 r K ⟨e,m⟩):dRes P σs t d r0 (.need p r) K ⟨e,m⟩:=⟨⟨hp,h.1⟩,h.2⟩
theorem e_row {r0:AV} {mm:Nat} {es:List AV} (hs:r0.said=false) (hc:σs t=none) (h:∀sv,K ⟨upd e d (.own t sv),upd m t (some (.row sv ty mm es 0))⟩):dRes P σs t d r0 (.row ty mm es []) K ⟨e,m⟩:=by
 refine⟨λh'=>(by rw [hs] at h';cases h'),?_⟩;show optK σs t (some d) (some (if r0.said then .val r0 else .row ty mm es)) K ⟨e,m⟩;rw [hs];exact⟨hc,h⟩
theorem Zfr {r0:AV} {mm:Nat} {es:List AV} (hx:r0=.sl mm es) (h:K ⟨upd e d (.sl mm es),m⟩):dRes P σs t d r0 (.row ty mm es []) K ⟨e,m⟩:=by
 subst hx;exact⟨λ_=>rfl,trivial,h⟩
theorem e_box {r0:AV} {cs:List AV} (hc:σs t=none) (h:∀g,K ⟨upd e d (.pbox t g 0),upd m t (some (.box g ty cs false))⟩):dRes P σs t d r0 (.box ty cs) K ⟨e,m⟩:=⟨trivial,hc,h⟩
theorem e_call {r0:AV} {x:AV} (hx:r0=x) (c:Pure P f args' x) (h0:AV.toksL args=[]) (ho:Ze3 Zac args) (ha:Zeo Zac args=args') (h:K ⟨upd e d x,m⟩):dRes P σs t d r0 (.call f args) K ⟨e,m⟩:=by
 subst hx;subst ha;exact⟨⟨h0,ho,c⟩,trivial,h⟩
end
section
variable {P:Program} {n:Nat} {Q:AE→St→Prop} {e:Nat→AV} {m:Mem}
theorem Zab {ι:Type} {body:Code} (I:ι→(Nat→AV)→Mem→Prop) (μ:ι→Nat) (i:ι) (hf:Zaw n body=true)
 (round:∀i e m,I i e m→Zav P 0 n body (AE.then (λst'=>∃i',I i' st'.env st'.mem∧μ i' < μ i) Q) ⟨e,m⟩) (h0:I i e m):Zav P 0 n (.loop body) Q ⟨e,m⟩ :=
 r_loop (tok:=0) (λi st=>I i st.env st.mem) μ i hf (λi st h=>round i st.env st.mem h) h0
end
section
variable {P:Program} {all rest:List Oper} {K:St→Prop} {e:Nat→AV} {m:Mem} {dst:Option Nat} {d t j n:Nat} {op:Op} {ty:TypeId} {pos:String} {af:Array Edge} {r:Res} {want:Bool} {a:AV} {f:FuncId} {args args':List AV} {Q:AE→St→Prop} {rs:Nat→AV} {bar:List Nat} {fu k:Nat} {v:Value}
def AllV {α:Type} (p:α→Prop):Prop:=∀x,p x
theorem Zcg {α:Type} {p:α→Prop} (h:∀x,p x):AllV p:=h
def OG (P:Program) (all rest:List Oper) (dst:Option Nat) (op:Op) (ty:TypeId) (pos:String) (af:Array Edge) (v:Value) (want:Bool) (K:St→Prop) (st:St):Prop :=
 if says (.v v) want=true then Za3 P 0 all (⟨dst,op,ty,pos,af,none⟩ :: rest) K st else Za3 P 0 all rest K (st.put dst (.v (.tuple #[])))
theorem o_g (hg:Zbe all ⟨e,m⟩ j=.v v) (h:OG P all rest dst op ty pos af v want K ⟨e,m⟩):Za3 P 0 all (⟨dst,op,ty,pos,af,some (j,want)⟩ :: rest) K ⟨e,m⟩:=by
 unfold OG at h;rw [Zi3,hg];refine⟨trivial,?_⟩;by_cases hs:says (.v v) want=true
 ·rw [Zyk hs] at h ⊢;exact h
 ·rw [Zyj hs] at h ⊢;exact h
theorem g_y (hs:says (.v v) want=true) (h:Za3 P 0 all (⟨dst,op,ty,pos,af,none⟩ :: rest) K ⟨e,m⟩):OG P all rest dst op ty pos af v want K ⟨e,m⟩:=by
 unfold OG;rw [Zyk hs];exact h
theorem g_n (hs:says (.v v) want=false) (h:Za3 P 0 all rest K ⟨upd e d (.v (.tuple #[])),m⟩):OG P all rest (some d) op ty pos af v want K ⟨e,m⟩:=by
 unfold OG;rw [Zyj (by rw [hs];simp)];exact h
theorem g_nN (hs:says (.v v) want=false) (h:Za3 P 0 all rest K ⟨e,m⟩):OG P all rest none op ty pos af v want K ⟨e,m⟩:=by
 unfold OG;rw [Zyj (by rw [hs];simp)];exact h
def CG (P:Program) (n:Nat) (t:Bool) (x y:Code) (Q:AE→St→Prop) (st:St):Prop:=if t=true then Zav P 0 n x Q st else Zav P 0 n y Q st
theorem r_c {o:Operand} {x y:Code} {t:Bool} (ht:St.ev ⟨e,m⟩ o=.v (.bool t)) (h:CG P n t x y Q ⟨e,m⟩):Zav P 0 n (.cond o x y) Q ⟨e,m⟩:=by
 unfold CG at h;refine r_cond ht (λh1=>?_) λh1=>?_
 ·rwa [Zyk h1] at h
 ·rwa [Zyj (by rw [h1];simp)] at h
theorem c_t {x y:Code} {st:St} (h:Zav P 0 n x Q st):CG P n true x y Q st:=by unfold CG;rw [Zyk rfl];exact h
theorem c_f {x y:Code} {st:St} (h:Zav P 0 n y Q st):CG P n false x y Q st:=by unfold CG;rw [Zyj zs];exact h
theorem p_row {mm:Nat} {es:List AV} (h:AllV λsv=>K ⟨upd e d (.own t sv),upd m t (some (.row sv ty mm es 0))⟩):aRes P t (some d) (.row ty mm es []) K ⟨e,m⟩:=h
theorem p_rows {mm:Nat} {es:List AV} {ks:List Nat} (h:AllV λsv=>K ⟨upd e d (.own t sv),upd (marks m ks) t (some (.row sv ty mm es 0))⟩):aRes P t (some d) (.row ty mm es ks) K ⟨e,m⟩:=h
theorem p_box {cs:List AV} (h:AllV λg=>K ⟨upd e d (.pbox t g 0),upd m t (some (.box g ty cs false))⟩):aRes P t (some d) (.box ty cs) K ⟨e,m⟩:=h
theorem p_mapn (h:AllV λg=>K ⟨upd e d (.mp t g),upd m t (some (.map g []))⟩):aRes P t (some d) .mapn K ⟨e,m⟩:=h
theorem p_app {k mm pub:Nat} {sv0:Value} {es news:List AV} {ks:List Nat} (hk:marks m ks k=some (.row sv0 ty mm es pub)) (h:AllV λsv=>K ⟨upd e d (.own k sv),upd (marks m ks) k (some (.row sv ty mm (es++news) pub))⟩) :
 aRes P t (some d) (.app k news ks) K ⟨e,m⟩:=o_app hk h
theorem p_appv {k n mm pub:Nat} {sv0:Value} {es news:List AV} (hk:m k=some (.row sv0 ty mm es pub)) (h:AllV λsv=>K ⟨upd e d (.own k sv),upd m k (some (.row sv ty mm (es.take n++news) pub))⟩) :
 aRes P t (some d) (.appv k n news) K ⟨e,m⟩:=by
 simp only [aRes,hk];exact h
theorem q_row {σs:Mem} {r0:AV} {mm:Nat} {es:List AV} (hs:r0.said=false) (hc:σs t=none) (h:AllV λsv=>K ⟨upd e d (.own t sv),upd m t (some (.row sv ty mm es 0))⟩):dRes P σs t d r0 (.row ty mm es []) K ⟨e,m⟩:=e_row hs hc h
theorem q_box {σs:Mem} {r0:AV} {cs:List AV} (hc:σs t=none) (h:AllV λg=>K ⟨upd e d (.pbox t g 0),upd m t (some (.box g ty cs false))⟩):dRes P σs t d r0 (.box ty cs) K ⟨e,m⟩:=e_box hc h
def DG (P:Program) (all:List Oper) (rs:Nat→AV) (bar:List Nat) (σs:Mem) (fu k d:Nat) (op:Op) (v:Value) (want:Bool) (K:St→Prop) (e:Nat→AV) (m:Mem):Prop :=
 if says (.v v) want=true then ∃r,opS P 0 σs ⟨e,m⟩ op=r∧dRes P σs d d (rs k) r (Zbh P 0 all rs bar σs fu (k+1) K) ⟨e,m⟩ else Zbh P 0 all rs bar σs fu (k+1) K ⟨upd e d (.v (.tuple #[])),m⟩
theorem d_g {σs:Mem} (hb:bar.contains k=false) (ho:all[k]?=some ⟨some d,op,ty,pos,af,some (j,want)⟩) (hst:Zao op=false) (hg:Zbe all ⟨e,Zac⟩ j=.v v) (h:DG P all rs bar σs fu k d op v want K e m):Zbh P 0 all rs bar σs (fu+1) k K ⟨e,m⟩:=by
 unfold DG at h;rw [Zck];unfold Zd6;rw [ho];simp only [Zbz,hb,Zyy,Zy8];unfold Zcn;simp only [hg];refine⟨trivial,?_⟩;by_cases hs:says (.v v) want=true
 ·rw [Zyk hs] at h ⊢;obtain⟨r,hr,hk⟩:=h;simp only [Zdo,Zdx,hst,Zyy,Zy8,hr,Zz9,Zzd];exact⟨.inl hk.1,hk.2⟩
 ·rw [Zyj hs] at h ⊢;exact h
theorem dg_y {σs:Mem} (hs:says (.v v) want=true) (h:opS P 0 σs ⟨e,m⟩ op=r) (hk:dRes P σs d d (rs k) r (Zbh P 0 all rs bar σs fu (k+1) K) ⟨e,m⟩):DG P all rs bar σs fu k d op v want K e m:=by
 unfold DG;rw [Zyk hs];exact⟨r,h,hk⟩
theorem dg_n {σs:Mem} (hs:says (.v v) want=false) (h:Zbh P 0 all rs bar σs fu (k+1) K ⟨upd e d (.v (.tuple #[])),m⟩):DG P all rs bar σs fu k d op v want K e m:=by
 unfold DG;rw [Zyj (by rw [hs];simp)];exact h
end
theorem ev_mk {e:Nat→AV} {m:Mem} {t:Nat}:St.ev ⟨e,m⟩ (.tmp t)=e t:=rfl
theorem env_mk {e:Nat→AV} {m:Mem}:St.env ⟨e,m⟩=e:=rfl
theorem mem_mk {e:Nat→AV} {m:Mem}:St.mem ⟨e,m⟩=m:=rfl
theorem Zo0 {α β:Type} {f:α→β} {x:α} {l:List α}:(List.toArray (x :: l)).toList.map f=f x :: (List.toArray l).toList.map f:=rfl
theorem Zqt {α β:Type} {f:α→β}:(List.toArray ([]:List α)).toList.map f=[]:=rfl
attribute [go_sem] Zin Zp7 Zp8 Zn7 Zn6 Ztx Zt6 Zq0
attribute [go_sem ↓] ev_mk env_mk mem_mk Zal Zag Zbe Zco Zkh Zo0 Zqt List.map_cons List.map_nil
def imm0 (w:World):Imm:=λad=>ad.block < w.heap.size∧ad.spot=none
inductive Rds (w:World):List AV→List Value→Prop
 | nil:Rds w [] []
 | cons {a:AV} {x:Value} {aS:List AV} {xs:List Value} (h:Rd w (imm0 w) a x) (t:Rds w aS xs):Rds w (a :: aS) (x :: xs)
theorem Rds.len {w:World} {aS:List AV} {xs:List Value} (h:Rds w aS xs):aS.length=xs.length:=by
 induction h with
 | nil=>rfl
 | cons _ _ ih=>simp [ih]
theorem Rds.get {w:World} {aS:List AV} {xs:List Value} (h:Rds w aS xs):∀(j:Nat) (a:AV) (x:Value),aS[j]?=some a→xs[j]?=some x→Rd w (imm0 w) a x:=by
 induction h with
 | nil=>intro j a x h1;simp at h1
 | cons h1 _ ih =>
   intro j a x h2 h3
   cases j with
   | zero=>simp at h2 h3;subst h2;subst h3;exact h1
   | succ j=>exact ih j a x (by simpa using h2) (by simpa using h3)
theorem Pure.done {P:Program} {f:FuncId} {args:List AV} {v:Value} (h:Pure P f args (.v v)) {w:World} {vs:Array Value} (hr:Rds w args vs.toList) (ht:Tb w:=by first|trivial|assumption):Calls P f vs w λe w'=>e=.returned v∧Below w.heap.size w w':=by
 refine(h.2 w (imm0 w) vs ⟨λ_ h=>h,ht⟩ (by simpa using hr.len) λj a x h1 h2=>hr.get j a x h1 (by simpa using h2)).mono λe w' he=>?_;obtain⟨x,imm',rfl,hx,_,_,hb⟩:=he;cases hx;exact⟨rfl,hb.toBelow⟩
theorem Zxi {w:World} {ad:Addr} {v:Value} (h:w.cell? ad=some v):imm0 w ad:=by
 refine⟨?_,World.cell?_spot h⟩;exact World.block_lt_of_cell? w _ h
section
mutual
theorem AV.plain (σ:Mem):∀(a:AV),AV.toks a=[]→Zfs σ a∧pubV σ a=a
 | .v x,_=>⟨trivial,rfl⟩
 | .sl m es,_=>⟨trivial,rfl⟩
 | .agg cs,h=>by
   obtain⟨h1,h2⟩:=AV.plainL σ cs h;exact⟨h1,by simp only [pubV,h2]⟩
 | .tup cs,h=>by
   obtain⟨h1,h2⟩:=AV.plainL σ cs h;exact⟨h1,by simp only [pubV,h2]⟩
 | .pimm cs,_=>⟨trivial,rfl⟩
 | .fn f cs,h=>by
   obtain⟨h1,h2⟩:=AV.plainL σ cs h;exact⟨h1,by simp only [pubV,h2]⟩
 | .ifc t x,h=>by
   obtain⟨h1,h2⟩:=AV.plain σ x h;exact⟨h1,by simp only [pubV,h2]⟩
 | .own k sv,h=>by cases h
 | .prow k sv m i off,h=>by cases h
 | .pbox k g off,h=>by cases h
 | .view k sv m i len,h=>by cases h
 | .u,_=>⟨trivial,rfl⟩
theorem AV.plainL (σ:Mem):∀(l:List AV),AV.toksL l=[]→Ze3 σ l∧Zeo σ l=l
 | [],_=>⟨trivial,rfl⟩
 | a :: r,h=>by
   simp only [AV.toksL,List.append_eq_nil_iff] at h;obtain⟨h1,h2⟩:=AV.plain σ a h.1;obtain⟨h3,h4⟩:=AV.plainL σ r h.2;exact⟨⟨h1,h3⟩,by simp only [Zeo,h2,h4]⟩
end
class Stp (q:Prop) (p:outParam Prop):Prop where
 h:p→q
theorem stp {q p:Prop} [i:Stp q p] (h:p):q:=i.h h
section
variable {P:Program} {all rest:List Oper} {K:St→Prop} {e:Nat→AV} {m:Mem} {dst:Option Nat} {d t j n id:Nat} {op:Op} {ty:TypeId} {pos:String} {af:Array Edge} {r:Res} {want:Bool} {a:AV} {f:FuncId} {args args':List AV} {Q:AE→St→Prop} {st:St} {x y:Code} {rs:Nat→AV} {bar:List Nat} {fu k:Nat} {σs:Mem}
theorem r_regD {l:List Oper} (h:Za3 P 0 l l (Q .normal) st):Zav P 0 n (.region id l.toArray false) Q st:=by
 unfold Zav;exact h
theorem Zas {l:List Oper} (rs:Nat→AV) (bar cut:List Nat) (hm:P.follows .mixedOrders=true) (hf:l.all (Zdt n)=true)
 (hlex:Zna l.toArray bar l.length 0 (Array.replicate l.length false)=true) {N:Nat} (hN:l.length=N) (h:Zbh P 0 l rs bar (cutM cut st.mem) N 0 (Q .normal) st):Zav P 0 n (.region id l.toArray true) Q st :=
 r_draw rs bar cut hm hf hlex λK hK=>by
  subst hN
  have mono:∀(f k:Nat) (σs:Mem) (K K':St→Prop),(∀st,K st→K' st)→∀st,Zbh P 0 l rs bar σs f k K st→Zbh P 0 l rs bar σs f k K' st:=by
   intro f
   induction f with
   | zero=>exact λk σs K K' h st=>h st
   | succ f ih=>exact λk σs K K' h st hx=>Zln (λst'=>ih (k+1) _ K K' h st') hx
  exact mono _ _ _ _ _ hK st h
instance:Stp (Zav P 0 n (.seq x y) Q st) (Zav P 0 n x (AE.then (Zav P 0 n y Q) Q) st):=⟨r_seq⟩
instance:Stp (Zav P 0 n .skip Q st) (Q .normal st):=⟨r_skip⟩
instance:Stp (Zav P 0 n .ret Q st) (Q .ret st):=⟨r_ret⟩
instance:Stp (Zav P 0 n (.exit id) Q st) (Q (.exit id) st):=⟨r_exit⟩
instance:Stp (Zav P 0 n (.block id x) Q st) (Zav P 0 n x (AE.inBlock id Q) st):=⟨r_block⟩
instance {l:List Oper}:Stp (Zav P 0 n (.region id l.toArray false) Q st) (Za3 P 0 l l (Q .normal) st):=⟨r_regD⟩
instance {next:St→Prop}:Stp (AE.then next Q .normal st) (next st):=⟨t_then⟩
instance {next:St→Prop}:Stp (AE.then next Q .ret st) (Q .ret st):=⟨Zs9⟩
instance {next:St→Prop} {i:Nat}:Stp (AE.then next Q (.exit i) st) (Q (.exit i) st):=⟨Zpq⟩
instance:Stp (AE.inBlock id Q .normal st) (Q .normal st):=⟨t_in⟩
instance:Stp (AE.inBlock id Q .ret st) (Q .ret st):=⟨t_in_ret⟩
instance:Stp (AE.inBlock id Q (.exit id) st) (Q .normal st):=⟨Znw⟩
instance {l:List ResultVar} {K:St→AV→Prop}:Stp (Done P l K .ret st) (Zia P st l (K st)):=⟨t_done⟩
instance {l:List ResultVar} {K:St→AV→Prop}:Stp (Done P l K .normal st) (Zia P st l (K st)):=⟨t_done'⟩
instance:Stp (Za3 P 0 all [] K st) (K st):=⟨λh=>h⟩
instance:Stp (aRes P t (some d) (.val a []) K ⟨e,m⟩) (K ⟨upd e d a,m⟩):=⟨o_val⟩
instance {k:Nat} {ks:List Nat}:Stp (aRes P t (some d) (.val a (k :: ks)) K ⟨e,m⟩) (K ⟨upd e d a,marks m (k :: ks)⟩):=⟨o_vals⟩
instance {ks:List Nat}:Stp (aRes P t none (.val a ks) K ⟨e,m⟩) (K ⟨e,marks m ks⟩):=⟨o_valN⟩
instance {k:Nat} {ent:Ent} {ks:List Nat}:Stp (aRes P t none (.sto a k ent ks) K ⟨e,m⟩) (K ⟨e,upd (marks m ks) k (some ent)⟩):=⟨o_sto⟩
instance {k:Nat} {ent:Ent} {ks:List Nat}:Stp (aRes P t (some d) (.sto a k ent ks) K ⟨e,m⟩) (K ⟨upd e d a,upd (marks m ks) k (some ent)⟩):=⟨o_stoD⟩
instance {mm:Nat} {es:List AV}:Stp (aRes P t (some d) (.row ty mm es []) K ⟨e,m⟩) (AllV λsv=>K ⟨upd e d (.own t sv),upd m t (some (.row sv ty mm es 0))⟩):=⟨p_row⟩
instance {mm k:Nat} {es:List AV} {ks:List Nat}:Stp (aRes P t (some d) (.row ty mm es (k :: ks)) K ⟨e,m⟩) (AllV λsv=>K ⟨upd e d (.own t sv),upd (marks m (k :: ks)) t (some (.row sv ty mm es 0))⟩):=⟨p_rows⟩
instance {cs:List AV}:Stp (aRes P t (some d) (.box ty cs) K ⟨e,m⟩) (AllV λg=>K ⟨upd e d (.pbox t g 0),upd m t (some (.box g ty cs false))⟩):=⟨p_box⟩
instance:Stp (aRes P t (some d) .mapn K ⟨e,m⟩) (AllV λg=>K ⟨upd e d (.mp t g),upd m t (some (.map g []))⟩):=⟨p_mapn⟩
instance {v:Bool}:Stp (OG P all rest dst op ty pos af (.bool v) v K st) (Za3 P 0 all (⟨dst,op,ty,pos,af,none⟩ :: rest) K st):=⟨g_y (by simp [says])⟩
instance:Stp (OG P all rest (some d) op ty pos af (.bool true) false K ⟨e,m⟩) (Za3 P 0 all rest K ⟨upd e d (.v (.tuple #[])),m⟩):=⟨g_n rfl⟩
instance:Stp (OG P all rest (some d) op ty pos af (.bool false) true K ⟨e,m⟩) (Za3 P 0 all rest K ⟨upd e d (.v (.tuple #[])),m⟩):=⟨g_n rfl⟩
instance {vs:Array Value}:Stp (OG P all rest (some d) op ty pos af (.tuple vs) want K ⟨e,m⟩) (Za3 P 0 all rest K ⟨upd e d (.v (.tuple #[])),m⟩):=⟨g_n rfl⟩
instance:Stp (OG P all rest none op ty pos af (.bool true) false K ⟨e,m⟩) (Za3 P 0 all rest K ⟨e,m⟩):=⟨g_nN rfl⟩
instance:Stp (OG P all rest none op ty pos af (.bool false) true K ⟨e,m⟩) (Za3 P 0 all rest K ⟨e,m⟩):=⟨g_nN rfl⟩
instance {vs:Array Value}:Stp (OG P all rest none op ty pos af (.tuple vs) want K ⟨e,m⟩) (Za3 P 0 all rest K ⟨e,m⟩):=⟨g_nN rfl⟩
instance:Stp (CG P n true x y Q st) (Zav P 0 n x Q st):=⟨c_t⟩
instance:Stp (CG P n false x y Q st) (Zav P 0 n y Q st):=⟨c_f⟩
instance:Stp (Zbh P 0 all rs bar σs 0 k K ⟨e,m⟩) (K ⟨e,m⟩):=⟨d_nil⟩
instance {r0:AV}:Stp (dRes P σs t d r0 (.val a []) K ⟨e,m⟩) (K ⟨upd e d a,m⟩):=⟨e_val⟩
instance:Stp (DG P all rs bar σs fu k d op (.bool true) false K e m) (Zbh P 0 all rs bar σs fu (k+1) K ⟨upd e d (.v (.tuple #[])),m⟩):=⟨dg_n rfl⟩
instance:Stp (DG P all rs bar σs fu k d op (.bool false) true K e m) (Zbh P 0 all rs bar σs fu (k+1) K ⟨upd e d (.v (.tuple #[])),m⟩):=⟨dg_n rfl⟩
instance {vs:Array Value}:Stp (DG P all rs bar σs fu k d op (.tuple vs) want K e m) (Zbh P 0 all rs bar σs fu (k+1) K ⟨upd e d (.v (.tuple #[])),m⟩):=⟨dg_n rfl⟩
theorem o_c {x:AV} (c:Pure P f args x) (h0:AV.toksL args=[]) (h:K ⟨upd e d x,m⟩):aRes P t (some d) (.call f args) K ⟨e,m⟩ :=
 o_call c h0 (AV.plainL m args h0).1 (AV.plainL m args h0).2 h
theorem e_c {r0 x:AV} (c:Pure P f args x) (hx:r0=x) (h0:AV.toksL args=[]) (h:K ⟨upd e d x,m⟩):dRes P σs t d r0 (.call f args) K ⟨e,m⟩ :=
 e_call hx c h0 (AV.plainL Zac args h0).1 (AV.plainL Zac args h0).2 h
theorem o_cs {x:AV} {ks:List Nat} {m':Mem} (c:Pure P f args' x) (h0:AV.toksL args=ks) (hm:marks m ks=m') (h1:Ze3 m' args∧Zeo m' args=args') (h:K ⟨upd e d x,m'⟩):aRes P t (some d) (.call f args) K ⟨e,m⟩ :=
 o_calls c h0 hm h1.1 h1.2 h
end
def Ev (p:Prop):Prop:=p
theorem gE {p:Prop} (h:p):Ev p:=h
section
variable {P:Program} {all rest:List Oper} {K:St→Prop} {e:Nat→AV} {m:Mem} {dst:Option Nat} {d t j n:Nat} {op:Op} {ty:TypeId} {pos:String} {af:Array Edge} {r:Res} {want:Bool} {a:AV} {f:FuncId} {args args':List AV} {Q:AE→St→Prop} {x y:Code} {rs:Nat→AV} {bar:List Nat} {fu k:Nat} {σs:Mem} {v:Value}
theorem gx1 (h:Ev (Zag P ⟨e,m⟩ op=r)) (k:aRes P d (some d) r (Za3 P 0 all rest K) ⟨e,m⟩):Za3 P 0 all (⟨some d,op,ty,pos,af,none⟩ :: rest) K ⟨e,m⟩:=o_op h k
theorem gx2 (h:Ev (Zag P ⟨e,m⟩ op=r)) (k:aRes P 0 none r (Za3 P 0 all rest K) ⟨e,m⟩):Za3 P 0 all (⟨none,op,ty,pos,af,none⟩ :: rest) K ⟨e,m⟩:=o_opN h k
theorem gx3 (hg:Ev (Zbe all ⟨e,m⟩ j=.v v)) (h:OG P all rest dst op ty pos af v want K ⟨e,m⟩):Za3 P 0 all (⟨dst,op,ty,pos,af,some (j,want)⟩ :: rest) K ⟨e,m⟩:=o_g hg h
theorem gx4 {k mm pub:Nat} {sv0:Value} {es news:List AV} {ks:List Nat} (hk:Ev (marks m ks k=some (.row sv0 ty mm es pub))) (h:AllV λsv=>K ⟨upd e d (.own k sv),upd (marks m ks) k (some (.row sv ty mm (es++news) pub))⟩) :
 aRes P t (some d) (.app k news ks) K ⟨e,m⟩:=p_app hk h
theorem gx5 {k n mm pub:Nat} {sv0:Value} {es news:List AV} (hk:Ev (m k=some (.row sv0 ty mm es pub))) (h:AllV λsv=>K ⟨upd e d (.own k sv),upd m k (some (.row sv ty mm (es.take n++news) pub))⟩) :
 aRes P t (some d) (.appv k n news) K ⟨e,m⟩:=p_appv hk h
theorem gx6 {o:Operand} {t:Bool} (ht:Ev (St.ev ⟨e,m⟩ o=.v (.bool t))) (h:CG P n t x y Q ⟨e,m⟩):Zav P 0 n (.cond o x y) Q ⟨e,m⟩:=r_c ht h
theorem gx7 {p:Prop} (hp:Ev p) (h:aRes P t dst r K ⟨e,m⟩):aRes P t dst (.need p r) K ⟨e,m⟩:=o_need hp h
theorem gy1 (hb:bar.contains k=false) (ho:all[k]?=some ⟨some d,op,ty,pos,af,none⟩) (hst:Zao op=false) (h:Ev (opS P 0 σs ⟨e,m⟩ op=r)) (hk:dRes P σs d d (rs k) r (Zbh P 0 all rs bar σs fu (k+1) K) ⟨e,m⟩):Zbh P 0 all rs bar σs (fu+1) k K ⟨e,m⟩:=d_op hb ho hst h hk
theorem gyr {x:AV} {L:List (Nat × Ent)} {g:Operand} {aS:Array Operand} {ts:Array TypeId} (c:RdC P L f args x) (hb:bar.contains k=false) (ho:all[k]?=some ⟨some d,.call ⟨.value g,aS,ts⟩,ty,pos,af,none⟩) (h:Ev (Zag P ⟨e,Zac⟩ (.call ⟨.value g,aS,ts⟩)=.call f args)) (hL:Ev (hasAll σs L)) (hx:Ev (rs k=x))
 (hk:Zbh P 0 all rs bar σs fu (k+1) K ⟨upd e d x,m⟩):Zbh P 0 all rs bar σs (fu+1) k K ⟨e,m⟩:=d_read c hb ho h hL hx hk
theorem gwr {x:AV} {L:List (Nat × Ent)} (c:RdC P L f args x) (hL:Ev (hasAll m L)) (h:K ⟨upd e d x,m⟩):aRes P t (some d) (.call f args) K ⟨e,m⟩:=o_rd c hL h
theorem gy2 (hb:bar.contains k=false) (ho:all[k]?=some ⟨some d,op,ty,pos,af,some (j,want)⟩) (hst:Zao op=false) (hg:Ev (Zbe all ⟨e,Zac⟩ j=.v v)) (h:DG P all rs bar σs fu k d op v want K e m):Zbh P 0 all rs bar σs (fu+1) k K ⟨e,m⟩:=d_g hb ho hst hg h
theorem gy3 {t p:Nat} {x:Operand} (hb:bar.contains k=false) (ho:all[k]?=some ⟨none,.store t (.tmp p) x,ty,pos,af,none⟩) (h:Ev (opS P 0 σs ⟨e,m⟩ (.store t (.tmp p) x)=r)) (hk:dSto σs r (Zbh P 0 all rs bar σs fu (k+1) K) ⟨e,m⟩):Zbh P 0 all rs bar σs (fu+1) k K ⟨e,m⟩:=d_sto hb ho h hk
theorem gy4 (hs:says (.v v) want=true) (h:Ev (opS P 0 σs ⟨e,m⟩ op=r)) (hk:dRes P σs d d (rs k) r (Zbh P 0 all rs bar σs fu (k+1) K) ⟨e,m⟩):DG P all rs bar σs fu k d op v want K e m:=dg_y hs h hk
theorem gy5 (hb:bar.contains k=true) (hs:bar.contains (k+1000)=true) (h2:(bar.contains (k+2000) || bar.contains (k+3000))=false) (ho:all[k]?=some ⟨some d,op,ty,pos,af,none⟩) (h:Ev (Zag P ⟨e,m⟩ op=r)) (hkp:Ev (Zb9 σs r)) (hk:aRes P d (some d) r (Zbh P 0 all rs bar σs fu (k+1) K) ⟨e,m⟩):Zbh P 0 all rs bar σs (fu+1) k K ⟨e,m⟩:=d_semi hb hs h2 ho h hkp hk
theorem gy5c (hb:bar.contains k=true) (hs:bar.contains (k+1000)=true) (h3:bar.contains (k+3000)=true) (ho:all[k]?=some ⟨some d,op,ty,pos,af,none⟩) (hn:Ev (Zin 0 e op=true)) (h:Ev (Zag P ⟨e,m⟩ op=r)) (hkp:Ev (Zb9 σs r)) (hk:aRes P d (some d) r (Zbh P 0 all rs bar σs fu (k+1) K) ⟨e,m⟩):Zbh P 0 all rs bar σs (fu+1) k K ⟨e,m⟩:=d_semiC hb hs h3 ho hn h hkp hk
theorem gy6 (hb:bar.contains k=true) (hs:(bar.contains (k+1000) || bar.contains (k+3000))=false) (h2:bar.contains (k+2000)=true) (ho:all[k]?=some ⟨none,op,ty,pos,af,none⟩) (h:Ev (Zag P ⟨e,m⟩ op=r)) (hkp:Ev (Zb9 Zac r)) (hk:aRes P 0 none r (Zbh P 0 all rs bar Zac fu (k+1) K) ⟨e,m⟩):Zbh P 0 all rs bar σs (fu+1) k K ⟨e,m⟩:=d_stay hb hs h2 ho h hkp hk
theorem gy7 {r0:AV} {mm:Nat} {es:List AV} (hs:r0.said=false) (hc:Ev (σs t=none)) (h:AllV λsv=>K ⟨upd e d (.own t sv),upd m t (some (.row sv ty mm es 0))⟩):dRes P σs t d r0 (.row ty mm es []) K ⟨e,m⟩:=q_row hs hc h
theorem gy8 {r0:AV} {cs:List AV} (hc:Ev (σs t=none)) (h:AllV λg=>K ⟨upd e d (.pbox t g 0),upd m t (some (.box g ty cs false))⟩):dRes P σs t d r0 (.box ty cs) K ⟨e,m⟩:=q_box hc h
theorem gy9 {k:Nat} {ent:Ent} (hc:Ev (σs k=none)) (h:K ⟨e,upd m k (some ent)⟩):dSto σs (.sto .u k ent []) K ⟨e,m⟩:=s_sto hc h
theorem gz1 {k:Nat} {ent:Ent} (hc:σs k=some ent) (h:K ⟨e,upd m k (some ent)⟩):dSto σs (.sto .u k ent []) K ⟨e,m⟩:=s_same hc h
theorem gz2 {p:Prop} (hp:Ev p) (h:dSto σs r K ⟨e,m⟩):dSto σs (.need p r) K ⟨e,m⟩:=s_need hp h
theorem gz3 {r0:AV} {p:Prop} (hp:Ev p) (h:dRes P σs t d r0 r K ⟨e,m⟩):dRes P σs t d r0 (.need p r) K ⟨e,m⟩:=e_need hp h
theorem gw0 {x:AV} (c:Pure P f args x) (h0:Ev (AV.toksL args=[])) (h:K ⟨upd e d x,m⟩):aRes P t (some d) (.call f args) K ⟨e,m⟩:=o_c c h0 h
theorem gw3 {r0 x:AV} (c:Pure P f args x) (hx:Ev (r0=x)) (h0:Ev (AV.toksL args=[])) (h:K ⟨upd e d x,m⟩):dRes P σs t d r0 (.call f args) K ⟨e,m⟩:=e_c c hx h0 h
theorem gw1 {x:AV} {ks:List Nat} {m':Mem} (c:Pure P f args' x) (h0:Ev (AV.toksL args=ks)) (hm:Ev (marks m ks=m')) (h1:Ev (Ze3 m' args)) (h2:Ev (Zeo m' args=args')) (h:K ⟨upd e d x,m'⟩):aRes P t (some d) (.call f args) K ⟨e,m⟩:=o_cs c h0 hm ⟨h1,h2⟩ h
end
theorem gC {p:Prop} (h:p:=by(simp (disch:=omega) only [go_sem,↓reduceIte,Nat.reduceAdd,Nat.reduceSub,Nat.reduceMul,Nat.reduceEqDiff,Nat.reduceLT,Nat.reduceLeDiff,Nat.reduceBEq,Int.reduceNeg,Int.reduceLT,Int.reduceLE,Int.reduceEq,reduceCtorEq]<;>repeat' first|rfl|refine⟨?_,?_⟩)):p:=h
theorem gS {p:Prop} (h:p:=by(simp (disch:=omega) only [go_sem,↓reduceIte,Nat.reduceAdd,Nat.reduceSub,Nat.reduceMul,Nat.reduceEqDiff,Nat.reduceLT,Nat.reduceLeDiff,Nat.reduceBEq,Int.reduceNeg,Int.reduceLT,Int.reduceLE,Int.reduceEq,reduceCtorEq,Zbo]<;>repeat' first|rfl|refine⟨?_,?_⟩)):p:=h
theorem gW {q p:Prop} (hq:q) (h:q→p:=by intro h;(simp (disch:=omega) only [go_sem,↓reduceIte,Nat.reduceAdd,Nat.reduceSub,Nat.reduceMul,Nat.reduceEqDiff,Nat.reduceLT,Nat.reduceLeDiff,Nat.reduceBEq,Int.reduceNeg,Int.reduceLT,Int.reduceLE,Int.reduceEq,reduceCtorEq,h]<;>repeat' first | rfl | refine⟨?_,?_⟩)):p:=h hq
theorem gV {q p:Prop} (hq:q) (h:q→p:=by intro h;(simp (disch:=omega) only [go_sem,↓reduceIte,Nat.reduceAdd,Nat.reduceSub,Nat.reduceMul,Nat.reduceEqDiff,Nat.reduceLT,Nat.reduceLeDiff,Nat.reduceBEq,Int.reduceNeg,Int.reduceLT,Int.reduceLE,Int.reduceEq,reduceCtorEq,h,Zbo]<;>repeat' first | rfl | refine⟨?_,?_⟩)):p:=h hq
attribute [go_sem_proc] Nat.reduceAdd Nat.reduceSub Nat.reduceMul Nat.reduceEqDiff Nat.reduceLT Nat.reduceLeDiff Nat.reduceBEq Int.reduceNeg Int.reduceLT Int.reduceLE Int.reduceEq reduceCtorEq
attribute [go_sem_proc ↓] reduceIte
attribute [bool_to_prop] Bool.if_false_right Bool.if_true_left Bool.if_false_left Bool.if_true_right Bool.and_eq_true Bool.or_eq_true Bool.and_eq_false_imp Bool.or_eq_false_iff decide_eq_true_eq decide_eq_false_iff_not beq_iff_eq bne_iff_ne beq_eq_false_iff_ne bne_eq_false_iff_eq Bool.not_eq_true' Bool.not_eq_false' ne_eq Decidable.not_not Int.not_lt Int.not_le
theorem gL {p:Prop} (h:p:=by((all_goals (try simp (disch:=omega) only [go_sem,Zyo,Zyl,Zyk,Zyj,Int.reduceAdd,Int.reduceSub,Int.reduceToNat,Zyw]));(all_goals first|done|rfl|(congr 2;first|done|omega|(rw [Zzg];simp only [bool_to_prop,Zyy,Zzn,Zzo,Zzp,Zzq];omega))|skip))):p:=h
end
end Go.Pg
