/- Contracts of the functions that the law reaches, and the rules by which they are walked. They say what a call hands back for every input within the bounds that each names; no other condition. -/
import Derived.Test.YtimmnimikmnljaaGreatBd2
set_option linter.unusedSimpArgs false
set_option linter.unusedVariables false
set_option maxRecDepth 20000
set_option maxHeartbeats 16000000
namespace Go.Pg
open Go Go.RowKit
section
variable {P:Program} {c:Cx} {n tok:Nat} {st:St} {a:Act} {w:World} {imm:Imm} {K:St→Prop} {o:Oper} {Q:Exit→Act→World→Prop}
theorem s_nil {x:Operand} (h:Rel c n st a w imm) (hd:∀d,o.dst=some d→d < n) (hK:aRes P tok o.dst (Zku (st.ev x)) K st) (ho:o.op=.nilCheck x) :
 o.upon P a (Zcc c n K) Q ((execOp a.eval o).run P w):=by
 have hx:=h.ev x;unfold Zku at hK;split at hK
 ·rename_i cs he;rw [he] at hx;obtain⟨ad,f,hv,_⟩:=hx.pimm_inv;simp only [execOp,ho,hv,Sem.run_pure];exact Zc2 h hd hK λ_ _ hk=>hk.rs (hv ▸ hx)
 ·rename_i k g off he;rw [he] at hx;have hv:=hx.pbox_inv;simp only [execOp,ho,hv,Sem.run_pure];exact Zc2 h hd hK λ_ _ hk=>hk.rs (hv ▸ hx)
 ·rename_i k sv m i off he;rw [he] at hx;obtain⟨g,nn,cc,e1,hv⟩:=hx.prow_inv;simp only [execOp,ho,hv,Sem.run_pure];exact Zc2 h hd hK λ_ _ hk=>hk.rs (hv ▸ hx)
 ·rename_i f cs he;rw [he] at hx;obtain⟨vs,hv,_⟩:=hx.fn_inv;simp only [execOp,ho,hv,Sem.run_pure];exact Zc2 h hd hK λ_ _ hk=>hk.rs (hv ▸ hx)
 ·exact hK.elim
theorem run_box {e:TypeId} {z:Value}:(Instr.box e z).run P w=.ok (.pointer (some ⟨w.heap.size,0,none⟩)) (w.alloc (.cells z.cells e)):=by
 simp only [Instr.box,newVar,newRow,Sem.run_bind,run_newObj,Result.andThen_ok,Sem.run_pure];rfl
theorem Zdo (h:Rel c n st a w imm) (hd:∀d,o.dst=some d→d < n) (hK:aRes P tok o.dst (Zal P st o.op) K st):o.wp P a w (Zcc c n K) Q:=by
 unfold Oper.wp;have same:∀{x:Operand},aRes P tok o.dst (.val (st.ev x) []) K st→o.upon P a (Zcc c n K) Q (.ok (.value (a.eval x)) w):=λhK=>Zc2 h hd hK λ_ _ hk=>hk.rs (h.ev _)
 cases ho:o.op with
 | move x=>simp only [Zal,ho] at hK;simp only [execOp,ho,Sem.run_pure];exact same hK
 | assign x=>simp only [Zal,ho] at hK;simp only [execOp,ho,Sem.run_pure];exact same hK
 | pick cc x y =>
   simp only [Zal,ho,Zjc] at hK;split at hK
   ·rename_i t hc;have hcv:=h.ev cc;rw [hc] at hcv;have hv:=hcv.v_inv
    have hrun:(execOp a.eval o).run P w=.ok (.value (if t then a.eval x else a.eval y)) w:=by
     simp only [execOp,ho,hv,asBool,Sem.run_bind,Sem.run_pure,Result.andThen_ok]
    rw [hrun];unfold Zsw at hK;split at hK
    ·rename_i p q hp hq;have e1:=h.ev x;rw [hp] at e1;have e2:=h.ev y;rw [hq] at e2;refine Zc2 h hd hK λ_ _ hk=>?_;rw [e1.v_inv,e2.v_inv];cases t<;>exact .pure (.v _)
    ·refine Zc2 h hd hK λ_ _ hk=>?_;cases t
     ·exact hk.rs (h.ev y)
     ·exact hk.rs (h.ev x)
   ·exact hK.elim
 | alloc e =>
   simp only [Zal,ho,aZero] at hK
   cases hz:Zb4 P e with
   | none=>rw [hz] at hK;exact hK.elim
   | some z =>
     rw [hz] at hK;obtain⟨hok,hK⟩:=hK;obtain⟨hl,hr,h1⟩:=(Zqf w imm z).cells_of hok
     have hrun:(execOp a.eval o).run P w=.ok (.value (.pointer (some ⟨w.heap.size,0,none⟩))) (w.alloc (.cells z.cells e)):=by
      simp only [execOp,ho,Instr.alloc,Sem.run_bind,Zcy hz,Result.andThen_ok,newVar,newRow,run_newObj,Sem.run_pure];rfl
     rw [hrun];exact Zpq h hd hK hl h1 hr
 | box e x =>
   simp only [Zal,ho] at hK;obtain⟨hok,hK⟩:=hK;obtain⟨hl,hr,h1⟩:=(h.ev x).cells_of hok
   have hrun:(execOp a.eval o).run P w=.ok (.value (.pointer (some ⟨w.heap.size,0,none⟩))) (w.alloc (.cells (a.eval x).cells e)):=by
    simp only [execOp,ho,Sem.run_bind,run_box,Result.andThen_ok,Sem.run_pure]
   rw [hrun];exact Zpq h hd hK hl h1 hr
 | build t parts=>simp only [Zal,ho] at hK;simp only [execOp,ho];exact s_build h hd hK
 | buildSlice t len parts=>simp only [Zal,ho] at hK;simp only [execOp,ho];exact Zmv h hd hK
 | load t x=>simp only [Zal,ho] at hK;simp only [execOp,ho];exact s_load h hd hK (h.ev x)
 | store t p x=>simp only [Zal,ho] at hK;simp only [execOp,ho];exact s_store h hd hK (h.ev p) (h.ev x)
 | nilCheck x=>simp only [Zal,ho] at hK;exact s_nil h hd hK ho
 | binOp op t x y u=>simp only [Zal,ho] at hK;simp only [execOp,ho];exact s_bin h hd hK (h.ev x) (h.ev y)
 | unOp op t x=>simp only [Zal,ho] at hK;simp only [execOp,ho];exact s_un h hd hK (h.ev x)
 | convert s d x=>simp only [Zal,ho] at hK;simp only [execOp,ho];exact s_conv h hd hK (h.ev x)
 | makeFunc fn first caps =>
   simp only [Zal,ho] at hK
   cases fn with
   | func f =>
     obtain⟨h0,hK⟩:=hK
     have hf:first=#[]:=by
      have:first.toList=[]:=List.eq_nil_of_length_eq_zero h0
      rw [←Array.toArray_toList (xs:=first),this]
     obtain⟨hal,har⟩:=Ztx (xs:=caps) h
     have hrun:(execOp a.eval o).run P w=.ok (.value (.func (.func f) #[] (caps.map a.eval))) w:=by
      simp only [execOp,ho,Instr.makeFunc,Sem.run_bind,Sem.run_pure,Result.andThen_ok,hf,Array.map_empty]
     rw [hrun];exact Zc2 h hd hK λ_ _ hk=>hk.rs (.fn f _ _ hal har)
   | _=>exact hK.elim
 | makeSlice t l cp=>simp only [Zal,ho] at hK;simp only [execOp,ho];exact s_make h hd hK (h.ev l) (h.ev cp)
 | slice t x lo hi mx=>simp only [Zal,ho] at hK;simp only [execOp,ho];exact s_slice h hd hK
 | fieldAddr s x f=>simp only [Zal,ho] at hK;simp only [execOp,ho];exact s_field h hd hK (h.ev x)
 | field s x f =>
   simp only [Zal,ho] at hK;simp only [execOp,ho];split at hK
   ·rename_i fields cs hu hx;split at hK
    ·rename_i fd hf;have hxv:=h.ev x;rw [hx] at hxv;obtain⟨vs,hv,hl,hr⟩:=hxv.agg_inv
     have e1:(Instr.field s (a.eval x) f).run P w=(part fd.type vs fd.offset).run P w:=by
      simp only [Instr.field,Sem.run_bind,run_underlying hu,Result.andThen_ok,hf,hv,asAgg,Sem.run_pure]
     have:=Zie (o:=o) (Q:=Q) h hd hK hl hr;simp only [Sem.run_bind] at this ⊢;rw [e1];exact this
    ·exact hK.elim
   ·exact hK.elim
 | indexAddr t x i=>simp only [Zal,ho] at hK;simp only [execOp,ho];exact Zoj h hd hK (h.ev x) (h.ev i)
 | index t x i=>simp only [Zal,ho] at hK;simp only [execOp,ho];exact s_index h hd hK (h.ev x) (h.ev i)
 | extract x i =>
   simp only [Zal,ho] at hK;split at hK
   ·rename_i cs hx;split at hK
    ·rename_i b hb;have hxv:=h.ev x;rw [hx] at hxv;obtain⟨vs,hv,hl,hr⟩:=hxv.tup_inv;have hlt:i < vs.size:=by rw [←hl];exact Zby hb
     have hrun:(execOp a.eval o).run P w=.ok (.value vs[i]) w:=by
      simp only [execOp,ho,Instr.extract,hv,Array.getElem?_eq_getElem hlt,Sem.run_bind,Sem.run_pure,Result.andThen_ok]
     rw [hrun];exact Zc2 h hd hK λ_ _ hk=>hk.rs (hr i b _ hb (Array.getElem?_eq_getElem hlt))
    ·exact hK.elim
   ·exact hK.elim
 | makeInterface t x =>
   simp only [Zal,ho] at hK
   cases hu:P.underlying t with
   | none=>rw [hu] at hK;exact hK.elim
   | some d =>
     rw [hu] at hK
     have hrun:∀(hd:∀ms,d≠.interface ms),(execOp a.eval o).run P w=.ok (.value (.iface t (a.eval x))) w:=by
      intro hdd;simp only [execOp,ho,Instr.makeInterface,Sem.run_bind,run_underlying hu,Result.andThen_ok];cases d<;>first
       | exact absurd rfl (hdd _)
       | simp only [Sem.run_pure,Result.andThen_ok]
     cases d<;>first
      | exact hK.elim
      | (rw [hrun (λ_ h=>by cases h)]
         exact Zc2 h hd hK λ_ _ hk=>.ifc t _ _ (hk.rs (h.ev x)))
 | makeMap t r =>
   cases r with
   | none =>
     simp only [Zal,ho] at hK
     have hrun:(execOp a.eval o).run P w=.ok (.value (.map (some w.heap.size))) (w.alloc (.map #[] 0)):=by
      simp only [execOp,ho];rfl
     rw [hrun];exact Zr2 h hd hK
   | some r=>simp only [Zal,ho] at hK;exact hK.elim
 | lookup t m k ok=>simp only [Zal,ho] at hK;simp only [execOp,ho];exact s_lookup h hd hK
 | mapUpdate t m k x=>simp only [Zal,ho] at hK;simp only [execOp,ho];exact Zoi h hd hK
 | call cl=>simp only [Zal,ho] at hK;simp only [execOp,ho];exact s_call h hd hK
 | _=>simp only [Zal,ho] at hK;exact hK.elim
end
def Zjw:AV→Prop
 | .v _=>True
 | _=>False
def says:AV→Bool→Bool
 | .v (.bool b),w=>b == w
 | _,_=>false
def Zbj (all:List Oper) (st:St) (j:Nat):AV :=
 match (all[j]?).bind (·.dst) with
 | some d=>st.env d
 | none=>.u
def Zbk (P:Program) (tok:Nat) (all:List Oper):List Oper→(St→Prop)→St→Prop
 | [],K,st=>K st
 | o :: r,K,st=>match o.guard with
   | none=>aRes P (tok+o.dst.getD 0) o.dst (Zal P st o.op) (Zbk P tok all r K) st
   | some (j,want)=>Zjw (Zbj all st j)∧if says (Zbj all st j) want=true then aRes P (tok+o.dst.getD 0) o.dst (Zal P st o.op) (Zbk P tok all r K) st else Zbk P tok all r K (st.put o.dst (.v (.tuple #[])))
theorem Zue {P:Program} {tok:Nat} {all:List Oper} {K:St→Prop} {st:St}:Zbk P tok all [] K st=K st:=rfl
theorem Zec {P:Program} {tok:Nat} {all:List Oper} {K:St→Prop} {st:St} {d:Option Tmp} {op:Op} {t:TypeId} {pos:String} {af:Array Edge} {r:List Oper} :
 Zbk P tok all (⟨d,op,t,pos,af,none⟩ :: r) K st=aRes P (tok+d.getD 0) d (Zal P st op) (Zbk P tok all r K) st:=rfl
theorem Zk5 {P:Program} {tok:Nat} {all:List Oper} {K:St→Prop} {st:St} {d:Option Tmp} {op:Op} {t:TypeId} {pos:String} {af:Array Edge} {r:List Oper} {j:Nat} {want:Bool} :
 Zbk P tok all (⟨d,op,t,pos,af,some (j,want)⟩ :: r) K st=(Zjw (Zbj all st j)∧if says (Zbj all st j) want=true then aRes P (tok+d.getD 0) d (Zal P st op) (Zbk P tok all r K) st else Zbk P tok all r K (st.put d (.v (.tuple #[])))):=rfl
def Zfv (n:Nat) (o:Oper):Bool:=o.dst.all (λd=>decide (d < n))
inductive AE where
 | normal
 | exit (id:Nat)
 | ret
def AE.to:AE→Exit
 | .normal=>.normal
 | .exit id=>.exit id
 | .ret=>.ret
def post (c:Cx) (n:Nat) (Q:AE→St→Prop):Exit→Act→World→Prop:=λe a w=>∃ae st imm,e=ae.to∧Q ae st∧Rel c n st a w imm
def AWP (P:Program) (n:Nat) (code:Code) (Q:AE→St→Prop) (st:St):Prop:=∀(c:Cx) (a:Act) (w:World) (imm:Imm),Rel c n st a w imm→code.wp P (post c n Q) a w
section
variable {P:Program} {c:Cx} {n tok:Nat}
theorem Zhg (all:List Oper) {Q:AE→St→Prop}:∀(l:List Oper) (st:St) (a:Act) (w:World) (imm:Imm),Rel c n st a w imm→l.all (Zfv n)=true→Zbk P tok all l (Q .normal) st→wpList P all.toArray (post c n Q) l a w
 | [],st,a,w,imm,h,_,hK=>⟨.normal,st,imm,rfl,hK,h⟩
 | o :: r,st,a,w,imm,h,hf,hK=>by
   simp only [List.all_cons,Bool.and_eq_true] at hf
   have hd:∀d,o.dst=some d→d < n:=by
    intro d hdd;have:=hf.1;rw [Zfv,hdd] at this
    simpa using this
   have yes:aRes P (tok+o.dst.getD 0) o.dst (Zal P st o.op) (Zbk P tok all r (Q .normal)) st→o.wp P a w (wpList P all.toArray (post c n Q) r) (post c n Q):=λhy =>
    Oper.wp_mono (λa' w' hg=>by
     obtain⟨st',imm',hk,hr⟩:=hg;exact Zhg all r st' a' w' imm' hr hf.2 hk) (Zdo h hd hy)
   have no:Zbk P tok all r (Q .normal) (st.put o.dst (.v (.tuple #[])))→wpList P all.toArray (post c n Q) r (a.put o.dst undef) w:=λhn =>
    Zhg all r _ _ w imm (h.step (Keeps.refl _ _) h.mem hd (.pure (.v _))) hf.2 hn
   unfold wpList;unfold Zbk at hK
   cases hg:o.guard with
   | none =>
     rw [hg] at hK;rw [if_pos (by simp [Region.wanted,hg])];exact .inl (yes hK)
   | some jw =>
     obtain⟨j,want⟩:=jw;rw [hg] at hK;simp only at hK;obtain⟨hB,hK⟩:=hK;unfold Zbj at hB hK;split at hB
     ·rename_i d hdj;rw [hdj] at hK;simp only at hK
      cases hb:st.env d with
      | v x =>
        have hv:=h.env d;rw [hb] at hv;have hv:=hv.v_inv;have hdj':((all.toArray[j]?).bind (·.dst))=some d:=by simpa using hdj
        by_cases hx:∃b,x=.bool b
        ·obtain⟨b,rfl⟩:=hx
         have hlt:d < a.tmps.size:=by
          rcases Nat.lt_or_ge d a.tmps.size with h1 | h1
          ·exact h1
          ·rw [Array.getD_eq_getD_getElem?,Array.getElem?_eq_none h1] at hv;simp [undef] at hv
         have hget:a.tmps[d]?=some (.bool b):=by
          rw [Array.getElem?_eq_getElem hlt];rw [Array.getD_eq_getD_getElem?,Array.getElem?_eq_getElem hlt] at hv
          simpa using hv
         have hy:yielded all.toArray a.tmps j=some b:=by
          unfold yielded;rw [hdj'];simp [hget]
         have hbo:says (st.env d) want=(b == want):=by rw [hb];rfl
         by_cases hbw:b=want
         ·rw [if_pos (by simp [Region.wanted,hg,hy,hbw])];rw [if_pos (by rw [hbo,hbw];simp)] at hK;exact .inl (yes hK)
         ·rw [if_neg (by simp [Region.wanted,hg,hy,hbw])];rw [if_neg (by rw [hbo];simpa using hbw)] at hK;exact no hK
        ·have hy:yielded all.toArray a.tmps j=none:=by
          unfold yielded;rw [hdj'];simp only [Option.bind_some];rcases ht:a.tmps[d]? with _ | y
          ·rfl
          ·rw [Array.getD_eq_getD_getElem?,ht] at hv;simp only [Option.getD_some] at hv;subst hv;split
           ·rename_i b heq;simp only [Option.some.injEq] at heq;exact absurd ⟨b,heq⟩ hx
           ·rfl
         have hbo:says (st.env d) want=false:=by
          rw [hb];cases x<;>first|rfl|exact absurd ⟨_,rfl⟩ hx
         rw [if_neg (by simp [Region.wanted,hg,hy])];rw [if_neg (by rw [hbo];simp)] at hK;exact no hK
      | _=>rw [hb] at hB;exact hB.elim
     ·exact hB.elim
def Zbx (n:Nat):Code→Bool
 | .region _ ops _=>ops.toList.all (Zfv n)
 | .seq x y=>Zbx n x && Zbx n y
 | .cond _ x y=>Zbx n x && Zbx n y
 | .block _ x=>Zbx n x
 | .loop x=>Zbx n x
 | _=>true
def AE.inBlock (id:Nat) (Q:AE→St→Prop):AE→St→Prop
 | .exit i,st=>if i=id then Q .normal st else Q (.exit i) st
 | .normal,st=>Q .normal st
 | .ret,st=>Q .ret st
def AE.then (next:St→Prop) (Q:AE→St→Prop):AE→St→Prop
 | .normal,st=>next st
 | .exit i,st=>Q (.exit i) st
 | .ret,st=>Q .ret st
def Za8 (P:Program) (tok n:Nat):Code→(AE→St→Prop)→St→Prop
 | .skip,Q,st=>Q .normal st
 | .region id ops false,Q,st=>Zbk P tok ops.toList ops.toList (Q .normal) st
 | .seq x y,Q,st=>Za8 P tok n x (AE.then (Za8 P tok n y Q) Q) st
 | .cond o x y,Q,st=>match st.ev o with
   | .v (.bool t)=>(t=true→Za8 P tok n x Q st)∧(t=false→Za8 P tok n y Q st)
   | _=>False
 | .block id x,Q,st=>Za8 P tok n x (AE.inBlock id Q) st
 | .exit id,Q,st=>Q (.exit id) st
 | .ret,Q,st=>Q .ret st
 | code,Q,st=>AWP P n code Q st
theorem Zb6:∀(code:Code) (Q:AE→St→Prop) (st:St),Zbx n code=true→Za8 P tok n code Q st→AWP P n code Q st
 | .skip,Q,st,_,h=>λc a w imm hr=>wp_skip ⟨.normal,st,imm,rfl,h,hr⟩
 | .region id ops false,Q,st,hf,h=>λc a w imm hr=>by
   have:=Zhg (c:=c) ops.toList ops.toList st a w imm hr hf h;simp only [Array.toArray_toList] at this;exact wp_region_list this
 | .seq x y,Q,st,hf,h=>λc a w imm hr=>by
   simp only [Zbx,Bool.and_eq_true] at hf;refine wp_seq (Code.wp_mono (λe a' w' hp=>?_) (Zb6 x _ st hf.1 h c a w imm hr));obtain⟨ae,st',imm',rfl,h2,h3⟩:=hp
   cases ae with
   | normal=>exact Zb6 y _ st' hf.2 h2 c a' w' imm' h3
   | exit id=>exact⟨.exit id,st',imm',rfl,h2,h3⟩
   | ret=>exact⟨.ret,st',imm',rfl,h2,h3⟩
 | .cond o x y,Q,st,hf,h=>λc a w imm hr=>by
   simp only [Zbx,Bool.and_eq_true] at hf;simp only [Za8] at h;split at h
   ·rename_i t ht;have hv:=hr.ev o;rw [ht] at hv;exact wp_cond_split hv.v_inv (λe=>Zb6 x _ st hf.1 (h.1 e) c a w imm hr) (λe=>Zb6 y _ st hf.2 (h.2 e) c a w imm hr)
   ·exact h.elim
 | .block id x,Q,st,hf,h=>λc a w imm hr=>by
   refine wp_block (Code.wp_mono (λe a' w' hp=>?_) (Zb6 x _ st hf h c a w imm hr));obtain⟨ae,st',imm',rfl,h2,h3⟩:=hp
   cases ae with
   | normal=>exact⟨.normal,st',imm',rfl,h2,h3⟩
   | exit i =>
     simp only [AE.inBlock] at h2;by_cases hi:i=id
     ·rw [if_pos hi] at h2;simp only [AE.to,Exit.inBlock,hi,if_true];exact⟨.normal,st',imm',rfl,h2,h3⟩
     ·rw [if_neg hi] at h2;simp only [AE.to,Exit.inBlock,hi,if_false];exact⟨.exit i,st',imm',rfl,h2,h3⟩
   | ret=>exact⟨.ret,st',imm',rfl,h2,h3⟩
 | .exit id,Q,st,_,h=>λc a w imm hr=>wp_exit ⟨.exit id,st,imm,rfl,h,hr⟩
 | .ret,Q,st,_,h=>λc a w imm hr=>wp_ret ⟨.ret,st,imm,rfl,h,hr⟩
 | .region id ops true,Q,st,_,h=>h
 | .loop x,Q,st,_,h=>h
 | .rangeFunc ..,Q,st,_,h=>h
 | .scope x,Q,st,_,h=>h
 | .label l,Q,st,_,h=>h
 | .goto l,Q,st,_,h=>h
 | .refuse y,Q,st,_,h=>h
theorem awp_loop {ι:Type} {body:Code} {Q:AE→St→Prop} (I:ι→St→Prop) (μ:ι→Nat) (hf:Zbx n body=true)
 (round:∀i st,I i st→Za8 P tok n body (AE.then (λst'=>∃i',I i' st'∧μ i' < μ i) Q) st) {i:ι} {st:St} (h0:I i st):AWP P n (.loop body) Q st:=by
 intro c a w imm hr b k cs;have key:∀m i st a w imm,μ i=m→I i st→Rel c n st a w imm →
  ∃e a' w',post c n Q e a' w'∧Arrives P (lone (b.at a (.code body :: .inLoop body :: k)) cs w) b k cs e a' w':=by
  intro m
  induction m using Nat.strongRecOn with
  | _ m ih =>
    intro i st a w imm hm hI hr;obtain⟨e,a₁,w₁,hq,harr⟩:=Zb6 body _ st hf (round i st hI) c a w imm hr b (.inLoop body :: k) cs;obtain⟨ae,st',imm',rfl,h2,h3⟩:=hq
    cases ae with
    | normal =>
      obtain⟨i',hI',hlt⟩:=h2;obtain⟨e₂,a₂,w₂,hq₂,harr₂⟩:=ih (μ i') (hm ▸ hlt) i' st' a₁ w₁ imm' rfl hI' h3;exact⟨e₂,a₂,w₂,hq₂,.of_steps (Steps.trans harr (.one step_inLoop)) harr₂⟩
    | exit id=>exact⟨_,a₁,w₁,⟨.exit id,st',imm',rfl,h2,h3⟩,.pass (x:=.inLoop body) rfl (λ_ _=>.inl (by simp [AE.to])) harr⟩
    | ret=>exact⟨_,a₁,w₁,⟨.ret,st',imm',rfl,h2,h3⟩,.pass (x:=.inLoop body) rfl (λ_ _=>.inl (by simp [AE.to])) harr⟩
 obtain⟨e,a',w',hq,harr⟩:=key _ i st a w imm rfl h0 hr;exact⟨e,a',w',hq,.of_steps (.one step_loop) harr⟩
end
def Pure (P:Program) (f:FuncId) (args:List AV) (r:AV):Prop :=
 (∀(vs:Array Value) (w:World),(callFunc f vs).run P w=.ok (.enter f vs) w) ∧
 ∀(w:World) (imm:Imm) (vs:Array Value),(∀ad,imm ad→ad.block < w.heap.size∧ad.spot=none)→args.length=vs.size→(∀(j:Nat) (a:AV) (x:Value),args[j]?=some a→vs[j]?=some x→Rd w imm a x) →
  Calls P f vs w λe w'=>∃x imm',e=.returned x∧Rd w' imm' r x∧(∀ad,imm ad→imm' ad)∧(∀ad,imm' ad→(imm ad∨w.heap.size≤ad.block)∧ad.block < w'.heap.size∧ad.spot=none)∧Below w.heap.size w w'
theorem Zbe {P:Program} {f:FuncId} {args args':List AV} {r:AV} {σ:Mem} {R:AV→Mem→Prop} (h:Pure P f args' r) (ho:Zdv (marks σ (AV.toksL args)) args) (ha:Zdt (marks σ (AV.toksL args)) args=args')
 (hR:R r (marks σ (AV.toksL args))):ACall P f args σ R:=by
 refine⟨h.1,λc w imm vs hm hl hr=>?_⟩;obtain⟨i1,hm1,hk1⟩:=Zdp (AV.toksL args) hm;refine(h.2 w i1 vs (λad h1=>⟨hm1.ok.lt ad h1,hm1.ok.spot ad h1⟩) (by rw [←ha,Zca];exact hl) λj a x h1 h2=>?_).mono λe w' he=>?_
 ·rw [←ha] at h1;obtain⟨b,hb,rfl⟩:=Zex j a h1;exact Zhp hm1 (hk1.rs (hr j b x hb h2)) (Zdu ho j b hb)
 ·obtain⟨x,i2,rfl,hrd,hi,hn,hb⟩:=he;have hg:w.grownBy w' none:=⟨hb.os,hb.tape,hb.output,hb.size,λk hk _=>hb.block k hk⟩;have hcell:∀ad,i1 ad→w'.cell? ad=w.cell? ad:=λad h1=>hb.cell (hm1.ok.lt ad h1);refine⟨r,_,i2,x,rfl,hR,.pure hrd,⟨⟨λk e hk=>?_,hm1.ok.apart,λad h1=>(hn ad h1).2.1,λad h1=>(hn ad h1).2.2⟩,hm1.below.trans (hb.mono hm1.lt),Nat.le_trans hm1.lt hb.size,λad h1=>hi _ (hm1.old ad h1),λad h1=>?_,λad h1=>(hcell ad (hm1.old ad h1)).trans (hm1.cells ad h1)⟩,
   hk1.trans λad h1=>⟨hi ad h1,hcell ad h1⟩⟩
  ·refine(hm1.ok.ent k e hk).keep hg ?_ hi hcell λad h1=>?_
   ·rcases hbk:e.blk with _ | b
    ·exact .inl rfl
    ·exact .inr (by simp)
   ·rcases (hn ad h1).1 with h2 | h2
    ·exact .inl h2
    ·refine .inr λh3=>?_;have:=((hm1.ok.ent k e hk).blk_lt h3).2;omega
  ·rcases (hn ad h1).1 with h2 | h2
   ·exact hm1.new ad h2
   ·exact .inr (Nat.le_trans hm1.lt h2)
def resK:Res→(AV→Prop)→Prop
 | .val x [],K=>K x
 | .need p r,K=>p∧resK r K
 | _,_=>False
def Zp3 (P:Program) (st:St):ResultVar→(AV→Prop)→Prop
 | .tmp t,K=>K (st.env t)
 | .cell a t,K=>resK (Zc6 P st t (st.env a)) K
def Zlj (P:Program) (st:St):List ResultVar→(List AV→Prop)→Prop
 | [],K=>K []
 | v :: r,K=>Zp3 P st v λa=>Zlj P st r λaS=>K (a :: aS)
def Zli (P:Program) (st:St) (rs:List ResultVar) (K:AV→Prop):Prop :=
 Zlj P st rs λaS=>K (match aS with | [a]=>a | aS=>.tup aS)
section
variable {P:Program} {c:Cx} {n tok:Nat} {st:St} {a:Act} {w:World} {imm:Imm}
theorem Zd9 {t:TypeId} {cs:List AV} {ad:Addr} {K:AV→Prop} (hK:resK (Zg1 P t cs) K) (hc:CellsAt w imm ad cs):∃y b,(loadVar t ad).run P w=.ok y w∧K b∧Rs w imm b y:=by
 unfold Zg1 at hK
 cases hu:P.underlying t with
 | none=>rw [hu] at hK;exact hK.elim
 | some d =>
   rw [hu] at hK
   have hag:(isAgg t).run P w=.ok (Zgb d) w:=by
    simp only [isAgg,Sem.run_bind,run_underlying hu,Result.andThen_ok];cases d<;>rfl
   cases hb:Zgb d with
   | false =>
     rw [hb] at hag;simp only [hb,Bool.false_eq_true,if_false] at hK
     cases cs with
     | nil=>exact hK.elim
     | cons x r =>
       obtain⟨y,hy,hr⟩:=hc 0 x rfl;have:ad.add 0=ad:=by simp [Addr.add]
       rw [this] at hy;exact⟨y,x,by simp [loadVar,hag,hy],hK,hr⟩
   | true =>
     rw [hb] at hag;simp only [hb,if_true] at hK;unfold Zh1 at hK
     cases hs:szOf P t with
     | none=>rw [hs] at hK;exact hK.elim
     | some k =>
       rw [hs] at hK;obtain⟨hle,hK⟩:=hK
       have hex:∀j,j < k→∃x,w.cell? (ad.add j)=some x∧∀b,cs[j]?=some b→Rs w imm b x:=by
        intro j hj;obtain⟨x,h1,h2⟩:=hc j cs[j] (List.getElem?_eq_getElem (by omega));exact⟨x,h1,λb hb=>by rw [List.getElem?_eq_getElem (by omega)] at hb;simp only [Option.some.injEq] at hb;exact hb ▸ h2⟩
       let f:Nat→Value:=λj=>(w.cell? (ad.add j)).getD undef
       have hf:∀j,j < k→w.cell? (ad.add j)=some (f j):=by
        intro j hj;obtain⟨x,h1,_⟩:=hex j hj;simp [f,h1]
       have hl:=run_loadCells (P:=P) w ad k f hf;refine⟨.agg ((List.range k).map f).toArray,_,by simp [loadVar,hag,Zba hs,hl],hK,.agg _ _ (by simp [hle]) λj b x h1 h2=>?_⟩;rw [List.getElem?_take] at h1;split at h1
       ·rename_i hj;obtain⟨y,h3,h4⟩:=hex j hj
        have:f j=x:=by
         have h2':((List.range k).map f)[j]?=some x:=by simpa using h2
         simpa [List.getElem?_map,List.getElem?_range hj] using h2'
        rw [←this];simp only [f,h3,Option.getD_some];exact h4 b h1
       ·cases h1
def Zok (a:Act):ResultVar→Sem Value
 | .tmp t=>pure (a.tmps.getD t undef)
 | .cell x t=>do loadVar t (←asAddr (a.tmps.getD x undef))
theorem Zq8 {rv:ResultVar} {K:AV→Prop} (h:Rel c n st a w imm) (hK:Zp3 P st rv K) :
 ∃y b,(Zok a rv).run P w=.ok y w∧K b∧Rs w imm b y:=by
 cases rv with
 | tmp t=>exact⟨_,_,rfl,hK,h.env t⟩
 | cell x t =>
   simp only [Zp3] at hK;have hx:=h.env x
   cases hxx:st.env x with
   | pbox k g off =>
     rw [hxx] at hK hx;have hv:=hx.pbox_inv;simp only [Zok,hv];unfold Zc6 at hK;simp only at hK
     cases hk:st.mem k with
     | none=>simp only [hk] at hK;exact hK.elim
     | some e =>
       cases e with
       | row=>simp only [hk] at hK;exact hK.elim
       | map=>simp only [hk] at hK;exact hK.elim
       | box g' e cs pub =>
         simp only [hk] at hK;obtain⟨rfl,hK⟩:=hK;have hca:=(Zkb h.mem hk).drop off;rw [Addr.add_lit,Nat.zero_add] at hca;obtain⟨y,b,h1,h2,h3⟩:=Zd9 hK hca;exact⟨y,b,by simp only [asAddr,Sem.run_bind,Sem.run_pure,Result.andThen_ok];exact h1,h2,h3⟩
   | pimm cs =>
     rw [hxx] at hK hx;obtain⟨ad,f,hv,h1,h2⟩:=hx.pimm_inv;simp only [Zok,hv];obtain⟨y,b,h3,h4,h5⟩:=Zd9 (ad:=ad) hK λj b hb=>⟨f j,(h1 j (Zby hb)).2,.pure (h2 j b hb)⟩;exact⟨y,b,by simp only [asAddr,Sem.run_bind,Sem.run_pure,Result.andThen_ok];exact h3,h4,h5⟩
   | prow k sv m i off =>
     rw [hxx] at hK hx;obtain⟨g,nn,cc,e1,hv⟩:=hx.prow_inv;subst e1;simp only [Zok,hv];unfold Zc6 at hK;simp only at hK
     cases hk:st.mem k with
     | none=>simp only [hk] at hK;exact hK.elim
     | some e =>
       cases e with
       | box=>simp only [hk] at hK;exact hK.elim
       | map=>simp only [hk] at hK;exact hK.elim
       | row sv' e m' es pub =>
         simp only [hk] at hK;obtain⟨⟨rfl,rfl,hi⟩,hK⟩:=hK;have hca:=(Zi6 h.mem hk hi).drop off;rw [Addr.add_lit] at hca;obtain⟨y,b,h1,h2,h3⟩:=Zd9 hK hca;exact⟨y,b,by simp only [asAddr,Sem.run_bind,Sem.run_pure,Result.andThen_ok];exact h1,h2,h3⟩
   | _=>rw [hxx] at hK;exact hK.elim
theorem Zi7:∀(rs:List ResultVar) {K:List AV→Prop},Rel c n st a w imm→Zlj P st rs K →
 ∃ys bs,(rs.mapM λrv=>Zok a rv).run P w=.ok ys w∧K bs∧bs.length=ys.length ∧
  ∀(j:Nat) (b:AV) (y:Value),bs[j]?=some b→ys[j]?=some y→Rs w imm b y
 | [],K,h,hK=>⟨[],[],rfl,hK,rfl,by simp⟩
 | rv :: rs,K,h,hK=>by
   obtain⟨y,b,h1,h2,h3⟩:=Zq8 h hK;obtain⟨ys,bs,h4,h5,h6,h7⟩:=Zi7 rs h h2;refine⟨y :: ys,b :: bs,?_,h5,by simp [h6],λj b' y' hb hy=>?_⟩
   ·rw [List.mapM_cons];simp only [Sem.run_bind,h1,h4,Result.andThen_ok,Sem.run_pure]
   ·match j with
    | 0=>simp at hb hy;subst hb;subst hy;exact h3
    | j+1=>exact h7 j b' y' (by simpa using hb) (by simpa using hy)
theorem Zsl {fn:Func} {rs:List ResultVar} {K:AV→Prop} (hrs:fn.results=rs.toArray) (h:Rel c n st a w imm) (hK:Zli P st rs K):∃y b,(results fn a.tmps).run P w=.ok y w∧K b∧Rs w imm b y:=by
 obtain⟨ys,bs,h1,h2,h3,h4⟩:=Zi7 rs h hK
 have hm:(fn.results.mapM λrv=>Zok a rv).run P w=.ok ys.toArray w:=by
  rw [hrs,Array.mapM_eq_mapM_toList];simp only [Sem.run_map,h1,Result.andThen_ok]
 have hr:(results fn a.tmps).run P w=.ok (if h:ys.toArray.size=1 then ys.toArray[0] else .tuple ys.toArray) w:=by
  have e:results fn a.tmps=(do let vs ←fn.results.mapM (Zok a);pure (if h:vs.size=1 then vs[0] else .tuple vs)):=by
   unfold results;congr 1
  rw [e];simp only [Sem.run_bind,hm,Result.andThen_ok,Sem.run_pure]
 match bs,ys,h3,h4,h2,hr with
 | [b],[y],_,h4,h2,hr=>exact⟨y,b,by simpa using hr,h2,h4 0 b y rfl rfl⟩
 | [],[],_,h4,h2,hr=>exact⟨_,_,hr,h2,.tup _ _ rfl (by simp)⟩
 | b1 :: b2 :: bs,y1 :: y2 :: ys,h3,h4,h2,hr=>exact⟨_,_,hr,h2,by simpa using Rs.tup _ (y1 :: y2 :: ys).toArray (by simpa using h3) (λj b y hb hy=>h4 j b y hb (by simpa using hy))⟩
end
def pubRet (st:St) (r:AV) (b:AV):Prop:=Zer (marks st.mem b.toks) b∧pubV (marks st.mem b.toks) b=r
def Done (P:Program) (rs:List ResultVar) (K:St→AV→Prop):AE→St→Prop
 | .exit _,_=>False
 | .normal,st=>Zli P st rs (K st)
 | .ret,st=>Zli P st rs (K st)
theorem Zqt {P:Program} {rs:List ResultVar} {K:St→AV→Prop} {ae:AE} {st:St} (h:Done P rs K ae st):Zli P st rs (K st):=by
 cases ae with
 | exit=>exact h.elim
 | normal=>exact h
 | ret=>exact h
theorem Zaa {P:Program} {f n tok:Nat} {fn:Func} {code:Code} {rs:List ResultVar} {args:List AV} {r:AV} (hf:P.funcs[f]?=some fn) (hb:fn.body=some code) (hn:fn.ntmps=n) (hrs:fn.results=rs.toArray)
 (hc:∀(vs:Array Value) (w:World),(callFunc f vs).run P w=.ok (.enter f vs) w) (hfit:Zbx n code=true) (hal:args.length≤n)
 (h:Za8 P tok n code (Done P rs λst=>pubRet st r) ⟨λt=>args.getD t .u,Zan⟩):Pure P f args r:=by
 refine⟨hc,λw imm vs himm hl hr=>?_⟩;refine calls_of_wp hf hb ?_
 let c:Cx:=⟨w.heap.size,w,imm⟩
 have hrel:Rel c n ⟨λt=>args.getD t .u,Zan⟩ { tmps:=vs++Array.replicate (fn.ntmps - vs.size) undef,defers:=[] } w imm:=by
  refine⟨λt=>?_,by simp [hn];omega,rfl,⟨⟨λk e hk=>by simp [Zan] at hk,λk k' e e' b hk=>by simp [Zan] at hk,λad h1=>(himm ad h1).1,λad h1=>(himm ad h1).2⟩,Below.refl _ _,Nat.le_refl _,λ_ h1=>h1,λ_ h1=>.inl h1,λ_ _=>rfl⟩⟩;simp only [List.getD_eq_getElem?_getD];rcases Nat.lt_or_ge t args.length with ht | ht
  ·have ht2:t < vs.size:=by omega
   rw [List.getElem?_eq_getElem ht,Array.getD_eq_getD_getElem?,Array.getElem?_append_left ht2,Array.getElem?_eq_getElem ht2];exact .pure (hr t _ _ (List.getElem?_eq_getElem ht) (Array.getElem?_eq_getElem ht2))
  ·rw [List.getElem?_eq_none ht];exact .pure (.u _)
 refine Code.wp_mono (λe a' w' hp=>?_) (Zb6 code _ _ hfit h c _ w imm hrel);obtain⟨ae,st',imm',rfl,hdone,hrel'⟩:=hp;have hret:=Zqt hdone;have hae:∀id,ae≠.exit id:=by rintro id rfl;exact hdone
 obtain⟨y,b,hrun,⟨hpo,hpv⟩,hrs'⟩:=Zsl hrs hrel' hret;obtain⟨i2,hm2,hk2⟩:=Zdp b.toks hrel'.mem;have hrd:=Zhp hm2 (hk2.rs hrs') hpo;rw [hpv] at hrd;have fin:a'.defers=[]∧∃v,(results fn a'.tmps).run P w'=.ok v w'∧(λe w'=>∃x imm',e=Ending.returned x∧Rd w' imm' r x∧(∀ad,imm ad→imm' ad)∧(∀ad,imm' ad→(imm ad∨w.heap.size≤ad.block)∧ad.block < w'.heap.size∧ad.spot=none)∧Below w.heap.size w w') (Ending.returned v) w' :=
  ⟨hrel'.defers,y,hrun,y,i2,rfl,hrd,hm2.old,λad h1=>⟨hm2.new ad h1,hm2.ok.lt ad h1,hm2.ok.spot ad h1⟩,hm2.below⟩
 cases ae with
 | normal=>exact fin
 | ret=>exact fin
 | exit id=>exact absurd rfl (hae id)
theorem Zck {P:Program} {f n tok:Nat} {fn:Func} {code:Code} {rs:List ResultVar} {args:List AV} {σ:Mem} {R:AV→Mem→Prop} (hf:P.funcs[f]?=some fn) (hb:fn.body=some code) (hn:fn.ntmps=n) (hrs:fn.results=rs.toArray)
 (hc:∀(vs:Array Value) (w:World),(callFunc f vs).run P w=.ok (.enter f vs) w) (hfit:Zbx n code=true) (hal:args.length≤n)
 (h:Za8 P tok n code (Done P rs λst b=>R b st.mem) ⟨λt=>args.getD t .u,σ⟩):ACall P f args σ R:=by
 refine⟨hc,λc w imm vs hm hl hr=>?_⟩;refine calls_of_wp hf hb ?_
 have hrel:Rel ⟨c.B,w,imm⟩ n ⟨λt=>args.getD t .u,σ⟩ { tmps:=vs++Array.replicate (fn.ntmps - vs.size) undef,defers:=[] } w imm:=by
  refine⟨λt=>?_,by simp [hn];omega,rfl,⟨hm.ok,Below.refl _ _,hm.lt,λ_ h1=>h1,λ_ h1=>.inl h1,λ_ _=>rfl⟩⟩;simp only [List.getD_eq_getElem?_getD];rcases Nat.lt_or_ge t args.length with ht | ht
  ·have ht2:t < vs.size:=by omega
   rw [List.getElem?_eq_getElem ht,Array.getD_eq_getD_getElem?,Array.getElem?_append_left ht2,Array.getElem?_eq_getElem ht2];exact hr t _ _ (List.getElem?_eq_getElem ht) (Array.getElem?_eq_getElem ht2)
  ·rw [List.getElem?_eq_none ht];exact .pure (.u _)
 refine Code.wp_mono (λe a' w' hp=>?_) (Zb6 code _ _ hfit h _ _ w imm hrel);obtain⟨ae,st',imm',rfl,hdone,hrel'⟩:=hp;have hret:=Zqt hdone;have hae:∀id,ae≠.exit id:=by rintro id rfl;exact hdone
 obtain⟨y,b,hrun,hR,hrs'⟩:=Zsl hrs hrel' hret;have hm':=hrel'.mem;have fin:a'.defers=[]∧∃v,(results fn a'.tmps).run P w'=.ok v w'∧(λe w'=>∃r σ' imm' x,e=Ending.returned x∧R r σ'∧Rs w' imm' r x∧Mx c σ' w' imm'∧Keeps w imm w' imm') (Ending.returned v) w' :=
  ⟨hrel'.defers,y,hrun,b,st'.mem,imm',y,rfl,hR,hrs',⟨hm'.ok,hm.below.trans hm'.below,hm'.lt,λad h1=>hm'.old ad (hm.old ad h1),λad h1=>(hm'.new ad h1).elim (hm.new ad) .inr,λad h1=>(hm'.cells ad (hm.old ad h1)).trans (hm.cells ad h1)⟩,
   λad h1=>⟨hm'.old ad h1,hm'.cells ad h1⟩⟩
 cases ae with
 | normal=>exact fin
 | ret=>exact fin
 | exit id=>exact absurd rfl (hae id)
theorem ACall.mono {P:Program} {f:FuncId} {args:List AV} {σ:Mem} {R R':AV→Mem→Prop} (h:ACall P f args σ R) (hR:∀r σ',R r σ'→R' r σ'):ACall P f args σ R' :=
 ⟨h.1,λc w imm vs hm hl hr=>(h.2 c w imm vs hm hl hr).mono λe w' ⟨r,σ',imm',x,h1,h2,h3⟩=>⟨r,σ',imm',x,h1,hR r σ' h2,h3⟩⟩
def Sub (a b:AV):Prop:=∀(w:World) (imm:Imm) (x:Value),Rs w imm a x→Rs w imm b x
theorem Sub.refl (a:AV):Sub a a:=λ_ _ _ h=>h
theorem Sub.own (k k':Nat) (sv:Value):Sub (.own k sv) (.own k' sv):=λ_ _ _ h=>by
 have h1:=h.own_inv;subst h1;exact .own _ _ h.own_one
theorem Sub.mp (k k' g:Nat):Sub (.mp k g) (.mp k' g):=λ_ _ _ h=>by rw [h.mp_inv];exact .mp _ _
theorem Sub.view (k k':Nat) (sv:Value) (m i len:Nat):Sub (.view k sv m i len) (.view k' sv m i len):=λ_ _ _ h=>.view _ _ _ _ _ _ h.view_inv
theorem Sub.pbox (k k' g off:Nat):Sub (.pbox k g off) (.pbox k' g off):=λ_ _ _ h=>by
 have h1:=h.pbox_inv;subst h1;exact .pbox _ _ _
theorem Sub.prow (k k':Nat) (sv:Value) (m i off:Nat):Sub (.prow k sv m i off) (.prow k' sv m i off):=λ_ _ _ h=>by
 obtain⟨g,n,c,rfl,rfl⟩:=h.prow_inv;exact .prow _ _ _ _ _ g n c rfl
theorem Sub.tup (aS bs:List AV) (hl:aS.length=bs.length) (h:∀(j:Nat) (a b:AV),aS[j]?=some a→bs[j]?=some b→Sub a b):Sub (.tup aS) (.tup bs):=λw imm x hx=>by
 obtain⟨vs,rfl,h1,h2⟩:=hx.tup_inv;refine .tup _ _ (by omega) λj b y hb hy=>?_;have hj:j < aS.length:=by rw [hl];exact(List.getElem?_eq_some_iff.1 hb).1
 exact h j aS[j] b (List.getElem?_eq_getElem hj) hb w imm y (h2 j aS[j] y (List.getElem?_eq_getElem hj) hy)
inductive Subs:List AV→List AV→Prop
 | nil:Subs [] []
 | cons {a b:AV} {aS bs:List AV} (h:Sub a b) (t:Subs aS bs):Subs (a :: aS) (b :: bs)
theorem Subs.len {aS bs:List AV} (h:Subs aS bs):aS.length=bs.length:=by
 induction h with
 | nil=>rfl
 | cons _ _ ih=>simp [ih]
theorem Subs.get {aS bs:List AV} (h:Subs aS bs):∀(j:Nat) (a b:AV),aS[j]?=some a→bs[j]?=some b→Sub a b:=by
 induction h with
 | nil=>intro j a b h1;simp at h1
 | cons h1 _ ih =>
   intro j a b h2 h3
   cases j with
   | zero=>simp at h2 h3;subst h2;subst h3;exact h1
   | succ j=>exact ih j a b (by simpa using h2) (by simpa using h3)
theorem Mx.rename {c:Cx} {σ σ':Mem} {w:World} {imm:Imm} (h:Mx c σ w imm) (ρ:Nat→Nat) (hs:∀k e,σ' k=some e→σ (ρ k)=some e) (hi:∀k k',σ' k≠none→σ' k'≠none→ρ k=ρ k'→k=k'):Mx c σ' w imm :=
 ⟨⟨λk e hk=>h.ok.ent (ρ k) e (hs k e hk),λk k' e e' b h1 h2 h3 h4=>hi k k' (by rw [h1];simp) (by rw [h2];simp) (h.ok.apart (ρ k) (ρ k') e e' b (hs k e h1) (hs k' e' h2) h3 h4),h.ok.lt,h.ok.spot⟩,h.below,h.lt,h.old,h.new,h.cells⟩
def lent (σ:Mem):Mem:=λk=>if k < 1000 then none else σ (k - 1000)
def Back (R:AV→Mem→Prop) (b:AV) (m:Mem):Prop:=∃(r:AV) (σ':Mem) (ρ:Nat→Nat),Sub b r∧R r σ'∧(∀k e,σ' k=some e→m (ρ k)=some e)∧(∀k k',σ' k≠none→σ' k'≠none→ρ k=ρ k'→k=k')
theorem back_new {R:AV→Mem→Prop} {b r:AV} {m σ':Mem} (d t:Nat) (hd:d < 1000) (hs:Sub b r) (hR:R r σ') (ht:m d=σ' t) (hm:∀k,k≠t→σ' k≠none→m (k+1000)=σ' k):Back R b m :=
 ⟨r,σ',λk=>if k=t then d else k+1000,hs,hR,λk e h=>by
  by_cases hk:k=t
  ·subst hk;simp only [if_true];rw [ht,h]
  ·simp only [if_neg hk];rw [hm k hk (by rw [h];simp),h],λk k' _ _ h=>by
  by_cases hk:k=t<;>by_cases hk':k'=t
  ·rw [hk,hk']
  ·simp only [if_pos hk,if_neg hk'] at h;omega
  ·simp only [if_neg hk,if_pos hk'] at h;omega
  ·simp only [if_neg hk,if_neg hk'] at h;omega⟩
theorem Zrx {P:Program} {f n:Nat} {fn:Func} {code:Code} {rs:List ResultVar} {args args':List AV} {σ:Mem} {R:AV→Mem→Prop} (hf:P.funcs[f]?=some fn) (hb:fn.body=some code) (hn:fn.ntmps=n) (hrs:fn.results=rs.toArray)
 (hc:∀(vs:Array Value) (w:World),(callFunc f vs).run P w=.ok (.enter f vs) w) (hfit:Zbx n code=true) (hal:args'.length≤n) (hsub:Subs args args')
 (h:Za8 P 0 n code (Done P rs λst b=>Back R b st.mem) ⟨λt=>args'.getD t .u,lent σ⟩):ACall P f args σ R:=by
 have key:=Zck (σ:=lent σ) (R:=Back R) hf hb hn hrs hc hfit hal h;refine⟨hc,λc w imm vs hm hl hr=>?_⟩;have hm':Mx c (lent σ) w imm:=hm.rename (λk=>k - 1000) (λk e hk=>by
  unfold lent at hk;split at hk
  ·cases hk
  ·exact hk) λk k' h1 h2 h3=>by
  unfold lent at h1 h2;split at h1<;>split at h2<;>first|omega|exact absurd rfl h1|exact absurd rfl h2
 refine(key.2 c w imm vs hm' (by rw [←hsub.len];exact hl) λj a x h1 h2=>?_).mono λe w' he=>?_
 ·have hj:j < args.length:=by rw [hsub.len];exact(List.getElem?_eq_some_iff.1 h1).1
  exact hsub.get j args[j] a (List.getElem?_eq_getElem hj) h1 w imm x (hr j args[j] x (List.getElem?_eq_getElem hj) h2)
 ·obtain⟨b,m,imm',x,rfl,⟨r,σ',ρ,h1,h2,h3,h4⟩,h5,h6,h7⟩:=he;exact⟨r,σ',imm',x,rfl,h2,h1 _ _ _ h5,h6.rename ρ h3 h4,h7⟩
section
variable {P:Program} {tok n:Nat} {Q:AE→St→Prop} {st:St}
theorem Za6 {x y:Code} (h:Za8 P tok n x (AE.then (Za8 P tok n y Q) Q) st):Za8 P tok n (.seq x y) Q st:=h
theorem Zar (h:Q .normal st):Za8 P tok n .skip Q st:=h
theorem Za7 (h:Q .ret st):Za8 P tok n .ret Q st:=h
theorem Zas {id:Nat} (h:Q (.exit id) st):Za8 P tok n (.exit id) Q st:=h
theorem Zak {id:Nat} {x:Code} (h:Za8 P tok n x (AE.inBlock id Q) st):Za8 P tok n (.block id x) Q st:=h
theorem Zsr {o:Operand} {x y:Code} {t:Bool} (ht:st.ev o=.v (.bool t)) (h1:t=true→Za8 P tok n x Q st) (h2:t=false→Za8 P tok n y Q st):Za8 P tok n (.cond o x y) Q st:=by
 unfold Za8;rw [ht];exact⟨h1,h2⟩
theorem Zav {o:Operand} {x y:Code} (ht:st.ev o=.v (.bool true)) (h1:Za8 P tok n x Q st):Za8 P tok n (.cond o x y) Q st:=Zsr ht (λ_=>h1) (λh=>by cases h)
theorem Zam {o:Operand} {x y:Code} (ht:st.ev o=.v (.bool false)) (h1:Za8 P tok n y Q st):Za8 P tok n (.cond o x y) Q st:=Zsr ht (λh=>by cases h) (λ_=>h1)
theorem Za1 {id:Nat} {l:List Oper} (h:∀K:St→Prop,(∀st',Q .normal st'→K st')→Zbk P tok l l K st):Za8 P tok n (.region id l.toArray false) Q st:=by
 unfold Za8;exact h _ λ_ h=>h
theorem Zfu {ι:Type} {body:Code} (I:ι→St→Prop) (μ:ι→Nat) (i:ι) (hf:Zbx n body=true)
 (round:∀i st,I i st→Za8 P tok n body (AE.then (λst'=>∃i',I i' st'∧μ i' < μ i) Q) st) (h0:I i st):Za8 P tok n (.loop body) Q st:=awp_loop (tok:=tok) I μ hf round h0
theorem Zap {next:St→Prop} (h:next st):AE.then next Q .normal st:=h
theorem Zac {next:St→Prop} (h:Q .ret st):AE.then next Q .ret st:=h
theorem Zab {next:St→Prop} {i:Nat} (h:Q (.exit i) st):AE.then next Q (.exit i) st:=h
theorem Zaq {rs:List ResultVar} {K:St→AV→Prop} (h:Zli P st rs (K st)):Done P rs K .ret st:=h
theorem Zaj {rs:List ResultVar} {K:St→AV→Prop} (h:Zli P st rs (K st)):Done P rs K .normal st:=h
theorem t_in {id:Nat} (h:Q .normal st):AE.inBlock id Q .normal st:=h
theorem Zae {id:Nat} (h:Q .ret st):AE.inBlock id Q .ret st:=h
theorem Zad {id:Nat} (h:Q .normal st):AE.inBlock id Q (.exit id) st:=by simp only [AE.inBlock,if_true];exact h
theorem Zaf {id i:Nat} (hi:i≠id) (h:Q (.exit i) st):AE.inBlock id Q (.exit i) st:=by simp only [AE.inBlock,if_neg hi];exact h
end
theorem Zqp {α:Type} {f:α→AV} {l:List α} {k:Nat} {x:α} (h:k < l.length):(l.map f).getD k .u=f (l.getD k x):=by
 simp [List.getD_eq_getElem?_getD,List.getElem?_eq_getElem h]
theorem Zt8 (cs:List AV):(AV.agg cs).cells=cs:=rfl
theorem cells_v (x:Value):(AV.v x).cells=[.v x]:=rfl
theorem cells_sl (m:Nat) (es:List AV):(AV.sl m es).cells=[.sl m es]:=rfl
theorem Zt7 (k:Nat) (sv:Value):(AV.own k sv).cells=[.own k sv]:=rfl
theorem Zrt (cs:List AV):(AV.pimm cs).cells=[.pimm cs]:=rfl
theorem Zru (k g o:Nat):(AV.pbox k g o).cells=[.pbox k g o]:=rfl
theorem Zrs (k:Nat) (sv:Value) (m i len:Nat):(AV.view k sv m i len).cells=[.view k sv m i len]:=rfl
theorem cells_fn (f:FuncId) (cs:List AV):(AV.fn f cs).cells=[.fn f cs]:=rfl
theorem wrap_i64 {x:Int} (h1:-9223372036854775808≤x) (h2:x≤9223372036854775807):IntKind.i64.wrap x=x:=IntWalk.i64_in x ⟨h1,h2⟩
theorem Zsf (b w:Bool):says (.v (.bool b)) w=(b == w):=rfl
theorem Zq7 (w:Bool):says (.v (.tuple #[])) w=false:=rfl
theorem known_v (x:Value):Zjw (.v x)=True:=rfl
attribute [go_sem] Zq0 Zld Zen Zpm Zue Zec Zk5 Zbj Zsf Zq7 known_v aRes Zal St.ev St.put Zaz marks mark AV.ofVal Zcp Zky Zk4 Zqn Zpy Zqz Zmh Zjc Zsw Zbh Ziw Zc6 Zg1 Zgb Zjx Zh1 Zis Zm6
 Zqw Zge Zdm Zmg Zgi Zdx Zdb Zgt Zro Zix Znz Zd7 Zey Zhv Zhu mpRes Zeu putEl Zku Zjo aZero Zd1 Zt8 cells_v cells_sl Zt7 Zrt Zru Zrs cells_fn
 AV.toks AV.toksL Ent.mark Zfe Zjt Ziv Zer Zdv pubV Zdt AV.ok AV.one Value.oneCell' pubRet Zli Zlj Zp3 resK
end Go.Pg
