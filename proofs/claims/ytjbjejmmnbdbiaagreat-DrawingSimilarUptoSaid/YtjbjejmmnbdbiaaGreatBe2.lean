/- Contracts of the functions that the law reaches, and the rules by which they are walked. They say what a call hands back for every input within the bounds that each names; no other condition. -/
import Derived.Test.YtjbjejmmnbdbiaaGreatBe1
import Derived.Laws.BytesString
import Derived.Laws.StructEq
import Derived.MapKept
set_option linter.unusedSimpArgs false
set_option linter.unusedVariables false
set_option maxRecDepth 20000
set_option maxHeartbeats 16000000
namespace Go.Pg
open Go Go.RowKit
section
variable {P:Program} {c:Cx} {n tok:Nat} {st:St} {a:Act} {w:World} {imm:Imm} {K:St→Prop} {o:Oper} {Q:Exit→Act→World→Prop}
theorem s_field {s:TypeId} {xv:AV} {x:Value} {f:Nat} (h:Rel c n st a w imm) (hd:∀d,o.dst=some d→d < n) (hK:aRes P tok o.dst (Zg7 P s xv f) K st) (hx:Rs w imm xv x) :
 o.upon P a (Zbv c n K) Q (((do pure (Next.value (←Instr.fieldAt s x f))):Sem Next).run P w):=by
 unfold Zg7 at hK;split at hK
 ·rename_i fields hu;split at hK
  ·rename_i fd hf;split at hK
   ·rename_i sz hsz;obtain⟨hne,hK⟩:=hK
    have run:∀ad:Addr,x=.pointer (some ad)→(Instr.fieldAt s x f).run P w=.ok (.pointer (some (ad.add fd.offset))) w:=by
     rintro ad rfl
     simp [Instr.fieldAt,Zy4 hu,hf,Instr.sureAddr,fieldPlace,Zah hsz,hne]
    cases xv with
    | pimm cs =>
      obtain⟨ad,g,rfl,h1,h2⟩:=hx.pimm_inv;refine Zae h hd hK (run ad rfl) (.pure (.pimm _ _ (λj=>g (fd.offset+j)) (λj hj=>?_) λj b hb=>?_))
      ·rw [Zet];exact h1 _ (by simp at hj;omega)
      ·rw [ZAx] at hb;exact h2 _ b hb
    | pbox k g off =>
      have:=hx.pbox_inv;subst this;refine Zae h hd hK (run _ rfl) ?_;rw [Zz4];exact .pbox _ _ _
    | prow k sv m i off =>
      obtain⟨g,nn,cc,rfl,rfl⟩:=hx.prow_inv;refine Zae h hd hK (run _ rfl) ?_;rw [Zz4,ZCx];exact .prow k _ m i (off+fd.offset) g nn cc rfl
    | _=>exact hK.elim
   ·exact hK.elim
  ·exact hK.elim
 ·exact hK.elim
theorem Zpx {t:TypeId} {xv iv:AV} {x i:Value} (h:Rel c n st a w imm) (hd:∀d,o.dst=some d→d < n) (hK:aRes P tok o.dst (Zbb P st t xv iv) K st) (hx:Rs w imm xv x) (hi:Rs w imm iv i) :
 o.upon P a (Zbv c n K) Q (((do pure (Next.value (←Instr.indexAt t x i))):Sem Next).run P w):=by
 unfold Zbb at hK;split at hK
 ·rename_i e kk j hu;have:=hi.v_inv;subst this;split at hK
  ·rename_i sz hsz
   have run:∀(ad:Addr) (len cap:Nat),x=.slice (some ad) len cap→0≤j→j < len→(Instr.indexAt t x (.int kk j)).run P w=.ok (.pointer (some (ad.add (j.toNat*sz)))) w:=by
    rintro ad len cap rfl h0 h1
    simp [Instr.indexAt,asIntOf,Zy4 hu,h0,h1,Zah hsz]
   cases xv with
   | sl m es =>
     obtain⟨⟨rfl,h0,h1⟩,hK⟩:=hK;obtain⟨A,cap,f,rfl,hcap,hm,hok,hn,hA,hr⟩:=hx.sl_inv;obtain⟨j,rfl⟩:=ZCy h0;have hj:j < es.length:=zo;have hA1:A≠none:=hn zo
     cases A with
     | none=>exact absurd rfl hA1
     | some ad =>
       simp only [Zz5] at hK
       have hel:(es.getD j .u).cells.length=sz:=by
        rw [Zyu,Zym hj];exact hm _ (Zy6 _)
       have hmul:j*sz+sz≤es.length*sz:=by
        have:(j+1)*sz≤es.length*sz:=Zzf _ hj
        rwa [Zze,ZAj] at this
       refine Zae h hd hK (run ad _ cap rfl h0 h1) (.pure (.pimm _ _ (λq=>f (j*sz+q)) (λq hq=>?_) λq b hb=>?_))
       ·rw [hel] at hq;rw [Zet,Zz5];obtain⟨ad',e1,e2,e3⟩:=hA (j*sz+q) zo;cases e1;exact⟨e2,e3⟩
       ·have hq:q < sz:=by rw [←hel];exact Zbl hb
        exact hr _ b ((Zdq hm j q hq hj).trans hb)
   | own k sv =>
     simp only at hK;split at hK
     ·rename_i sv' e' m es pub hk;obtain⟨⟨rfl,rfl,h0,h1⟩,hK⟩:=hK;have:=hx.own_inv;subst this;obtain⟨xs,hown,_⟩:=h.mem.ok.ent k _ hk;rcases hown.2 with⟨_,hn⟩ | ⟨g,cap,cur,rfl,_⟩
      ·omega
      ·refine Zae h hd hK (run ⟨g,0,none⟩ _ cap rfl h0 h1) ?_;rw [Zz4,Zzd];exact .prow k _ sz j.toNat 0 g _ _ rfl
     ·exact hK.elim
   | view k sv m i len =>
     obtain⟨⟨rfl,h0,h1⟩,hK⟩:=hK;rcases hx.view_inv with⟨_,_,rfl,_⟩ | ⟨g,nn,cc,off,cap,rfl,rfl,hle,hlc,hoff,_⟩
     ·omega
     ·refine Zae h hd hK (run ⟨g,off,none⟩ _ cap rfl h0 h1) ?_;have e1:off+j.toNat*sz=(i+j.toNat)*sz+0:=by rw [hoff zo,Zzm,Zze]
      rw [Zz4,e1];exact .prow k _ sz (i+j.toNat) 0 g _ _ rfl
   | _=>exact hK.elim
  ·exact hK.elim
 ·rename_i len e kk j hu;have:=hi.v_inv;subst this;split at hK
  ·rename_i sz hsz;obtain⟨⟨h0,h1⟩,hK⟩:=hK
   have run:∀ad:Addr,x=.pointer (some ad)→(Instr.indexAt t x (.int kk j)).run P w=.ok (.pointer (some (ad.add (j.toNat*sz)))) w:=by
    rintro ad rfl
    simp [Instr.indexAt,asIntOf,Zy4 hu,Instr.sureAddr,h0,h1,Zah hsz]
   cases xv with
   | pimm cs =>
     obtain⟨ad,g,rfl,h2,h3⟩:=hx.pimm_inv;refine Zae h hd hK (run ad rfl) (.pure (.pimm _ _ (λq=>g (j.toNat*sz+q)) (λq hq=>?_) λq b hb=>?_))
     ·rw [Zet];exact h2 _ (by simp at hq;omega)
     ·rw [ZAx] at hb;exact h3 _ b hb
   | pbox k g off =>
     have:=hx.pbox_inv;subst this;refine Zae h hd hK (run _ rfl) ?_;rw [Zz4];exact .pbox _ _ _
   | prow k sv m i off =>
     obtain⟨g,nn,cc,rfl,rfl⟩:=hx.prow_inv;refine Zae h hd hK (run _ rfl) ?_;rw [Zz4,ZCx];exact .prow k _ m i (off+j.toNat*sz) g nn cc rfl
   | _=>exact hK.elim
  ·exact hK.elim
 ·exact hK.elim
theorem s_index {t:TypeId} {xv iv:AV} {x i:Value} (h:Rel c n st a w imm) (hd:∀d,o.dst=some d→d < n) (hK:aRes P tok o.dst (Zju P t xv iv) K st) (hx:Rs w imm xv x) (hi:Rs w imm iv i) :
 o.upon P a (Zbv c n K) Q (((do pure (Next.value (←Instr.index t x i))):Sem Next).run P w):=by
 unfold Zju at hK;split at hK
 ·rename_i len e cs kk j hu;have:=hi.v_inv;subst this;split at hK
  ·rename_i sz hsz;obtain⟨⟨h0,h1⟩,hK⟩:=hK;obtain⟨vs,rfl,hl,hr⟩:=hx.agg_inv
   have e1:(Instr.index t (.agg vs) (.int kk j)).run P w=(part e vs (j.toNat*sz)).run P w:=by
    simp [Instr.index,asIntOf,Zy4 hu,h0,h1,Zah hsz]
   have:=Zi9 (o:=o) (Q:=Q) h hd hK hl hr;simp only [Zy3] at this ⊢;rw [e1];exact this
  ·exact hK.elim
 ·rename_i s kk j hu;have:=hi.v_inv;subst this;have:=hx.v_inv;subst this;obtain⟨⟨h0,h1⟩,hK⟩:=hK;obtain⟨j,rfl⟩:=ZCy h0;have hj:j < s.size:=zo;refine Zae h hd hK ?_ (.pure (.v _));have hj2:j < s.data.toList.length:=hj;simp only [Zz5];rw [Zyu,Zym hj2];simp [Instr.index,asIntOf,Zy4 hu,hj];rfl
 ·exact hK.elim
def CLs (w:World) (imm:Imm) (cs:List AV) (vs:Array Value):Prop:=cs.length=vs.size∧∀(j:Nat) (b:AV) (y:Value),cs[j]?=some b→vs[j]?=some y→Rs w imm b y
theorem Zhi {t:TypeId} {x y:Bool} (hu:P.underlying t=some .bool):(Op.equal t (.bool x) (.bool y)).run P w=.ok (x == y) w:=by
 have hd:Op.maxDepth=9999+1:=rfl;unfold Op.equal;rw [hd];unfold Op.equalIn;simp only [Zy3,Zy4 hu,Zy2,Zy9]
theorem Zn4 {t e:TypeId} {a:Addr} {n c:Nat} (hu:P.underlying t=some (.slice e)):(Op.equal t (.slice (some a) n c) (.slice none 0 0)).run P w=.ok false w:=by
 have hd:Op.maxDepth=9999+1:=rfl;unfold Op.equal;rw [hd];unfold Op.equalIn;simp only [Zy3,Zy4 hu,Zy2,Zy9]
theorem Zmm {t e:TypeId} (hu:P.underlying t=some (.slice e)):(Op.equal t (.slice none 0 0) (.slice none 0 0)).run P w=.ok true w:=by
 have hd:Op.maxDepth=9999+1:=rfl;unfold Op.equal;rw [hd];unfold Op.equalIn;simp only [Zy3,Zy4 hu,Zy2,Zy9];rfl
theorem Zdl {t:TypeId} {d:TypeDesc} {vs:Array Value} {off:Nat} {x:Value} (hu:P.underlying t=some d) (hd:Zfv d=false) (hx:vs[off]?=some x):(part t vs off).run P w=.ok x w:=by
 have hag:(isAgg t).run P w=.ok false w:=by
  simp only [isAgg,Zy3,Zy4 hu,Zy2];cases d<;>first|rfl|cases hd
 simp [part,hag,hx]
def Zlk (d:Nat) (vs us:Array Value):List (TypeId × Nat)→Sem Bool
 | []=>pure true
 | (t,off) :: r=>do
   let a ←part t vs off
   let b ←part t us off
   if ←Op.equalIn d t a b then Zlk d vs us r else pure false
theorem Zhz {d:Nat} {xs ys:List AV} {vs us:Array Value} {dst:Option Nat} (hx:CLs w imm xs vs) (hy:CLs w imm ys us):∀(l:List (TypeId × Nat)) (R:Bool→Res),aRes P tok dst (Ze6 P l xs ys R) K st →
 ∃b,aRes P tok dst (R b) K st∧(Zlk (d+1) vs us l).run P w=.ok b w
 | [],R,hK=>⟨true,hK,rfl⟩
 | (t,off) :: r,R,hK=>by
   simp only [Ze6] at hK
   have get:∀{zs:List AV} {ws:Array Value} {v:Value} {rest:List AV},CLs w imm zs ws→zs.drop off=.v v :: rest→ws[off]?=some v:=by
    intro zs ws v rest hc h1
    have h2:zs[off]?=some (.v v):=by
     have:=congrArg (λl=>l[0]?) h1
     simpa [ZAx] using this
    have hlt:off < ws.size:=by rw [←hc.1];exact(List.getElem?_eq_some_iff.1 h2).1
    rw [Zzl hlt];have:=hc.2 off _ _ h2 (Zzl hlt);rw [this.v_inv]
   have step:∀(a b:Value) (c:Bool) (td:TypeDesc),P.underlying t=some td→Zfv td=false→vs[off]?=some a→us[off]?=some b→(Op.equalIn (d+1) t a b).run P w=.ok c w→aRes P tok dst (Ze6 P r xs ys λc'=>R (c && c')) K st →
    ∃b,aRes P tok dst (R b) K st∧(Zlk (d+1) vs us ((t,off) :: r)).run P w=.ok b w:=by
    intro a b c td hu hag ha hb he hK;obtain⟨c',h1,h2⟩:=Zhz hx hy r _ hK;refine⟨c && c',h1,?_⟩;simp only [Zlk,Zy3,Zdl hu hag ha,Zdl hu hag hb,Zy2,he];cases c
    ·simp
    ·simpa using h2
   split at hK
   ·rename_i a ra b rb hu h1 h2;exact step _ _ (a == b) _ hu rfl (get hx h1) (get hy h2) (run_equalIn_bool' (P:=P) w d t a b hu) hK
   ·rename_i kk k a ra k' b rb hu h1 h2;obtain⟨rfl,hK⟩:=hK;exact step _ _ (a == b) _ hu rfl (get hx h1) (get hy h2) (run_equalIn_int (P:=P) w d t k kk a b hu) hK
   ·rename_i a ra b rb hu h1 h2;exact step _ _ (a.toList == b.toList) _ hu rfl (get hx h1) (get hy h2) (run_equalIn_string (P:=P) w d t a b hu) hK
   ·exact hK.elim
theorem Zgq {d : Nat} {vs us : Array Value} : ∀ (fs : List Field), (fs.all fun f => f.name != "_") = true → Op.eqFields d vs us fs = Zlk d vs us (fs.map fun f => (f.type, f.offset))
 | [],_=>rfl
 | f :: fs,h=>by
   simp only [ZB3,Zy7,bne_iff_ne,ne_eq] at h;simp only [Op.eqFields,Zz2,Zlk,ne_eq,h.1,not_false_eq_true,Zzb,Zgq fs h.2];congr 1;funext a;congr 1;funext b;congr 1;funext r;cases r<;>rfl
theorem Zp1 {d n:Nat} {t e:TypeId} {sz:Nat} {vs us:Array Value} (hu:P.underlying t=some (.array n e)) (hsz:szOf P e=some sz) :
 (Op.equalIn (d+1) t (.agg vs) (.agg us)).run P w=(Zlk d vs us ((List.range n).map λi=>(e,i*sz))).run P w:=by
 unfold Op.equalIn;simp only [Zy3,Zy4 hu,Zy2,Zah hsz,Std.Legacy.Range.forIn_eq_forIn_range',Std.Legacy.Range.size,ZBi,Nat.add_one_sub_one,ZCd,List.range_eq_range'];generalize List.range' 0 n=l
 induction l generalizing w with
 | nil=>rfl
 | cons i l ih =>
   simp only [List.forIn_cons,Zz2,Zlk,Zy3]
   cases (part e vs (i*sz)).run P w with
   | halt x w1=>rfl
   | ok a w1 =>
     simp only [Zy2]
     cases (part e us (i*sz)).run P w1 with
     | halt x w2=>rfl
     | ok b w2 =>
       simp only [Zy2]
       cases (Op.equalIn d e a b).run P w2 with
       | halt x w3=>rfl
       | ok r w3 =>
         cases r
         ·rfl
         ·simp only [Zy2,ZB4,Zyy,Zy8,Zzb,Zy3,Zy9];exact ih
theorem Zpe {t:TypeId} {xs ys:List AV} {vs us:Array Value} {R:Bool→Res} {dst:Option Nat} (hx:CLs w imm xs vs) (hy:CLs w imm ys us) (hK:aRes P tok dst (Zq3 P t xs ys R) K st) :
 ∃b,aRes P tok dst (R b) K st∧(Op.equalIn 10000 t (.agg vs) (.agg us)).run P w=.ok b w∧P.eqGuardType P.depth t=false:=by
 unfold Zq3 at hK;split at hK
 ·rename_i fs hu;obtain⟨ht,hK⟩:=hK;simp only [eqTy,hu,Zy7,ZAs] at ht;obtain⟨h1,h2,h3⟩:=ht;have hf:P.fieldsOf t=fs:=by simp [Program.fieldsOf,hu]
  obtain⟨b,h4,h5⟩:=Zhz (d:=9998) hx hy _ _ hK;refine⟨b,h4,?_,h1⟩;rw [show(10000:Nat)=9999+1 from rfl,run_equalIn_agg (P:=P) w 9999 t vs us (by rw [hf];exact hu) h2,hf,Zgq _ h3];exact h5
 ·rename_i n e hu;split at hK
  ·rename_i sz hsz;obtain⟨ht,hK⟩:=hK;simp only [eqTy,hu,Zy7,ZAs,and_true] at ht;obtain⟨b,h4,h5⟩:=Zhz (d:=9998) hx hy _ _ hK;refine⟨b,h4,?_,ht⟩;rw [show(10000:Nat)=9999+1 from rfl,Zp1 hu hsz];exact h5
  ·exact hK.elim
 ·exact hK.elim
theorem s_bin {op:BinOp} {t:TypeId} {p q:Operand} {xv yv:AV} {x y:Value} (h:Rel c n st a w imm) (hd:∀d,o.dst=some d→d < n) (hK:aRes P tok o.dst (Zma P op t xv yv) K st) (hx:Rs w imm xv x) (hy:Rs w imm yv y) :
 o.upon P a (Zbv c n K) Q (((do pure (Next.value (←(do eqGuard op t p q x y;binOp op t x y)))):Sem Next).run P w):=by
 unfold Zma at hK;split at hK
 ·rename_i k i k' j;have:=hx.v_inv;subst this;have:=hy.v_inv;subst this;split at hK
  ·obtain⟨h0,hK⟩:=hK;refine Zae h hd hK ?_ (.pure (.v _));have:¬j < 0:=zo;simp [eqGuard,binOp,Op.shift,this,shlI,shrI]
  ·obtain⟨h0,hK⟩:=hK;refine Zae h hd hK ?_ (.pure (.v _));have:¬j < 0:=zo;simp [eqGuard,binOp,Op.shift,this,shlI,shrI]
  ·obtain⟨rfl,hK⟩:=hK;unfold Zsh at hK;cases op<;>first
    | exact hK.elim
    | (refine Zae h hd hK ?_ (.pure (.v _));simp [eqGuard,binOp,Op.intArith,Op.intBits,Op.intCmp,andI,orI,xorI];done)
    | (obtain⟨h0,hK⟩:=hK;refine Zae h hd hK ?_ (.pure (.v _));simp [eqGuard,binOp,Op.intDiv,h0];done)
 ·rename_i s1 s2;have:=hx.v_inv;subst this;have:=hy.v_inv;subst this;unfold Zri at hK;cases op<;>first
   | exact hK.elim
   | (refine Zae h hd hK ?_ (.pure (.v _));simp [eqGuard,binOp,Op.stringOp];done)
   | (obtain⟨h0,hK⟩:=hK
      refine Zae h hd hK ?_ (.pure (.v _))
      have:¬(IntKind.i64.max < ((s1.size+s2.size:Nat):Int)):=by
       have:IntKind.i64.max=9223372036854775807:=by decide
       omega
      simp only [eqGuard,binOp,Op.stringOp,GT.gt,this,Zy8];simp)
 ·rename_i b1 b2;have:=hx.v_inv;subst this;have:=hy.v_inv;subst this;split at hK
  ·rename_i hu;refine Zae h hd hK ?_ (.pure (.v _));simp [eqGuard,binOp,Zhi hu]
  ·rename_i hu;refine Zae h hd hK ?_ (.pure (.v _));simp [eqGuard,binOp,Zhi hu]
  ·exact hK.elim
 ·rename_i xs ys;obtain⟨vs,rfl,hl1,hr1⟩:=hx.agg_inv;obtain⟨us,rfl,hl2,hr2⟩:=hy.agg_inv;split at hK
  ·obtain⟨b,h1,h2,h3⟩:=Zpe ⟨hl1,hr1⟩ ⟨hl2,hr2⟩ hK;refine Zae h hd h1 ?_ (.pure (.v _));simp only [Zy3,run_eqGuard_agg (P:=P) w _ t p q vs us h3,Zy2,run_eql_struct,h2]
  ·obtain⟨b,h1,h2,h3⟩:=Zpe ⟨hl1,hr1⟩ ⟨hl2,hr2⟩ hK;refine Zae h hd h1 ?_ (.pure (.v _));simp only [Zy3,run_eqGuard_agg (P:=P) w _ t p q vs us h3,Zy2,run_neq_struct,h2]
  ·exact hK.elim
 ·rename_i mm es;obtain⟨A,cap,f,rfl,_,_,_,hA,_⟩:=hx.sl_inv;have:=hy.v_inv;subst this;split at hK
  ·rename_i e hu;obtain⟨h0,hK⟩:=hK;refine Zae h hd hK ?_ (.pure (.v _));have hA:=hA h0
   cases A with
   | none=>exact absurd rfl hA
   | some ad=>simp [eqGuard,binOp,Zn4 hu]
  ·exact hK.elim
 ·have:=hx.v_inv;subst this;have:=hy.v_inv;subst this;split at hK
  ·rename_i e hu;refine Zae h hd hK ?_ (.pure (.v _));simp [eqGuard,binOp,Zmm hu]
  ·exact hK.elim
 ·exact hK.elim
theorem s_un {op:UnOp} {xv:AV} {x:Value} (h:Rel c n st a w imm) (hd:∀d,o.dst=some d→d < n) (hK:aRes P tok o.dst (Zs5 op xv) K st) (hx:Rs w imm xv x) :
 o.upon P a (Zbv c n K) Q (((do pure (Next.value (←Op.unary op x))):Sem Next).run P w):=by
 unfold Zs5 at hK;split at hK
 ·have:=hx.v_inv;subst this;exact Zae h hd hK (by simp [Op.unary]) (.pure (.v _))
 ·have:=hx.v_inv;subst this;exact Zae h hd hK (by simp [Op.unary,Op.intArith]) (.pure (.v _))
 ·exact hK.elim
theorem Znu:∀{es:List AV} {ns:List Int},Zs6 es=some ns→es=ns.map λn=>AV.v (.int .u8 n)
 | [],ns,h=>by
   simp only [Zs6,Option.some.injEq] at h;subst h;rfl
 | a :: r,ns,h=>by
   unfold Zs6 at h;split at h
   ·cases ‹_ :: _=[]›
   ·rename_i n r' e;cases e;obtain⟨ms,hm,rfl⟩:=Option.map_eq_some_iff.1 h;rw [Znu hm];rfl
   ·cases h
theorem s_conv {s d:TypeId} {xv:AV} {x:Value} (h:Rel c n st a w imm) (hd:∀d,o.dst=some d→d < n) (hK:aRes P tok o.dst (Znl P st.mem s d xv) K st) (hx:Rs w imm xv x) :
 o.upon P a (Zbv c n K) Q (((do pure (Next.value (←convert s d x))):Sem Next).run P w):=by
 unfold Znl at hK;split at hK
 ·rename_i u k k' i hsu hu;have:=hx.v_inv;subst this;exact Zae h hd hK (by simp [convert,Zy4 hsu,Zy4 hu,Conv.intToInt]) (.pure (.v _))
 ·rename_i u i hsu hu;have:=hx.v_inv;subst this;exact Zae h hd hK (by simp [convert,Zy4 hsu,Zy4 hu]) (.pure (.v _))
 ·rename_i e hsu hu _;split at hK
  ·rename_i hue;obtain⟨es,A,cp,xs,hK,hsrc⟩:=Ze7 h.mem hx hK;unfold Zml at hK;split at hK
   ·rename_i ns hns;have hes:=Znu hns;subst hes;have hval:=hsrc.val;subst hval;refine Zae h hd hK ?_ (.pure (.v _))
    have hb:(Conv.bytesToString (.slice A (ns.map λn=>AV.v (.int .u8 n)).length cp)).run P w=.ok (.string (strOf ns)) w:=by
     cases A with
     | none =>
       have h0:ns=[]:=by
        cases ns with
        | nil=>rfl
        | cons x r=>exact absurd rfl (hsrc.some_ zs)
       subst h0;rfl
     | some ad =>
       refine run_bytesToString w ad _ cp ns ?_
       have hxs:xs=ns.map (Value.int .u8):=by
        refine List.ext_getElem? λj=>?_;have hl:=hsrc.len;by_cases hj:j < ns.length
        ·have hj2:j < xs.length:=by rw [hl];simpa using hj
         have hr:=hsrc.rd j (.v (.int .u8 ns[j])) xs[j] (by
          have:flat (ns.map λn=>AV.v (.int .u8 n))=ns.map λn=>AV.v (.int .u8 n):=by
           unfold flat;clear hns hK hsrc hl hj hj2 hx
           induction ns with
           | nil=>rfl
           | cons a l ih=>simp only [Zz2,ZBr,ih];rfl
          rw [this,Zzu,Zym hj];rfl) (Zym hj2)
         have hv:xs[j]=.int .u8 ns[j]:=(Rs.pure hr).v_inv;rw [Zym hj2,Zzu,Zym hj,hv];rfl
        ·rw [Zz1 (by rw [hl];simp;omega),Zz1 (by simp;omega)]
       have:=run_loadCells_list (P:=P) w ad xs λj v hv=>hsrc.cell ad rfl j v hv;rw [hsrc.len,ZBt] at this;rw [this,hxs]
    simp only [run_convert_bytes_string (P:=P) w s d e A _ cp hsu hue hu,Zy3,hb,Zy2,Zy9]
   ·exact hK.elim
  ·exact hK.elim
 ·exact hK.elim
end
section
variable {P:Program} {c:Cx} {n tok:Nat} {st:St} {a:Act} {w:World} {imm:Imm} {K:St→Prop} {o:Oper} {Q:Exit→Act→World→Prop}
theorem Zey {lo:Option AV} {R:Int→Res} {dst:Option Nat} (hK:aRes P tok dst (Zed lo R) K st):∃l:Int,aRes P tok dst (R l) K st∧((lo=none∧l=0)∨∃k,lo=some (.v (.int k l))):=by
 unfold Zed at hK;split at hK
 ·exact⟨0,hK,.inl ⟨rfl,rfl⟩⟩
 ·rename_i k l;exact⟨l,hK,.inr ⟨k,rfl⟩⟩
 ·exact hK.elim
theorem Zc9 {len:Nat} {hi:Option AV} {R:Int→Res} {dst:Option Nat} (hK:aRes P tok dst (Zdk len hi R) K st):∃l:Int,aRes P tok dst (R l) K st∧((hi=none∧l=len)∨∃k,hi=some (.v (.int k l))):=by
 unfold Zdk at hK;split at hK
 ·exact⟨len,hK,.inl ⟨rfl,rfl⟩⟩
 ·rename_i k l;exact⟨l,hK,.inr ⟨k,rfl⟩⟩
 ·exact hK.elim
theorem Zx9 {b:Option Operand} {k:IntKind} {l:Int} (h:Rel c n st a w imm) (hb:b.map st.ev=some (.v (.int k l))):b.map a.eval=some (.int k l):=by
 cases b with
 | none=>cases hb
 | some x =>
   simp only [Zz7,Option.some.injEq] at hb ⊢;have:=h.ev x;rw [hb] at this;exact this.v_inv
theorem Zdw {len cap:Nat} {lo hi mx:Option Value} {l hh m:Nat} (is:Bool) (hl:(lo=none∧l=0)∨∃k,lo=some (.int k l)) (hhi:(hi=none∧hh=len)∨∃k,hi=some (.int k hh))
 (hm:(mx=none∧m=cap)∨∃k,mx=some (.int k m)) (h1:l≤hh) (h2:hh≤m) (h3:m≤cap) (h4:mx.isSome=true→hi.isSome=true) :
 (Instr.sliceBounds is len cap lo hi mx).run P w=.ok (l,hh,m) w:=by
 have b:∀(k:IntKind) (i y:Nat) (code:BoundsCode),i≤y→(Instr.sliceBound (.int k i) y code).run P w=.ok i w:=by
  intro k i y code hi;have:((i:Int)≤(y:Int)):=zo;simp [Instr.sliceBound,asIntOf,this]
 rcases hm with⟨rfl,rfl⟩ | ⟨km,rfl⟩<;>rcases hhi with⟨rfl,rfl⟩ | ⟨kh,rfl⟩<;>rcases hl with⟨rfl,rfl⟩ | ⟨kl,rfl⟩<;>first
  | (simp only [Instr.sliceBounds,Zy3,Zy9,Zy2,b _ _ _ _ h1,b _ _ _ _ h2,b _ _ _ _ h3,b _ _ _ _ (Zyz h2 h3)];done)
  | (simp at h4;done)
theorem Ze0 {t e:TypeId} {sz:Nat} {A:Option Addr} {len cap:Nat} {lo hi mx:Option Value} {l hh m:Nat} (hu:P.underlying t=some (.slice e)) (hsz:szOf P e=some sz)
 (hb:(Instr.sliceBounds true len cap lo hi mx).run P w=.ok (l,hh,m) w) :
 (Instr.sliceAt t (.slice A len cap) lo hi mx).run P w=.ok (.slice (if m=l then A else A.map (·.add (l*sz))) (hh - l) (m - l)) w:=by
 simp only [Instr.sliceAt,Zy3,Zy4 hu,Zy2,Instr.slice,hb,Zah hsz,Zy9]
theorem cut_rd {m:Nat} {es:List AV} {A:Option Addr} {cap l hh mm:Nat} (h:Rd w imm (.sl m es) (.slice A es.length cap)) (h1:l≤hh) (h2:hh≤es.length) (h3:hh≤mm) :
 Rd w imm (.sl m ((es.take hh).drop l)) (.slice (if mm=l then A else A.map (·.add (l*m))) (hh - l) (mm - l)):=by
 obtain⟨A',cap',f,hv,hcap,hm,hok,hn,hA,hr⟩:=(Rs.pure h).sl_inv;cases hv;have hlen:((es.take hh).drop l).length=hh - l:=by simp;omega
 rw [←hlen];have hsub:∀e∈(es.take hh).drop l,e∈es:=λe he=>Zzy (ZA2 he)
 have hfl:∀(j:Nat) (b:AV),(flat ((es.take hh).drop l))[j]?=some b→(flat es)[l*m+j]?=some b:=by
  intro j b hb
  have e1:flat es=flat (es.take l)++(flat ((es.take hh).drop l)++flat (es.drop hh)):=by
   rw [←Zbk,←Zbk];congr 1;have e2:es.take l=(es.take hh).take l:=by rw [List.take_take,ZAk h1]
   rw [e2,←Zzt,ZAw,ZAw]
  have hl1:(flat (es.take l)).length=l*m:=by
   rw [Zaz λe he=>hm e (Zzy he),Zy1,ZAk zo]
  rw [e1,Zzv zo,hl1,ZBs,Zzr (Zbl hb)];exact hb
 refine .sl m _ _ _ (λj=>f (l*m+j)) (λe he=>hm e (hsub e he)) (λe he=>hok e (hsub e he)) (by rw [hlen];omega) (λh4=>?_) (λj hj=>?_) λj b hb=>hr _ b (hfl j b hb)
 ·rw [hlen] at h4;rw [Zyj zo];have:=hn zo
  cases A with
  | none=>exact absurd rfl this
  | some ad=>simp
 ·rw [hlen] at hj
  have hlt:l < hh:=by
   rcases Zy5 l hh with h5 | h5
   ·exact h5
   ·have:hh - l=0:=zo;rw [this] at hj;omega
  rw [Zyj zo];have hmul:l*m+(hh - l)*m≤es.length*m:=by rw [←Zze];exact Zzf _ zo
  obtain⟨ad,rfl,h6,h7⟩:=hA (l*m+j) zo;exact⟨_,rfl,by rw [Zet];exact h6,by rw [Zet];exact h7⟩
theorem s_slice {t:TypeId} {p:Operand} {lo hi mx:Option Operand} (h:Rel c n st a w imm) (hd:∀d,o.dst=some d→d < n) (hK:aRes P tok o.dst (Zgz P st t (st.ev p) (lo.map st.ev) (hi.map st.ev) (mx.map st.ev)) K st) :
 o.upon P a (Zbv c n K) Q (((do pure (Next.value (←Instr.sliceAt t (a.eval p) (lo.map a.eval) (hi.map a.eval) (mx.map a.eval)))):Sem Next).run P w):=by
 have hx:=h.ev p
 have conv:∀{b:Option Operand} {l:Int} {d:Nat},((b.map st.ev=none∧l=d)∨∃k,b.map st.ev=some (.v (.int k l)))→0≤l→((b.map a.eval=none∧l.toNat=d)∨∃k,b.map a.eval=some (.int k (l.toNat:Nat))):=by
  intro b l d hb h0;rcases hb with⟨h1,h2⟩ | ⟨k,h1⟩
  ·cases b with
   | none=>exact .inl ⟨rfl,zo⟩
   | some x=>cases h1
  ·exact .inr ⟨k,by rw [Zx9 h h1];congr 2;omega⟩
 have isS:∀{b:Option Operand},(b.map st.ev).isSome=(b.map a.eval).isSome:=by intro b;cases b<;>rfl
 unfold Zgz at hK;split at hK
 ·rename_i s hu hxx;rw [hxx] at hx;split at hK
  ·rename_i hmx;obtain⟨l,hK,hl⟩:=Zey hK;obtain⟨hh,hK,hhi⟩:=Zc9 hK;obtain⟨⟨h0,h1,h2⟩,hK⟩:=hK;have:=hx.v_inv;rw [this];have hmx2:mx.map a.eval=none:=by cases mx<;>simp_all
   have hb:=Zdw (P:=P) (w:=w) (len:=s.size) (cap:=s.size) (m:=s.size) false (conv (d:=0) (by simpa using hl) h0) (conv hhi zo) (.inl ⟨rfl,rfl⟩) (show l.toNat≤hh.toNat by omega) zo (Zyp _) zs;refine Zae h hd hK ?_ (.pure (.v _));simp only [Instr.sliceAt,Zy3,Zy4 hu,Zy2,Instr.slice,hmx2,Option.isSome_none,Zyy,Zy8,Zy9,hb]
  ·exact hK.elim
 ·rename_i e m es hu hxx;rw [hxx] at hx;split at hK
  ·rename_i m' hsz;obtain⟨l,hK,hl⟩:=Zey hK;obtain⟨hh,hK,hhi⟩:=Zc9 hK;obtain⟨m2,hK,hm2⟩:=Zc9 hK;obtain⟨⟨rfl,h0,h1,h2,h3,h4⟩,hK⟩:=hK;obtain⟨A,cap,f,hv,hcap,hrest⟩:=hx.sl_inv;rw [hv]
   have hrd:Rd w imm (.sl m' es) (.slice A es.length cap):=by
    have:=hx;rw [hv] at this;cases this with | pure h=>exact h
   have hmm:(mx.map a.eval=none∧(if (mx.map a.eval).isSome then m2.toNat else cap)=cap)∨∃k,mx.map a.eval=some (.int k ((if (mx.map a.eval).isSome then m2.toNat else cap:Nat):Int)):=by
    rcases conv hm2 zo with⟨h5,_⟩ | ⟨k,h5⟩
    ·exact .inl ⟨h5,by rw [h5];rfl⟩
    ·exact .inr ⟨k,by rw [h5];rfl⟩
   have hmb:hh.toNat≤(if (mx.map a.eval).isSome then m2.toNat else cap):=by split<;>omega
   have hb:=Zdw (P:=P) (w:=w) (len:=es.length) (cap:=cap) true (conv (d:=0) (by simpa using hl) h0) (conv hhi zo) hmm (show l.toNat≤hh.toNat by omega) hmb (by split<;>omega) (by rw [←isS,←isS];exact h4);exact Zae h hd hK (Ze0 hu hsz hb) (.pure (cut_rd hrd zo zo hmb))
  ·exact hK.elim
 ·rename_i e k sv hu hxx;rw [hxx] at hx;split at hK
  ·rename_i sv' e' m es pub m' hk hsz;split at hK
   ·rename_i hmx;obtain⟨l,hK1,hl⟩:=Zey hK;obtain⟨hh,hK2,hhi⟩:=Zc9 hK1;obtain⟨⟨rfl,rfl,h0,h1,h2⟩,hK4⟩:=hK2;have hv:=hx.own_inv;rw [hv];obtain⟨A,cap,xs,hsrc,hcap,hown⟩:=Zj6 h.mem hk;have hval:=hsrc.val;subst hval;have hmx2:mx.map a.eval=none:=by cases mx<;>simp_all
    have hb:=Zdw (P:=P) (w:=w) (len:=es.length) (cap:=cap) (m:=cap) true (conv (d:=0) (by simpa using hl) h0) (conv hhi zo) (.inl ⟨hmx2,rfl⟩) (show l.toNat≤hh.toNat by omega) zo (Zyp _) (by rw [hmx2];simp);refine Zae h hd hK4 (Ze0 hu hsz hb) (.view k _ m' _ _ _ ?_);rcases hown.2 with⟨h5,h6⟩ | ⟨g,cap',cur,h5,_⟩
    ·simp only [Value.slice.injEq] at h5;obtain⟨rfl,_,rfl⟩:=h5;refine .inl ⟨by rw [h6],zo,zo,?_⟩;have e1:hh.toNat - l.toNat=0:=zo;rw [e1,h6];split<;>simp
    ·simp only [Value.slice.injEq,true_and] at h5;obtain⟨rfl,rfl⟩:=h5;refine .inr ⟨g,es.length,cap,if cap=l.toNat then 0 else l.toNat*m',cap - l.toNat,rfl,?_,zo,zo,λh6=>by rw [Zyj zo],λh6=>⟨by rw [h6];simp,zo⟩⟩;split
     ·rfl
     ·simp [Zz4]
   ·exact hK.elim
  ·exact hK.elim
 ·rename_i e k sv m i len hu hxx;rw [hxx] at hx;split at hK
  ·rename_i m' hsz hmx;obtain⟨l,hK1,hl⟩:=Zey hK;obtain⟨hh,hK2,hhi⟩:=Zc9 hK1;obtain⟨⟨rfl,h0,h1,h2⟩,hK4⟩:=hK2;have hmx2:mx.map a.eval=none:=by cases mx<;>simp_all
   rcases hx.view_inv with⟨rfl,rfl,rfl,hv⟩ | ⟨g,nn,cc,off,cap,rfl,hv,hle,hlc,hoff,hz0⟩
   ·rw [hv];have hb:=Zdw (P:=P) (w:=w) (len:=0) (cap:=0) (m:=0) true (conv (d:=0) (by simpa using hl) h0) (conv hhi zo) (.inl ⟨hmx2,rfl⟩) (show l.toNat≤hh.toNat by omega) zo (Zyp _) (by rw [hmx2];simp);refine Zae h hd hK4 (Ze0 hu hsz hb) (.view k _ m' _ _ _ (.inl ⟨rfl,zo,zo,?_⟩));have e1:hh.toNat - l.toNat=0:=zo;rw [e1,Nat.zero_sub];split<;>rfl
   ·rw [hv];have hb:=Zdw (P:=P) (w:=w) (len:=len) (cap:=cap) (m:=cap) true (conv (d:=0) (by simpa using hl) h0) (conv hhi zo) (.inl ⟨hmx2,rfl⟩) (show l.toNat≤hh.toNat by omega) zo (Zyp _) (by rw [hmx2];simp);refine Zae h hd hK4 (Ze0 hu hsz hb) (.view k _ m' _ _ _ (.inr ⟨g,nn,cc,if cap=l.toNat then off else off+l.toNat*m',cap - l.toNat,rfl,?_,zo,zo,λh6=>?_,λh6=>?_⟩))
    ·split
     ·rfl
     ·simp [Zz4]
    ·rw [Zyj zo,hoff zo,Zze]
    ·have e1:i=0:=zo;have e2:l.toNat=0:=zo;obtain⟨e3,e4⟩:=hz0 e1;rw [e2,e3,e4];simp
  ·exact hK.elim
 ·rename_i e hu hxx;rw [hxx] at hx;split at hK
  ·rename_i sz hsz;obtain⟨l,hK1,hl⟩:=Zey hK;obtain⟨hh,hK2,hhi⟩:=Zc9 hK1;obtain⟨m2,hK3,hm2⟩:=Zc9 hK2;obtain⟨⟨h5,h6,h7,h4⟩,hK4⟩:=hK3;have hv:=hx.v_inv;rw [hv];have hb:=Zdw (P:=P) (w:=w) (len:=0) (cap:=0) (l:=l.toNat) (hh:=hh.toNat) (m:=m2.toNat) true (conv (d:=0) (by simpa using hl) zo) (conv hhi zo) (conv hm2 zo) zo zo zo (by rw [←isS,←isS];exact h4);refine Zae h hd hK4 (Ze0 hu hsz hb) ?_;have e1:hh.toNat - l.toNat=0:=zo;have e2:m2.toNat - l.toNat=0:=zo;rw [e1,e2];have e3:(if m2.toNat=l.toNat then (none:Option Addr) else Option.map (λx:Addr=>x.add (l.toNat*sz)) none)=none:=by split<;>rfl
   rw [e3];exact .pure (.v _)
  ·exact hK.elim
 ·rename_i nn e k g off hu hxx;rw [hxx] at hx;split at hK
  ·rename_i m cs hlo hhi hmx hsz hcs;obtain⟨⟨rfl,hn,h0,hpub,hone⟩,hK⟩:=hK;have hv:=hx.pbox_inv;have e1:lo.map a.eval=none:=by cases lo<;>simp_all
   have e2:hi.map a.eval=none:=by cases hi<;>simp_all
   have e3:mx.map a.eval=none:=by cases mx<;>simp_all
   have hrun:(Instr.sliceAt t (a.eval p) (lo.map a.eval) (hi.map a.eval) (mx.map a.eval)).run P w=.ok (.slice (some ⟨g,off,none⟩) nn nn) w:=by
    have hb:=Zdw (P:=P) (w:=w) (len:=nn) (cap:=nn) (lo:=none) (hi:=none) (mx:=none) (l:=0) (hh:=nn) (m:=nn) false (.inl ⟨rfl,rfl⟩) (.inl ⟨rfl,rfl⟩) (.inl ⟨rfl,rfl⟩) (Zyv _) (Zyp _) (Zyp _) zs;have e4:(if nn=0 then (⟨g,off,none⟩:Addr) else Addr.add ⟨g,off,none⟩ (0*1))=⟨g,off,none⟩:=by split<;>simp [Zz4]
    rw [hv,e1,e2,e3];simp only [Instr.sliceAt,Zy3,Zy4 hu,Zy2,Instr.sureAddr,Zy9,hb,Zah hsz,e4,ZBi]
   rw [Zy3,hrun,Zy2];refine Zc6 h hd hK λi' hm' hk'=>?_;have hrd:=Zgc hm' (hk'.rs hx) hpub;rw [hcs,hv] at hrd;obtain⟨ad,f,he,hA,hr⟩:=(Rs.pure hrd).pimm_inv;have had:ad=⟨g,off,none⟩:=by simpa using he.symm
   subst had;rw [←hn];have hone':∀x∈cs,x.one=true:=λx hx=>List.all_eq_true.1 hone x hx;have hc1:∀x∈cs,x.cells=[x]:=λx hx=>by
    have:=hone' x hx;cases x<;>simp [AV.one] at this<;>rfl
   have hfl:flat cs=cs:=by
    clear hA hr hcs hn hone hone' hrd he h0 hK hpub;unfold flat
    induction cs with
    | nil=>rfl
    | cons x cs ih=>rw [ZBr,hc1 x (.head _),ih λy hy=>hc1 y (.tail _ hy)];rfl
   refine .pure (.sl 1 cs (some ⟨g,off,none⟩) cs.length f (λx hx=>by rw [hc1 x hx];rfl) (λx hx=>?_) (Zyp _) (λ_=>by simp) (λj hj=>⟨_,rfl,hA j zo⟩) λj b hb=>?_)
   ·have:=hone' x hx;cases x<;>simp [AV.one] at this<;>simp [AV.ok,AV.one, *]
   ·rw [hfl] at hb;exact hr j b hb
  ·exact hK.elim
 ·exact hK.elim
end
theorem Zmx (w:World) (imm:Imm) (z:Value):Rs w imm (AV.ofVal z) z:=by
 cases z<;>first
  | exact .pure (.v _)
  | (rename_i cs
     refine .pure (.agg _ cs zs λj a x h1 h2=>?_);simp only [Zzu,ZBa,h2,Zz7,Option.some.injEq] at h1;subst h1;exact .v _)
def CL (w:World) (imm:Imm) (cs:List AV) (vs:Array Value):Prop:=cs.length=vs.size∧∀(j:Nat) (b:AV) (y:Value),cs[j]?=some b→vs[j]?=some y→Rs w imm b y
theorem Zf5 {w:World} {imm:Imm} (z:Value):CL w imm (AV.ofVal z).cells z.cells:=by
 have h:=Zmx w imm z;cases z<;>first
  | (rename_i cs
     obtain⟨vs,hv,hl,hr⟩:=h.agg_inv;cases hv;exact⟨hl,hr⟩)
  | (refine⟨rfl,λj b y hb hy=>?_⟩
     simp only [AV.ofVal,AV.cells,Value.cells] at hb hy
     match j with
     | 0=>simp at hb hy;subst hb;subst hy;exact .pure (.v _)
     | j+1=>simp at hb)
theorem Zpc (off:Nat) (vs:Array Value) (cs:Array Value) (h:off+vs.size≤cs.size) (j:Nat) :
 (vs.zipIdx.foldl (λcs (x:Value × Nat)=>cs.setIfInBounds (off+x.2) x.1) cs)[j]?=if off≤j∧j < off+vs.size then vs[j - off]? else cs[j]?:=by
 have key:∀(l:List Value) (k:Nat) (cs:Array Value),off+k+l.length≤cs.size→∀j,((l.zipIdx k).foldl (λcs (x:Value × Nat)=>cs.setIfInBounds (off+x.2) x.1) cs)[j]?=if off+k≤j∧j < off+k+l.length then l[j - (off+k)]? else cs[j]?:=by
  intro l
  induction l with
  | nil=>intro k cs _ j;simp;omega
  | cons x l ih =>
    intro k cs hle j;simp only [Zyx] at hle;simp only [List.zipIdx_cons,ZC9,Zyx];rw [ih (k+1) _ (by simp;omega) j];by_cases h1:off+(k+1)≤j∧j < off+(k+1)+l.length
    ·rw [Zyk h1,Zyk zo];have:j - (off+k)=(j - (off+(k+1)))+1:=zo;rw [this,ZCn]
    ·rw [Zyj h1,ZDg];by_cases h2:off+k=j
     ·subst h2;rw [Zyk rfl,Zyk zo,Zyk zo];simp
     ·rw [Zyj h2,Zyj zo]
 have:=key vs.toList 0 cs (by simpa using h) j;rw [←Array.foldl_toList,Array.toList_zipIdx]
 simpa using this
theorem Zk0 (off:Nat) (vs:Array Value) (cs:Array Value):(vs.zipIdx.foldl (λcs (x:Value × Nat)=>cs.setIfInBounds (off+x.2) x.1) cs).size=cs.size:=by
 rw [←Array.foldl_toList];generalize vs.zipIdx.toList=l
 induction l generalizing cs with
 | nil=>rfl
 | cons x l ih=>simp only [ZC9];rw [ih];simp
section
variable {P:Program} {c:Cx} {n tok:Nat} {st:St} {a:Act} {w:World} {imm:Imm} {K:St→Prop} {o:Oper} {Q:Exit→Act→World→Prop}
theorem Zk1 {place:Nat→Option (Nat × Nat)} {R:List AV→Res} {dst:Option Nat}:∀(parts:List (Nat × AV)) (vals:List (Nat × Value)) (cs:List AV) (vs:Array Value),
 CL w imm cs vs→parts.length=vals.length→(∀(j:Nat) (p:Nat × AV) (q:Nat × Value),parts[j]?=some p→vals[j]?=some q→p.1=q.1∧Rs w imm p.2 q.2) →
 aRes P tok dst (Zt7 place cs parts R) K st→∃cs' vs',Instr.fill place vs vals=some vs'∧CL w imm cs' vs'∧aRes P tok dst (R cs') K st
 | [],[],cs,vs,hcl,_,_,hK=>⟨cs,vs,rfl,hcl,hK⟩
 | [],q :: vals,_,_,_,hl,_,_=>by simp at hl
 | (i,b) :: parts,[],_,_,_,hl,_,_=>by simp at hl
 | (i,b) :: parts,q :: vals,cs,vs,hcl,hl,hr,hK=>by
   obtain⟨h1,h2⟩:=hr 0 (i,b) q rfl rfl;simp only at h1 h2;subst h1;simp only [Zt7] at hK
   cases hp:place q.1 with
   | none=>rw [hp] at hK;exact hK.elim
   | some os =>
     obtain⟨off,sz⟩:=os;rw [hp] at hK;obtain⟨⟨hok,hsz,hfit⟩,hK⟩:=hK;obtain⟨hlc,hrc,_⟩:=h2.cells_of hok;have hfit':off+b.cells.length≤cs.length:=zo;obtain⟨cs',vs',e1,e2,e3⟩:=Zk1 parts vals (Zeg cs off b.cells) (q.2.cells.zipIdx.foldl (λcs (x:Value × Nat)=>cs.setIfInBounds (off+x.2) x.1) vs)
      ⟨by rw [Zen hfit',Zk0];exact hcl.1,λj x y hx hy=>by
       rw [Zgy hfit'] at hx;rw [Zpc off q.2.cells vs (by rw [←hcl.1,←hlc];exact hfit'),←hlc] at hy;split at hx
       ·rename_i hc;rw [Zyk hc] at hy;exact hrc _ x y hx hy
       ·rename_i hc;rw [Zyj hc] at hy;exact hcl.2 j x y hx hy⟩ (by simpa using hl) (λj p q' hp hq=>hr (j+1) p q' (by simpa using hp) (by simpa using hq)) hK
     refine⟨cs',vs',?_,e2,e3⟩;simp only [Instr.fill,hp];have h5:=hcl.1;rw [Zyj (by simp;omega)];exact e1
theorem Zof {parts:Array (Nat × Operand)} (h:Rel c n st a w imm):((parts.toList.map λp=>(p.1,st.ev p.2)).length=(parts.map fun(i,x)=>(i,a.eval x)).toList.length) ∧
 ∀(j:Nat) (p:Nat × AV) (q:Nat × Value),(parts.toList.map λp=>(p.1,st.ev p.2))[j]?=some p→(parts.map fun(i,x)=>(i,a.eval x)).toList[j]?=some q→p.1=q.1∧Rs w imm p.2 q.2:=by
 refine⟨by simp,λj p q hp hq=>?_⟩;simp only [Array.toList_map,Zzu] at hp hq;rcases hx:parts.toList[j]? with _ | x
 ·rw [hx] at hp;cases hp
 ·rw [hx] at hp hq;simp only [Zz7,Option.some.injEq] at hp hq;subst hp;subst hq;exact⟨rfl,h.ev _⟩
theorem Zqu {fields:Array Field} (hall:(fields.toList.all λf=>(szOf P f.type).isSome)=true) :
 (fields.mapM λf=>(do pure (f.offset,←sizeOf f.type):Sem (Nat × Nat))).run P w=.ok (fields.map λf=>(f.offset,(szOf P f.type).getD 0)) w:=by
 have key:∀(l:List Field),(∀f∈l,(szOf P f.type).isSome=true)→(l.mapM λf=>(do pure (f.offset,←sizeOf f.type):Sem (Nat × Nat))).run P w=.ok (l.map λf=>(f.offset,(szOf P f.type).getD 0)) w:=by
  intro l
  induction l with
  | nil=>intro _;rfl
  | cons f l ih =>
    intro hl;have h1:=hl f (Zzw ..);obtain⟨s,hs⟩:=Option.isSome_iff_exists.1 h1;have h2:=ih λg hg=>hl g (ZAd _ hg);rw [List.mapM_cons];simp only [Zy3,Zah hs,Zy2,Zy9,h2,Zz2,hs,Zz9]
 have h:=key fields.toList λf hf=>List.all_eq_true.1 hall f hf;rw [Array.mapM_eq_mapM_toList];simp only [Sem.run_map,h,Zy2];congr 1;apply Array.ext';simp
theorem s_build {t:TypeId} {parts:Array (Nat × Operand)} (h:Rel c n st a w imm) (hd:∀d,o.dst=some d→d < n) (hK:aRes P tok o.dst (Zjx P t (parts.toList.map λp=>(p.1,st.ev p.2))) K st) :
 o.upon P a (Zbv c n K) Q (((do pure (Next.value (←Instr.build t (parts.map fun(i,x)=>(i,a.eval x))))):Sem Next).run P w):=by
 obtain⟨hpl,hpr⟩:=Zof (parts:=parts) h;unfold Zjx at hK;split at hK
 ·rename_i fields z hu hz;obtain⟨hall,hK⟩:=hK
  have hpe:(λi:Nat=>(fields[i]?).bind λf:Field=>(szOf P f.type).map λs=>(f.offset,s))=λi:Nat=>((fields.map λf:Field=>(f.offset,(szOf P f.type).getD 0))[i]?):=by
   funext i
   rw [ZCm];rcases hf:fields[i]? with _ | f
   ·rfl
   ·have:(szOf P f.type).isSome=true:=List.all_eq_true.1 hall f (by
     have:=Array.mem_of_getElem? hf;exact Array.mem_toList_iff.2 this)
    obtain⟨s,hs⟩:=Option.isSome_iff_exists.1 this;simp [hs]
  rw [hpe] at hK;obtain⟨cs',vs',e1,e2,e3⟩:=Zk1 _ _ _ _ (Zf5 z) hpl hpr hK;refine Zae h hd e3 (x:=.agg vs') ?_ (.agg _ _ e2.1 e2.2);simp only [Instr.build,Zy3,Zak hz,Zy2,Zy4 hu,Zqu hall,e1,Zy9]
 ·rename_i len e z hu hz;split at hK
  ·rename_i sz hsz;obtain⟨cs',vs',e1,e2,e3⟩:=Zk1 _ _ _ _ (Zf5 z) hpl hpr hK;refine Zae h hd e3 (x:=.agg vs') ?_ (.agg _ _ e2.1 e2.2);simp only [Instr.build,Zy3,Zak hz,Zy2,Zy4 hu,Zah hsz,e1,Zy9]
  ·exact hK.elim
 ·exact hK.elim
theorem Zl6 {σ:Mem} {m:Nat} {R:List AV→Res} {dst:Option Nat} (hm:Mx c σ w imm):∀(parts:List (Nat × AV)) (vals:List (Nat × Value)) (es:List AV) (vs:Array Value),
 (∀e∈es,e.cells.length=m)→(∀e∈es,e.ok=true)→(flat es).length=vs.size→(∀(j:Nat) (b:AV) (y:Value),(flat es)[j]?=some b→vs[j]?=some y→Rd w imm b y) →
 parts.length=vals.length→(∀(j:Nat) (p:Nat × AV) (q:Nat × Value),parts[j]?=some p→vals[j]?=some q→p.1=q.1∧Rs w imm p.2 q.2) →
 aRes P tok dst (Zpd σ m es parts R) K st→∃es' vs',Instr.fill (λi=>some (i*m,m)) vs vals=some vs'∧es'.length=es.length∧(∀e∈es',e.cells.length=m)∧(∀e∈es',e.ok=true)∧vs'.size=vs.size ∧
  (∀(j:Nat) (b:AV) (y:Value),(flat es')[j]?=some b→vs'[j]?=some y→Rd w imm b y)∧aRes P tok dst (R es') K st
 | [],[],es,vs,h1,h2,_,h4,_,_,hK=>⟨es,vs,rfl,rfl,h1,h2,rfl,h4,hK⟩
 | [],q :: vals,_,_,_,_,_,_,hl,_,_=>by simp at hl
 | (i,b) :: parts,[],_,_,_,_,_,_,hl,_,_=>by simp at hl
 | (i,b) :: parts,q :: vals,es,vs,h1,h2,h3,h4,hl,hr,hK=>by
   obtain⟨e1,e2⟩:=hr 0 (i,b) q rfl rfl;simp only at e1 e2;subst e1;simp only [Zpd] at hK;obtain⟨⟨hok,hsz,hi,hpo⟩,hK⟩:=hK;obtain⟨hpok,hpl⟩:=pub_ok hpo hok;have hrd:=Zgc hm e2 hpo;obtain⟨hlc,_,_⟩:=(Rs.pure hrd).cells_of hpok;have hel:(pubV σ b).cells.length=m:=zo;have hfl:=Zaz h1
   have him:q.1*m+m≤es.length*m:=by
    have:(q.1+1)*m≤es.length*m:=Zzf _ hi
    rwa [Zze,ZAj] at this
   have hs1:∀e∈es.set q.1 (pubV σ b),e.cells.length=m:=λy hy=>by
    rcases ZCl hy with h5 | rfl
    ·exact h1 y h5
    ·exact hel
   obtain⟨es',vs',f1,f2,f3,f4,f5,f6,f7⟩:=Zl6 hm parts vals (es.set q.1 (pubV σ b)) (q.2.cells.zipIdx.foldl (λcs (x:Value × Nat)=>cs.setIfInBounds (q.1*m+x.2) x.1) vs) hs1
    (λy hy=>by
     rcases ZCl hy with h5 | rfl
     ·exact h2 y h5
     ·exact hpok)
    (by rw [Zaz hs1,Zk0,←h3,hfl,List.length_set])
    (λj x y hx hy=>by
     rw [Zne h1 _ hi hel] at hx;rw [Zpc (q.1*m) q.2.cells vs zo,←hlc,hel] at hy;split at hx
     ·rename_i hc;rw [Zyk hc] at hy;exact Zlw hrd hpok _ x hx y hy
     ·rename_i hc;rw [Zyj hc] at hy;exact h4 j x y hx hy)
    (by simpa using hl) (λj p q' hp hq=>hr (j+1) p q' (by simpa using hp) (by simpa using hq)) hK
   refine⟨es',vs',?_,by rw [f2,List.length_set],f3,f4,by rw [f5,Zk0],f6,f7⟩;simp only [Instr.fill];rw [Zyj (by simp;omega)];exact f1
theorem Zlg {t e:TypeId} {len m:Nat} {z:Value} {vals:Array (Nat × Value)} {vs':Array Value} (hu:P.underlying t=some (.slice e)) (hsz:szOf P e=some m) (hz:Zaq P e=some z) (hlim:len*m≤16777216)
 (f1:Instr.fill (λi=>some (i*m,m)) ((Array.range (len*m)).map (z.cells[·%z.cells.size]!)) vals.toList=some vs') :
 (Instr.buildSlice t len vals).run P w=.ok (.slice (some ⟨w.heap.size,0,none⟩) len len) (w.alloc (.cells vs' e)):=by
 have hlim':¬(len*m > 2 ^ 24):=zo;simp only [Instr.buildSlice,Zy3,Zy4 hu,Zy2,Zah hsz,Zyj hlim'];by_cases h0:len*m=0
 ·have h1:Array.range (len*m)=#[]:=by rw [h0];rfl
  rw [h1] at f1;simp only [Array.map_empty] at f1;simp only [Zyk h0,Zy3,Zy9,Zy2,h1,Array.map_empty,f1,newRow,run_newObj];rfl
 ·simp only [Zyj h0,Zy3,Zak hz,Zy9,Zy2,f1,newRow,run_newObj];rfl
theorem Zn3 {t:TypeId} {len:Nat} {parts:Array (Nat × Operand)} (h:Rel c n st a w imm) (hd:∀d,o.dst=some d→d < n) (hK:aRes P tok o.dst (Zer P st t len (parts.toList.map λp=>(p.1,st.ev p.2))) K st) :
 o.upon P a (Zbv c n K) Q (((do pure (Next.value (←Instr.buildSlice t len (parts.map fun(i,x)=>(i,a.eval x))))):Sem Next).run P w):=by
 unfold Zer at hK;split at hK
 ·rename_i e hu;split at hK
  ·rename_i m z hsz hz;obtain⟨⟨hlim,hlim2,hzl,hzok⟩,hK⟩:=hK;generalize hks:AV.toksL ((parts.toList.map λp=>(p.1,st.ev p.2)).map (·.2))=ks at hK;obtain⟨i',hm',hk'⟩:=Zc1 ks h.mem;obtain⟨hpl,hpr⟩:=Zof (parts:=parts) h;have hrep1:∀y∈List.replicate len (AV.ofVal z),y.cells.length=m:=λy hy=>by rw [ZBj hy];exact hzl
   have hzsz:z.cells.size=m:=by rw [←hzl];exact(Zf5 (w:=w) (imm:=imm) z).1.symm
   obtain⟨es',vs',f1,f2,f3,f4,f5,f6,f7⟩:=Zl6 hm' _ _ _ ((Array.range (len*m)).map (z.cells[·%z.cells.size]!)) hrep1 (λy hy=>by rw [ZBj hy];exact hzok)
    (by rw [Zaz hrep1];simp) (λj b y hb hy=>by
     have hj:j < len*m:=by
      have:=Zbl hb
      rwa [Zaz hrep1,ZCc] at this
     have hm0:0 < m:=by
      rcases Zz0 m with h4 | h4
      ·rw [h4] at hj;omega
      ·exact h4
     have hdm:j=(j/m)*m+j%m:=by rw [Zzj];exact(ZAy j m).symm
     have hq:j/m < len:=by rw [ZBk hm0];exact hj
     have hfg:=Zdq hrep1 (j/m) (j%m) (Zzs _ hm0) (by simpa using hq);rw [←hdm,hb] at hfg;rw [Zyu,ZCz,Zyk hq] at hfg;simp only [Zz9] at hfg;have hlt:j%m < z.cells.size:=by rw [hzsz];exact Zzs _ hm0
     have hy2:y=z.cells[j%m]:=by
      rw [ZCm,Array.getElem?_range,Zyk hj] at hy;simp only [Zz7,Option.some.injEq,hzsz] at hy;rw [←hy];simp [hlt]
     rw [hy2];have h8:=(Zf5 (w:=w) (imm:=i') z).2 (j%m) b _ hfg.symm (Zzl hlt)
     have h9:∃y,b=.v y:=by
      cases z<;>first
       | (simp only [AV.ofVal,AV.cells] at hfg
          have:j%m=0:=by
           have:=Zbl hfg.symm;simp at this;omega
          rw [this] at hfg;simp at hfg;exact⟨_,hfg⟩)
       | (simp only [AV.ofVal,AV.cells,Zzu] at hfg
          rename_i cs;rcases hc:cs.toList[j%m]? with _ | y
          ·rw [hc] at hfg;cases hfg
          ·rw [hc] at hfg;simp only [Zz7,Option.some.injEq] at hfg;exact⟨y,hfg⟩)
     obtain⟨y',rfl⟩:=h9;rw [h8.v_inv];exact .v _)
    hpl (λj p q h1 h2=>⟨(hpr j p q h1 h2).1,hk'.rs (hpr j p q h1 h2).2⟩) hK
   have hlen:es'.length=len:=by rw [f2,ZCc]
   have hrun:=Zlg (w:=w) hu hsz hz hlim f1;rw [Zht hrun];have:=Zns (Q:=Q) (cap:=len) (vs:=vs') h hd f7 hm' hk' zo ?_ (by rw [f5];simp) f3 f4 f6
   ·rwa [hlen] at this
   ·simp only [maxLen];omega
  ·exact hK.elim
 ·exact hK.elim
end
section
variable {P:Program} {c:Cx} {n tok:Nat} {st:St} {a:Act} {w:World} {imm:Imm} {K:St→Prop} {o:Oper} {Q:Exit→Act→World→Prop}
theorem Znh {xs:Array Operand} (h:Rel c n st a w imm):(xs.toList.map st.ev).length=(xs.map a.eval).size∧∀(j:Nat) (b:AV) (y:Value),(xs.toList.map st.ev)[j]?=some b→(xs.map a.eval)[j]?=some y→Rs w imm b y:=by
 refine⟨by simp,λj b y hb hy=>?_⟩;rw [Zzu,ZBa] at hb;rw [ZCm] at hy;rcases hx:xs[j]? with _ | x
 ·rw [hx] at hb;cases hb
 ·rw [hx] at hb hy;simp only [Zz7,Option.some.injEq] at hb hy;subst hb;subst hy;exact h.ev x
theorem s_len {t ty:TypeId} {xv:AV} {x:Value} {d:TypeDesc} (h:Rel c n st a w imm) (hd:∀d,o.dst=some d→d < n) (hu:P.underlying t=some d) (hK:aRes P tok o.dst (Zl2 st d xv) K st) (hx:Rs w imm xv x) :
 o.upon P a (Zbv c n K) Q (((do pure (Next.value (←Builtin.len_ #[t] ty #[x]))):Sem Next).run P w):=by
 unfold Zl2 at hK;split at hK
 ·obtain⟨A,cap,f,rfl,_⟩:=hx.sl_inv;exact Zae h hd hK (by simp [Builtin.len_,Zy4 hu,goInt]) (.pure (.v _))
 ·split at hK
  ·rename_i sv' e' m es pub hk;obtain⟨rfl,hK⟩:=hK;have:=hx.own_inv;subst this;obtain⟨A,cp,xs,hsrc,_,_⟩:=Zj6 h.mem hk;have hv:=hsrc.val;subst hv;exact Zae h hd hK (by simp [Builtin.len_,Zy4 hu,goInt]) (.pure (.v _))
  ·exact hK.elim
 ·rcases hx.view_inv with⟨_,_,rfl,rfl⟩ | ⟨g,nn,cc,off,cap,_,rfl,_⟩
  ·simp_all only
   exact Zae h hd hK (by simp [Builtin.len_,Zy4 hu,goInt]) (.pure (.v _))
  ·exact Zae h hd hK (by simp [Builtin.len_,Zy4 hu,goInt]) (.pure (.v _))
 ·have:=hx.v_inv;subst this;exact Zae h hd hK (by simp [Builtin.len_,Zy4 hu,goInt]) (.pure (.v _))
 ·have:=hx.v_inv;subst this;exact Zae h hd hK (by simp [Builtin.len_,Zy4 hu,goInt]) (.pure (.v _))
 ·split at hK
  ·rename_i h' es hk;obtain⟨rfl,hK⟩:=hK;have:=hx.mp_inv;subst this;obtain⟨arr,clock,hh,hB,hl,hr,hbo,hp⟩:=h.mem.ok.ent _ _ hk;exact Zae h hd hK (by simp [Builtin.len_,Zy4 hu,goInt,ZCo hh,hl]) (.pure (.v _))
  ·exact hK.elim
 ·exact Zae h hd hK (by simp [Builtin.len_,Zy4 hu,goInt]) (.pure (.v _))
 ·exact hK.elim
theorem s_cap {t ty:TypeId} {xv:AV} {x:Value} {d:TypeDesc} (h:Rel c n st a w imm) (hd:∀d,o.dst=some d→d < n) (hu:P.underlying t=some d) (hK:aRes P tok o.dst (Zst d xv) K st) (hx:Rs w imm xv x) :
 o.upon P a (Zbv c n K) Q (((do pure (Next.value (←Builtin.cap_ #[t] ty #[x]))):Sem Next).run P w):=by
 unfold Zst at hK;split at hK
 ·have:=hx.v_inv;subst this;exact Zae h hd hK (by simp [Builtin.cap_,Zy4 hu,goInt]) (.pure (.v _))
 ·exact hK.elim
theorem Zf4 {cl:Call} {ty:TypeId} {b:Builtin} (hb:cl.callee=.builtin b):((do let d ←resolve a.eval cl ty;invoke d.target d.args):Sem Next).run P w=(builtin b cl.argTypes ty (cl.args.map fun | .const _=>true | _=>false) (cl.args.map a.eval)).run P w:=by
 simp [resolve,hb,invoke];rfl
theorem map1 (f:Operand→Value) (x:Operand):(#[x]:Array Operand).map f=#[f x]:=by simp
theorem map2 (f:Operand→Value) (x y:Operand):(#[x,y]:Array Operand).map f=#[f x,f y]:=by simp
theorem Zt1 {α:Type} {xs:Array α} {x:α} (h:xs.toList=[x]):xs=#[x]:=by rw [←ZC0 (xs:=xs),h]
theorem list2 {α:Type} {xs:Array α} {x y:α} (h:xs.toList=[x,y]):xs=#[x,y]:=by rw [←ZC0 (xs:=xs),h]
theorem Zt0 {t:TypeId} {name:String} {g:FuncId} {x:Value} (h:ivkOf P t name=some g) (k:Nat):(method (k+1) t x name).run P w=.ok (g,x) w:=by
 unfold ivkOf at h;split at h
 ·rename_i i hi;split at h
  ·rename_i m hm;split at h
   ·rename_i hp;split at h
    ·rename_i f fs e1 e2;injection h with h
     subst h;have hp':m.path.toList=[]:=by simpa using hp
     simp only [method,Zy3,run_typeInfo w hi,Zy2,hm,hp',follow,Zy9,e1,receiverAt,Zy4 e2,Place.get]
    ·cases h
   ·cases h
  ·cases h
 ·cases h
theorem Zum (z:Value) {j:Nat} {b:AV} {y:Value} (hb:(AV.ofVal z).cells[j]?=some b) (hy:z.cells[j]?=some y):b=.v y:=by
 cases z<;>first
  | (simp only [AV.ofVal,AV.cells,Value.cells] at hb hy
     match j with
     | 0=>simp at hb hy;rw [←hb,←hy]
     | j+1=>simp at hb)
  | (simp only [AV.ofVal,AV.cells,Value.cells,Zzu,ZBa] at hb hy
     rw [hy] at hb;simp at hb;exact hb.symm)
theorem s_clear {t ty:TypeId} {xv:AV} {x:Value} (h:Rel c n st a w imm) (hd:∀d,o.dst=some d→d < n) (hK:aRes P tok o.dst (Zjw P st t xv) K st) (hx:Rs w imm xv x) :
 o.upon P a (Zbv c n K) Q (((do pure (Next.value (←Builtin.clear_ #[t] ty #[x]))):Sem Next).run P w):=by
 unfold Zjw at hK;split at hK
 ·rename_i e k sv m i len hu;split at hK
  ·rename_i sv' e' m' es pub m₂ z hk hsz hzo;obtain⟨⟨rfl,rfl,rfl,rfl,hle,hm0,hzs,hzl,hzok⟩,hK⟩:=hK;have hvw:=hx.view_inv;by_cases hl0:len=0
   ·subst hl0;have e1:es.take i++List.replicate 0 (AV.ofVal z)++es.drop (i+0)=es:=by simp
    rw [e1] at hK;have e2:∀m:Mem,m k=some (.row sv e' m₂ es 0)→upd m k (some (.row sv e' m₂ es 0))=m:=λm hm=>by
     funext j
     rw [Zal];split
     ·subst_vars;exact hm.symm
     ·rfl
    have hrun:(Builtin.clear_ #[t] ty #[x]).run P w=.ok (.tuple #[]) w:=by
     rcases hvw with⟨rfl,_,_,rfl⟩ | ⟨g,n1,c1,off,cap,rfl,rfl,_⟩<;>simp [Builtin.clear_,Zy4 hu]
    rw [Zht hrun];refine Zf3 h hd hK (.inl rfl) λi' hm' hk'=>⟨?_,Keeps.refl _ _,.pure (.v _)⟩;have:marks st.mem []=st.mem:=rfl;rw [this] at hm' ⊢;rw [e2 _ hk];exact hm'
   ·rcases hvw with⟨_,_,hl,_⟩ | ⟨g,n1,c1,off,cap,rfl,rfl,hin,hlc,hoff,_⟩
    ·exact absurd hl hl0
    have hoff:=hoff (ZAz hl0);subst hoff;have hvl:(Builtin.zeroCells z.cells len).toList.length=len*m₂:=by rw [ZBb,size_zeroCells,hzs]
    have hl1:(es.take i++List.replicate len (AV.ofVal z)++es.drop (i+len)).length=es.length:=by simp;omega
    obtain⟨xs,hown,hmm,hokk,-⟩:=h.mem.ok.ent k _ hk;have hmr:∀y∈List.replicate len (AV.ofVal z),y.cells.length=m₂:=λy hy=>by rw [ZBj hy];exact hzl
    have z1:∀v∈(Builtin.zeroCells z.cells len).toList,v.oneCell'=true:=by
     intro v hv;unfold Builtin.zeroCells at hv;simp only [Array.toList_map,List.mem_map,Array.toList_range,List.mem_range] at hv;obtain⟨q,hq,rfl⟩:=hv;have hlt:q%z.cells.size < z.cells.size:=Zzs _ (by rw [hzs];exact hm0);exact Zil (w:=w) (imm:=imm) (Zmx w imm z) hzok _ (by rw [getElem!_pos z.cells _ hlt];simp)
    have put:∀i2,Mx c st.mem w i2→∃w',(storeCells ⟨g,i*m₂,none⟩ (Builtin.zeroCells z.cells len).toList).run P w=.ok () w'∧Mx c (upd st.mem k (some (.row (.slice (some ⟨g,0,none⟩) n1 c1) e' m₂ (es.take i++List.replicate len (AV.ofVal z)++es.drop (i+len)) 0))) w' i2∧Keeps w i2 w' i2:=by
     intro i2 hm2;refine Zp2 hm2 hk hl1 (by rw [hvl,←Zze];exact Zzf _ hle) zs z1 ?_ ?_ λj b hb=>?_
     ·intro y hy;simp only [ZBc] at hy;rcases hy with(hy | hy) | hy
      ·exact hmm y (Zzy hy)
      ·exact hmr y hy
      ·exact hmm y (ZA2 hy)
     ·intro y hy;simp only [ZBc] at hy;rcases hy with(hy | hy) | hy
      ·exact hokk y (Zzy hy)
      ·rw [ZBj hy];exact hzok
      ·exact hokk y (ZA2 hy)
     ·have hf1:(flat (es.take i)).length=i*m₂:=by rw [Zaz λy hy=>hmm y (Zzy hy),Zy1,ZAk zo]
      have hf2:(flat (List.replicate len (AV.ofVal z))).length=len*m₂:=by rw [Zaz hmr,ZCc]
      rw [Zbk,Zbk] at hb;rw [hvl];split
      ·rename_i hc;intro y hy;rw [Zzr (by rw [Zza];omega),Zzv zo,hf1] at hb;generalize hq:j - i*m₂=q at *;have hqj:q < len*m₂:=zo;have hdm:q=(q/m₂)*m₂+q%m₂:=by rw [Zzj];exact(ZAy q m₂).symm
       have hq2:q/m₂ < len:=by rw [ZBk hm0];exact hqj
       have hfg:=Zdq hmr (q/m₂) (q%m₂) (Zzs _ hm0) (by simpa using hq2);rw [←hdm,hb,Zyu,ZCz,Zyk hq2] at hfg;simp only [Zz9] at hfg;have hlt:q%m₂ < z.cells.size:=by rw [hzs];exact Zzs _ hm0
       have hy2:y=z.cells[q%m₂]!:=by
        rw [ZBa] at hy;unfold Builtin.zeroCells at hy;rw [ZCm,Array.getElem?_range,Zyk (by rw [hzs];exact hqj),hzs] at hy
        simpa using hy.symm
       have:=Zum z hfg.symm (y:=y) (by rw [hy2,Zzl hlt];simp [hlt]);rw [this];exact .v y
      ·rename_i hc
       have e0:flat es=flat (es.take i)++flat ((es.drop i).take len)++flat (es.drop (i+len)):=by
        rw [←Zbk,←Zbk,Zzt,←ZBu,ZAw,ZAw]
       have hf3:(flat ((es.drop i).take len)).length=len*m₂:=by
        rw [Zaz λy hy=>hmm y (ZA2 (Zzy hy)),Zy1,ZA5,ZAk zo]
       rw [e0];by_cases hj:j < i*m₂
       ·rw [Zzr (by rw [Zza];omega),Zzr zo] at hb ⊢;exact hb
       ·rw [Zzv (by rw [Zza];omega),Zza] at hb ⊢;rw [hf1,hf2] at hb;rw [hf1,hf3];exact hb
    obtain⟨w',hrun,_,_⟩:=put imm h.mem
    have hall:(Builtin.clear_ #[t] ty #[.slice (some ⟨g,i*m₂,none⟩) len cap]).run P w=.ok (.tuple #[]) w':=by
     obtain⟨q,rfl⟩:∃q,len=q+1:=⟨len - 1,zo⟩;simp [Builtin.clear_,Zy4 hu,Zak hzo,hrun]
    rw [Zht hall];refine Zf3 h hd hK (.inl rfl) λi' hm' hk'=>?_;obtain⟨w2,hrun2,hm2,hk2⟩:=put i' hm';rw [hrun] at hrun2;cases hrun2;exact⟨hm2,hk2,.pure (.v _)⟩
  ·exact hK.elim
 ·exact hK.elim
theorem s_call {cl:Call} {ty:TypeId} (h:Rel c n st a w imm) (hd:∀d,o.dst=some d→d < n) (hK:aRes P tok o.dst (Zco P st cl) K st) :
 o.upon P a (Zbv c n K) Q (((do let d ←resolve a.eval cl ty;invoke d.target d.args):Sem Next).run P w):=by
 unfold Zco at hK;split at hK
 ·rename_i hc;split at hK
  ·rename_i x t hx ht;rw [Zf4 hc,Zt1 hx,Zt1 ht,map1 a.eval];split at hK
   ·rename_i d hu;exact s_len h hd hu hK (h.ev x)
   ·exact hK.elim
  ·exact hK.elim
 ·rename_i hc;split at hK
  ·rename_i x t hx ht;rw [Zf4 hc,Zt1 hx,Zt1 ht,map1 a.eval];split at hK
   ·rename_i d hu;exact s_cap h hd hu hK (h.ev x)
   ·exact hK.elim
  ·exact hK.elim
 ·rename_i hc;split at hK
  ·rename_i s x t t' hx ht;rw [Zf4 hc,list2 hx,list2 ht,map2 a.eval];exact s_append h hd hK (h.ev s) (h.ev x)
  ·exact hK.elim
 ·rename_i hc;split at hK
  ·rename_i s x t t' hx ht;rw [Zf4 hc,list2 hx,list2 ht,map2 a.eval];exact s_copy h hd hK (h.ev s) (h.ev x)
  ·exact hK.elim
 ·rename_i hc;split at hK
  ·rename_i x t hx ht;rw [Zf4 hc,Zt1 hx,Zt1 ht,map1 a.eval];exact s_clear h hd hK (h.ev x)
  ·exact hK.elim
 ·rename_i hc;rw [Zf4 hc];generalize hl:cl.args.toList=l at hK;have hal:cl.args=l.toArray:=by rw [←hl]
  rw [hal]
  match l,hK with
  | [x,y],hK =>
    unfold Zkn at hK;simp only [Zz2,Zzx] at hK;split at hK
    ·rename_i k i k' j heq;simp only [List.cons.injEq,and_true] at heq;obtain⟨rfl,hK⟩:=hK;have e1:=h.ev x;rw [heq.1] at e1;have e2:=h.ev y;rw [heq.2] at e2;refine Zae h hd hK ?_ (.pure (.v _));simp [e1.v_inv,e2.v_inv,Builtin.max_,Builtin.max2]
    ·rename_i heq;simp at heq
    ·exact hK.elim
  | [x,y,z],hK =>
    unfold Zkn at hK;simp only [Zz2,Zzx] at hK;split at hK
    ·rename_i heq;simp at heq
    ·rename_i k i k' j k'' j2 heq;simp only [List.cons.injEq,and_true] at heq;obtain⟨⟨rfl,rfl⟩,hK⟩:=hK;have e1:=h.ev x;rw [heq.1] at e1;have e2:=h.ev y;rw [heq.2.1] at e2;have e3:=h.ev z;rw [heq.2.2] at e3;refine Zae h hd hK ?_ (.pure (.v _));simp [e1.v_inv,e2.v_inv,e3.v_inv,Builtin.max_,Builtin.max2]
    ·exact hK.elim
  | [],hK=>exact hK.elim
  | [x],hK=>simp [Zkn,aRes] at hK
  | x :: y :: z :: u :: r,hK=>simp [Zkn,aRes] at hK
 ·rename_i hc;rw [Zf4 hc];generalize hl:cl.args.toList=l at hK;have hal:cl.args=l.toArray:=by rw [←hl]
  rw [hal]
  match l,hK with
  | [x,y],hK =>
    unfold Zkn at hK;simp only [Zz2,Zzx] at hK;split at hK
    ·rename_i k i k' j heq;simp only [List.cons.injEq,and_true] at heq;obtain⟨rfl,hK⟩:=hK;have e1:=h.ev x;rw [heq.1] at e1;have e2:=h.ev y;rw [heq.2] at e2;refine Zae h hd hK ?_ (.pure (.v _));simp [e1.v_inv,e2.v_inv,Builtin.min_,Builtin.min2]
    ·rename_i heq;simp at heq
    ·exact hK.elim
  | [x,y,z],hK =>
    unfold Zkn at hK;simp only [Zz2,Zzx] at hK;split at hK
    ·rename_i heq;simp at heq
    ·rename_i k i k' j k'' j2 heq;simp only [List.cons.injEq,and_true] at heq;obtain⟨⟨rfl,rfl⟩,hK⟩:=hK;have e1:=h.ev x;rw [heq.1] at e1;have e2:=h.ev y;rw [heq.2.1] at e2;have e3:=h.ev z;rw [heq.2.2] at e3;refine Zae h hd hK ?_ (.pure (.v _));simp [e1.v_inv,e2.v_inv,e3.v_inv,Builtin.min_,Builtin.min2]
    ·exact hK.elim
  | [],hK=>exact hK.elim
  | [x],hK=>simp [Zkn,aRes] at hK
  | x :: y :: z :: u :: r,hK=>simp [Zkn,aRes] at hK
 ·rename_i f hc;split at hK
  ·rename_i g caps hf;have hfv:=h.ev f;rw [hf] at hfv;obtain⟨vs,hv,hl,hr⟩:=hfv.fn_inv;obtain⟨hal,har⟩:=Znh (xs:=cl.args) h
   have hrun:((do let d ←resolve a.eval cl ty;invoke d.target d.args):Sem Next).run P w=.ok (.enter g (cl.args.map a.eval++vs)) w:=by
    simp only [resolve,hc,hv,Deferred.ofValue,Zy3,Zy9,Zy2,invoke,Array.empty_append];exact hK.1 _ _
   rw [hrun];refine Znt h hd hK (by simp [hl]) λj b y hb hy=>?_;rcases Zy5 j cl.args.size with hj | hj
   ·rw [Zzr (by simpa using hj)] at hb;rw [ZB5 (by simpa using hj)] at hy;exact har j b y hb hy
   ·rw [Zzv (by simpa using hj)] at hb;rw [Array.getElem?_append_right (by simpa using hj)] at hy;simp only [Zyn,ZBb] at hb;simp only [Array.size_map] at hy;exact hr _ b y hb hy
  ·exact hK.elim
 ·rename_i r name hc;split at hK
  ·rename_i t x hf;split at hK
   ·rename_i g hg;have hfv:=h.ev r;rw [hf] at hfv;obtain⟨v,hv,hrv⟩:=hfv.ifc_inv;obtain⟨hal,har⟩:=Znh (xs:=cl.args) h;have hm:=λk=>Zt0 (w:=w) (x:=v) hg k
    have hrun:((do let d ←resolve a.eval cl ty;invoke d.target d.args):Sem Next).run P w=.ok (.enter g (#[v]++cl.args.map a.eval)) w:=by
     simp only [resolve,hc,Zy3,Zy9,Zy2,invoke,hv];have h0:(#[Value.iface t v]++cl.args.map a.eval)[0]?=some (Value.iface t v):=by rw [ZB5 zs];rfl
     have h1:(#[Value.iface t v]++cl.args.map a.eval).extract 1 (#[Value.iface t v]++cl.args.map a.eval).size=cl.args.map a.eval:=by
      apply Array.ext';simp;exact ZAl zs
     simp only [h0,h1,callMethod,Zy3,Zy9,run_program,Zy2];rw [show P.types.size+Made.depth=(P.types.size+99)+1 from rfl,hm];exact hK.1 _ _
    rw [hrun];refine Znt h hd hK (by simp [ZBh]) λj b y hb hy=>?_
    cases j with
    | zero =>
      rw [ZB5 zs] at hy;obtain rfl:x=b:=by simpa using hb
      obtain rfl:v=y:=by simpa using hy
      exact hrv
    | succ j =>
      refine har j b y (by simpa using hb) ?_;rw [Array.getElem?_append_right zs] at hy
      simpa using hy
   ·exact hK.elim
  ·exact hK.elim
 ·exact hK.elim
theorem Born.push {es:Array MapEntry} {clock:Nat} (h:Born es clock) (key val:Value):Born (es.push { key,val,born:=clock }) (clock+1):=by
 refine⟨λx hx=>?_,?_⟩
 ·simp only [Array.toList_push,ZBc,ZAr] at hx;rcases hx with hx | rfl
  ·exact Nat.lt_succ_of_lt (h.1 x hx)
  ·exact Nat.lt_succ_self _
 ·simp only [Array.toList_push,Zzh,Zz2,Zzx];refine List.nodup_append.2 ⟨h.2,by simp,λa ha b hb=>?_⟩;obtain⟨x,hx,rfl⟩:=List.mem_map.1 ha;have:=h.1 x hx;simp only [ZAr] at hb;omega
theorem Born.modify {es:Array MapEntry} {clock:Nat} (h:Born es clock) (i:Nat) (f:MapEntry→MapEntry) (hf:∀e,(f e).born=e.born):Born (es.modify i f) clock:=by
 have hb:(es.modify i f).toList.map (·.born)=es.toList.map (·.born):=by
  apply List.ext_getElem?;intro j;simp only [Zzu,ZBa,ZDa];split
  ·cases es[j]?<;>simp [hf]
  ·rfl
 refine⟨λx hx=>?_,by rw [hb];exact h.2⟩;have:x.born∈(es.modify i f).toList.map (·.born):=List.mem_map.2 ⟨x,hx,rfl⟩;rw [hb] at this;obtain⟨y,hy,e⟩:=List.mem_map.1 this;rw [←e];exact h.1 y hy
def KeyOk (P:Program) (kt:TypeId):MKey→Prop
 | .s _=>P.underlying kt=some .string
 | .l ns=>stI P kt ns.length=true
theorem Zsg:∀{cs:List AV} {ns:List Int} {vs:List Value},Zo6 cs=some ns→cs.length=vs.length→(∀(j:Nat) (a:AV) (y:Value),cs[j]?=some a→vs[j]?=some y→Rs w imm a y)→vs=ns.map (Value.int .i64)
 | [],ns,vs,h,hl,hr=>by
   cases h;exact List.length_eq_zero_iff.1 hl.symm
 | b :: cs,ns,[],h,hl,hr=>by simp at hl
 | b :: cs,ns,v :: vs,h,hl,hr=>by
   unfold Zo6 at h;split at h
   ·rename_i heq;cases heq
   ·rename_i i r heq;cases heq;obtain⟨ms,h1,rfl⟩:=Option.map_eq_some_iff.1 h;have:=(hr 0 _ v rfl rfl).v_inv;subst this;have e:vs=ms.map (Value.int .i64):=Zsg h1 (by simpa using hl) λj a y ha hy=>hr (j+1) a y (by simpa using ha) (by simpa using hy);rw [e];rfl
   ·cases h
theorem mk_of {kt:TypeId} {k:AV} {κ:MKey} {x:Value} (h:mkOf P kt k=some κ) (hx:Rs w imm k x):x=κ.val∧KeyOk P kt κ:=by
 unfold mkOf at h;split at h
 ·rename_i hu;cases h;exact⟨hx.v_inv,hu⟩
 ·rename_i fs cs hu;split at h
  ·rename_i ns hn;split at h
   ·rename_i hs;cases h;obtain⟨vs,rfl,hl,hr⟩:=hx.agg_inv;refine⟨?_,hs⟩;have:vs.toList=ns.map (Value.int .i64):=Zsg hn (by simpa using hl) λj a y ha hy=>hr j a y ha (by simpa using hy);show Value.agg vs=.agg (ns.map (Value.int .i64)).toArray;rw [←this]
   ·cases h
  ·cases h
 ·cases h
theorem Zu2 {kt : TypeId} {n : Nat} (h : stI P kt n = true) : P.stoodInHeld kt = false ∧ ∃ fs, P.underlying kt = some (.struct fs) ∧ fs.toList.map (·.offset) = List.range n ∧ ∀ f ∈ fs.toList, f.name ≠ "_" ∧ P.underlying f.type = some (.int .i64) ∧ f.offset < n := by
 unfold stI at h;split at h
 ·rename_i fs hu;simp only [Zy7,ZAs,Zzi,ZA3,bne_iff_ne,ne_eq] at h;obtain⟨h0,h1,h2⟩:=h;refine⟨h0,fs,hu,h1,λf hf=>⟨(h2 f hf).1,?_,?_⟩⟩
  ·have:=(h2 f hf).2;split at this
   ·assumption
   ·cases this
  ·have:f.offset∈fs.toList.map (·.offset):=List.mem_map.2 ⟨f,hf,rfl⟩;rw [h1] at this;exact List.mem_range.1 this
 ·simp at h
theorem Zxf (ns:List Int) {j:Nat} (h:j < ns.length):(ns.map (Value.int .i64)).toArray[j]?=some (.int .i64 (ns.getD j 0)):=by
 rw [ZAm,Zzu,Zym h,Zyu,Zym h];rfl
theorem Zo4 {kt:TypeId} {κ:MKey} (h:KeyOk P kt κ) (b:Bool):(Instr.checkKey b 10000 kt κ.val).run P w=.ok () w:=by
 cases κ with
 | s t=>exact MapKept.run_checkKey (k:=.string t) h (by trivial) _ 9999
 | l ns =>
   obtain⟨-,fs,hu,-,hf⟩:=Zu2 h;show(Instr.checkKey b 10000 kt (.agg (ns.map (Value.int .i64)).toArray)).run P w=_;unfold Instr.checkKey;simp only [Zy3,Zy4 hu,Zy2,←Array.forIn_toList];generalize fs.toList=gs at hf
   induction gs with
   | nil=>rfl
   | cons f gs ih =>
     obtain⟨a1,a2,a3⟩:=hf f (.head _);have hp:(part f.type (ns.map (Value.int .i64)).toArray f.offset).run P w=.ok (.int .i64 (ns.getD f.offset 0)) w:=Zdl a2 rfl (Zxf ns a3)
     have hc:(Instr.checkKey b 9999 f.type (.int .i64 (ns.getD f.offset 0))).run P w=.ok () w:=by
      unfold Instr.checkKey;simp [Zy4 a2]
     simp only [List.forIn_cons,a1,ne_eq,not_false_eq_true,Zzb,Zy3,hp,hc,Zy2,Zy9];exact ih λg hg=>hf g (.tail _ hg)
theorem key_eq {kt:TypeId} {ns ms:List Int} (h:stI P kt ns.length=true) (hl:ms.length=ns.length):(Op.equal kt (MKey.l ns).val (MKey.l ms).val).run P w=.ok (decide (ns=ms)) w:=by
 obtain⟨h0,fs,hu,ho,hf⟩:=Zu2 h;have hfo:P.fieldsOf kt=fs:=by simp [Program.fieldsOf,hu]
 have hnm : (fs.toList.all fun f => f.name != "_") = true := List.all_eq_true.2 fun f hf' => by simpa using (hf f hf').1
 show(Op.equalIn 10000 kt (.agg (ns.map (Value.int .i64)).toArray) (.agg (ms.map (Value.int .i64)).toArray)).run P w=_;rw [show(10000:Nat)=9999+1 from rfl,run_equalIn_agg (P:=P) w 9999 kt _ _ (by rw [hfo];exact hu) h0,hfo,Zgq _ hnm]
 have key:∀(gs:List Field),(∀f∈gs,P.underlying f.type=some (.int .i64)∧f.offset < ns.length)→(Zlk 9999 (ns.map (Value.int .i64)).toArray (ms.map (Value.int .i64)).toArray (gs.map λf=>(f.type,f.offset))).run P w=.ok (gs.all λf=>ns.getD f.offset 0 == ms.getD f.offset 0) w:=by
  intro gs hg
  induction gs with
  | nil=>rfl
  | cons f gs ih =>
    obtain⟨a2,a3⟩:=hg f (.head _);have e1:(part f.type (ns.map (Value.int .i64)).toArray f.offset).run P w=.ok (.int .i64 (ns.getD f.offset 0)) w:=Zdl a2 rfl (Zxf ns a3);have e2:(part f.type (ms.map (Value.int .i64)).toArray f.offset).run P w=.ok (.int .i64 (ms.getD f.offset 0)) w:=Zdl a2 rfl (Zxf ms zo);have e3:=run_equalIn_int (P:=P) w 9998 f.type .i64 .i64 (ns.getD f.offset 0) (ms.getD f.offset 0) a2;have ih:=ih λg hg'=>hg g (.tail _ hg');simp only [Zz2,Zlk,Zy3,e1,e2,e3,Zy2,ZB3]
    cases ns.getD f.offset 0 == ms.getD f.offset 0 with
    | true=>simpa only [Zzb,ZAv] using ih
    | false=>simp only [Zyy,Zy8,Zzc,Zy9]
 rw [key _ λf hf'=>(hf f hf').2];congr 1;rw [Zzg,ZA3,Zzi];constructor
 ·intro g;refine List.ext_getElem hl.symm λi h1 h2=>?_;have:i∈fs.toList.map (·.offset):=by rw [ho];exact List.mem_range.2 h1
  obtain⟨f,hf',rfl⟩:=List.mem_map.1 this;have:=g f hf';rw [Zyu,Zyu,Zym h1,Zym h2] at this
  simpa using this
 ·rintro rfl f -
  simp
theorem Zxe (κ:MKey):(Instr.keyThatStays κ.val κ.val).run P w=.ok κ.val w:=by
 have:Instr.sameBits 10000 κ.val κ.val=true:=by
  cases κ with
  | s t=>exact(MapKept.bytes_beq _ _).2 rfl
  | l ns =>
    have h:∀l:List Int,((l.map (Value.int .i64)).zip (l.map (Value.int .i64))).all (fun(x,y)=>Instr.sameBits 9999 x y)=true:=λl=>by
     induction l with
     | nil=>rfl
     | cons i l ih=>simp [Instr.sameBits,ih]
    show((ns.map (Value.int .i64)).toArray.size == (ns.map (Value.int .i64)).toArray.size && ((ns.map (Value.int .i64)).toArray.toList.zip (ns.map (Value.int .i64)).toArray.toList).all fun(x,y)=>Instr.sameBits 9999 x y)=true;rw [h ns,beq_self_eq_true];rfl
 unfold Instr.keyThatStays;rw [Zyk this];rfl
theorem find_s {w:World} {imm:Imm} (s:ByteArray):∀(l:List MapEntry) (es:List (MKey × AV)) (i:Nat),es.length=l.length→Zow (.s s) es=true →
 (∀(j:Nat) (a:MKey × AV) (x:MapEntry),es[j]?=some a→l[j]?=some x→x.key=a.1.val∧Rd w imm a.2 x.val) →
 (Instr.findNow .string (.string s) l i=some none∧Zif (.s s) es=none∧∀y,Zgm (.s s) y es=es++[(.s s,y)]) ∨
 ∃(j:Nat) (x:MapEntry) (v:AV),Instr.findNow .string (.string s) l i=some (some (i+j,x.val))∧l[j]?=some x∧x.key=.string s∧Zif (.s s) es=some v∧Rd w imm v x.val∧j < es.length∧∀y,Zgm (.s s) y es=es.set j (.s s,y)
 | [],[],i,_,_,_=>.inl ⟨rfl,rfl,λ_=>rfl⟩
 | [],a :: r,_,hl,_,_=>by simp at hl
 | x :: l,[],_,hl,_,_=>by simp at hl
 | x :: l,a :: es,i,hl,ha,hr=>by
   obtain⟨hk,hv⟩:=hr 0 a x rfl rfl;obtain⟨κ,v⟩:=a;have ha':(MKey.like (.s s) κ && Zow (.s s) es)=true:=ha;rw [Zy7] at ha';have ih:=find_s s l es (i+1) (by simpa using hl) ha'.2 λj b y h1 h2=>hr (j+1) b y (by simpa using h1) (by simpa using h2)
   cases κ with
   | l ns=>cases ha'.1
   | s t =>
   replace hk:x.key=.string t:=hk
   by_cases h:t=s
   ·subst h;refine .inr ⟨0,x,v,?_,rfl,hk,by simp [Zif],hv,by simp,λy=>by simp [Zgm]⟩;unfold Instr.findNow;rw [hk];have hb:(t == t)=true:=(MapKept.bytes_beq _ _).2 rfl;simp [Instr.sameNow,hb]
   ·have hb:(s == t)=false:=by
     cases hh:(s == t) with
     | false=>rfl
     | true=>exact absurd ((MapKept.bytes_beq _ _).1 hh).symm h
    have hs:Instr.findNow .string (.string s) (x :: l) i=Instr.findNow .string (.string s) l (i+1):=by
     conv=>lhs;unfold Instr.findNow
     rw [hk];simp [Instr.sameNow,hb]
    have h':¬MKey.s t=MKey.s s:=λg=>h (by cases g;rfl);rcases ih with⟨h1,h2,h3⟩ | ⟨j,y,v,h1,h2,h3,h4,h5,h6,h7⟩
    ·exact .inl ⟨by rw [hs,h1],by simp [Zif,h',h2],λz=>by simp [Zgm,h',h3 z]⟩
    ·exact .inr ⟨j+1,y,v,by rw [hs,h1];congr 3;omega,by simpa using h2,h3,by simp [Zif,h',h4],h5,by simp;omega,λz=>by simp [Zgm,h',h7 z]⟩
theorem find_l {w:World} {imm:Imm} {kt:TypeId} {ns:List Int} (hk:stI P kt ns.length=true):∀(l:List MapEntry) (es:List (MKey × AV)) (i:Nat),es.length=l.length→Zow (.l ns) es=true →
 (∀(j:Nat) (a:MKey × AV) (x:MapEntry),es[j]?=some a→l[j]?=some x→x.key=a.1.val∧Rd w imm a.2 x.val) →
 ((Instr.findAsking kt (MKey.l ns).val l i).run P w=.ok none w∧Zif (.l ns) es=none∧∀y,Zgm (.l ns) y es=es++[(.l ns,y)]) ∨
 ∃(j:Nat) (x:MapEntry) (v:AV),(Instr.findAsking kt (MKey.l ns).val l i).run P w=.ok (some (i+j,x.val)) w∧l[j]?=some x∧x.key=(MKey.l ns).val∧Zif (.l ns) es=some v∧Rd w imm v x.val∧j < es.length∧∀y,Zgm (.l ns) y es=es.set j (.l ns,y)
 | [],[],i,_,_,_=>.inl ⟨rfl,rfl,λ_=>rfl⟩
 | [],a :: r,_,hl,_,_=>by simp at hl
 | x :: l,[],_,hl,_,_=>by simp at hl
 | x :: l,a :: es,i,hl,ha,hr=>by
   obtain⟨hkx,hv⟩:=hr 0 a x rfl rfl;obtain⟨κ,v⟩:=a;have ha':(MKey.like (.l ns) κ && Zow (.l ns) es)=true:=ha;rw [Zy7] at ha';have ih:=find_l hk l es (i+1) (by simpa using hl) ha'.2 λj b y h1 h2=>hr (j+1) b y (by simpa using h1) (by simpa using h2)
   cases κ with
   | s t=>cases ha'.1
   | l ms =>
   have hlen:ms.length=ns.length:=(beq_iff_eq.1 (show(ns.length == ms.length)=true from ha'.1)).symm
   replace hkx:x.key=(MKey.l ms).val:=hkx
   have he:=key_eq (P:=P) (w:=w) hk hlen;by_cases h:ns=ms
   ·subst h;rw [Zyo rfl] at he;refine .inr ⟨0,x,v,?_,rfl,hkx,by simp [Zif],hv,by simp,λy=>by simp [Zgm]⟩;simp only [Instr.findAsking,Zy3,hkx,he,Zy2,Zzb,Zy9,Zzm]
   ·rw [Zyl h] at he
    have hs:(Instr.findAsking kt (MKey.l ns).val (x :: l) i).run P w=(Instr.findAsking kt (MKey.l ns).val l (i+1)).run P w:=by
     simp only [Instr.findAsking,Zy3,hkx,he,Zy2,Zyy,Zy8]
    have h':¬MKey.l ms=MKey.l ns:=λg=>h (by cases g;rfl);rcases ih with⟨h1,h2,h3⟩ | ⟨j,y,v,h1,h2,h3,h4,h5,h6,h7⟩
    ·exact .inl ⟨by rw [hs,h1],by simp [Zif,h',h2],λz=>by simp [Zgm,h',h3 z]⟩
    ·exact .inr ⟨j+1,y,v,by rw [hs,h1];congr 3;omega,by simpa using h2,h3,by simp [Zif,h',h4],h5,by simp;omega,λz=>by simp [Zgm,h',h7 z]⟩
theorem Zpb {w:World} {imm:Imm} {kt:TypeId} (κ:MKey) (hk:KeyOk P kt κ) (l:List MapEntry) (es:List (MKey × AV)) (hl:es.length=l.length) (ha:Zow κ es=true)
 (hr:∀(j:Nat) (a:MKey × AV) (x:MapEntry),es[j]?=some a→l[j]?=some x→x.key=a.1.val∧Rd w imm a.2 x.val) :
 ((Instr.findKey kt κ.val l).run P w=.ok none w∧Zif κ es=none∧∀y,Zgm κ y es=es++[(κ,y)]) ∨
 ∃(j:Nat) (x:MapEntry) (v:AV),(Instr.findKey kt κ.val l).run P w=.ok (some (j,x.val)) w∧l[j]?=some x∧x.key=κ.val∧Zif κ es=some v∧Rd w imm v x.val∧j < es.length∧∀y,Zgm κ y es=es.set j (κ,y):=by
 cases κ with
 | s t =>
   rcases find_s (w:=w) (imm:=imm) t l es 0 hl ha hr with⟨f1,f2⟩ | ⟨j,x,v,f1,f2⟩
   ·exact .inl ⟨MapKept.run_findKey hk f1,f2⟩
   ·exact .inr ⟨j,x,v,by rw [Zzd] at f1;exact MapKept.run_findKey hk f1,f2⟩
 | l ns =>
   obtain⟨-,fs,hu,-⟩:=Zu2 hk
   have hrun:(Instr.findKey kt (MKey.l ns).val l).run P w=(Instr.findAsking kt (MKey.l ns).val l 0).run P w:=by
    cases l with
    | nil=>simp [Instr.findKey,Zy4 hu,Instr.findNow,Instr.findAsking]
    | cons x l=>simp [Instr.findKey,Zy4 hu,Instr.findNow,Instr.sameNow]
   rw [hrun];rcases find_l hk l es 0 hl ha hr with⟨f1,f2⟩ | ⟨j,x,v,f1,f2⟩
   ·exact .inl ⟨f1,f2⟩
   ·exact .inr ⟨j,x,v,by rw [Zzd] at f1;exact f1,f2⟩
theorem s_lookup {t:TypeId} {m k:Operand} {ok:Bool} (h:Rel c n st a w imm) (hd:∀d,o.dst=some d→d < n) (hK:aRes P tok o.dst (Zih P st t (st.ev m) (st.ev k) ok) K st) :
 o.upon P a (Zbv c n K) Q ((do let v ←Instr.lookup t (a.eval m) (a.eval k) ok;pure (.value v):Sem Next).run P w):=by
 unfold Zih at hK;split at hK
 ·rename_i kt et hu;split at hK
  ·rename_i κ tk g hmk hm;split at hK
   ·rename_i g' es z hmem hz;obtain⟨⟨rfl,hall⟩,hK⟩:=hK;have em:=h.ev m;rw [hm] at em;have em:=em.mp_inv;obtain⟨ek,hko⟩:=mk_of hmk (h.ev k);obtain⟨arr,clock,hh,hB,hl,hr,hbo,hp⟩:=h.mem.ok.ent tk _ hmem;have hzr:(zeroValue et).run P w=.ok z w:=Zak hz;have hck:=Zo4 (P:=P) (w:=w) hko arr.isEmpty;have hval:∀(av:AV) (x:Value),Rs w imm av x→∀b,Rs w imm (if ok then .tup [av,.v (.bool b)] else av) (if ok then .tuple #[x,.bool b] else x):=λav x hx b=>by
     cases ok with
     | false=>exact hx
     | true =>
       refine .tup _ _ rfl λj a y h1 h2=>?_
       match j with
       | 0=>simp at h1 h2;subst h1;subst h2;exact hx
       | 1=>simp at h1 h2;subst h1;subst h2;exact .pure (.v _)
       | j+2=>simp at h1
    rcases Zpb (w:=w) (imm:=imm) κ hko arr.toList es (by simpa using hl) hall (λj b x h1 h2=>hr j b x h1 (by simpa using h2)) with⟨f1,f2,-⟩ | ⟨j,x,v,f1,-,-,f4,f5,-⟩
    ·rw [f2] at hK;refine Zae h hd hK ?_ (hval (AV.ofVal z) z (h.ev (.const z)) false);simp only [Instr.lookup,em,ek,Zy3,Zy4 hu,Zy2,ZCo hh,Zy9,hck,f1,hzr]
    ·rw [f4] at hK;refine Zae h hd hK ?_ (hval v x.val (.pure f5) true);simp only [Instr.lookup,em,ek,Zy3,Zy4 hu,Zy2,ZCo hh,Zy9,hck,f1]
   ·exact hK.elim
  ·exact hK.elim
 ·exact hK.elim
theorem Zpw {t:TypeId} {m k x:Operand} (h:Rel c n st a w imm) (hd:∀d,o.dst=some d→d < n) (hK:aRes P tok o.dst (Zig P st t (st.ev m) (st.ev k) (st.ev x)) K st) :
 o.upon P a (Zbv c n K) Q ((do Instr.mapUpdate t (a.eval m) (a.eval k) (a.eval x);pure .skip:Sem Next).run P w):=by
 unfold Zig at hK;split at hK
 ·rename_i kt et hu;split at hK
  ·rename_i κ tk g hmk hm;split at hK
   ·rename_i g' es hmem;obtain⟨⟨rfl,hall,hpo⟩,hK⟩:=hK;have em:=h.ev m;rw [hm] at em;have em:=em.mp_inv;obtain⟨ek,hko⟩:=mk_of hmk (h.ev k);obtain⟨i0,hm0,hk0⟩:=Zc1 (st.ev x).toks h.mem;obtain⟨arr,clock,hh,hB,hl,hr,hbo,hp⟩:=hm0.ok.ent tk _ hmem;have hlt:g < w.heap.size:=(Array.getElem?_eq_some_iff.1 hh).1;have hck:=Zo4 (P:=P) (w:=w) hko false;have hset:∀o':Obj,(setObj g o').run P w=.ok () { w with heap:=w.heap.setIfInBounds g o' }:=λo'=>MapKept.run_setObj_map o' hh;have hgrow:∀o':Obj,w.grownBy { w with heap:=w.heap.setIfInBounds g o' } (some g):=λo'=>by
     refine⟨rfl,rfl,rfl,by simp,λk hk hne=>?_⟩;simp only;rw [ZDh (λh9=>hne (by rw [h9]))]
    have fin:∀(arr':Array MapEntry) (clock':Nat),Born arr' clock'→(Zgm κ (pubV (marks st.mem (st.ev x).toks) (st.ev x)) es).length=arr'.size →
     (∀(imm':Imm),Rd w imm' (pubV (marks st.mem (st.ev x).toks) (st.ev x)) (a.eval x)→(∀(j:Nat) (b:MKey × AV) (y:MapEntry),es[j]?=some b→arr[j]?=some y→y.key=b.1.val∧Rd w imm' b.2 y.val) →
      ∀(j:Nat) (b:MKey × AV) (y:MapEntry),(Zgm κ (pubV (marks st.mem (st.ev x).toks) (st.ev x)) es)[j]?=some b→arr'[j]?=some y→y.key=b.1.val∧Rd w imm' b.2 y.val) →
     (Instr.mapUpdate t (a.eval m) (a.eval k) (a.eval x)).run P w=.ok () { w with heap:=w.heap.setIfInBounds g (.map arr' clock') } →
     o.upon P a (Zbv c n K) Q ((do Instr.mapUpdate t (a.eval m) (a.eval k) (a.eval x);pure .skip:Sem Next).run P w):=λarr' clock' hbn h1 h2 h3=>by
     simp only [Zy3,h3,Zy2,Zy9];refine Zf3 (x:=undef) h hd hK (.inr ⟨rfl,rfl⟩) λimm' hm' hk'=>?_;obtain⟨arr2,clock2,hh2,hB2,hl2,hr2,hbo2,hp2⟩:=hm'.ok.ent tk _ hmem;rw [hh] at hh2;cases hh2;have hcell:∀ad,imm' ad→World.cell? { w with heap:=w.heap.setIfInBounds g (.map arr' clock') } ad=w.cell? ad:=λad h9=>Zd0 (hgrow _) (hm'.ok.lt ad h9) (λh8=>hp2 ad h9 (by cases h8;rfl));have hkeep:Keeps w imm' { w with heap:=w.heap.setIfInBounds g (.map arr' clock') } imm':=λad h9=>⟨h9,hcell ad h9⟩;have hx:=Zgc hm' (hk'.rs (h.ev x)) hpo;obtain⟨q1,q2⟩:=Zdy hm' (hgrow (.map arr' clock')) (Zyp _) (λg' hg'=>by cases hg';exact hB2) hcell tk (.map g (Zgm κ (pubV (marks st.mem (st.ev x).toks) (st.ev x)) es))
      ⟨arr',clock',by simp [hlt],hB2,h1,λj b y k1 k2=>⟨(h2 imm' hx hr2 j b y k1 k2).1,hkeep.rd (h2 imm' hx hr2 j b y k1 k2).2⟩,hbn,hp2⟩
      (λj e2 b hj hje hb=>⟨λe=>hj (hm'.ok.apart j tk e2 _ b hje hmem hb (by rw [Ent.blk,e])),λe=>hj (hm'.ok.apart j tk e2 _ b hje hmem hb (by simpa [Ent.blk] using e))⟩)
     exact⟨q1,q2,.pure (.u _)⟩
    rcases Zpb (w:=w) (imm:=i0) κ hko arr.toList es (by simpa using hl) hall (λj b x h1 h2=>hr j b x h1 (by simpa using h2)) with⟨f1,-,f3⟩ | ⟨j,y,v,f1,f2,fk,-,-,f6,f7⟩
    ·refine fin (arr.push { key:=κ.val,val:=a.eval x,born:=clock }) (clock+1) (hbo.push _ _) (by rw [f3];simp [hl]) (λimm' hx hr' j b y k1 k2=>?_) ?_
     ·rw [f3] at k1;by_cases hj:j < es.length
      ·rw [Zzr hj] at k1;rw [Array.getElem?_push,Zyj zo] at k2;exact hr' j b y k1 k2
      ·rw [Zzv zo] at k1
       have hje:j=es.length:=by
        rcases Zy5 (j - es.length) 1 with h9 | h9
        ·omega
        ·rw [Zz1 (by simpa using h9)] at k1;cases k1
       subst hje;rw [ZCp] at k1;simp only [ZB6,Option.some.injEq] at k1;rw [Array.getElem?_push,Zyk hl] at k2;simp only [Option.some.injEq] at k2;subst k1;subst k2;exact⟨rfl,hx⟩
     ·simp only [Instr.mapUpdate,em,ek,Zy3,Zy4 hu,Zy2,ZCo hh,hck,f1,hset]
    ·have f2':arr[j]?=some y:=by simpa using f2
     have hjs:j < arr.size:=(Array.getElem?_eq_some_iff.1 f2').1;refine fin (arr.modify j λe=>{ e with key:=κ.val,val:=a.eval x }) clock (hbo.modify _ _ λ_=>rfl) (by rw [f7];simp [hl]) (λimm' hx hr' j' b z k1 k2=>?_) ?_
     ·rw [f7,List.getElem?_set] at k1;rw [ZDa] at k2;by_cases hj:j=j'
      ·subst hj;rw [Zyk rfl,Zyk f6] at k1;rw [Zyk rfl,f2'] at k2;simp only [Zz7,Option.some.injEq] at k1 k2;subst k1;subst k2;exact⟨rfl,hx⟩
      ·rw [Zyj hj] at k1;rw [Zyj hj] at k2;exact hr' j' b z k1 k2
     ·have hst:(Instr.keyThatStays (((arr[j]?).map (·.key)).getD κ.val) κ.val).run P w=.ok κ.val w:=by
       rw [f2'];simp only [Zz7,Zz9,fk];exact Zxe κ
      simp only [Instr.mapUpdate,em,ek,Zy3,Zy4 hu,Zy2,ZCo hh,hck,f1,hst,hset]
   ·exact hK.elim
  ·rename_i tk g ka i kb j hmk hm hk;split at hK
   ·rename_i g' len et hmem hku;obtain⟨⟨rfl,rfl,hue,rfl,hsz⟩,hK⟩:=hK;have em:=h.ev m;rw [hm] at em;have em:=em.mp_inv;have ek:=h.ev k;rw [hk] at ek;obtain⟨vs,hv,hvl,hvr⟩:=ek.agg_inv
    have hvs:vs=#[.int kb i,.int kb j]:=by
     have hz:vs.size=2:=by simpa using hvl.symm
     refine Array.ext (by simp [hz]) λq q1 q2=>?_;have hq:q < 2:=zo
     match q,hq with
     | 0,_=>have:=hvr 0 _ vs[0] rfl (Zzl zo);simpa using this.v_inv
     | 1,_=>have:=hvr 1 _ vs[1] rfl (Zzl zo);simpa using this.v_inv
    subst hvs;obtain⟨arr,clock,hh,hB,hl,hr,hbo,hp⟩:=h.mem.ok.ent tk _ hmem
    have harr:arr=#[]:=by
     have:arr.size=0:=by simpa using hl.symm
     exact Array.eq_empty_of_size_eq_zero this
    subst harr;have hag:(isAgg et).run P w=.ok false w:=by simp [isAgg,Zy4 hue]
    have hszr:=Zah (w:=w) hsz;have hp0:(part et #[.int kb i,.int kb j] 0).run P w=.ok (.int kb i) w:=by simp [part,hag]
    have hp1:(part et #[.int kb i,.int kb j] 1).run P w=.ok (.int kb j) w:=by simp [part,hag]
    have hci:∀x:Value,(Instr.checkKey false 9999 et x).run P w=.ok () w:=λx=>by
     unfold Instr.checkKey;simp [Zy4 hue]
    have hck:(Instr.checkKey false 10000 kt (.agg #[.int kb i,.int kb j])).run P w=.ok () w:=by
     unfold Instr.checkKey;simp [Zy4 hku,hszr,hp0,hp1,hci,show List.range' 0 2=[0,1] from rfl]
    have hset:∀o':Obj,(setObj g o').run P w=.ok () { w with heap:=w.heap.setIfInBounds g o' }:=λo'=>MapKept.run_setObj_map o' hh;have hgrow:∀o':Obj,w.grownBy { w with heap:=w.heap.setIfInBounds g o' } (some g):=λo'=>by
     refine⟨rfl,rfl,rfl,by simp,λk hk hne=>?_⟩;simp only;rw [ZDh (λh9=>hne (by rw [h9]))]
    have hrun:(Instr.mapUpdate t (a.eval m) (a.eval k) (a.eval x)).run P w=.ok () { w with heap:=w.heap.setIfInBounds g (.map #[{ key:=.agg #[.int kb i,.int kb j],val:=a.eval x,born:=clock }] (clock+1)) }:=by
     simp only [Instr.mapUpdate,em,hv,Zy3,Zy4 hu,Zy2,ZCo hh,hck,MapKept.run_findKey hku (show Instr.findNow _ _ (#[]:Array MapEntry).toList 0=some none from rfl),hset];rfl
    simp only [Zy3,hrun,Zy2,Zy9];refine Zf3 (x:=undef) h hd hK (.inr ⟨rfl,rfl⟩) λimm' hm' hk'=>?_;obtain⟨arr2,clock2,hh2,hB2,hl2,hr2,hbo2,hp2⟩:=hm'.ok.ent tk _ hmem;have hcell:∀o',∀ad,imm' ad→World.cell? { w with heap:=w.heap.setIfInBounds g o' } ad=w.cell? ad:=λo' ad h9=>Zd0 (hgrow _) (hm'.ok.lt ad h9) (λh8=>hp2 ad h9 (by cases h8;rfl));obtain⟨q1,q2⟩:=Zdy hm' (hgrow _) (Zyp _) (λg' hg'=>by cases hg';exact hB2) (hcell _) tk (.row (.slice none 0 0) 0 0 [] 0) ⟨[],ZC8 _ c.B 0 0,by simp,by simp,by simp [flat],by simp,λad _ h2=>by simp [Value.ownBlock] at h2,λg off h1 _=>by simp [Value.ownBlock] at h1⟩
     (λj e2 b hj hje hb=>⟨λe=>hj (hm'.ok.apart j tk e2 _ b hje hmem hb (by rw [Ent.blk,e])),by simp [Ent.blk,Value.ownBlock]⟩)
    exact⟨q1,q2,.pure (.u _)⟩
   ·exact hK.elim
  ·exact hK.elim
 ·exact hK.elim
end
section
variable {P:Program} {c:Cx} {n tok:Nat} {st:St} {a:Act} {w:World} {imm:Imm} {K:St→Prop} {o:Oper} {Q:Exit→Act→World→Prop}
theorem s_nil {x:Operand} (h:Rel c n st a w imm) (hd:∀d,o.dst=some d→d < n) (hK:aRes P tok o.dst (Zl0 (st.ev x)) K st) (ho:o.op=.nilCheck x) :
 o.upon P a (Zbv c n K) Q ((execOp a.eval o).run P w):=by
 have hx:=h.ev x;unfold Zl0 at hK;split at hK
 ·rename_i cs he;rw [he] at hx;obtain⟨ad,f,hv,_⟩:=hx.pimm_inv;simp only [execOp,ho,hv,Zy9];exact Zc6 h hd hK λ_ _ hk=>hk.rs (hv ▸ hx)
 ·rename_i k g off he;rw [he] at hx;have hv:=hx.pbox_inv;simp only [execOp,ho,hv,Zy9];exact Zc6 h hd hK λ_ _ hk=>hk.rs (hv ▸ hx)
 ·rename_i k sv m i off he;rw [he] at hx;obtain⟨g,nn,cc,e1,hv⟩:=hx.prow_inv;simp only [execOp,ho,hv,Zy9];exact Zc6 h hd hK λ_ _ hk=>hk.rs (hv ▸ hx)
 ·rename_i f cs he;rw [he] at hx;obtain⟨vs,hv,_⟩:=hx.fn_inv;simp only [execOp,ho,hv,Zy9];exact Zc6 h hd hK λ_ _ hk=>hk.rs (hv ▸ hx)
 ·exact hK.elim
theorem run_box {e:TypeId} {z:Value}:(Instr.box e z).run P w=.ok (.pointer (some ⟨w.heap.size,0,none⟩)) (w.alloc (.cells z.cells e)):=by
 simp only [Instr.box,newVar,newRow,Zy3,run_newObj,Zy2,Zy9];rfl
theorem Zc7 (h:Rel c n st a w imm) (hd:∀d,o.dst=some d→d < n) (hK:aRes P tok o.dst (Zag P st o.op) K st):o.wp P a w (Zbv c n K) Q:=by
 unfold Oper.wp;have same:∀{x:Operand},aRes P tok o.dst (.val (st.ev x) []) K st→o.upon P a (Zbv c n K) Q (.ok (.value (a.eval x)) w):=λhK=>Zc6 h hd hK λ_ _ hk=>hk.rs (h.ev _)
 cases ho:o.op with
 | move x=>simp only [Zag,ho] at hK;simp only [execOp,ho,Zy9];exact same hK
 | assign x=>simp only [Zag,ho] at hK;simp only [execOp,ho,Zy9];exact same hK
 | pick cc x y =>
   simp only [Zag,ho,Zkh] at hK;split at hK
   ·rename_i t hc;have hcv:=h.ev cc;rw [hc] at hcv;have hv:=hcv.v_inv
    have hrun:(execOp a.eval o).run P w=.ok (.value (if t then a.eval x else a.eval y)) w:=by
     simp only [execOp,ho,hv,asBool,Zy3,Zy9,Zy2]
    rw [hrun];unfold Zwh at hK;split at hK
    ·rename_i p q hp hq;have e1:=h.ev x;rw [hp] at e1;have e2:=h.ev y;rw [hq] at e2;refine Zc6 h hd hK λ_ _ hk=>?_;rw [e1.v_inv,e2.v_inv];cases t<;>exact .pure (.v _)
    ·refine Zc6 h hd hK λ_ _ hk=>?_;cases t
     ·exact hk.rs (h.ev y)
     ·exact hk.rs (h.ev x)
   ·exact hK.elim
 | alloc e =>
   simp only [Zag,ho,aZero] at hK
   cases hz:Zaq P e with
   | none=>rw [hz] at hK;exact hK.elim
   | some z =>
     rw [hz] at hK;obtain⟨hok,hK⟩:=hK;obtain⟨hl,hr,h1⟩:=(Zmx w imm z).cells_of hok
     have hrun:(execOp a.eval o).run P w=.ok (.value (.pointer (some ⟨w.heap.size,0,none⟩))) (w.alloc (.cells z.cells e)):=by
      simp only [execOp,ho,Instr.alloc,Zy3,Zak hz,Zy2,newVar,newRow,run_newObj,Zy9];rfl
     rw [hrun];exact Zra h hd hK hl h1 hr
 | box e x =>
   simp only [Zag,ho] at hK;obtain⟨hok,hK⟩:=hK;obtain⟨hl,hr,h1⟩:=(h.ev x).cells_of hok
   have hrun:(execOp a.eval o).run P w=.ok (.value (.pointer (some ⟨w.heap.size,0,none⟩))) (w.alloc (.cells (a.eval x).cells e)):=by
    simp only [execOp,ho,Zy3,run_box,Zy2,Zy9]
   rw [hrun];exact Zra h hd hK hl h1 hr
 | build t parts=>simp only [Zag,ho] at hK;simp only [execOp,ho];exact s_build h hd hK
 | buildSlice t len parts=>simp only [Zag,ho] at hK;simp only [execOp,ho];exact Zn3 h hd hK
 | load t x=>simp only [Zag,ho] at hK;simp only [execOp,ho];exact s_load h hd hK (h.ev x)
 | store t p x=>simp only [Zag,ho] at hK;simp only [execOp,ho];exact s_store h hd hK (h.ev p) (h.ev x)
 | nilCheck x=>simp only [Zag,ho] at hK;exact s_nil h hd hK ho
 | binOp op t x y u=>simp only [Zag,ho] at hK;simp only [execOp,ho];exact s_bin h hd hK (h.ev x) (h.ev y)
 | unOp op t x=>simp only [Zag,ho] at hK;simp only [execOp,ho];exact s_un h hd hK (h.ev x)
 | convert s d x=>simp only [Zag,ho] at hK;simp only [execOp,ho];exact s_conv h hd hK (h.ev x)
 | makeFunc fn first caps =>
   simp only [Zag,ho] at hK
   cases fn with
   | func f =>
     obtain⟨h0,hK⟩:=hK
     have hf:first=#[]:=by
      have:first.toList=[]:=ZBq h0
      rw [←ZC0 (xs:=first),this]
     obtain⟨hal,har⟩:=Znh (xs:=caps) h
     have hrun:(execOp a.eval o).run P w=.ok (.value (.func (.func f) #[] (caps.map a.eval))) w:=by
      simp only [execOp,ho,Instr.makeFunc,Zy3,Zy9,Zy2,hf,Array.map_empty]
     rw [hrun];exact Zc6 h hd hK λ_ _ hk=>hk.rs (.fn f _ _ hal har)
   | _=>exact hK.elim
 | makeSlice t l cp=>simp only [Zag,ho] at hK;simp only [execOp,ho];exact s_make h hd hK (h.ev l) (h.ev cp)
 | slice t x lo hi mx=>simp only [Zag,ho] at hK;simp only [execOp,ho];exact s_slice h hd hK
 | fieldAddr s x f=>simp only [Zag,ho] at hK;simp only [execOp,ho];exact s_field h hd hK (h.ev x)
 | field s x f =>
   simp only [Zag,ho] at hK;simp only [execOp,ho];split at hK
   ·rename_i fields cs hu hx;split at hK
    ·rename_i fd hf;have hxv:=h.ev x;rw [hx] at hxv;obtain⟨vs,hv,hl,hr⟩:=hxv.agg_inv
     have e1:(Instr.field s (a.eval x) f).run P w=(part fd.type vs fd.offset).run P w:=by
      simp only [Instr.field,Zy3,Zy4 hu,Zy2,hf,hv,asAgg,Zy9]
     have:=Zi9 (o:=o) (Q:=Q) h hd hK hl hr;simp only [Zy3] at this ⊢;rw [e1];exact this
    ·exact hK.elim
   ·exact hK.elim
 | indexAddr t x i=>simp only [Zag,ho] at hK;simp only [execOp,ho];exact Zpx h hd hK (h.ev x) (h.ev i)
 | index t x i=>simp only [Zag,ho] at hK;simp only [execOp,ho];exact s_index h hd hK (h.ev x) (h.ev i)
 | extract x i =>
   simp only [Zag,ho] at hK;split at hK
   ·rename_i cs hx;split at hK
    ·rename_i b hb;have hxv:=h.ev x;rw [hx] at hxv;obtain⟨vs,hv,hl,hr⟩:=hxv.tup_inv;have hlt:i < vs.size:=by rw [←hl];exact Zbl hb
     have hrun:(execOp a.eval o).run P w=.ok (.value vs[i]) w:=by
      simp only [execOp,ho,Instr.extract,hv,Zzl hlt,Zy3,Zy9,Zy2]
     rw [hrun];exact Zc6 h hd hK λ_ _ hk=>hk.rs (hr i b _ hb (Zzl hlt))
    ·exact hK.elim
   ·exact hK.elim
 | makeInterface t x =>
   simp only [Zag,ho] at hK
   cases hu:P.underlying t with
   | none=>rw [hu] at hK;exact hK.elim
   | some d =>
     rw [hu] at hK
     have hrun:∀(hd:∀ms,d≠.interface ms),(execOp a.eval o).run P w=.ok (.value (.iface t (a.eval x))) w:=by
      intro hdd;simp only [execOp,ho,Instr.makeInterface,Zy3,Zy4 hu,Zy2];cases d<;>first
       | exact absurd rfl (hdd _)
       | simp only [Zy9,Zy2]
     cases d<;>first
      | exact hK.elim
      | (rw [hrun (λ_ h=>by cases h)]
         exact Zc6 h hd hK λ_ _ hk=>.ifc t _ _ (hk.rs (h.ev x)))
 | makeMap t r =>
   cases r with
   | none =>
     simp only [Zag,ho] at hK
     have hrun:(execOp a.eval o).run P w=.ok (.value (.map (some w.heap.size))) (w.alloc (.map #[] 0)):=by
      simp only [execOp,ho];rfl
     rw [hrun];exact Zut h hd hK
   | some r=>simp only [Zag,ho] at hK;exact hK.elim
 | lookup t m k ok=>simp only [Zag,ho] at hK;simp only [execOp,ho];exact s_lookup h hd hK
 | mapUpdate t m k x=>simp only [Zag,ho] at hK;simp only [execOp,ho];exact Zpw h hd hK
 | call cl=>simp only [Zag,ho] at hK;simp only [execOp,ho];exact s_call h hd hK
 | _=>simp only [Zag,ho] at hK;exact hK.elim
end
def Zhe:AV→Prop
 | .v _=>True
 | _=>False
def says:AV→Bool→Bool
 | .v (.bool b),w=>b == w
 | _,_=>false
def Zbe (all:List Oper) (st:St) (j:Nat):AV :=
 match (all[j]?).bind (·.dst) with
 | some d=>st.env d
 | none=>.u
def Za3 (P:Program) (tok:Nat) (all:List Oper):List Oper→(St→Prop)→St→Prop
 | [],K,st=>K st
 | o :: r,K,st=>match o.guard with
   | none=>aRes P (tok+o.dst.getD 0) o.dst (Zag P st o.op) (Za3 P tok all r K) st
   | some (j,want)=>Zhe (Zbe all st j)∧if says (Zbe all st j) want=true then aRes P (tok+o.dst.getD 0) o.dst (Zag P st o.op) (Za3 P tok all r K) st else Za3 P tok all r K (st.put o.dst (.v (.tuple #[])))
theorem Zyh {P:Program} {tok:Nat} {all:List Oper} {K:St→Prop} {st:St}:Za3 P tok all [] K st=K st:=rfl
theorem Zd2 {P:Program} {tok:Nat} {all:List Oper} {K:St→Prop} {st:St} {d:Option Tmp} {op:Op} {t:TypeId} {pos:String} {af:Array Edge} {r:List Oper} :
 Za3 P tok all (⟨d,op,t,pos,af,none⟩ :: r) K st=aRes P (tok+d.getD 0) d (Zag P st op) (Za3 P tok all r K) st:=rfl
theorem Zi3 {P:Program} {tok:Nat} {all:List Oper} {K:St→Prop} {st:St} {d:Option Tmp} {op:Op} {t:TypeId} {pos:String} {af:Array Edge} {r:List Oper} {j:Nat} {want:Bool} :
 Za3 P tok all (⟨d,op,t,pos,af,some (j,want)⟩ :: r) K st=(Zhe (Zbe all st j)∧if says (Zbe all st j) want=true then aRes P (tok+d.getD 0) d (Zag P st op) (Za3 P tok all r K) st else Za3 P tok all r K (st.put d (.v (.tuple #[])))):=rfl
def Zdt (n:Nat) (o:Oper):Bool:=o.dst.all (λd=>decide (d < n))
inductive AE where
 | normal
 | exit (id:Nat)
 | ret
def AE.to:AE→Exit
 | .normal=>.normal
 | .exit id=>.exit id
 | .ret=>.ret
def post (c:Cx) (n:Nat) (Q:AE→St→Prop):Exit→Act→World→Prop:=λe a w=>∃ae st imm,e=ae.to∧Q ae st∧Rel c n st a w imm
def AWP (P:Program) (n:Nat) (code:Code) (Q:AE→St→Prop) (st:St):Prop:=∀(c:Cx) (a:Act) (w:World) (imm:Imm),Rel c n st a w imm→code.wp P (post c n Q) a w
section
variable {P:Program} {c:Cx} {n tok:Nat}
theorem Zh1 (all:List Oper) {Q:AE→St→Prop}:∀(l:List Oper) (st:St) (a:Act) (w:World) (imm:Imm),Rel c n st a w imm→l.all (Zdt n)=true→Za3 P tok all l (Q .normal) st→wpList P all.toArray (post c n Q) l a w
 | [],st,a,w,imm,h,_,hK=>⟨.normal,st,imm,rfl,hK,h⟩
 | o :: r,st,a,w,imm,h,hf,hK=>by
   simp only [ZB3,Zy7] at hf
   have hd:∀d,o.dst=some d→d < n:=by
    intro d hdd;have:=hf.1;rw [Zdt,hdd] at this
    simpa using this
   have yes:aRes P (tok+o.dst.getD 0) o.dst (Zag P st o.op) (Za3 P tok all r (Q .normal)) st→o.wp P a w (wpList P all.toArray (post c n Q) r) (post c n Q):=λhy =>
    Oper.wp_mono (λa' w' hg=>by
     obtain⟨st',imm',hk,hr⟩:=hg;exact Zh1 all r st' a' w' imm' hr hf.2 hk) (Zc7 h hd hy)
   have no:Za3 P tok all r (Q .normal) (st.put o.dst (.v (.tuple #[])))→wpList P all.toArray (post c n Q) r (a.put o.dst undef) w:=λhn =>
    Zh1 all r _ _ w imm (h.step (Keeps.refl _ _) h.mem hd (.pure (.v _))) hf.2 hn
   unfold wpList;unfold Za3 at hK
   cases hg:o.guard with
   | none =>
     rw [hg] at hK;rw [Zyk (by simp [Region.wanted,hg])];exact .inl (yes hK)
   | some jw =>
     obtain⟨j,want⟩:=jw;rw [hg] at hK;simp only at hK;obtain⟨hB,hK⟩:=hK;unfold Zbe at hB hK;split at hB
     ·rename_i d hdj;rw [hdj] at hK;simp only at hK
      cases hb:st.env d with
      | v x =>
        have hv:=h.env d;rw [hb] at hv;have hv:=hv.v_inv;have hdj':((all.toArray[j]?).bind (·.dst))=some d:=by simpa using hdj
        by_cases hx:∃b,x=.bool b
        ·obtain⟨b,rfl⟩:=hx
         have hlt:d < a.tmps.size:=by
          rcases Zy5 d a.tmps.size with h1 | h1
          ·exact h1
          ·rw [ZAi,ZB1 h1] at hv;simp [undef] at hv
         have hget:a.tmps[d]?=some (.bool b):=by
          rw [Zzl hlt];rw [ZAi,Zzl hlt] at hv
          simpa using hv
         have hy:yielded all.toArray a.tmps j=some b:=by
          unfold yielded;rw [hdj'];simp [hget]
         have hbo:says (st.env d) want=(b == want):=by rw [hb];rfl
         by_cases hbw:b=want
         ·rw [Zyk (by simp [Region.wanted,hg,hy,hbw])];rw [Zyk (by rw [hbo,hbw];simp)] at hK;exact .inl (yes hK)
         ·rw [Zyj (by simp [Region.wanted,hg,hy,hbw])];rw [Zyj (by rw [hbo];simpa using hbw)] at hK;exact no hK
        ·have hy:yielded all.toArray a.tmps j=none:=by
          unfold yielded;rw [hdj'];simp only [ZCj];rcases ht:a.tmps[d]? with _ | y
          ·rfl
          ·rw [ZAi,ht] at hv;simp only [Zz9] at hv;subst hv;split
           ·rename_i b heq;simp only [Option.some.injEq] at heq;exact absurd ⟨b,heq⟩ hx
           ·rfl
         have hbo:says (st.env d) want=false:=by
          rw [hb];cases x<;>first|rfl|exact absurd ⟨_,rfl⟩ hx
         rw [Zyj (by simp [Region.wanted,hg,hy])];rw [Zyj (by rw [hbo];simp)] at hK;exact no hK
      | _=>rw [hb] at hB;exact hB.elim
     ·exact hB.elim
def Zaw (n:Nat):Code→Bool
 | .region _ ops _=>ops.toList.all (Zdt n)
 | .seq x y=>Zaw n x && Zaw n y
 | .cond _ x y=>Zaw n x && Zaw n y
 | .block _ x=>Zaw n x
 | .loop x=>Zaw n x
 | _=>true
def AE.inBlock (id:Nat) (Q:AE→St→Prop):AE→St→Prop
 | .exit i,st=>if i=id then Q .normal st else Q (.exit i) st
 | .normal,st=>Q .normal st
 | .ret,st=>Q .ret st
def AE.then (next:St→Prop) (Q:AE→St→Prop):AE→St→Prop
 | .normal,st=>next st
 | .exit i,st=>Q (.exit i) st
 | .ret,st=>Q .ret st
def Zav (P:Program) (tok n:Nat):Code→(AE→St→Prop)→St→Prop
 | .skip,Q,st=>Q .normal st
 | .region id ops false,Q,st=>Za3 P tok ops.toList ops.toList (Q .normal) st
 | .seq x y,Q,st=>Zav P tok n x (AE.then (Zav P tok n y Q) Q) st
 | .cond o x y,Q,st=>match st.ev o with
   | .v (.bool t)=>(t=true→Zav P tok n x Q st)∧(t=false→Zav P tok n y Q st)
   | _=>False
 | .block id x,Q,st=>Zav P tok n x (AE.inBlock id Q) st
 | .exit id,Q,st=>Q (.exit id) st
 | .ret,Q,st=>Q .ret st
 | code,Q,st=>AWP P n code Q st
theorem Zwf {Q Q':AE→St→Prop} (h:∀e st,Q e st→Q' e st) {e:Exit} {a:Act} {w:World}:post c n Q e a w→post c n Q' e a w:=fun⟨ae,st,imm,h1,h2,h3⟩=>⟨ae,st,imm,h1,h _ _ h2,h3⟩
theorem Za1:∀(code:Code) (Q:AE→St→Prop) (st:St),Zaw n code=true→Zav P tok n code Q st→AWP P n code Q st
 | .skip,Q,st,_,h=>λc a w imm hr=>wp_skip ⟨.normal,st,imm,rfl,h,hr⟩
 | .region id ops false,Q,st,hf,h=>λc a w imm hr=>by
   have:=Zh1 (c:=c) ops.toList ops.toList st a w imm hr hf h;simp only [ZC0] at this;exact wp_region_list this
 | .seq x y,Q,st,hf,h=>λc a w imm hr=>by
   simp only [Zaw,Zy7] at hf;refine wp_seq (ZBv (λe a' w' hp=>?_) (Za1 x _ st hf.1 h c a w imm hr));obtain⟨ae,st',imm',rfl,h2,h3⟩:=hp
   cases ae with
   | normal=>exact Za1 y _ st' hf.2 h2 c a' w' imm' h3
   | exit id=>exact⟨.exit id,st',imm',rfl,h2,h3⟩
   | ret=>exact⟨.ret,st',imm',rfl,h2,h3⟩
 | .cond o x y,Q,st,hf,h=>λc a w imm hr=>by
   simp only [Zaw,Zy7] at hf;simp only [Zav] at h;split at h
   ·rename_i t ht;have hv:=hr.ev o;rw [ht] at hv;exact wp_cond_split hv.v_inv (λe=>Za1 x _ st hf.1 (h.1 e) c a w imm hr) (λe=>Za1 y _ st hf.2 (h.2 e) c a w imm hr)
   ·exact h.elim
 | .block id x,Q,st,hf,h=>λc a w imm hr=>by
   refine wp_block (ZBv (λe a' w' hp=>?_) (Za1 x _ st hf h c a w imm hr));obtain⟨ae,st',imm',rfl,h2,h3⟩:=hp
   cases ae with
   | normal=>exact⟨.normal,st',imm',rfl,h2,h3⟩
   | exit i =>
     simp only [AE.inBlock] at h2;by_cases hi:i=id
     ·rw [Zyk hi] at h2;simp only [AE.to,Exit.inBlock,hi,Zzb];exact⟨.normal,st',imm',rfl,h2,h3⟩
     ·rw [Zyj hi] at h2;simp only [AE.to,Exit.inBlock,hi,Zy8];exact⟨.exit i,st',imm',rfl,h2,h3⟩
   | ret=>exact⟨.ret,st',imm',rfl,h2,h3⟩
 | .exit id,Q,st,_,h=>λc a w imm hr=>wp_exit ⟨.exit id,st,imm,rfl,h,hr⟩
 | .ret,Q,st,_,h=>λc a w imm hr=>wp_ret ⟨.ret,st,imm,rfl,h,hr⟩
 | .region id ops true,Q,st,_,h=>h
 | .loop x,Q,st,_,h=>h
 | .rangeFunc ..,Q,st,_,h=>h
 | .scope x,Q,st,_,h=>h
 | .label l,Q,st,_,h=>h
 | .goto l,Q,st,_,h=>h
 | .refuse y,Q,st,_,h=>h
theorem awp_loop {ι:Type} {body:Code} {Q:AE→St→Prop} (I:ι→St→Prop) (μ:ι→Nat) (hf:Zaw n body=true)
 (round:∀i st,I i st→Zav P tok n body (AE.then (λst'=>∃i',I i' st'∧μ i' < μ i) Q) st) {i:ι} {st:St} (h0:I i st):AWP P n (.loop body) Q st:=by
 intro c a w imm hr b k cs;have key:∀m i st a w imm,μ i=m→I i st→Rel c n st a w imm →
  ∃e a' w',post c n Q e a' w'∧Arrives P (lone (b.at a (.code body :: .inLoop body :: k)) cs w) b k cs e a' w':=by
  intro m
  induction m using Nat.strongRecOn with
  | _ m ih =>
    intro i st a w imm hm hI hr;obtain⟨e,a₁,w₁,hq,harr⟩:=Za1 body _ st hf (round i st hI) c a w imm hr b (.inLoop body :: k) cs;obtain⟨ae,st',imm',rfl,h2,h3⟩:=hq
    cases ae with
    | normal =>
      obtain⟨i',hI',hlt⟩:=h2;obtain⟨e₂,a₂,w₂,hq₂,harr₂⟩:=ih (μ i') (hm ▸ hlt) i' st' a₁ w₁ imm' rfl hI' h3;exact⟨e₂,a₂,w₂,hq₂,.of_steps (Steps.trans harr (.one step_inLoop)) harr₂⟩
    | exit id=>exact⟨_,a₁,w₁,⟨.exit id,st',imm',rfl,h2,h3⟩,.pass (x:=.inLoop body) rfl (λ_ _=>.inl (by simp [AE.to])) harr⟩
    | ret=>exact⟨_,a₁,w₁,⟨.ret,st',imm',rfl,h2,h3⟩,.pass (x:=.inLoop body) rfl (λ_ _=>.inl (by simp [AE.to])) harr⟩
 obtain⟨e,a',w',hq,harr⟩:=key _ i st a w imm rfl h0 hr;exact⟨e,a',w',hq,.of_steps (.one step_loop) harr⟩
end
def Pure (P:Program) (f:FuncId) (args:List AV) (r:AV):Prop :=
 (∀(vs:Array Value) (w:World),(callFunc f vs).run P w=.ok (.enter f vs) w) ∧
 ∀(w:World) (imm:Imm) (vs:Array Value),ImOk w imm→args.length=vs.size→(∀(j:Nat) (a:AV) (x:Value),args[j]?=some a→vs[j]?=some x→Rd w imm a x) →
  Calls P f vs w λe w'=>∃x imm',e=.returned x∧Rd w' imm' r x∧(∀ad,imm ad→imm' ad)∧(∀ad,imm' ad→(imm ad∨w.heap.size≤ad.block)∧ad.block < w'.heap.size∧ad.spot=none)∧Blw w.heap.size w w'
theorem Zi1 {P:Program} {f:FuncId} {args args':List AV} {r:AV} {σ:Mem} {R:AV→Mem→Prop} (h:Pure P f args' r) (ho:Ze3 (marks σ (AV.toksL args)) args) (ha:Zeo (marks σ (AV.toksL args)) args=args')
 (hR:R r (marks σ (AV.toksL args))):ACall P f args σ R:=by
 refine⟨h.1,λc w imm vs hm hl hr=>?_⟩;obtain⟨i1,hm1,hk1⟩:=Zc1 (AV.toksL args) hm;refine(h.2 w i1 vs ⟨λad h1=>⟨hm1.ok.lt ad h1,hm1.ok.spot ad h1⟩,hm1.tb⟩ (by rw [←ha,Zb3];exact hl) λj a x h1 h2=>?_).mono λe w' he=>?_
 ·rw [←ha] at h1;obtain⟨b,hb,rfl⟩:=Zfe j a h1;exact Zgc hm1 (hk1.rs (hr j b x hb h2)) (Zd9 ho j b hb)
 ·obtain⟨x,i2,rfl,hrd,hi,hn,hb⟩:=he;have hg:w.grownBy w' none:=⟨hb.os,hb.tape,hb.output,hb.size,λk hk _=>hb.block k hk⟩;have hcell:∀ad,i1 ad→w'.cell? ad=w.cell? ad:=λad h1=>hb.cell (hm1.ok.lt ad h1);refine⟨r,_,i2,x,rfl,hR,.pure hrd,⟨⟨λk e hk=>?_,hm1.ok.apart,λad h1=>(hn ad h1).2.1,λad h1=>(hn ad h1).2.2⟩,hm1.below.trans (hb.mono hm1.lt),Zyz hm1.lt hb.size,λad h1=>hi _ (hm1.old ad h1),λad h1=>?_,λad h1=>(hcell ad (hm1.old ad h1)).trans (hm1.cells ad h1)⟩,
   hk1.trans λad h1=>⟨hi ad h1,hcell ad h1⟩⟩
  ·refine(hm1.ok.ent k e hk).keep hg ?_ hi hcell λad h1=>?_
   ·rcases hbk:e.blk with _ | b
    ·exact .inl rfl
    ·exact .inr zs
   ·rcases (hn ad h1).1 with h2 | h2
    ·exact .inl h2
    ·refine .inr λh3=>?_;have:=((hm1.ok.ent k e hk).blk_lt h3).2;omega
  ·rcases (hn ad h1).1 with h2 | h2
   ·exact hm1.new ad h2
   ·exact .inr (Zyz hm1.lt h2)
def resK:Res→(AV→Prop)→Prop
 | .val x [],K=>K x
 | .need p r,K=>p∧resK r K
 | _,_=>False
def Zrq (P:Program) (st:St):ResultVar→(AV→Prop)→Prop
 | .tmp t,K=>K (st.env t)
 | .cell a t,K=>resK (Zdb P st t (st.env a)) K
def Zmp (P:Program) (st:St):List ResultVar→(List AV→Prop)→Prop
 | [],K=>K []
 | v :: r,K=>Zrq P st v λa=>Zmp P st r λaS=>K (a :: aS)
def Zia (P:Program) (st:St) (rs:List ResultVar) (K:AV→Prop):Prop :=
 Zmp P st rs λaS=>K (match aS with | [a]=>a | aS=>.tup aS)
section
variable {P:Program} {c:Cx} {n tok:Nat} {st:St} {a:Act} {w:World} {imm:Imm}
theorem Zes {t:TypeId} {cs:List AV} {ad:Addr} {K:AV→Prop} (hK:resK (Zhk P t cs) K) (hc:CellsAt w imm ad cs):∃y b,(loadVar t ad).run P w=.ok y w∧K b∧Rs w imm b y:=by
 unfold Zhk at hK
 cases hu:P.underlying t with
 | none=>rw [hu] at hK;exact hK.elim
 | some d =>
   rw [hu] at hK
   have hag:(isAgg t).run P w=.ok (Zfv d) w:=by
    simp only [isAgg,Zy3,Zy4 hu,Zy2];cases d<;>rfl
   cases hb:Zfv d with
   | false =>
     rw [hb] at hag;simp only [hb,Zyy,Zy8] at hK
     cases cs with
     | nil=>exact hK.elim
     | cons x r =>
       obtain⟨y,hy,hr⟩:=hc 0 x rfl;have:ad.add 0=ad:=by simp [Addr.add]
       rw [this] at hy;exact⟨y,x,by simp [loadVar,hag,hy],hK,hr⟩
   | true =>
     rw [hb] at hag;simp only [hb,Zzb] at hK;unfold Zip at hK
     cases hs:szOf P t with
     | none=>rw [hs] at hK;exact hK.elim
     | some k =>
       rw [hs] at hK;obtain⟨hle,hK⟩:=hK
       have hex:∀j,j < k→∃x,w.cell? (ad.add j)=some x∧∀b,cs[j]?=some b→Rs w imm b x:=by
        intro j hj;obtain⟨x,h1,h2⟩:=hc j cs[j] (Zym zo);exact⟨x,h1,λb hb=>by rw [Zym zo] at hb;simp only [Option.some.injEq] at hb;exact hb ▸ h2⟩
       let f:Nat→Value:=λj=>(w.cell? (ad.add j)).getD undef
       have hf:∀j,j < k→w.cell? (ad.add j)=some (f j):=by
        intro j hj;obtain⟨x,h1,_⟩:=hex j hj;simp [f,h1]
       have hl:=run_loadCells (P:=P) w ad k f hf;refine⟨.agg ((List.range k).map f).toArray,_,by simp [loadVar,hag,Zah hs,hl],hK,.agg _ _ (by simp [hle]) λj b x h1 h2=>?_⟩;rw [ZAe] at h1;split at h1
       ·rename_i hj;obtain⟨y,h3,h4⟩:=hex j hj
        have:f j=x:=by
         have h2':((List.range k).map f)[j]?=some x:=by simpa using h2
         simpa [Zzu,ZCk hj] using h2'
        rw [←this];simp only [f,h3,Zz9];exact h4 b h1
       ·cases h1
def Zp0 (a:Act):ResultVar→Sem Value
 | .tmp t=>pure (a.tmps.getD t undef)
 | .cell x t=>do loadVar t (←asAddr (a.tmps.getD x undef))
theorem Ztl {rv:ResultVar} {K:AV→Prop} (h:Rel c n st a w imm) (hK:Zrq P st rv K) :
 ∃y b,(Zp0 a rv).run P w=.ok y w∧K b∧Rs w imm b y:=by
 cases rv with
 | tmp t=>exact⟨_,_,rfl,hK,h.env t⟩
 | cell x t =>
   simp only [Zrq] at hK;have hx:=h.env x
   cases hxx:st.env x with
   | pbox k g off =>
     rw [hxx] at hK hx;have hv:=hx.pbox_inv;simp only [Zp0,hv];unfold Zdb at hK;simp only at hK
     cases hk:st.mem k with
     | none=>simp only [hk] at hK;exact hK.elim
     | some e =>
       cases e with
       | row=>simp only [hk] at hK;exact hK.elim
       | map=>simp only [hk] at hK;exact hK.elim
       | obj=>simp only [hk] at hK;exact hK.elim
       | box g' e cs pub =>
         simp only [hk] at hK;obtain⟨rfl,hK⟩:=hK;have hca:=(Zk9 h.mem hk).drop off;rw [Zz4,Zzd] at hca;obtain⟨y,b,h1,h2,h3⟩:=Zes hK hca;exact⟨y,b,by simp only [asAddr,Zy3,Zy9,Zy2];exact h1,h2,h3⟩
   | pimm cs =>
     rw [hxx] at hK hx;obtain⟨ad,f,hv,h1,h2⟩:=hx.pimm_inv;simp only [Zp0,hv];obtain⟨y,b,h3,h4,h5⟩:=Zes (ad:=ad) hK λj b hb=>⟨f j,(h1 j (Zbl hb)).2,.pure (h2 j b hb)⟩;exact⟨y,b,by simp only [asAddr,Zy3,Zy9,Zy2];exact h3,h4,h5⟩
   | prow k sv m i off =>
     rw [hxx] at hK hx;obtain⟨g,nn,cc,e1,hv⟩:=hx.prow_inv;subst e1;simp only [Zp0,hv];unfold Zdb at hK;simp only at hK
     cases hk:st.mem k with
     | none=>simp only [hk] at hK;exact hK.elim
     | some e =>
       cases e with
       | box=>simp only [hk] at hK;exact hK.elim
       | map=>simp only [hk] at hK;exact hK.elim
       | obj=>simp only [hk] at hK;exact hK.elim
       | row sv' e m' es pub =>
         simp only [hk] at hK;obtain⟨⟨rfl,rfl,hi⟩,hK⟩:=hK;have hca:=(Zkc h.mem hk hi).drop off;rw [Zz4] at hca;obtain⟨y,b,h1,h2,h3⟩:=Zes hK hca;exact⟨y,b,by simp only [asAddr,Zy3,Zy9,Zy2];exact h1,h2,h3⟩
   | _=>rw [hxx] at hK;exact hK.elim
theorem Zkd:∀(rs:List ResultVar) {K:List AV→Prop},Rel c n st a w imm→Zmp P st rs K →
 ∃ys bs,(rs.mapM λrv=>Zp0 a rv).run P w=.ok ys w∧K bs∧bs.length=ys.length ∧
  ∀(j:Nat) (b:AV) (y:Value),bs[j]?=some b→ys[j]?=some y→Rs w imm b y
 | [],K,h,hK=>⟨[],[],rfl,hK,rfl,by simp⟩
 | rv :: rs,K,h,hK=>by
   obtain⟨y,b,h1,h2,h3⟩:=Ztl h hK;obtain⟨ys,bs,h4,h5,h6,h7⟩:=Zkd rs h h2;refine⟨y :: ys,b :: bs,?_,h5,by simp [h6],λj b' y' hb hy=>?_⟩
   ·rw [List.mapM_cons];simp only [Zy3,h1,h4,Zy2,Zy9]
   ·match j with
    | 0=>simp at hb hy;subst hb;subst hy;exact h3
    | j+1=>exact h7 j b' y' (by simpa using hb) (by simpa using hy)
theorem Zmo {fn:Func} {rs:List ResultVar} {K:AV→Prop} (hrs:fn.results=rs.toArray) (h:Rel c n st a w imm) (hK:Zia P st rs K):∃y b,(results fn a.tmps).run P w=.ok y w∧K b∧Rs w imm b y:=by
 obtain⟨ys,bs,h1,h2,h3,h4⟩:=Zkd rs h hK
 have hm:(fn.results.mapM λrv=>Zp0 a rv).run P w=.ok ys.toArray w:=by
  rw [hrs,Array.mapM_eq_mapM_toList];simp only [Sem.run_map,h1,Zy2]
 have hr:(results fn a.tmps).run P w=.ok (if h:ys.toArray.size=1 then ys.toArray[0] else .tuple ys.toArray) w:=by
  have e:results fn a.tmps=(do let vs ←fn.results.mapM (Zp0 a);pure (if h:vs.size=1 then vs[0] else .tuple vs)):=by
   unfold results;congr 1
  rw [e];simp only [Zy3,hm,Zy2,Zy9]
 match bs,ys,h3,h4,h2,hr with
 | [b],[y],_,h4,h2,hr=>exact⟨y,b,by simpa using hr,h2,h4 0 b y rfl rfl⟩
 | [],[],_,h4,h2,hr=>exact⟨_,_,hr,h2,.tup _ _ rfl zs⟩
 | b1 :: b2 :: bs,y1 :: y2 :: ys,h3,h4,h2,hr=>exact⟨_,_,hr,h2,by simpa using Rs.tup _ (y1 :: y2 :: ys).toArray (by simpa using h3) (λj b y hb hy=>h4 j b y hb (by simpa using hy))⟩
end
def Zlv (st:St) (r:AV) (b:AV):Prop:=Zfs (marks st.mem b.toks) b∧pubV (marks st.mem b.toks) b=r
def Done (P:Program) (rs:List ResultVar) (K:St→AV→Prop):AE→St→Prop
 | .exit _,_=>False
 | .normal,st=>Zia P st rs (K st)
 | .ret,st=>Zia P st rs (K st)
theorem Zni {P:Program} {rs:List ResultVar} {K:St→AV→Prop} {ae:AE} {st:St} (h:Done P rs K ae st):Zia P st rs (K st):=by
 cases ae with
 | exit=>exact h.elim
 | normal=>exact h
 | ret=>exact h
theorem Zaa {P:Program} {f n tok:Nat} {fn:Func} {code:Code} {rs:List ResultVar} {args:List AV} {r:AV} (hf:P.funcs[f]?=some fn) (hb:fn.body=some code) (hn:fn.ntmps=n) (hrs:fn.results=rs.toArray)
 (hc:∀(vs:Array Value) (w:World),(callFunc f vs).run P w=.ok (.enter f vs) w) (hfit:Zaw n code=true) (hal:args.length≤n)
 (h:Zav P tok n code (Done P rs λst=>Zlv st r) ⟨λt=>args.getD t .u,Zac⟩):Pure P f args r:=by
 refine⟨hc,λw imm vs himm hl hr=>?_⟩;refine calls_of_wp hf hb ?_
 let c:Cx:=⟨w.heap.size,w,imm,himm.tb.here⟩
 have hrel:Rel c n ⟨λt=>args.getD t .u,Zac⟩ { tmps:=vs++Array.replicate (fn.ntmps - vs.size) undef,defers:=[] } w imm:=by
  refine⟨λt=>?_,by simp [hn];omega,rfl,⟨⟨λk e hk=>by simp [Zac] at hk,λk k' e e' b hk=>by simp [Zac] at hk,λad h1=>(himm.at_ ad h1).1,λad h1=>(himm.at_ ad h1).2⟩,Blw.refl _ _,Zyp _,λ_ h1=>h1,λ_ h1=>.inl h1,λ_ _=>rfl⟩⟩;simp only [Zyu];rcases Zy5 t args.length with ht | ht
  ·have ht2:t < vs.size:=zo;rw [Zym ht,ZAi,ZB5 ht2,Zzl ht2];exact .pure (hr t _ _ (Zym ht) (Zzl ht2))
  ·rw [Zz1 ht];exact .pure (.u _)
 refine ZBv (λe a' w' hp=>?_) (Za1 code _ _ hfit h c _ w imm hrel);obtain⟨ae,st',imm',rfl,hdone,hrel'⟩:=hp;have hret:=Zni hdone;have hae:∀id,ae≠.exit id:=by rintro id rfl;exact hdone
 obtain⟨y,b,hrun,⟨hpo,hpv⟩,hrs'⟩:=Zmo hrs hrel' hret;obtain⟨i2,hm2,hk2⟩:=Zc1 b.toks hrel'.mem;have hrd:=Zgc hm2 (hk2.rs hrs') hpo;rw [hpv] at hrd;have fin:a'.defers=[]∧∃v,(results fn a'.tmps).run P w'=.ok v w'∧(λe w'=>∃x imm',e=Ending.returned x∧Rd w' imm' r x∧(∀ad,imm ad→imm' ad)∧(∀ad,imm' ad→(imm ad∨w.heap.size≤ad.block)∧ad.block < w'.heap.size∧ad.spot=none)∧Blw w.heap.size w w') (Ending.returned v) w' :=
  ⟨hrel'.defers,y,hrun,y,i2,rfl,hrd,hm2.old,λad h1=>⟨hm2.new ad h1,hm2.ok.lt ad h1,hm2.ok.spot ad h1⟩,hm2.below⟩
 cases ae with
 | normal=>exact fin
 | ret=>exact fin
 | exit id=>exact absurd rfl (hae id)
theorem pI {P:Program} {f n:Nat} {fn:Func} {code:Code} {rs:List ResultVar} {args:List AV} {r:AV} (hf:P.funcs[f]?=some fn) (hb:fn.body=some code) (hn:fn.ntmps=n) (hrs:fn.results=rs.toArray)
 (hc:∀(vs:Array Value) (w:World),(callFunc f vs).run P w=.ok (.enter f vs) w)
 (h:Zav P 0 n code (Done P rs λst=>Zlv st r) ⟨λt=>args.getD t .u,Zac⟩) (hfit:Zaw n code=true:=by rfl) (hal:args.length≤n:=by simp):Pure P f args r:=Zaa (tok:=0) hf hb hn hrs hc hfit hal h
theorem Zbg {P:Program} {f n tok:Nat} {fn:Func} {code:Code} {rs:List ResultVar} {args:List AV} {σ:Mem} {R:AV→Mem→Prop} (hf:P.funcs[f]?=some fn) (hb:fn.body=some code) (hn:fn.ntmps=n) (hrs:fn.results=rs.toArray)
 (hc:∀(vs:Array Value) (w:World),(callFunc f vs).run P w=.ok (.enter f vs) w) (hfit:Zaw n code=true) (hal:args.length≤n)
 (h:Zav P tok n code (Done P rs λst b=>R b st.mem) ⟨λt=>args.getD t .u,σ⟩):ACall P f args σ R:=by
 refine⟨hc,λc w imm vs hm hl hr=>?_⟩;refine calls_of_wp hf hb ?_
 have hrel:Rel ⟨c.B,w,imm,hm.tbB⟩ n ⟨λt=>args.getD t .u,σ⟩ { tmps:=vs++Array.replicate (fn.ntmps - vs.size) undef,defers:=[] } w imm:=by
  refine⟨λt=>?_,by simp [hn];omega,rfl,⟨hm.ok,Blw.refl _ _,hm.lt,λ_ h1=>h1,λ_ h1=>.inl h1,λ_ _=>rfl⟩⟩;simp only [Zyu];rcases Zy5 t args.length with ht | ht
  ·have ht2:t < vs.size:=zo;rw [Zym ht,ZAi,ZB5 ht2,Zzl ht2];exact hr t _ _ (Zym ht) (Zzl ht2)
  ·rw [Zz1 ht];exact .pure (.u _)
 refine ZBv (λe a' w' hp=>?_) (Za1 code _ _ hfit h _ _ w imm hrel);obtain⟨ae,st',imm',rfl,hdone,hrel'⟩:=hp;have hret:=Zni hdone;have hae:∀id,ae≠.exit id:=by rintro id rfl;exact hdone
 obtain⟨y,b,hrun,hR,hrs'⟩:=Zmo hrs hrel' hret;have hm':=hrel'.mem;have fin:a'.defers=[]∧∃v,(results fn a'.tmps).run P w'=.ok v w'∧(λe w'=>∃r σ' imm' x,e=Ending.returned x∧R r σ'∧Rs w' imm' r x∧Mx c σ' w' imm'∧Keeps w imm w' imm') (Ending.returned v) w' :=
  ⟨hrel'.defers,y,hrun,b,st'.mem,imm',y,rfl,hR,hrs',⟨hm'.ok,hm.below.trans hm'.below,hm'.lt,λad h1=>hm'.old ad (hm.old ad h1),λad h1=>(hm'.new ad h1).elim (hm.new ad) .inr,λad h1=>(hm'.cells ad (hm.old ad h1)).trans (hm.cells ad h1)⟩,
   λad h1=>⟨hm'.old ad h1,hm'.cells ad h1⟩⟩
 cases ae with
 | normal=>exact fin
 | ret=>exact fin
 | exit id=>exact absurd rfl (hae id)
theorem ACall.mono {P:Program} {f:FuncId} {args:List AV} {σ:Mem} {R R':AV→Mem→Prop} (h:ACall P f args σ R) (hR:∀r σ',R r σ'→R' r σ'):ACall P f args σ R' :=
 ⟨h.1,λc w imm vs hm hl hr=>(h.2 c w imm vs hm hl hr).mono λe w' ⟨r,σ',imm',x,h1,h2,h3⟩=>⟨r,σ',imm',x,h1,hR r σ' h2,h3⟩⟩
def Sub (a b:AV):Prop:=∀(w:World) (imm:Imm) (x:Value),Rs w imm a x→Rs w imm b x
theorem Sub.refl (a:AV):Sub a a:=λ_ _ _ h=>h
theorem Sub.own (k k':Nat) (sv:Value):Sub (.own k sv) (.own k' sv):=λ_ _ _ h=>by
 have h1:=h.own_inv;subst h1;exact .own _ _ h.own_one
theorem Sub.mp (k k' g:Nat):Sub (.mp k g) (.mp k' g):=λ_ _ _ h=>by rw [h.mp_inv];exact .mp _ _
theorem Sub.view (k k':Nat) (sv:Value) (m i len:Nat):Sub (.view k sv m i len) (.view k' sv m i len):=λ_ _ _ h=>.view _ _ _ _ _ _ h.view_inv
theorem Sub.pbox (k k' g off:Nat):Sub (.pbox k g off) (.pbox k' g off):=λ_ _ _ h=>by
 have h1:=h.pbox_inv;subst h1;exact .pbox _ _ _
theorem Sub.prow (k k':Nat) (sv:Value) (m i off:Nat):Sub (.prow k sv m i off) (.prow k' sv m i off):=λ_ _ _ h=>by
 obtain⟨g,n,c,rfl,rfl⟩:=h.prow_inv;exact .prow _ _ _ _ _ g n c rfl
theorem Sub.tup (aS bs:List AV) (hl:aS.length=bs.length) (h:∀(j:Nat) (a b:AV),aS[j]?=some a→bs[j]?=some b→Sub a b):Sub (.tup aS) (.tup bs):=λw imm x hx=>by
 obtain⟨vs,rfl,h1,h2⟩:=hx.tup_inv;refine .tup _ _ zo λj b y hb hy=>?_;have hj:j < aS.length:=by rw [hl];exact(List.getElem?_eq_some_iff.1 hb).1
 exact h j aS[j] b (Zym hj) hb w imm y (h2 j aS[j] y (Zym hj) hy)
inductive Subs:List AV→List AV→Prop
 | nil:Subs [] []
 | cons {a b:AV} {aS bs:List AV} (h:Sub a b) (t:Subs aS bs):Subs (a :: aS) (b :: bs)
theorem Subs.len {aS bs:List AV} (h:Subs aS bs):aS.length=bs.length:=by
 induction h with
 | nil=>rfl
 | cons _ _ ih=>simp [ih]
theorem Subs.get {aS bs:List AV} (h:Subs aS bs):∀(j:Nat) (a b:AV),aS[j]?=some a→bs[j]?=some b→Sub a b:=by
 induction h with
 | nil=>intro j a b h1;simp at h1
 | cons h1 _ ih =>
   intro j a b h2 h3
   cases j with
   | zero=>simp at h2 h3;subst h2;subst h3;exact h1
   | succ j=>exact ih j a b (by simpa using h2) (by simpa using h3)
def lent (σ:Mem):Mem:=λk=>if k < 1000 then none else σ (k - 1000)
def Back (R:AV→Mem→Prop) (b:AV) (m:Mem):Prop:=∃(r:AV) (σ':Mem) (ρ:Nat→Nat),Sub b r∧R r σ'∧(∀k e,σ' k=some e→m (ρ k)=some e)∧(∀k k',σ' k≠none→σ' k'≠none→ρ k=ρ k'→k=k')
section
variable {P:Program} {tok n:Nat} {Q:AE→St→Prop} {st:St}
theorem r_seq {x y:Code} (h:Zav P tok n x (AE.then (Zav P tok n y Q) Q) st):Zav P tok n (.seq x y) Q st:=h
theorem r_skip (h:Q .normal st):Zav P tok n .skip Q st:=h
theorem r_ret (h:Q .ret st):Zav P tok n .ret Q st:=h
theorem r_exit {id:Nat} (h:Q (.exit id) st):Zav P tok n (.exit id) Q st:=h
theorem r_block {id:Nat} {x:Code} (h:Zav P tok n x (AE.inBlock id Q) st):Zav P tok n (.block id x) Q st:=h
theorem r_cond {o:Operand} {x y:Code} {t:Bool} (ht:st.ev o=.v (.bool t)) (h1:t=true→Zav P tok n x Q st) (h2:t=false→Zav P tok n y Q st):Zav P tok n (.cond o x y) Q st:=by
 unfold Zav;rw [ht];exact⟨h1,h2⟩
theorem r_loop {ι:Type} {body:Code} (I:ι→St→Prop) (μ:ι→Nat) (i:ι) (hf:Zaw n body=true)
 (round:∀i st,I i st→Zav P tok n body (AE.then (λst'=>∃i',I i' st'∧μ i' < μ i) Q) st) (h0:I i st):Zav P tok n (.loop body) Q st:=awp_loop (tok:=tok) I μ hf round h0
theorem t_then {next:St→Prop} (h:next st):AE.then next Q .normal st:=h
theorem Zs9 {next:St→Prop} (h:Q .ret st):AE.then next Q .ret st:=h
theorem Zpq {next:St→Prop} {i:Nat} (h:Q (.exit i) st):AE.then next Q (.exit i) st:=h
theorem t_done {rs:List ResultVar} {K:St→AV→Prop} (h:Zia P st rs (K st)):Done P rs K .ret st:=h
theorem t_done' {rs:List ResultVar} {K:St→AV→Prop} (h:Zia P st rs (K st)):Done P rs K .normal st:=h
theorem t_in {id:Nat} (h:Q .normal st):AE.inBlock id Q .normal st:=h
theorem t_in_ret {id:Nat} (h:Q .ret st):AE.inBlock id Q .ret st:=h
theorem Znw {id:Nat} (h:Q .normal st):AE.inBlock id Q (.exit id) st:=by simp only [AE.inBlock,Zzb];exact h
theorem Zai {id i:Nat} (hi:i≠id) (h:Q (.exit i) st):AE.inBlock id Q (.exit i) st:=by simp only [AE.inBlock,Zyj hi];exact h
end
theorem Zsk {α:Type} {f:α→AV} {l:List α} {k:Nat} {x:α} (h:k < l.length):(l.map f).getD k .u=f (l.getD k x):=by
 simp [Zyu,Zym h]
theorem Zx4 (cs:List AV):(AV.agg cs).cells=cs:=rfl
theorem cells_v (x:Value):(AV.v x).cells=[.v x]:=rfl
theorem cells_sl (m:Nat) (es:List AV):(AV.sl m es).cells=[.sl m es]:=rfl
theorem Zx3 (k:Nat) (sv:Value):(AV.own k sv).cells=[.own k sv]:=rfl
theorem Zue (cs:List AV):(AV.pimm cs).cells=[.pimm cs]:=rfl
theorem Zuf (k g o:Nat):(AV.pbox k g o).cells=[.pbox k g o]:=rfl
theorem Zud (k:Nat) (sv:Value) (m i len:Nat):(AV.view k sv m i len).cells=[.view k sv m i len]:=rfl
theorem cells_fn (f:FuncId) (cs:List AV):(AV.fn f cs).cells=[.fn f cs]:=rfl
theorem Ze9 {x:Int} (h1:-9223372036854775808≤x) (h2:x≤9223372036854775807):IntKind.i64.wrap x=x:=IntWalk.i64_in x ⟨h1,h2⟩
theorem Zvb (b w:Bool):says (.v (.bool b)) w=(b == w):=rfl
theorem Zti (w:Bool):says (.v (.tuple #[])) w=false:=rfl
theorem known_v (x:Value):Zhe (.v x)=True:=rfl
attribute [go_sem] Zs6 Zml Ze6 Zq3 Zyh Zd2 Zi3 Zbe Zvb Zti known_v aRes Zag St.ev St.put Zal marks mark AV.ofVal Zco Zl2 Zma Zsh Zri Zs5 Znl Zkh Zwh Zbb Zju Zdb Zhk Zfv Zku Zip Zjo Zog
 Zst Zgr Zd1 Znk Zjw Zgz Zed Zdk Zg7 Zt7 Zjx Zpd Zer Zff Zih Zig mkOf Zo6 Zw2 mpRes Zfb putEl Zl0 Zkn aZero Zeg Zx4 cells_v cells_sl Zx3 Zue Zuf Zud cells_fn
 AV.toks AV.toksL Ent.mark Zgd Zli Zjt Zfs Ze3 pubV Zeo AV.ok AV.one Value.oneCell' Zlv Zia Zmp Zrq resK
end Go.Pg
