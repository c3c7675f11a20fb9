/- Contracts of the functions that the law reaches, and the rules by which they are walked. They say what a call hands back for every input within the bounds that each names; no other condition. -/
import Derived.Test.YtaedgaikloifgaaBd1
import Derived.MapKept
set_option linter.unusedSimpArgs false
set_option linter.unusedVariables false
set_option maxRecDepth 20000
set_option maxHeartbeats 16000000
namespace Go.Pg
open Go Go.RowKit
section
variable {P:Program} {c:Cx} {n tok:Nat} {st:St} {a:Act} {w:World} {imm:Imm} {K:St→Prop} {o:Oper} {Q:Exit→Act→World→Prop}
theorem Zc7 {lo:Option AV} {R:Int→Res} {dst:Option Nat} (hK:aRes P tok dst (Zct lo R) K st):∃l:Int,aRes P tok dst (R l) K st∧((lo=none∧l=0)∨∃k,lo=some (.v (.int k l))):=by
 unfold Zct at hK;split at hK
 ·exact⟨0,hK,.inl ⟨rfl,rfl⟩⟩
 ·rename_i k l;exact⟨l,hK,.inr ⟨k,rfl⟩⟩
 ·exact hK.elim
theorem Zb7 {len:Nat} {hi:Option AV} {R:Int→Res} {dst:Option Nat} (hK:aRes P tok dst (Zcb len hi R) K st):∃l:Int,aRes P tok dst (R l) K st∧((hi=none∧l=len)∨∃k,hi=some (.v (.int k l))):=by
 unfold Zcb at hK;split at hK
 ·exact⟨len,hK,.inl ⟨rfl,rfl⟩⟩
 ·rename_i k l;exact⟨l,hK,.inr ⟨k,rfl⟩⟩
 ·exact hK.elim
theorem Zql {b:Option Operand} {k:IntKind} {l:Int} (h:Rel c n st a w imm) (hb:b.map st.ev=some (.v (.int k l))):b.map a.eval=some (.int k l):=by
 cases b with
 | none=>cases hb
 | some x =>
   simp only [Zr7,Option.some.injEq] at hb ⊢;have:=h.ev x;rw [hb] at this;exact this.v_inv
theorem Zci {len cap:Nat} {lo hi mx:Option Value} {l hh m:Nat} (is:Bool) (hl:(lo=none∧l=0)∨∃k,lo=some (.int k l)) (hhi:(hi=none∧hh=len)∨∃k,hi=some (.int k hh))
 (hm:(mx=none∧m=cap)∨∃k,mx=some (.int k m)) (h1:l≤hh) (h2:hh≤m) (h3:m≤cap) (h4:mx.isSome=true→hi.isSome=true) :
 (Instr.sliceBounds is len cap lo hi mx).run P w=.ok (l,hh,m) w:=by
 have b:∀(k:IntKind) (i y:Nat) (code:BoundsCode),i≤y→(Instr.sliceBound (.int k i) y code).run P w=.ok i w:=by
  intro k i y code hi;have:((i:Int)≤(y:Int)):=zo;simp [Instr.sliceBound,asIntOf,this]
 rcases hm with⟨rfl,rfl⟩ | ⟨km,rfl⟩<;>rcases hhi with⟨rfl,rfl⟩ | ⟨kh,rfl⟩<;>rcases hl with⟨rfl,rfl⟩ | ⟨kl,rfl⟩<;>first
  | (simp only [Instr.sliceBounds,Zq4,Zrf,Zq3,b _ _ _ _ h1,b _ _ _ _ h2,b _ _ _ _ h3,b _ _ _ _ (Zrn h2 h3)];done)
  | (simp at h4;done)
theorem Zc8 {t e:TypeId} {sz:Nat} {A:Option Addr} {len cap:Nat} {lo hi mx:Option Value} {l hh m:Nat} (hu:P.underlying t=some (.slice e)) (hsz:szOf P e=some sz)
 (hb:(Instr.sliceBounds true len cap lo hi mx).run P w=.ok (l,hh,m) w) :
 (Instr.sliceAt t (.slice A len cap) lo hi mx).run P w=.ok (.slice (if m=l then A else A.map (·.add (l*sz))) (hh - l) (m - l)) w:=by
 simp only [Instr.sliceAt,Zq4,Zq5 hu,Zq3,Instr.slice,hb,Zae hsz,Zrf]
theorem cut_rd {m:Nat} {es:List AV} {A:Option Addr} {cap l hh mm:Nat} (h:Rd w imm (.sl m es) (.slice A es.length cap)) (h1:l≤hh) (h2:hh≤es.length) (h3:hh≤mm) :
 Rd w imm (.sl m ((es.take hh).drop l)) (.slice (if mm=l then A else A.map (·.add (l*m))) (hh - l) (mm - l)):=by
 obtain⟨A',cap',f,hv,hcap,hm,hok,hn,hA,hr⟩:=(Rs.pure h).sl_inv;cases hv;have hlen:((es.take hh).drop l).length=hh - l:=by simp;omega
 rw [←hlen];have hsub:∀e∈(es.take hh).drop l,e∈es:=λe he=>Zr8 (Zsz he)
 have hfl:∀(j:Nat) (b:AV),(flat ((es.take hh).drop l))[j]?=some b→(flat es)[l*m+j]?=some b:=by
  intro j b hb
  have e1:flat es=flat (es.take l)++(flat ((es.take hh).drop l)++flat (es.drop hh)):=by
   rw [←Za1,←Za1];congr 1;have e2:es.take l=(es.take hh).take l:=by rw [List.take_take,Zsn h1]
   rw [e2,←Zr6,Zsw,Zsw]
  have hl1:(flat (es.take l)).length=l*m:=by
   rw [Zao λe he=>hm e (Zr8 he),Zrd,Zsn zo]
  rw [e1,Zrw zo,hl1,Ztj,Zru (Za2 hb)];exact hb
 refine .sl m _ _ _ (λj=>f (l*m+j)) (λe he=>hm e (hsub e he)) (λe he=>hok e (hsub e he)) (by rw [hlen];omega) (λh4=>?_) (λj hj=>?_) λj b hb=>hr _ b (hfl j b hb)
 ·rw [hlen] at h4;rw [Zqw zo];have:=hn zo
  cases A with
  | none=>exact absurd rfl this
  | some ad=>simp
 ·rw [hlen] at hj
  have hlt:l < hh:=by
   rcases Zrc l hh with h5 | h5
   ·exact h5
   ·have:hh - l=0:=zo;rw [this] at hj;omega
  rw [Zqw zo];have hmul:l*m+(hh - l)*m≤es.length*m:=by rw [←Zri];exact Zrk _ zo
  obtain⟨ad,rfl,h6,h7⟩:=hA (l*m+j) zo;exact⟨_,rfl,by rw [Zc5];exact h6,by rw [Zc5];exact h7⟩
theorem s_slice {t:TypeId} {p:Operand} {lo hi mx:Option Operand} (h:Rel c n st a w imm) (hd:∀d,o.dst=some d→d < n) (hK:aRes P tok o.dst (Zex P st t (st.ev p) (lo.map st.ev) (hi.map st.ev) (mx.map st.ev)) K st) :
 o.upon P a (Zbc c n K) Q (((do pure (Next.value (←Instr.sliceAt t (a.eval p) (lo.map a.eval) (hi.map a.eval) (mx.map a.eval)))):Sem Next).run P w):=by
 have hx:=h.ev p
 have conv:∀{b:Option Operand} {l:Int} {d:Nat},((b.map st.ev=none∧l=d)∨∃k,b.map st.ev=some (.v (.int k l)))→0≤l→((b.map a.eval=none∧l.toNat=d)∨∃k,b.map a.eval=some (.int k (l.toNat:Nat))):=by
  intro b l d hb h0;rcases hb with⟨h1,h2⟩ | ⟨k,h1⟩
  ·cases b with
   | none=>exact .inl ⟨rfl,zo⟩
   | some x=>cases h1
  ·exact .inr ⟨k,by rw [Zql h h1];congr 2;omega⟩
 have isS:∀{b:Option Operand},(b.map st.ev).isSome=(b.map a.eval).isSome:=by intro b;cases b<;>rfl
 unfold Zex at hK;split at hK
 ·rename_i s hu hxx;rw [hxx] at hx;split at hK
  ·rename_i hmx;obtain⟨l,hK,hl⟩:=Zc7 hK;obtain⟨hh,hK,hhi⟩:=Zb7 hK;obtain⟨⟨h0,h1,h2⟩,hK⟩:=hK;have:=hx.v_inv;rw [this];have hmx2:mx.map a.eval=none:=by cases mx<;>simp_all
   have hb:=Zci (P:=P) (w:=w) (len:=s.size) (cap:=s.size) (m:=s.size) false (conv (d:=0) (by simpa using hl) h0) (conv hhi zo) (.inl ⟨rfl,rfl⟩) (show l.toNat≤hh.toNat by omega) zo (Zq0 _) zs;refine Zaa h hd hK ?_ (.pure (.v _));simp only [Instr.sliceAt,Zq4,Zq5 hu,Zq3,Instr.slice,hmx2,Option.isSome_none,Zrb,Zrl,Zrf,hb]
  ·exact hK.elim
 ·rename_i e m es hu hxx;rw [hxx] at hx;split at hK
  ·rename_i m' hsz;obtain⟨l,hK,hl⟩:=Zc7 hK;obtain⟨hh,hK,hhi⟩:=Zb7 hK;obtain⟨m2,hK,hm2⟩:=Zb7 hK;obtain⟨⟨rfl,h0,h1,h2,h3,h4⟩,hK⟩:=hK;obtain⟨A,cap,f,hv,hcap,hrest⟩:=hx.sl_inv;rw [hv]
   have hrd:Rd w imm (.sl m' es) (.slice A es.length cap):=by
    have:=hx;rw [hv] at this;cases this with | pure h=>exact h
   have hmm:(mx.map a.eval=none∧(if (mx.map a.eval).isSome then m2.toNat else cap)=cap)∨∃k,mx.map a.eval=some (.int k ((if (mx.map a.eval).isSome then m2.toNat else cap:Nat):Int)):=by
    rcases conv hm2 zo with⟨h5,_⟩ | ⟨k,h5⟩
    ·exact .inl ⟨h5,by rw [h5];rfl⟩
    ·exact .inr ⟨k,by rw [h5];rfl⟩
   have hmb:hh.toNat≤(if (mx.map a.eval).isSome then m2.toNat else cap):=by split<;>omega
   have hb:=Zci (P:=P) (w:=w) (len:=es.length) (cap:=cap) true (conv (d:=0) (by simpa using hl) h0) (conv hhi zo) hmm (show l.toNat≤hh.toNat by omega) hmb (by split<;>omega) (by rw [←isS,←isS];exact h4);exact Zaa h hd hK (Zc8 hu hsz hb) (.pure (cut_rd hrd zo zo hmb))
  ·exact hK.elim
 ·rename_i e k sv hu hxx;rw [hxx] at hx;split at hK
  ·rename_i sv' e' m es pub m' hk hsz;split at hK
   ·rename_i hmx;obtain⟨l,hK1,hl⟩:=Zc7 hK;obtain⟨hh,hK2,hhi⟩:=Zb7 hK1;obtain⟨⟨rfl,rfl,h0,h1,h2⟩,hK4⟩:=hK2;have hv:=hx.own_inv;rw [hv];obtain⟨A,cap,xs,hsrc,hcap,hown⟩:=Zg7 h.mem hk;have hval:=hsrc.val;subst hval;have hmx2:mx.map a.eval=none:=by cases mx<;>simp_all
    have hb:=Zci (P:=P) (w:=w) (len:=es.length) (cap:=cap) (m:=cap) true (conv (d:=0) (by simpa using hl) h0) (conv hhi zo) (.inl ⟨hmx2,rfl⟩) (show l.toNat≤hh.toNat by omega) zo (Zq0 _) (by rw [hmx2];simp);refine Zaa h hd hK4 (Zc8 hu hsz hb) (.view k _ m' _ _ _ ?_);rcases hown.2 with⟨h5,h6⟩ | ⟨g,cap',cur,h5,_⟩
    ·simp only [Value.slice.injEq] at h5;obtain⟨rfl,_,rfl⟩:=h5;refine .inl ⟨by rw [h6],zo,zo,?_⟩;have e1:hh.toNat - l.toNat=0:=zo;rw [e1,h6];split<;>simp
    ·simp only [Value.slice.injEq,true_and] at h5;obtain⟨rfl,rfl⟩:=h5;refine .inr ⟨g,es.length,cap,if cap=l.toNat then 0 else l.toNat*m',cap - l.toNat,rfl,?_,zo,zo,λh6=>by rw [Zqw zo],λh6=>⟨by rw [h6];simp,zo⟩⟩;split
     ·rfl
     ·simp [Zr0]
   ·exact hK.elim
  ·exact hK.elim
 ·rename_i e k sv m i len hu hxx;rw [hxx] at hx;split at hK
  ·rename_i m' hsz hmx;obtain⟨l,hK1,hl⟩:=Zc7 hK;obtain⟨hh,hK2,hhi⟩:=Zb7 hK1;obtain⟨⟨rfl,h0,h1,h2⟩,hK4⟩:=hK2;have hmx2:mx.map a.eval=none:=by cases mx<;>simp_all
   rcases hx.view_inv with⟨rfl,rfl,rfl,hv⟩ | ⟨g,nn,cc,off,cap,rfl,hv,hle,hlc,hoff,hz0⟩
   ·rw [hv];have hb:=Zci (P:=P) (w:=w) (len:=0) (cap:=0) (m:=0) true (conv (d:=0) (by simpa using hl) h0) (conv hhi zo) (.inl ⟨hmx2,rfl⟩) (show l.toNat≤hh.toNat by omega) zo (Zq0 _) (by rw [hmx2];simp);refine Zaa h hd hK4 (Zc8 hu hsz hb) (.view k _ m' _ _ _ (.inl ⟨rfl,zo,zo,?_⟩));have e1:hh.toNat - l.toNat=0:=zo;rw [e1,Nat.zero_sub];split<;>rfl
   ·rw [hv];have hb:=Zci (P:=P) (w:=w) (len:=len) (cap:=cap) (m:=cap) true (conv (d:=0) (by simpa using hl) h0) (conv hhi zo) (.inl ⟨hmx2,rfl⟩) (show l.toNat≤hh.toNat by omega) zo (Zq0 _) (by rw [hmx2];simp);refine Zaa h hd hK4 (Zc8 hu hsz hb) (.view k _ m' _ _ _ (.inr ⟨g,nn,cc,if cap=l.toNat then off else off+l.toNat*m',cap - l.toNat,rfl,?_,zo,zo,λh6=>?_,λh6=>?_⟩))
    ·split
     ·rfl
     ·simp [Zr0]
    ·rw [Zqw zo,hoff zo,Zri]
    ·have e1:i=0:=zo;have e2:l.toNat=0:=zo;obtain⟨e3,e4⟩:=hz0 e1;rw [e2,e3,e4];simp
  ·exact hK.elim
 ·rename_i e hu hxx;rw [hxx] at hx;split at hK
  ·rename_i sz hsz;obtain⟨l,hK1,hl⟩:=Zc7 hK;obtain⟨hh,hK2,hhi⟩:=Zb7 hK1;obtain⟨m2,hK3,hm2⟩:=Zb7 hK2;obtain⟨⟨h5,h6,h7,h4⟩,hK4⟩:=hK3;have hv:=hx.v_inv;rw [hv];have hb:=Zci (P:=P) (w:=w) (len:=0) (cap:=0) (l:=l.toNat) (hh:=hh.toNat) (m:=m2.toNat) true (conv (d:=0) (by simpa using hl) zo) (conv hhi zo) (conv hm2 zo) zo zo zo (by rw [←isS,←isS];exact h4);refine Zaa h hd hK4 (Zc8 hu hsz hb) ?_;have e1:hh.toNat - l.toNat=0:=zo;have e2:m2.toNat - l.toNat=0:=zo;rw [e1,e2];have e3:(if m2.toNat=l.toNat then (none:Option Addr) else Option.map (λx:Addr=>x.add (l.toNat*sz)) none)=none:=by split<;>rfl
   rw [e3];exact .pure (.v _)
  ·exact hK.elim
 ·rename_i nn e k g off hu hxx;rw [hxx] at hx;split at hK
  ·rename_i m cs hlo hhi hmx hsz hcs;obtain⟨⟨rfl,hn,h0,hpub,hone⟩,hK⟩:=hK;have hv:=hx.pbox_inv;have e1:lo.map a.eval=none:=by cases lo<;>simp_all
   have e2:hi.map a.eval=none:=by cases hi<;>simp_all
   have e3:mx.map a.eval=none:=by cases mx<;>simp_all
   have hrun:(Instr.sliceAt t (a.eval p) (lo.map a.eval) (hi.map a.eval) (mx.map a.eval)).run P w=.ok (.slice (some ⟨g,off,none⟩) nn nn) w:=by
    have hb:=Zci (P:=P) (w:=w) (len:=nn) (cap:=nn) (lo:=none) (hi:=none) (mx:=none) (l:=0) (hh:=nn) (m:=nn) false (.inl ⟨rfl,rfl⟩) (.inl ⟨rfl,rfl⟩) (.inl ⟨rfl,rfl⟩) (Zre _) (Zq0 _) (Zq0 _) zs;have e4:(if nn=0 then (⟨g,off,none⟩:Addr) else Addr.add ⟨g,off,none⟩ (0*1))=⟨g,off,none⟩:=by split<;>simp [Zr0]
    rw [hv,e1,e2,e3];simp only [Instr.sliceAt,Zq4,Zq5 hu,Zq3,Instr.sureAddr,Zrf,hb,Zae hsz,e4,Ztk]
   rw [Zq4,hrun,Zq3];refine Zb2 h hd hK λi' hm' hk'=>?_;have hrd:=Zd8 hm' (hk'.rs hx) hpub;rw [hcs,hv] at hrd;obtain⟨ad,f,he,hA,hr⟩:=(Rs.pure hrd).pimm_inv;have had:ad=⟨g,off,none⟩:=by simpa using he.symm
   subst had;rw [←hn];have hone':∀x∈cs,x.one=true:=λx hx=>List.all_eq_true.1 hone x hx;have hc1:∀x∈cs,x.cells=[x]:=λx hx=>by
    have:=hone' x hx;cases x<;>simp [AV.one] at this<;>rfl
   have hfl:flat cs=cs:=by
    clear hA hr hcs hn hone hone' hrd he h0 hK hpub;unfold flat
    induction cs with
    | nil=>rfl
    | cons x cs ih=>rw [Ztr,hc1 x (.head _),ih λy hy=>hc1 y (.tail _ hy)];rfl
   refine .pure (.sl 1 cs (some ⟨g,off,none⟩) cs.length f (λx hx=>by rw [hc1 x hx];rfl) (λx hx=>?_) (Zq0 _) (λ_=>by simp) (λj hj=>⟨_,rfl,hA j zo⟩) λj b hb=>?_)
   ·have:=hone' x hx;cases x<;>simp [AV.one] at this<;>simp [AV.ok,AV.one, *]
   ·rw [hfl] at hb;exact hr j b hb
  ·exact hK.elim
 ·exact hK.elim
end
theorem Zjg (w:World) (imm:Imm) (z:Value):Rs w imm (AV.ofVal z) z:=by
 cases z<;>first
  | exact .pure (.v _)
  | (rename_i cs
     refine .pure (.agg _ cs zs λj a x h1 h2=>?_);simp only [Zrx,Zs6,h2,Zr7,Option.some.injEq] at h1;subst h1;exact .v _)
def CL (w:World) (imm:Imm) (cs:List AV) (vs:Array Value):Prop:=cs.length=vs.size∧∀(j:Nat) (b:AV) (y:Value),cs[j]?=some b→vs[j]?=some y→Rs w imm b y
theorem Zd6 {w:World} {imm:Imm} (z:Value):CL w imm (AV.ofVal z).cells z.cells:=by
 have h:=Zjg w imm z;cases z<;>first
  | (rename_i cs
     obtain⟨vs,hv,hl,hr⟩:=h.agg_inv;cases hv;exact⟨hl,hr⟩)
  | (refine⟨rfl,λj b y hb hy=>?_⟩
     simp only [AV.ofVal,AV.cells,Value.cells] at hb hy
     match j with
     | 0=>simp at hb hy;subst hb;subst hy;exact .pure (.v _)
     | j+1=>simp at hb)
theorem Zk6 (off:Nat) (vs:Array Value) (cs:Array Value) (h:off+vs.size≤cs.size) (j:Nat) :
 (vs.zipIdx.foldl (λcs (x:Value × Nat)=>cs.setIfInBounds (off+x.2) x.1) cs)[j]?=if off≤j∧j < off+vs.size then vs[j - off]? else cs[j]?:=by
 have key:∀(l:List Value) (k:Nat) (cs:Array Value),off+k+l.length≤cs.size→∀j,((l.zipIdx k).foldl (λcs (x:Value × Nat)=>cs.setIfInBounds (off+x.2) x.1) cs)[j]?=if off+k≤j∧j < off+k+l.length then l[j - (off+k)]? else cs[j]?:=by
  intro l
  induction l with
  | nil=>intro k cs _ j;simp;omega
  | cons x l ih =>
    intro k cs hle j;simp only [Zrj] at hle;simp only [List.zipIdx_cons,List.foldl_cons,Zrj];rw [ih (k+1) _ (by simp;omega) j];by_cases h1:off+(k+1)≤j∧j < off+(k+1)+l.length
    ·rw [Zqv h1,Zqv zo];have:j - (off+k)=(j - (off+(k+1)))+1:=zo;rw [this,Zuf]
    ·rw [Zqw h1,Zu9];by_cases h2:off+k=j
     ·subst h2;rw [Zqv rfl,Zqv zo,Zqv zo];simp
     ·rw [Zqw h2,Zqw zo]
 have:=key vs.toList 0 cs (by simpa using h) j;rw [←Array.foldl_toList,Array.toList_zipIdx]
 simpa using this
theorem Zhu (off:Nat) (vs:Array Value) (cs:Array Value):(vs.zipIdx.foldl (λcs (x:Value × Nat)=>cs.setIfInBounds (off+x.2) x.1) cs).size=cs.size:=by
 rw [←Array.foldl_toList];generalize vs.zipIdx.toList=l
 induction l generalizing cs with
 | nil=>rfl
 | cons x l ih=>simp only [List.foldl_cons];rw [ih];simp
section
variable {P:Program} {c:Cx} {n tok:Nat} {st:St} {a:Act} {w:World} {imm:Imm} {K:St→Prop} {o:Oper} {Q:Exit→Act→World→Prop}
theorem Zhv {place:Nat→Option (Nat × Nat)} {R:List AV→Res} {dst:Option Nat}:∀(parts:List (Nat × AV)) (vals:List (Nat × Value)) (cs:List AV) (vs:Array Value),
 CL w imm cs vs→parts.length=vals.length→(∀(j:Nat) (p:Nat × AV) (q:Nat × Value),parts[j]?=some p→vals[j]?=some q→p.1=q.1∧Rs w imm p.2 q.2) →
 aRes P tok dst (Zof place cs parts R) K st→∃cs' vs',Instr.fill place vs vals=some vs'∧CL w imm cs' vs'∧aRes P tok dst (R cs') K st
 | [],[],cs,vs,hcl,_,_,hK=>⟨cs,vs,rfl,hcl,hK⟩
 | [],q :: vals,_,_,_,hl,_,_=>by simp at hl
 | (i,b) :: parts,[],_,_,_,hl,_,_=>by simp at hl
 | (i,b) :: parts,q :: vals,cs,vs,hcl,hl,hr,hK=>by
   obtain⟨h1,h2⟩:=hr 0 (i,b) q rfl rfl;simp only at h1 h2;subst h1;simp only [Zof] at hK
   cases hp:place q.1 with
   | none=>rw [hp] at hK;exact hK.elim
   | some os =>
     obtain⟨off,sz⟩:=os;rw [hp] at hK;obtain⟨⟨hok,hsz,hfit⟩,hK⟩:=hK;obtain⟨hlc,hrc,_⟩:=h2.cells_of hok;have hfit':off+b.cells.length≤cs.length:=zo;obtain⟨cs',vs',e1,e2,e3⟩:=Zhv parts vals (Zcx cs off b.cells) (q.2.cells.zipIdx.foldl (λcs (x:Value × Nat)=>cs.setIfInBounds (off+x.2) x.1) vs)
      ⟨by rw [Zcz hfit',Zhu];exact hcl.1,λj x y hx hy=>by
       rw [Zew hfit'] at hx;rw [Zk6 off q.2.cells vs (by rw [←hcl.1,←hlc];exact hfit'),←hlc] at hy;split at hx
       ·rename_i hc;rw [Zqv hc] at hy;exact hrc _ x y hx hy
       ·rename_i hc;rw [Zqw hc] at hy;exact hcl.2 j x y hx hy⟩ (by simpa using hl) (λj p q' hp hq=>hr (j+1) p q' (by simpa using hp) (by simpa using hq)) hK
     refine⟨cs',vs',?_,e2,e3⟩;simp only [Instr.fill,hp];have h5:=hcl.1;rw [Zqw (by simp;omega)];exact e1
theorem Zkl {parts:Array (Nat × Operand)} (h:Rel c n st a w imm):((parts.toList.map λp=>(p.1,st.ev p.2)).length=(parts.map fun(i,x)=>(i,a.eval x)).toList.length) ∧
 ∀(j:Nat) (p:Nat × AV) (q:Nat × Value),(parts.toList.map λp=>(p.1,st.ev p.2))[j]?=some p→(parts.map fun(i,x)=>(i,a.eval x)).toList[j]?=some q→p.1=q.1∧Rs w imm p.2 q.2:=by
 refine⟨by simp,λj p q hp hq=>?_⟩;simp only [Array.toList_map,Zrx] at hp hq;rcases hx:parts.toList[j]? with _ | x
 ·rw [hx] at hp;cases hp
 ·rw [hx] at hp hq;simp only [Zr7,Option.some.injEq] at hp hq;subst hp;subst hq;exact⟨rfl,h.ev _⟩
theorem Zl4 {fields:Array Field} (hall:(fields.toList.all λf=>(szOf P f.type).isSome)=true) :
 (fields.mapM λf=>(do pure (f.offset,←sizeOf f.type):Sem (Nat × Nat))).run P w=.ok (fields.map λf=>(f.offset,(szOf P f.type).getD 0)) w:=by
 have key:∀(l:List Field),(∀f∈l,(szOf P f.type).isSome=true)→(l.mapM λf=>(do pure (f.offset,←sizeOf f.type):Sem (Nat × Nat))).run P w=.ok (l.map λf=>(f.offset,(szOf P f.type).getD 0)) w:=by
  intro l
  induction l with
  | nil=>intro _;rfl
  | cons f l ih =>
    intro hl;have h1:=hl f (Zsm ..);obtain⟨s,hs⟩:=Option.isSome_iff_exists.1 h1;have h2:=ih λg hg=>hl g (Zs7 _ hg);rw [List.mapM_cons];simp only [Zq4,Zae hs,Zq3,Zrf,h2,Zs9,hs,Zsf]
 have h:=key fields.toList λf hf=>List.all_eq_true.1 hall f hf;rw [Array.mapM_eq_mapM_toList];simp only [Sem.run_map,h,Zq3];congr 1;apply Array.ext';simp
theorem s_build {t:TypeId} {parts:Array (Nat × Operand)} (h:Rel c n st a w imm) (hd:∀d,o.dst=some d→d < n) (hK:aRes P tok o.dst (Zg0 P t (parts.toList.map λp=>(p.1,st.ev p.2))) K st) :
 o.upon P a (Zbc c n K) Q (((do pure (Next.value (←Instr.build t (parts.map fun(i,x)=>(i,a.eval x))))):Sem Next).run P w):=by
 obtain⟨hpl,hpr⟩:=Zkl (parts:=parts) h;unfold Zg0 at hK;split at hK
 ·rename_i fields z hu hz;obtain⟨hall,hK⟩:=hK
  have hpe:(λi:Nat=>(fields[i]?).bind λf:Field=>(szOf P f.type).map λs=>(f.offset,s))=λi:Nat=>((fields.map λf:Field=>(f.offset,(szOf P f.type).getD 0))[i]?):=by
   funext i
   rw [Zud];rcases hf:fields[i]? with _ | f
   ·rfl
   ·have:(szOf P f.type).isSome=true:=List.all_eq_true.1 hall f (by
     have:=Array.mem_of_getElem? hf;exact Array.mem_toList_iff.2 this)
    obtain⟨s,hs⟩:=Option.isSome_iff_exists.1 this;simp [hs]
  rw [hpe] at hK;obtain⟨cs',vs',e1,e2,e3⟩:=Zhv _ _ _ _ (Zd6 z) hpl hpr hK;refine Zaa h hd e3 (x:=.agg vs') ?_ (.agg _ _ e2.1 e2.2);simp only [Instr.build,Zq4,Zaf hz,Zq3,Zq5 hu,Zl4 hall,e1,Zrf]
 ·rename_i len e z hu hz;split at hK
  ·rename_i sz hsz;obtain⟨cs',vs',e1,e2,e3⟩:=Zhv _ _ _ _ (Zd6 z) hpl hpr hK;refine Zaa h hd e3 (x:=.agg vs') ?_ (.agg _ _ e2.1 e2.2);simp only [Instr.build,Zq4,Zaf hz,Zq3,Zq5 hu,Zae hsz,e1,Zrf]
  ·exact hK.elim
 ·exact hK.elim
theorem Ziw {σ:Mem} {m:Nat} {R:List AV→Res} {dst:Option Nat} (hm:Mx c σ w imm):∀(parts:List (Nat × AV)) (vals:List (Nat × Value)) (es:List AV) (vs:Array Value),
 (∀e∈es,e.cells.length=m)→(∀e∈es,e.ok=true)→(flat es).length=vs.size→(∀(j:Nat) (b:AV) (y:Value),(flat es)[j]?=some b→vs[j]?=some y→Rd w imm b y) →
 parts.length=vals.length→(∀(j:Nat) (p:Nat × AV) (q:Nat × Value),parts[j]?=some p→vals[j]?=some q→p.1=q.1∧Rs w imm p.2 q.2) →
 aRes P tok dst (Zk7 σ m es parts R) K st→∃es' vs',Instr.fill (λi=>some (i*m,m)) vs vals=some vs'∧es'.length=es.length∧(∀e∈es',e.cells.length=m)∧(∀e∈es',e.ok=true)∧vs'.size=vs.size ∧
  (∀(j:Nat) (b:AV) (y:Value),(flat es')[j]?=some b→vs'[j]?=some y→Rd w imm b y)∧aRes P tok dst (R es') K st
 | [],[],es,vs,h1,h2,_,h4,_,_,hK=>⟨es,vs,rfl,rfl,h1,h2,rfl,h4,hK⟩
 | [],q :: vals,_,_,_,_,_,_,hl,_,_=>by simp at hl
 | (i,b) :: parts,[],_,_,_,_,_,_,hl,_,_=>by simp at hl
 | (i,b) :: parts,q :: vals,es,vs,h1,h2,h3,h4,hl,hr,hK=>by
   obtain⟨e1,e2⟩:=hr 0 (i,b) q rfl rfl;simp only at e1 e2;subst e1;simp only [Zk7] at hK;obtain⟨⟨hok,hsz,hi,hpo⟩,hK⟩:=hK;obtain⟨hpok,hpl⟩:=pub_ok hpo hok;have hrd:=Zd8 hm e2 hpo;obtain⟨hlc,_,_⟩:=(Rs.pure hrd).cells_of hpok;have hel:(pubV σ b).cells.length=m:=zo;have hfl:=Zao h1
   have him:q.1*m+m≤es.length*m:=by
    have:(q.1+1)*m≤es.length*m:=Zrk _ hi
    rwa [Zri,Zsh] at this
   have hs1:∀e∈es.set q.1 (pubV σ b),e.cells.length=m:=λy hy=>by
    rcases Zub hy with h5 | rfl
    ·exact h1 y h5
    ·exact hel
   obtain⟨es',vs',f1,f2,f3,f4,f5,f6,f7⟩:=Ziw hm parts vals (es.set q.1 (pubV σ b)) (q.2.cells.zipIdx.foldl (λcs (x:Value × Nat)=>cs.setIfInBounds (q.1*m+x.2) x.1) vs) hs1
    (λy hy=>by
     rcases Zub hy with h5 | rfl
     ·exact h2 y h5
     ·exact hpok)
    (by rw [Zao hs1,Zhu,←h3,hfl,List.length_set])
    (λj x y hx hy=>by
     rw [Zju h1 _ hi hel] at hx;rw [Zk6 (q.1*m) q.2.cells vs zo,←hlc,hel] at hy;split at hx
     ·rename_i hc;rw [Zqv hc] at hy;exact Zil hrd hpok _ x hx y hy
     ·rename_i hc;rw [Zqw hc] at hy;exact h4 j x y hx hy)
    (by simpa using hl) (λj p q' hp hq=>hr (j+1) p q' (by simpa using hp) (by simpa using hq)) hK
   refine⟨es',vs',?_,by rw [f2,List.length_set],f3,f4,by rw [f5,Zhu],f6,f7⟩;simp only [Instr.fill];rw [Zqw (by simp;omega)];exact f1
theorem Zia {t e:TypeId} {len m:Nat} {z:Value} {vals:Array (Nat × Value)} {vs':Array Value} (hu:P.underlying t=some (.slice e)) (hsz:szOf P e=some m) (hz:Zbd P e=some z) (hlim:len*m≤16777216)
 (f1:Instr.fill (λi=>some (i*m,m)) ((Array.range (len*m)).map (z.cells[·%z.cells.size]!)) vals.toList=some vs') :
 (Instr.buildSlice t len vals).run P w=.ok (.slice (some ⟨w.heap.size,0,none⟩) len len) (w.alloc (.cells vs' e)):=by
 have hlim':¬(len*m > 2 ^ 24):=zo;simp only [Instr.buildSlice,Zq4,Zq5 hu,Zq3,Zae hsz,Zqw hlim'];by_cases h0:len*m=0
 ·have h1:Array.range (len*m)=#[]:=by rw [h0];rfl
  rw [h1] at f1;simp only [Array.map_empty] at f1;simp only [Zqv h0,Zq4,Zrf,Zq3,h1,Array.map_empty,f1,newRow,run_newObj];rfl
 ·simp only [Zqw h0,Zq4,Zaf hz,Zrf,Zq3,f1,newRow,run_newObj];rfl
theorem Zke {t:TypeId} {len:Nat} {parts:Array (Nat × Operand)} (h:Rel c n st a w imm) (hd:∀d,o.dst=some d→d < n) (hK:aRes P tok o.dst (Zc3 P st t len (parts.toList.map λp=>(p.1,st.ev p.2))) K st) :
 o.upon P a (Zbc c n K) Q (((do pure (Next.value (←Instr.buildSlice t len (parts.map fun(i,x)=>(i,a.eval x))))):Sem Next).run P w):=by
 unfold Zc3 at hK;split at hK
 ·rename_i e hu;split at hK
  ·rename_i m z hsz hz;obtain⟨⟨hlim,hlim2,hzl,hzok⟩,hK⟩:=hK;generalize hks:AV.toksL ((parts.toList.map λp=>(p.1,st.ev p.2)).map (·.2))=ks at hK;obtain⟨i',hm',hk'⟩:=Zbv ks h.mem;obtain⟨hpl,hpr⟩:=Zkl (parts:=parts) h;have hrep1:∀y∈List.replicate len (AV.ofVal z),y.cells.length=m:=λy hy=>by rw [Ztd hy];exact hzl
   have hzsz:z.cells.size=m:=by rw [←hzl];exact(Zd6 (w:=w) (imm:=imm) z).1.symm
   obtain⟨es',vs',f1,f2,f3,f4,f5,f6,f7⟩:=Ziw hm' _ _ _ ((Array.range (len*m)).map (z.cells[·%z.cells.size]!)) hrep1 (λy hy=>by rw [Ztd hy];exact hzok)
    (by rw [Zao hrep1];simp) (λj b y hb hy=>by
     have hj:j < len*m:=by
      have:=Za2 hb
      rwa [Zao hrep1,Zt1] at this
     have hm0:0 < m:=by
      rcases Zr5 m with h4 | h4
      ·rw [h4] at hj;omega
      ·exact h4
     have hdm:j=(j/m)*m+j%m:=by rw [Zrm];exact(Zs2 j m).symm
     have hq:j/m < len:=by rw [Zte hm0];exact hj
     have hfg:=Zcf hrep1 (j/m) (j%m) (Zrv _ hm0) (by simpa using hq);rw [←hdm,hb] at hfg;rw [Zq6,Zus,Zqv hq] at hfg;simp only [Zsf] at hfg;have hlt:j%m < z.cells.size:=by rw [hzsz];exact Zrv _ hm0
     have hy2:y=z.cells[j%m]:=by
      rw [Zud,Array.getElem?_range,Zqv hj] at hy;simp only [Zr7,Option.some.injEq,hzsz] at hy;rw [←hy];simp [hlt]
     rw [hy2];have h8:=(Zd6 (w:=w) (imm:=i') z).2 (j%m) b _ hfg.symm (Zrq hlt)
     have h9:∃y,b=.v y:=by
      cases z<;>first
       | (simp only [AV.ofVal,AV.cells] at hfg
          have:j%m=0:=by
           have:=Za2 hfg.symm;simp at this;omega
          rw [this] at hfg;simp at hfg;exact⟨_,hfg⟩)
       | (simp only [AV.ofVal,AV.cells,Zrx] at hfg
          rename_i cs;rcases hc:cs.toList[j%m]? with _ | y
          ·rw [hc] at hfg;cases hfg
          ·rw [hc] at hfg;simp only [Zr7,Option.some.injEq] at hfg;exact⟨y,hfg⟩)
     obtain⟨y',rfl⟩:=h9;rw [h8.v_inv];exact .v _)
    hpl (λj p q h1 h2=>⟨(hpr j p q h1 h2).1,hk'.rs (hpr j p q h1 h2).2⟩) hK
   have hlen:es'.length=len:=by rw [f2,Zt1]
   have hrun:=Zia (w:=w) hu hsz hz hlim f1;rw [Zfs hrun];have:=Zj4 (Q:=Q) (cap:=len) (vs:=vs') h hd f7 hm' hk' zo ?_ (by rw [f5];simp) f3 f4 f6
   ·rwa [hlen] at this
   ·simp only [maxLen];omega
  ·exact hK.elim
 ·exact hK.elim
end
section
variable {P:Program} {c:Cx} {n tok:Nat} {st:St} {a:Act} {w:World} {imm:Imm} {K:St→Prop} {o:Oper} {Q:Exit→Act→World→Prop}
theorem Zjx {xs:Array Operand} (h:Rel c n st a w imm):(xs.toList.map st.ev).length=(xs.map a.eval).size∧∀(j:Nat) (b:AV) (y:Value),(xs.toList.map st.ev)[j]?=some b→(xs.map a.eval)[j]?=some y→Rs w imm b y:=by
 refine⟨by simp,λj b y hb hy=>?_⟩;rw [Zrx,Zs6] at hb;rw [Zud] at hy;rcases hx:xs[j]? with _ | x
 ·rw [hx] at hb;cases hb
 ·rw [hx] at hb hy;simp only [Zr7,Option.some.injEq] at hb hy;subst hb;subst hy;exact h.ev x
theorem s_len {t ty:TypeId} {xv:AV} {x:Value} {d:TypeDesc} (h:Rel c n st a w imm) (hd:∀d,o.dst=some d→d < n) (hu:P.underlying t=some d) (hK:aRes P tok o.dst (Zis st d xv) K st) (hx:Rs w imm xv x) :
 o.upon P a (Zbc c n K) Q (((do pure (Next.value (←Builtin.len_ #[t] ty #[x]))):Sem Next).run P w):=by
 unfold Zis at hK;split at hK
 ·obtain⟨A,cap,f,rfl,_⟩:=hx.sl_inv;exact Zaa h hd hK (by simp [Builtin.len_,Zq5 hu,goInt]) (.pure (.v _))
 ·split at hK
  ·rename_i sv' e' m es pub hk;obtain⟨rfl,hK⟩:=hK;have:=hx.own_inv;subst this;obtain⟨A,cp,xs,hsrc,_,_⟩:=Zg7 h.mem hk;have hv:=hsrc.val;subst hv;exact Zaa h hd hK (by simp [Builtin.len_,Zq5 hu,goInt]) (.pure (.v _))
  ·exact hK.elim
 ·rcases hx.view_inv with⟨_,_,rfl,rfl⟩ | ⟨g,nn,cc,off,cap,_,rfl,_⟩
  ·simp_all only
   exact Zaa h hd hK (by simp [Builtin.len_,Zq5 hu,goInt]) (.pure (.v _))
  ·exact Zaa h hd hK (by simp [Builtin.len_,Zq5 hu,goInt]) (.pure (.v _))
 ·have:=hx.v_inv;subst this;exact Zaa h hd hK (by simp [Builtin.len_,Zq5 hu,goInt]) (.pure (.v _))
 ·have:=hx.v_inv;subst this;exact Zaa h hd hK (by simp [Builtin.len_,Zq5 hu,goInt]) (.pure (.v _))
 ·split at hK
  ·rename_i h' es hk;obtain⟨rfl,hK⟩:=hK;have:=hx.mp_inv;subst this;obtain⟨arr,clock,hh,hB,hl,hr,hbo,hp⟩:=h.mem.ok.ent _ _ hk;exact Zaa h hd hK (by simp [Builtin.len_,Zq5 hu,goInt,Zug hh,hl]) (.pure (.v _))
  ·exact hK.elim
 ·exact Zaa h hd hK (by simp [Builtin.len_,Zq5 hu,goInt]) (.pure (.v _))
 ·exact hK.elim
theorem s_cap {t ty:TypeId} {xv:AV} {x:Value} {d:TypeDesc} (h:Rel c n st a w imm) (hd:∀d,o.dst=some d→d < n) (hu:P.underlying t=some d) (hK:aRes P tok o.dst (Zng d xv) K st) (hx:Rs w imm xv x) :
 o.upon P a (Zbc c n K) Q (((do pure (Next.value (←Builtin.cap_ #[t] ty #[x]))):Sem Next).run P w):=by
 unfold Zng at hK;split at hK
 ·have:=hx.v_inv;subst this;exact Zaa h hd hK (by simp [Builtin.cap_,Zq5 hu,goInt]) (.pure (.v _))
 ·exact hK.elim
theorem Zd5 {cl:Call} {ty:TypeId} {b:Builtin} (hb:cl.callee=.builtin b):((do let d ←resolve a.eval cl ty;invoke d.target d.args):Sem Next).run P w=(builtin b cl.argTypes ty (cl.args.map fun | .const _=>true | _=>false) (cl.args.map a.eval)).run P w:=by
 simp [resolve,hb,invoke];rfl
theorem map1 (f:Operand→Value) (x:Operand):(#[x]:Array Operand).map f=#[f x]:=by simp
theorem map2 (f:Operand→Value) (x y:Operand):(#[x,y]:Array Operand).map f=#[f x,f y]:=by simp
theorem Zoc {α:Type} {xs:Array α} {x:α} (h:xs.toList=[x]):xs=#[x]:=by rw [←Zut (xs:=xs),h]
theorem list2 {α:Type} {xs:Array α} {x y:α} (h:xs.toList=[x,y]):xs=#[x,y]:=by rw [←Zut (xs:=xs),h]
theorem Zob {t:TypeId} {name:String} {g:FuncId} {x:Value} (h:ivkOf P t name=some g) (k:Nat):(method (k+1) t x name).run P w=.ok (g,x) w:=by
 unfold ivkOf at h;split at h
 ·rename_i i hi;split at h
  ·rename_i m hm;split at h
   ·rename_i hp;split at h
    ·rename_i f fs e1 e2;injection h with h
     subst h;have hp':m.path.toList=[]:=by simpa using hp
     simp only [method,Zq4,run_typeInfo w hi,Zq3,hm,hp',follow,Zrf,e1,receiverAt,Zq5 e2,Place.get]
    ·cases h
   ·cases h
  ·cases h
 ·cases h
theorem Zor (z:Value) {j:Nat} {b:AV} {y:Value} (hb:(AV.ofVal z).cells[j]?=some b) (hy:z.cells[j]?=some y):b=.v y:=by
 cases z<;>first
  | (simp only [AV.ofVal,AV.cells,Value.cells] at hb hy
     match j with
     | 0=>simp at hb hy;rw [←hb,←hy]
     | j+1=>simp at hb)
  | (simp only [AV.ofVal,AV.cells,Value.cells,Zrx,Zs6] at hb hy
     rw [hy] at hb;simp at hb;exact hb.symm)
theorem s_clear {t ty:TypeId} {xv:AV} {x:Value} (h:Rel c n st a w imm) (hd:∀d,o.dst=some d→d < n) (hK:aRes P tok o.dst (Zgz P st t xv) K st) (hx:Rs w imm xv x) :
 o.upon P a (Zbc c n K) Q (((do pure (Next.value (←Builtin.clear_ #[t] ty #[x]))):Sem Next).run P w):=by
 unfold Zgz at hK;split at hK
 ·rename_i e k sv m i len hu;split at hK
  ·rename_i sv' e' m' es pub m₂ z hk hsz hzo;obtain⟨⟨rfl,rfl,rfl,rfl,hle,hm0,hzs,hzl,hzok⟩,hK⟩:=hK;have hvw:=hx.view_inv;by_cases hl0:len=0
   ·subst hl0;have e1:es.take i++List.replicate 0 (AV.ofVal z)++es.drop (i+0)=es:=by simp
    rw [e1] at hK;have e2:∀m:Mem,m k=some (.row sv e' m₂ es 0)→upd m k (some (.row sv e' m₂ es 0))=m:=λm hm=>by
     funext j
     rw [Zaj];split
     ·subst_vars;exact hm.symm
     ·rfl
    have hrun:(Builtin.clear_ #[t] ty #[x]).run P w=.ok (.tuple #[]) w:=by
     rcases hvw with⟨rfl,_,_,rfl⟩ | ⟨g,n1,c1,off,cap,rfl,rfl,_⟩<;>simp [Builtin.clear_,Zq5 hu]
    rw [Zfs hrun];refine Zd2 h hd hK (.inl rfl) λi' hm' hk'=>⟨?_,Keeps.refl _ _,.pure (.v _)⟩;have:marks st.mem []=st.mem:=rfl;rw [this] at hm' ⊢;rw [e2 _ hk];exact hm'
   ·rcases hvw with⟨_,_,hl,_⟩ | ⟨g,n1,c1,off,cap,rfl,rfl,hin,hlc,hoff,_⟩
    ·exact absurd hl hl0
    have hoff:=hoff (Zuh hl0);subst hoff;have hvl:(Builtin.zeroCells z.cells len).toList.length=len*m₂:=by rw [Ztc,size_zeroCells,hzs]
    have hl1:(es.take i++List.replicate len (AV.ofVal z)++es.drop (i+len)).length=es.length:=by simp;omega
    obtain⟨xs,hown,hmm,hokk,-⟩:=h.mem.ok.ent k _ hk;have hmr:∀y∈List.replicate len (AV.ofVal z),y.cells.length=m₂:=λy hy=>by rw [Ztd hy];exact hzl
    have z1:∀v∈(Builtin.zeroCells z.cells len).toList,v.oneCell'=true:=by
     intro v hv;unfold Builtin.zeroCells at hv;simp only [Array.toList_map,List.mem_map,Array.toList_range,List.mem_range] at hv;obtain⟨q,hq,rfl⟩:=hv;have hlt:q%z.cells.size < z.cells.size:=Zrv _ (by rw [hzs];exact hm0);exact Zf4 (w:=w) (imm:=imm) (Zjg w imm z) hzok _ (by rw [getElem!_pos z.cells _ hlt];simp)
    have put:∀i2,Mx c st.mem w i2→∃w',(storeCells ⟨g,i*m₂,none⟩ (Builtin.zeroCells z.cells len).toList).run P w=.ok () w'∧Mx c (upd st.mem k (some (.row (.slice (some ⟨g,0,none⟩) n1 c1) e' m₂ (es.take i++List.replicate len (AV.ofVal z)++es.drop (i+len)) 0))) w' i2∧Keeps w i2 w' i2:=by
     intro i2 hm2;refine Zln hm2 hk hl1 (by rw [hvl,←Zri];exact Zrk _ hle) zs z1 ?_ ?_ λj b hb=>?_
     ·intro y hy;simp only [Zs8] at hy;rcases hy with(hy | hy) | hy
      ·exact hmm y (Zr8 hy)
      ·exact hmr y hy
      ·exact hmm y (Zsz hy)
     ·intro y hy;simp only [Zs8] at hy;rcases hy with(hy | hy) | hy
      ·exact hokk y (Zr8 hy)
      ·rw [Ztd hy];exact hzok
      ·exact hokk y (Zsz hy)
     ·have hf1:(flat (es.take i)).length=i*m₂:=by rw [Zao λy hy=>hmm y (Zr8 hy),Zrd,Zsn zo]
      have hf2:(flat (List.replicate len (AV.ofVal z))).length=len*m₂:=by rw [Zao hmr,Zt1]
      rw [Za1,Za1] at hb;rw [hvl];split
      ·rename_i hc;intro y hy;rw [Zru (by rw [Zro];omega),Zrw zo,hf1] at hb;generalize hq:j - i*m₂=q at *;have hqj:q < len*m₂:=zo;have hdm:q=(q/m₂)*m₂+q%m₂:=by rw [Zrm];exact(Zs2 q m₂).symm
       have hq2:q/m₂ < len:=by rw [Zte hm0];exact hqj
       have hfg:=Zcf hmr (q/m₂) (q%m₂) (Zrv _ hm0) (by simpa using hq2);rw [←hdm,hb,Zq6,Zus,Zqv hq2] at hfg;simp only [Zsf] at hfg;have hlt:q%m₂ < z.cells.size:=by rw [hzs];exact Zrv _ hm0
       have hy2:y=z.cells[q%m₂]!:=by
        rw [Zs6] at hy;unfold Builtin.zeroCells at hy;rw [Zud,Array.getElem?_range,Zqv (by rw [hzs];exact hqj),hzs] at hy
        simpa using hy.symm
       have:=Zor z hfg.symm (y:=y) (by rw [hy2,Zrq hlt];simp [hlt]);rw [this];exact .v y
      ·rename_i hc
       have e0:flat es=flat (es.take i)++flat ((es.drop i).take len)++flat (es.drop (i+len)):=by
        rw [←Za1,←Za1,Zr6,←Ztv,Zsw,Zsw]
       have hf3:(flat ((es.drop i).take len)).length=len*m₂:=by
        rw [Zao λy hy=>hmm y (Zsz (Zr8 hy)),Zrd,Zs1,Zsn zo]
       rw [e0];by_cases hj:j < i*m₂
       ·rw [Zru (by rw [Zro];omega),Zru zo] at hb ⊢;exact hb
       ·rw [Zrw (by rw [Zro];omega),Zro] at hb ⊢;rw [hf1,hf2] at hb;rw [hf1,hf3];exact hb
    obtain⟨w',hrun,_,_⟩:=put imm h.mem
    have hall:(Builtin.clear_ #[t] ty #[.slice (some ⟨g,i*m₂,none⟩) len cap]).run P w=.ok (.tuple #[]) w':=by
     obtain⟨q,rfl⟩:∃q,len=q+1:=⟨len - 1,zo⟩;simp [Builtin.clear_,Zq5 hu,Zaf hzo,hrun]
    rw [Zfs hall];refine Zd2 h hd hK (.inl rfl) λi' hm' hk'=>?_;obtain⟨w2,hrun2,hm2,hk2⟩:=put i' hm';rw [hrun] at hrun2;cases hrun2;exact⟨hm2,hk2,.pure (.v _)⟩
  ·exact hK.elim
 ·exact hK.elim
theorem s_call {cl:Call} {ty:TypeId} (h:Rel c n st a w imm) (hd:∀d,o.dst=some d→d < n) (hK:aRes P tok o.dst (Zbq P st cl) K st) :
 o.upon P a (Zbc c n K) Q (((do let d ←resolve a.eval cl ty;invoke d.target d.args):Sem Next).run P w):=by
 unfold Zbq at hK;split at hK
 ·rename_i hc;split at hK
  ·rename_i x t hx ht;rw [Zd5 hc,Zoc hx,Zoc ht,map1 a.eval];split at hK
   ·rename_i d hu;exact s_len h hd hu hK (h.ev x)
   ·exact hK.elim
  ·exact hK.elim
 ·rename_i hc;split at hK
  ·rename_i x t hx ht;rw [Zd5 hc,Zoc hx,Zoc ht,map1 a.eval];split at hK
   ·rename_i d hu;exact s_cap h hd hu hK (h.ev x)
   ·exact hK.elim
  ·exact hK.elim
 ·rename_i hc;split at hK
  ·rename_i s x t t' hx ht;rw [Zd5 hc,list2 hx,list2 ht,map2 a.eval];exact s_append h hd hK (h.ev s) (h.ev x)
  ·exact hK.elim
 ·rename_i hc;split at hK
  ·rename_i s x t t' hx ht;rw [Zd5 hc,list2 hx,list2 ht,map2 a.eval];exact s_copy h hd hK (h.ev s) (h.ev x)
  ·exact hK.elim
 ·rename_i hc;split at hK
  ·rename_i x t hx ht;rw [Zd5 hc,Zoc hx,Zoc ht,map1 a.eval];exact s_clear h hd hK (h.ev x)
  ·exact hK.elim
 ·rename_i hc;rw [Zd5 hc];generalize hl:cl.args.toList=l at hK;have hal:cl.args=l.toArray:=by rw [←hl]
  rw [hal]
  match l,hK with
  | [x,y],hK =>
    unfold Zhm at hK;simp only [Zs9,Zt2] at hK;split at hK
    ·rename_i k i k' j heq;simp only [List.cons.injEq,and_true] at heq;obtain⟨rfl,hK⟩:=hK;have e1:=h.ev x;rw [heq.1] at e1;have e2:=h.ev y;rw [heq.2] at e2;refine Zaa h hd hK ?_ (.pure (.v _));simp [e1.v_inv,e2.v_inv,Builtin.max_,Builtin.max2]
    ·rename_i heq;simp at heq
    ·exact hK.elim
  | [x,y,z],hK =>
    unfold Zhm at hK;simp only [Zs9,Zt2] at hK;split at hK
    ·rename_i heq;simp at heq
    ·rename_i k i k' j k'' j2 heq;simp only [List.cons.injEq,and_true] at heq;obtain⟨⟨rfl,rfl⟩,hK⟩:=hK;have e1:=h.ev x;rw [heq.1] at e1;have e2:=h.ev y;rw [heq.2.1] at e2;have e3:=h.ev z;rw [heq.2.2] at e3;refine Zaa h hd hK ?_ (.pure (.v _));simp [e1.v_inv,e2.v_inv,e3.v_inv,Builtin.max_,Builtin.max2]
    ·exact hK.elim
  | [],hK=>exact hK.elim
  | [x],hK=>simp [Zhm,aRes] at hK
  | x :: y :: z :: u :: r,hK=>simp [Zhm,aRes] at hK
 ·rename_i hc;rw [Zd5 hc];generalize hl:cl.args.toList=l at hK;have hal:cl.args=l.toArray:=by rw [←hl]
  rw [hal]
  match l,hK with
  | [x,y],hK =>
    unfold Zhm at hK;simp only [Zs9,Zt2] at hK;split at hK
    ·rename_i k i k' j heq;simp only [List.cons.injEq,and_true] at heq;obtain⟨rfl,hK⟩:=hK;have e1:=h.ev x;rw [heq.1] at e1;have e2:=h.ev y;rw [heq.2] at e2;refine Zaa h hd hK ?_ (.pure (.v _));simp [e1.v_inv,e2.v_inv,Builtin.min_,Builtin.min2]
    ·rename_i heq;simp at heq
    ·exact hK.elim
  | [x,y,z],hK =>
    unfold Zhm at hK;simp only [Zs9,Zt2] at hK;split at hK
    ·rename_i heq;simp at heq
    ·rename_i k i k' j k'' j2 heq;simp only [List.cons.injEq,and_true] at heq;obtain⟨⟨rfl,rfl⟩,hK⟩:=hK;have e1:=h.ev x;rw [heq.1] at e1;have e2:=h.ev y;rw [heq.2.1] at e2;have e3:=h.ev z;rw [heq.2.2] at e3;refine Zaa h hd hK ?_ (.pure (.v _));simp [e1.v_inv,e2.v_inv,e3.v_inv,Builtin.min_,Builtin.min2]
    ·exact hK.elim
  | [],hK=>exact hK.elim
  | [x],hK=>simp [Zhm,aRes] at hK
  | x :: y :: z :: u :: r,hK=>simp [Zhm,aRes] at hK
 ·rename_i f hc;split at hK
  ·rename_i g caps hf;have hfv:=h.ev f;rw [hf] at hfv;obtain⟨vs,hv,hl,hr⟩:=hfv.fn_inv;obtain⟨hal,har⟩:=Zjx (xs:=cl.args) h
   have hrun:((do let d ←resolve a.eval cl ty;invoke d.target d.args):Sem Next).run P w=.ok (.enter g (cl.args.map a.eval++vs)) w:=by
    simp only [resolve,hc,hv,Deferred.ofValue,Zq4,Zrf,Zq3,invoke,Array.empty_append];exact hK.1 _ _
   rw [hrun];refine Zj5 h hd hK (by simp [hl]) λj b y hb hy=>?_;rcases Zrc j cl.args.size with hj | hj
   ·rw [Zru (by simpa using hj)] at hb;rw [Ztw (by simpa using hj)] at hy;exact har j b y hb hy
   ·rw [Zrw (by simpa using hj)] at hb;rw [Array.getElem?_append_right (by simpa using hj)] at hy;simp only [Zq1,Ztc] at hb;simp only [Array.size_map] at hy;exact hr _ b y hb hy
  ·exact hK.elim
 ·rename_i r name hc;split at hK
  ·rename_i t x hf;split at hK
   ·rename_i g hg;have hfv:=h.ev r;rw [hf] at hfv;obtain⟨v,hv,hrv⟩:=hfv.ifc_inv;obtain⟨hal,har⟩:=Zjx (xs:=cl.args) h;have hm:=λk=>Zob (w:=w) (x:=v) hg k
    have hrun:((do let d ←resolve a.eval cl ty;invoke d.target d.args):Sem Next).run P w=.ok (.enter g (#[v]++cl.args.map a.eval)) w:=by
     simp only [resolve,hc,Zq4,Zrf,Zq3,invoke,hv];have h0:(#[Value.iface t v]++cl.args.map a.eval)[0]?=some (Value.iface t v):=by rw [Ztw zs];rfl
     have h1:(#[Value.iface t v]++cl.args.map a.eval).extract 1 (#[Value.iface t v]++cl.args.map a.eval).size=cl.args.map a.eval:=by
      apply Array.ext';simp;exact Ztl zs
     simp only [h0,h1,callMethod,Zq4,Zrf,run_program,Zq3];rw [show P.types.size+Made.depth=(P.types.size+99)+1 from rfl,hm];exact hK.1 _ _
    rw [hrun];refine Zj5 h hd hK (by simp [Ztb]) λj b y hb hy=>?_
    cases j with
    | zero =>
      rw [Ztw zs] at hy;obtain rfl:x=b:=by simpa using hb
      obtain rfl:v=y:=by simpa using hy
      exact hrv
    | succ j =>
      refine har j b y (by simpa using hb) ?_;rw [Array.getElem?_append_right zs] at hy
      simpa using hy
   ·exact hK.elim
  ·exact hK.elim
 ·exact hK.elim
theorem Born.push {es:Array MapEntry} {clock:Nat} (h:Born es clock) (key val:Value):Born (es.push { key,val,born:=clock }) (clock+1):=by
 refine⟨λx hx=>?_,?_⟩
 ·simp only [Array.toList_push,Zs8,Zts] at hx;rcases hx with hx | rfl
  ·exact Nat.lt_succ_of_lt (h.1 x hx)
  ·exact Nat.lt_succ_self _
 ·simp only [Array.toList_push,Zui,Zs9,Zt2];refine List.nodup_append.2 ⟨h.2,by simp,λa ha b hb=>?_⟩;obtain⟨x,hx,rfl⟩:=List.mem_map.1 ha;have:=h.1 x hx;simp only [Zts] at hb;omega
theorem Born.modify {es:Array MapEntry} {clock:Nat} (h:Born es clock) (i:Nat) (f:MapEntry→MapEntry) (hf:∀e,(f e).born=e.born):Born (es.modify i f) clock:=by
 have hb:(es.modify i f).toList.map (·.born)=es.toList.map (·.born):=by
  apply List.ext_getElem?;intro j;simp only [Zrx,Zs6,Zu2];split
  ·cases es[j]?<;>simp [hf]
  ·rfl
 refine⟨λx hx=>?_,by rw [hb];exact h.2⟩;have:x.born∈(es.modify i f).toList.map (·.born):=List.mem_map.2 ⟨x,hx,rfl⟩;rw [hb] at this;obtain⟨y,hy,e⟩:=List.mem_map.1 this;rw [←e];exact h.1 y hy
def KeyOk (P:Program) (kt:TypeId):MKey→Prop
 | .s _=>P.underlying kt=some .string
 | .l ns=>stI P kt ns.length=true
theorem Znb:∀{cs:List AV} {ns:List Int} {vs:List Value},Zk2 cs=some ns→cs.length=vs.length→(∀(j:Nat) (a:AV) (y:Value),cs[j]?=some a→vs[j]?=some y→Rs w imm a y)→vs=ns.map (Value.int .i64)
 | [],ns,vs,h,hl,hr=>by
   cases h;exact List.length_eq_zero_iff.1 hl.symm
 | b :: cs,ns,[],h,hl,hr=>by simp at hl
 | b :: cs,ns,v :: vs,h,hl,hr=>by
   unfold Zk2 at h;split at h
   ·rename_i heq;cases heq
   ·rename_i i r heq;cases heq;obtain⟨ms,h1,rfl⟩:=Option.map_eq_some_iff.1 h;have:=(hr 0 _ v rfl rfl).v_inv;subst this;have e:vs=ms.map (Value.int .i64):=Znb h1 (by simpa using hl) λj a y ha hy=>hr (j+1) a y (by simpa using ha) (by simpa using hy);rw [e];rfl
   ·cases h
theorem mk_of {kt:TypeId} {k:AV} {κ:MKey} {x:Value} (h:mkOf P kt k=some κ) (hx:Rs w imm k x):x=κ.val∧KeyOk P kt κ:=by
 unfold mkOf at h;split at h
 ·rename_i hu;cases h;exact⟨hx.v_inv,hu⟩
 ·rename_i fs cs hu;split at h
  ·rename_i ns hn;split at h
   ·rename_i hs;cases h;obtain⟨vs,rfl,hl,hr⟩:=hx.agg_inv;refine⟨?_,hs⟩;have:vs.toList=ns.map (Value.int .i64):=Znb hn (by simpa using hl) λj a y ha hy=>hr j a y ha (by simpa using hy);show Value.agg vs=.agg (ns.map (Value.int .i64)).toArray;rw [←this]
   ·cases h
  ·cases h
 ·cases h
theorem Zo2 {kt : TypeId} {n : Nat} (h : stI P kt n = true) : P.stoodInHeld kt = false ∧ ∃ fs, P.underlying kt = some (.struct fs) ∧ fs.toList.map (·.offset) = List.range n ∧ ∀ f ∈ fs.toList, f.name ≠ "_" ∧ P.underlying f.type = some (.int .i64) ∧ f.offset < n := by
 unfold stI at h;split at h
 ·rename_i fs hu;simp only [Zrh,Zsp,Zrs,Ztf,bne_iff_ne,ne_eq] at h;obtain⟨h0,h1,h2⟩:=h;refine⟨h0,fs,hu,h1,λf hf=>⟨(h2 f hf).1,?_,?_⟩⟩
  ·have:=(h2 f hf).2;split at this
   ·assumption
   ·cases this
  ·have:f.offset∈fs.toList.map (·.offset):=List.mem_map.2 ⟨f,hf,rfl⟩;rw [h1] at this;exact List.mem_range.1 this
 ·simp at h
theorem Zp5 (ns:List Int) {j:Nat} (h:j < ns.length):(ns.map (Value.int .i64)).toArray[j]?=some (.int .i64 (ns.getD j 0)):=by
 rw [Zsj,Zrx,Zqx h,Zq6,Zqx h];rfl
theorem Zk0 {kt:TypeId} {κ:MKey} (h:KeyOk P kt κ) (b:Bool):(Instr.checkKey b 10000 kt κ.val).run P w=.ok () w:=by
 cases κ with
 | s t=>exact MapKept.run_checkKey (k:=.string t) h (by trivial) _ 9999
 | l ns =>
   obtain⟨-,fs,hu,-,hf⟩:=Zo2 h;show(Instr.checkKey b 10000 kt (.agg (ns.map (Value.int .i64)).toArray)).run P w=_;unfold Instr.checkKey;simp only [Zq4,Zq5 hu,Zq3,←Array.forIn_toList];generalize fs.toList=gs at hf
   induction gs with
   | nil=>rfl
   | cons f gs ih =>
     obtain⟨a1,a2,a3⟩:=hf f (.head _);have hp:(part f.type (ns.map (Value.int .i64)).toArray f.offset).run P w=.ok (.int .i64 (ns.getD f.offset 0)) w:=Zcc a2 rfl (Zp5 ns a3)
     have hc:(Instr.checkKey b 9999 f.type (.int .i64 (ns.getD f.offset 0))).run P w=.ok () w:=by
      unfold Instr.checkKey;simp [Zq5 a2]
     simp only [List.forIn_cons,a1,ne_eq,not_false_eq_true,Zry,Zq4,hp,hc,Zq3,Zrf];exact ih λg hg=>hf g (.tail _ hg)
theorem key_eq {kt:TypeId} {ns ms:List Int} (h:stI P kt ns.length=true) (hl:ms.length=ns.length):(Op.equal kt (MKey.l ns).val (MKey.l ms).val).run P w=.ok (decide (ns=ms)) w:=by
 obtain⟨h0,fs,hu,ho,hf⟩:=Zo2 h;have hfo:P.fieldsOf kt=fs:=by simp [Program.fieldsOf,hu]
 have hnm : (fs.toList.all fun f => f.name != "_") = true := List.all_eq_true.2 fun f hf' => by simpa using (hf f hf').1
 show(Op.equalIn 10000 kt (.agg (ns.map (Value.int .i64)).toArray) (.agg (ms.map (Value.int .i64)).toArray)).run P w=_;rw [show(10000:Nat)=9999+1 from rfl,run_equalIn_agg (P:=P) w 9999 kt _ _ (by rw [hfo];exact hu) h0,hfo,Zeo _ hnm]
 have key:∀(gs:List Field),(∀f∈gs,P.underlying f.type=some (.int .i64)∧f.offset < ns.length)→(Zid 9999 (ns.map (Value.int .i64)).toArray (ms.map (Value.int .i64)).toArray (gs.map λf=>(f.type,f.offset))).run P w=.ok (gs.all λf=>ns.getD f.offset 0 == ms.getD f.offset 0) w:=by
  intro gs hg
  induction gs with
  | nil=>rfl
  | cons f gs ih =>
    obtain⟨a2,a3⟩:=hg f (.head _);have e1:(part f.type (ns.map (Value.int .i64)).toArray f.offset).run P w=.ok (.int .i64 (ns.getD f.offset 0)) w:=Zcc a2 rfl (Zp5 ns a3);have e2:(part f.type (ms.map (Value.int .i64)).toArray f.offset).run P w=.ok (.int .i64 (ms.getD f.offset 0)) w:=Zcc a2 rfl (Zp5 ms zo);have e3:=run_equalIn_int (P:=P) w 9998 f.type .i64 .i64 (ns.getD f.offset 0) (ms.getD f.offset 0) a2;have ih:=ih λg hg'=>hg g (.tail _ hg');simp only [Zs9,Zid,Zq4,e1,e2,e3,Zq3,Ztt]
    cases ns.getD f.offset 0 == ms.getD f.offset 0 with
    | true=>simpa only [Zry,Zs0] using ih
    | false=>simp only [Zrb,Zrl,Zr3,Zrf]
 rw [key _ λf hf'=>(hf f hf').2];congr 1;rw [Zrt,Ztf,Zrs];constructor
 ·intro g;refine List.ext_getElem hl.symm λi h1 h2=>?_;have:i∈fs.toList.map (·.offset):=by rw [ho];exact List.mem_range.2 h1
  obtain⟨f,hf',rfl⟩:=List.mem_map.1 this;have:=g f hf';rw [Zq6,Zq6,Zqx h1,Zqx h2] at this
  simpa using this
 ·rintro rfl f -
  simp
theorem Zp4 (κ:MKey):(Instr.keyThatStays κ.val κ.val).run P w=.ok κ.val w:=by
 have:Instr.sameBits 10000 κ.val κ.val=true:=by
  cases κ with
  | s t=>exact(MapKept.bytes_beq _ _).2 rfl
  | l ns =>
    have h:∀l:List Int,((l.map (Value.int .i64)).zip (l.map (Value.int .i64))).all (fun(x,y)=>Instr.sameBits 9999 x y)=true:=λl=>by
     induction l with
     | nil=>rfl
     | cons i l ih=>simp [Instr.sameBits,ih]
    show((ns.map (Value.int .i64)).toArray.size == (ns.map (Value.int .i64)).toArray.size && ((ns.map (Value.int .i64)).toArray.toList.zip (ns.map (Value.int .i64)).toArray.toList).all fun(x,y)=>Instr.sameBits 9999 x y)=true;rw [h ns,beq_self_eq_true];rfl
 unfold Instr.keyThatStays;rw [Zqv this];rfl
theorem find_s {w:World} {imm:Imm} (s:ByteArray):∀(l:List MapEntry) (es:List (MKey × AV)) (i:Nat),es.length=l.length→Zku (.s s) es=true →
 (∀(j:Nat) (a:MKey × AV) (x:MapEntry),es[j]?=some a→l[j]?=some x→x.key=a.1.val∧Rd w imm a.2 x.val) →
 (Instr.findNow .string (.string s) l i=some none∧Zfx (.s s) es=none∧∀y,Zeh (.s s) y es=es++[(.s s,y)]) ∨
 ∃(j:Nat) (x:MapEntry) (v:AV),Instr.findNow .string (.string s) l i=some (some (i+j,x.val))∧l[j]?=some x∧x.key=.string s∧Zfx (.s s) es=some v∧Rd w imm v x.val∧j < es.length∧∀y,Zeh (.s s) y es=es.set j (.s s,y)
 | [],[],i,_,_,_=>.inl ⟨rfl,rfl,λ_=>rfl⟩
 | [],a :: r,_,hl,_,_=>by simp at hl
 | x :: l,[],_,hl,_,_=>by simp at hl
 | x :: l,a :: es,i,hl,ha,hr=>by
   obtain⟨hk,hv⟩:=hr 0 a x rfl rfl;obtain⟨κ,v⟩:=a;have ha':(MKey.like (.s s) κ && Zku (.s s) es)=true:=ha;rw [Zrh] at ha';have ih:=find_s s l es (i+1) (by simpa using hl) ha'.2 λj b y h1 h2=>hr (j+1) b y (by simpa using h1) (by simpa using h2)
   cases κ with
   | l ns=>cases ha'.1
   | s t =>
   replace hk:x.key=.string t:=hk
   by_cases h:t=s
   ·subst h;refine .inr ⟨0,x,v,?_,rfl,hk,by simp [Zfx],hv,by simp,λy=>by simp [Zeh]⟩;unfold Instr.findNow;rw [hk];have hb:(t == t)=true:=(MapKept.bytes_beq _ _).2 rfl;simp [Instr.sameNow,hb]
   ·have hb:(s == t)=false:=by
     cases hh:(s == t) with
     | false=>rfl
     | true=>exact absurd ((MapKept.bytes_beq _ _).1 hh).symm h
    have hs:Instr.findNow .string (.string s) (x :: l) i=Instr.findNow .string (.string s) l (i+1):=by
     conv=>lhs;unfold Instr.findNow
     rw [hk];simp [Instr.sameNow,hb]
    have h':¬MKey.s t=MKey.s s:=λg=>h (by cases g;rfl);rcases ih with⟨h1,h2,h3⟩ | ⟨j,y,v,h1,h2,h3,h4,h5,h6,h7⟩
    ·exact .inl ⟨by rw [hs,h1],by simp [Zfx,h',h2],λz=>by simp [Zeh,h',h3 z]⟩
    ·exact .inr ⟨j+1,y,v,by rw [hs,h1];congr 3;omega,by simpa using h2,h3,by simp [Zfx,h',h4],h5,by simp;omega,λz=>by simp [Zeh,h',h7 z]⟩
theorem find_l {w:World} {imm:Imm} {kt:TypeId} {ns:List Int} (hk:stI P kt ns.length=true):∀(l:List MapEntry) (es:List (MKey × AV)) (i:Nat),es.length=l.length→Zku (.l ns) es=true →
 (∀(j:Nat) (a:MKey × AV) (x:MapEntry),es[j]?=some a→l[j]?=some x→x.key=a.1.val∧Rd w imm a.2 x.val) →
 ((Instr.findAsking kt (MKey.l ns).val l i).run P w=.ok none w∧Zfx (.l ns) es=none∧∀y,Zeh (.l ns) y es=es++[(.l ns,y)]) ∨
 ∃(j:Nat) (x:MapEntry) (v:AV),(Instr.findAsking kt (MKey.l ns).val l i).run P w=.ok (some (i+j,x.val)) w∧l[j]?=some x∧x.key=(MKey.l ns).val∧Zfx (.l ns) es=some v∧Rd w imm v x.val∧j < es.length∧∀y,Zeh (.l ns) y es=es.set j (.l ns,y)
 | [],[],i,_,_,_=>.inl ⟨rfl,rfl,λ_=>rfl⟩
 | [],a :: r,_,hl,_,_=>by simp at hl
 | x :: l,[],_,hl,_,_=>by simp at hl
 | x :: l,a :: es,i,hl,ha,hr=>by
   obtain⟨hkx,hv⟩:=hr 0 a x rfl rfl;obtain⟨κ,v⟩:=a;have ha':(MKey.like (.l ns) κ && Zku (.l ns) es)=true:=ha;rw [Zrh] at ha';have ih:=find_l hk l es (i+1) (by simpa using hl) ha'.2 λj b y h1 h2=>hr (j+1) b y (by simpa using h1) (by simpa using h2)
   cases κ with
   | s t=>cases ha'.1
   | l ms =>
   have hlen:ms.length=ns.length:=(beq_iff_eq.1 (show(ns.length == ms.length)=true from ha'.1)).symm
   replace hkx:x.key=(MKey.l ms).val:=hkx
   have he:=key_eq (P:=P) (w:=w) hk hlen;by_cases h:ns=ms
   ·subst h;rw [Zqz rfl] at he;refine .inr ⟨0,x,v,?_,rfl,hkx,by simp [Zfx],hv,by simp,λy=>by simp [Zeh]⟩;simp only [Instr.findAsking,Zq4,hkx,he,Zq3,Zry,Zrf,Zr2]
   ·rw [Zqy h] at he
    have hs:(Instr.findAsking kt (MKey.l ns).val (x :: l) i).run P w=(Instr.findAsking kt (MKey.l ns).val l (i+1)).run P w:=by
     simp only [Instr.findAsking,Zq4,hkx,he,Zq3,Zrb,Zrl]
    have h':¬MKey.l ms=MKey.l ns:=λg=>h (by cases g;rfl);rcases ih with⟨h1,h2,h3⟩ | ⟨j,y,v,h1,h2,h3,h4,h5,h6,h7⟩
    ·exact .inl ⟨by rw [hs,h1],by simp [Zfx,h',h2],λz=>by simp [Zeh,h',h3 z]⟩
    ·exact .inr ⟨j+1,y,v,by rw [hs,h1];congr 3;omega,by simpa using h2,h3,by simp [Zfx,h',h4],h5,by simp;omega,λz=>by simp [Zeh,h',h7 z]⟩
theorem Zk5 {w:World} {imm:Imm} {kt:TypeId} (κ:MKey) (hk:KeyOk P kt κ) (l:List MapEntry) (es:List (MKey × AV)) (hl:es.length=l.length) (ha:Zku κ es=true)
 (hr:∀(j:Nat) (a:MKey × AV) (x:MapEntry),es[j]?=some a→l[j]?=some x→x.key=a.1.val∧Rd w imm a.2 x.val) :
 ((Instr.findKey kt κ.val l).run P w=.ok none w∧Zfx κ es=none∧∀y,Zeh κ y es=es++[(κ,y)]) ∨
 ∃(j:Nat) (x:MapEntry) (v:AV),(Instr.findKey kt κ.val l).run P w=.ok (some (j,x.val)) w∧l[j]?=some x∧x.key=κ.val∧Zfx κ es=some v∧Rd w imm v x.val∧j < es.length∧∀y,Zeh κ y es=es.set j (κ,y):=by
 cases κ with
 | s t =>
   rcases find_s (w:=w) (imm:=imm) t l es 0 hl ha hr with⟨f1,f2⟩ | ⟨j,x,v,f1,f2⟩
   ·exact .inl ⟨MapKept.run_findKey hk f1,f2⟩
   ·exact .inr ⟨j,x,v,by rw [Zrg] at f1;exact MapKept.run_findKey hk f1,f2⟩
 | l ns =>
   obtain⟨-,fs,hu,-⟩:=Zo2 hk
   have hrun:(Instr.findKey kt (MKey.l ns).val l).run P w=(Instr.findAsking kt (MKey.l ns).val l 0).run P w:=by
    cases l with
    | nil=>simp [Instr.findKey,Zq5 hu,Instr.findNow,Instr.findAsking]
    | cons x l=>simp [Instr.findKey,Zq5 hu,Instr.findNow,Instr.sameNow]
   rw [hrun];rcases find_l hk l es 0 hl ha hr with⟨f1,f2⟩ | ⟨j,x,v,f1,f2⟩
   ·exact .inl ⟨f1,f2⟩
   ·exact .inr ⟨j,x,v,by rw [Zrg] at f1;exact f1,f2⟩
theorem s_lookup {t:TypeId} {m k:Operand} {ok:Bool} (h:Rel c n st a w imm) (hd:∀d,o.dst=some d→d < n) (hK:aRes P tok o.dst (Zfz P st t (st.ev m) (st.ev k) ok) K st) :
 o.upon P a (Zbc c n K) Q ((do let v ←Instr.lookup t (a.eval m) (a.eval k) ok;pure (.value v):Sem Next).run P w):=by
 unfold Zfz at hK;split at hK
 ·rename_i kt et hu;split at hK
  ·rename_i κ tk g hmk hm;split at hK
   ·rename_i g' es z hmem hz;obtain⟨⟨rfl,hall⟩,hK⟩:=hK;have em:=h.ev m;rw [hm] at em;have em:=em.mp_inv;obtain⟨ek,hko⟩:=mk_of hmk (h.ev k);obtain⟨arr,clock,hh,hB,hl,hr,hbo,hp⟩:=h.mem.ok.ent tk _ hmem;have hzr:(zeroValue et).run P w=.ok z w:=Zaf hz;have hck:=Zk0 (P:=P) (w:=w) hko arr.isEmpty;have hval:∀(av:AV) (x:Value),Rs w imm av x→∀b,Rs w imm (if ok then .tup [av,.v (.bool b)] else av) (if ok then .tuple #[x,.bool b] else x):=λav x hx b=>by
     cases ok with
     | false=>exact hx
     | true =>
       refine .tup _ _ rfl λj a y h1 h2=>?_
       match j with
       | 0=>simp at h1 h2;subst h1;subst h2;exact hx
       | 1=>simp at h1 h2;subst h1;subst h2;exact .pure (.v _)
       | j+2=>simp at h1
    rcases Zk5 (w:=w) (imm:=imm) κ hko arr.toList es (by simpa using hl) hall (λj b x h1 h2=>hr j b x h1 (by simpa using h2)) with⟨f1,f2,-⟩ | ⟨j,x,v,f1,-,-,f4,f5,-⟩
    ·rw [f2] at hK;refine Zaa h hd hK ?_ (hval (AV.ofVal z) z (h.ev (.const z)) false);simp only [Instr.lookup,em,ek,Zq4,Zq5 hu,Zq3,Zug hh,Zrf,hck,f1,hzr]
    ·rw [f4] at hK;refine Zaa h hd hK ?_ (hval v x.val (.pure f5) true);simp only [Instr.lookup,em,ek,Zq4,Zq5 hu,Zq3,Zug hh,Zrf,hck,f1]
   ·exact hK.elim
  ·exact hK.elim
 ·exact hK.elim
theorem Zlj {t:TypeId} {m k x:Operand} (h:Rel c n st a w imm) (hd:∀d,o.dst=some d→d < n) (hK:aRes P tok o.dst (Zfy P st t (st.ev m) (st.ev k) (st.ev x)) K st) :
 o.upon P a (Zbc c n K) Q ((do Instr.mapUpdate t (a.eval m) (a.eval k) (a.eval x);pure .skip:Sem Next).run P w):=by
 unfold Zfy at hK;split at hK
 ·rename_i kt et hu;split at hK
  ·rename_i κ tk g hmk hm;split at hK
   ·rename_i g' es hmem;obtain⟨⟨rfl,hall,hpo⟩,hK⟩:=hK;have em:=h.ev m;rw [hm] at em;have em:=em.mp_inv;obtain⟨ek,hko⟩:=mk_of hmk (h.ev k);obtain⟨i0,hm0,hk0⟩:=Zbv (st.ev x).toks h.mem;obtain⟨arr,clock,hh,hB,hl,hr,hbo,hp⟩:=hm0.ok.ent tk _ hmem;have hlt:g < w.heap.size:=(Array.getElem?_eq_some_iff.1 hh).1;have hck:=Zk0 (P:=P) (w:=w) hko false;have hset:∀o':Obj,(setObj g o').run P w=.ok () { w with heap:=w.heap.setIfInBounds g o' }:=λo'=>MapKept.run_setObj_map o' hh;have hgrow:∀o':Obj,w.grownBy { w with heap:=w.heap.setIfInBounds g o' } (some g):=λo'=>by
     refine⟨rfl,rfl,rfl,by simp,λk hk hne=>?_⟩;simp only;rw [Zva (λh9=>hne (by rw [h9]))]
    have fin:∀(arr':Array MapEntry) (clock':Nat),Born arr' clock'→(Zeh κ (pubV (marks st.mem (st.ev x).toks) (st.ev x)) es).length=arr'.size →
     (∀(imm':Imm),Rd w imm' (pubV (marks st.mem (st.ev x).toks) (st.ev x)) (a.eval x)→(∀(j:Nat) (b:MKey × AV) (y:MapEntry),es[j]?=some b→arr[j]?=some y→y.key=b.1.val∧Rd w imm' b.2 y.val) →
      ∀(j:Nat) (b:MKey × AV) (y:MapEntry),(Zeh κ (pubV (marks st.mem (st.ev x).toks) (st.ev x)) es)[j]?=some b→arr'[j]?=some y→y.key=b.1.val∧Rd w imm' b.2 y.val) →
     (Instr.mapUpdate t (a.eval m) (a.eval k) (a.eval x)).run P w=.ok () { w with heap:=w.heap.setIfInBounds g (.map arr' clock') } →
     o.upon P a (Zbc c n K) Q ((do Instr.mapUpdate t (a.eval m) (a.eval k) (a.eval x);pure .skip:Sem Next).run P w):=λarr' clock' hbn h1 h2 h3=>by
     simp only [Zq4,h3,Zq3,Zrf];refine Zd2 (x:=undef) h hd hK (.inr ⟨rfl,rfl⟩) λimm' hm' hk'=>?_;obtain⟨arr2,clock2,hh2,hB2,hl2,hr2,hbo2,hp2⟩:=hm'.ok.ent tk _ hmem;rw [hh] at hh2;cases hh2;have hcell:∀ad,imm' ad→World.cell? { w with heap:=w.heap.setIfInBounds g (.map arr' clock') } ad=w.cell? ad:=λad h9=>Zcl (hgrow _) (hm'.ok.lt ad h9) (λh8=>hp2 ad h9 (by cases h8;rfl));have hkeep:Keeps w imm' { w with heap:=w.heap.setIfInBounds g (.map arr' clock') } imm':=λad h9=>⟨h9,hcell ad h9⟩;have hx:=Zd8 hm' (hk'.rs (h.ev x)) hpo;obtain⟨q1,q2⟩:=Zck hm' (hgrow (.map arr' clock')) (Zq0 _) (λg' hg'=>by cases hg';exact hB2) hcell tk (.map g (Zeh κ (pubV (marks st.mem (st.ev x).toks) (st.ev x)) es))
      ⟨arr',clock',by simp [hlt],hB2,h1,λj b y k1 k2=>⟨(h2 imm' hx hr2 j b y k1 k2).1,hkeep.rd (h2 imm' hx hr2 j b y k1 k2).2⟩,hbn,hp2⟩
      (λj e2 b hj hje hb=>⟨λe=>hj (hm'.ok.apart j tk e2 _ b hje hmem hb (by rw [Ent.blk,e])),λe=>hj (hm'.ok.apart j tk e2 _ b hje hmem hb (by simpa [Ent.blk] using e))⟩)
     exact⟨q1,q2,.pure (.u _)⟩
    rcases Zk5 (w:=w) (imm:=i0) κ hko arr.toList es (by simpa using hl) hall (λj b x h1 h2=>hr j b x h1 (by simpa using h2)) with⟨f1,-,f3⟩ | ⟨j,y,v,f1,f2,fk,-,-,f6,f7⟩
    ·refine fin (arr.push { key:=κ.val,val:=a.eval x,born:=clock }) (clock+1) (hbo.push _ _) (by rw [f3];simp [hl]) (λimm' hx hr' j b y k1 k2=>?_) ?_
     ·rw [f3] at k1;by_cases hj:j < es.length
      ·rw [Zru hj] at k1;rw [Array.getElem?_push,Zqw zo] at k2;exact hr' j b y k1 k2
      ·rw [Zrw zo] at k1
       have hje:j=es.length:=by
        rcases Zrc (j - es.length) 1 with h9 | h9
        ·omega
        ·rw [Zse (by simpa using h9)] at k1;cases k1
       subst hje;rw [Nat.sub_self] at k1;simp only [Zt3,Option.some.injEq] at k1;rw [Array.getElem?_push,Zqv hl] at k2;simp only [Option.some.injEq] at k2;subst k1;subst k2;exact⟨rfl,hx⟩
     ·simp only [Instr.mapUpdate,em,ek,Zq4,Zq5 hu,Zq3,Zug hh,hck,f1,hset]
    ·have f2':arr[j]?=some y:=by simpa using f2
     have hjs:j < arr.size:=(Array.getElem?_eq_some_iff.1 f2').1;refine fin (arr.modify j λe=>{ e with key:=κ.val,val:=a.eval x }) clock (hbo.modify _ _ λ_=>rfl) (by rw [f7];simp [hl]) (λimm' hx hr' j' b z k1 k2=>?_) ?_
     ·rw [f7,List.getElem?_set] at k1;rw [Zu2] at k2;by_cases hj:j=j'
      ·subst hj;rw [Zqv rfl,Zqv f6] at k1;rw [Zqv rfl,f2'] at k2;simp only [Zr7,Option.some.injEq] at k1 k2;subst k1;subst k2;exact⟨rfl,hx⟩
      ·rw [Zqw hj] at k1;rw [Zqw hj] at k2;exact hr' j' b z k1 k2
     ·have hst:(Instr.keyThatStays (((arr[j]?).map (·.key)).getD κ.val) κ.val).run P w=.ok κ.val w:=by
       rw [f2'];simp only [Zr7,Zsf,fk];exact Zp4 κ
      simp only [Instr.mapUpdate,em,ek,Zq4,Zq5 hu,Zq3,Zug hh,hck,f1,hst,hset]
   ·exact hK.elim
  ·rename_i tk g ka i kb j hmk hm hk;split at hK
   ·rename_i g' len et hmem hku;obtain⟨⟨rfl,rfl,hue,rfl,hsz⟩,hK⟩:=hK;have em:=h.ev m;rw [hm] at em;have em:=em.mp_inv;have ek:=h.ev k;rw [hk] at ek;obtain⟨vs,hv,hvl,hvr⟩:=ek.agg_inv
    have hvs:vs=#[.int kb i,.int kb j]:=by
     have hz:vs.size=2:=by simpa using hvl.symm
     refine Array.ext (by simp [hz]) λq q1 q2=>?_;have hq:q < 2:=zo
     match q,hq with
     | 0,_=>have:=hvr 0 _ vs[0] rfl (Zrq zo);simpa using this.v_inv
     | 1,_=>have:=hvr 1 _ vs[1] rfl (Zrq zo);simpa using this.v_inv
    subst hvs;obtain⟨arr,clock,hh,hB,hl,hr,hbo,hp⟩:=h.mem.ok.ent tk _ hmem
    have harr:arr=#[]:=by
     have:arr.size=0:=by simpa using hl.symm
     exact Array.eq_empty_of_size_eq_zero this
    subst harr;have hag:(isAgg et).run P w=.ok false w:=by simp [isAgg,Zq5 hue]
    have hszr:=Zae (w:=w) hsz;have hp0:(part et #[.int kb i,.int kb j] 0).run P w=.ok (.int kb i) w:=by simp [part,hag]
    have hp1:(part et #[.int kb i,.int kb j] 1).run P w=.ok (.int kb j) w:=by simp [part,hag]
    have hci:∀x:Value,(Instr.checkKey false 9999 et x).run P w=.ok () w:=λx=>by
     unfold Instr.checkKey;simp [Zq5 hue]
    have hck:(Instr.checkKey false 10000 kt (.agg #[.int kb i,.int kb j])).run P w=.ok () w:=by
     unfold Instr.checkKey;simp [Zq5 hku,hszr,hp0,hp1,hci,show List.range' 0 2=[0,1] from rfl]
    have hset:∀o':Obj,(setObj g o').run P w=.ok () { w with heap:=w.heap.setIfInBounds g o' }:=λo'=>MapKept.run_setObj_map o' hh;have hgrow:∀o':Obj,w.grownBy { w with heap:=w.heap.setIfInBounds g o' } (some g):=λo'=>by
     refine⟨rfl,rfl,rfl,by simp,λk hk hne=>?_⟩;simp only;rw [Zva (λh9=>hne (by rw [h9]))]
    have hrun:(Instr.mapUpdate t (a.eval m) (a.eval k) (a.eval x)).run P w=.ok () { w with heap:=w.heap.setIfInBounds g (.map #[{ key:=.agg #[.int kb i,.int kb j],val:=a.eval x,born:=clock }] (clock+1)) }:=by
     simp only [Instr.mapUpdate,em,hv,Zq4,Zq5 hu,Zq3,Zug hh,hck,MapKept.run_findKey hku (show Instr.findNow _ _ (#[]:Array MapEntry).toList 0=some none from rfl),hset];rfl
    simp only [Zq4,hrun,Zq3,Zrf];refine Zd2 (x:=undef) h hd hK (.inr ⟨rfl,rfl⟩) λimm' hm' hk'=>?_;obtain⟨arr2,clock2,hh2,hB2,hl2,hr2,hbo2,hp2⟩:=hm'.ok.ent tk _ hmem;have hcell:∀o',∀ad,imm' ad→World.cell? { w with heap:=w.heap.setIfInBounds g o' } ad=w.cell? ad:=λo' ad h9=>Zcl (hgrow _) (hm'.ok.lt ad h9) (λh8=>hp2 ad h9 (by cases h8;rfl));obtain⟨q1,q2⟩:=Zck hm' (hgrow _) (Zq0 _) (λg' hg'=>by cases hg';exact hB2) (hcell _) tk (.row (.slice none 0 0) 0 0 [] 0) ⟨[],Zu0 _ c.B 0 0,by simp,by simp,by simp [flat],by simp,λad _ h2=>by simp [Value.ownBlock] at h2,λg off h1 _=>by simp [Value.ownBlock] at h1⟩
     (λj e2 b hj hje hb=>⟨λe=>hj (hm'.ok.apart j tk e2 _ b hje hmem hb (by rw [Ent.blk,e])),by simp [Ent.blk,Value.ownBlock]⟩)
    exact⟨q1,q2,.pure (.u _)⟩
   ·exact hK.elim
  ·exact hK.elim
 ·exact hK.elim
end
section
variable {P:Program} {c:Cx} {n tok:Nat} {st:St} {a:Act} {w:World} {imm:Imm} {K:St→Prop} {o:Oper} {Q:Exit→Act→World→Prop}
theorem s_nil {x:Operand} (h:Rel c n st a w imm) (hd:∀d,o.dst=some d→d < n) (hK:aRes P tok o.dst (Zip (st.ev x)) K st) (ho:o.op=.nilCheck x) :
 o.upon P a (Zbc c n K) Q ((execOp a.eval o).run P w):=by
 have hx:=h.ev x;unfold Zip at hK;split at hK
 ·rename_i cs he;rw [he] at hx;obtain⟨ad,f,hv,_⟩:=hx.pimm_inv;simp only [execOp,ho,hv,Zrf];exact Zb2 h hd hK λ_ _ hk=>hk.rs (hv ▸ hx)
 ·rename_i k g off he;rw [he] at hx;have hv:=hx.pbox_inv;simp only [execOp,ho,hv,Zrf];exact Zb2 h hd hK λ_ _ hk=>hk.rs (hv ▸ hx)
 ·rename_i k sv m i off he;rw [he] at hx;obtain⟨g,nn,cc,e1,hv⟩:=hx.prow_inv;simp only [execOp,ho,hv,Zrf];exact Zb2 h hd hK λ_ _ hk=>hk.rs (hv ▸ hx)
 ·rename_i f cs he;rw [he] at hx;obtain⟨vs,hv,_⟩:=hx.fn_inv;simp only [execOp,ho,hv,Zrf];exact Zb2 h hd hK λ_ _ hk=>hk.rs (hv ▸ hx)
 ·exact hK.elim
theorem run_box {e:TypeId} {z:Value}:(Instr.box e z).run P w=.ok (.pointer (some ⟨w.heap.size,0,none⟩)) (w.alloc (.cells z.cells e)):=by
 simp only [Instr.box,newVar,newRow,Zq4,run_newObj,Zq3,Zrf];rfl
theorem Zb4 (h:Rel c n st a w imm) (hd:∀d,o.dst=some d→d < n) (hK:aRes P tok o.dst (Zad P st o.op) K st):o.wp P a w (Zbc c n K) Q:=by
 unfold Oper.wp;have same:∀{x:Operand},aRes P tok o.dst (.val (st.ev x) []) K st→o.upon P a (Zbc c n K) Q (.ok (.value (a.eval x)) w):=λhK=>Zb2 h hd hK λ_ _ hk=>hk.rs (h.ev _)
 cases ho:o.op with
 | move x=>simp only [Zad,ho] at hK;simp only [execOp,ho,Zrf];exact same hK
 | assign x=>simp only [Zad,ho] at hK;simp only [execOp,ho,Zrf];exact same hK
 | pick cc x y =>
   simp only [Zad,ho,Zhh] at hK;split at hK
   ·rename_i t hc;have hcv:=h.ev cc;rw [hc] at hcv;have hv:=hcv.v_inv
    have hrun:(execOp a.eval o).run P w=.ok (.value (if t then a.eval x else a.eval y)) w:=by
     simp only [execOp,ho,hv,asBool,Zq4,Zrf,Zq3]
    rw [hrun];unfold Zph at hK;split at hK
    ·rename_i p q hp hq;have e1:=h.ev x;rw [hp] at e1;have e2:=h.ev y;rw [hq] at e2;refine Zb2 h hd hK λ_ _ hk=>?_;rw [e1.v_inv,e2.v_inv];cases t<;>exact .pure (.v _)
    ·refine Zb2 h hd hK λ_ _ hk=>?_;cases t
     ·exact hk.rs (h.ev y)
     ·exact hk.rs (h.ev x)
   ·exact hK.elim
 | alloc e =>
   simp only [Zad,ho,aZero] at hK
   cases hz:Zbd P e with
   | none=>rw [hz] at hK;exact hK.elim
   | some z =>
     rw [hz] at hK;obtain⟨hok,hK⟩:=hK;obtain⟨hl,hr,h1⟩:=(Zjg w imm z).cells_of hok
     have hrun:(execOp a.eval o).run P w=.ok (.value (.pointer (some ⟨w.heap.size,0,none⟩))) (w.alloc (.cells z.cells e)):=by
      simp only [execOp,ho,Instr.alloc,Zq4,Zaf hz,Zq3,newVar,newRow,run_newObj,Zrf];rfl
     rw [hrun];exact Zme h hd hK hl h1 hr
 | box e x =>
   simp only [Zad,ho] at hK;obtain⟨hok,hK⟩:=hK;obtain⟨hl,hr,h1⟩:=(h.ev x).cells_of hok
   have hrun:(execOp a.eval o).run P w=.ok (.value (.pointer (some ⟨w.heap.size,0,none⟩))) (w.alloc (.cells (a.eval x).cells e)):=by
    simp only [execOp,ho,Zq4,run_box,Zq3,Zrf]
   rw [hrun];exact Zme h hd hK hl h1 hr
 | build t parts=>simp only [Zad,ho] at hK;simp only [execOp,ho];exact s_build h hd hK
 | buildSlice t len parts=>simp only [Zad,ho] at hK;simp only [execOp,ho];exact Zke h hd hK
 | load t x=>simp only [Zad,ho] at hK;simp only [execOp,ho];exact s_load h hd hK (h.ev x)
 | store t p x=>simp only [Zad,ho] at hK;simp only [execOp,ho];exact s_store h hd hK (h.ev p) (h.ev x)
 | nilCheck x=>simp only [Zad,ho] at hK;exact s_nil h hd hK ho
 | binOp op t x y u=>simp only [Zad,ho] at hK;simp only [execOp,ho];exact s_bin h hd hK (h.ev x) (h.ev y)
 | unOp op t x=>simp only [Zad,ho] at hK;simp only [execOp,ho];exact s_un h hd hK (h.ev x)
 | convert s d x=>simp only [Zad,ho] at hK;simp only [execOp,ho];exact s_conv h hd hK (h.ev x)
 | makeFunc fn first caps =>
   simp only [Zad,ho] at hK
   cases fn with
   | func f =>
     obtain⟨h0,hK⟩:=hK
     have hf:first=#[]:=by
      have:first.toList=[]:=Zti h0
      rw [←Zut (xs:=first),this]
     obtain⟨hal,har⟩:=Zjx (xs:=caps) h
     have hrun:(execOp a.eval o).run P w=.ok (.value (.func (.func f) #[] (caps.map a.eval))) w:=by
      simp only [execOp,ho,Instr.makeFunc,Zq4,Zrf,Zq3,hf,Array.map_empty]
     rw [hrun];exact Zb2 h hd hK λ_ _ hk=>hk.rs (.fn f _ _ hal har)
   | _=>exact hK.elim
 | makeSlice t l cp=>simp only [Zad,ho] at hK;simp only [execOp,ho];exact s_make h hd hK (h.ev l) (h.ev cp)
 | slice t x lo hi mx=>simp only [Zad,ho] at hK;simp only [execOp,ho];exact s_slice h hd hK
 | fieldAddr s x f=>simp only [Zad,ho] at hK;simp only [execOp,ho];exact s_field h hd hK (h.ev x)
 | field s x f =>
   simp only [Zad,ho] at hK;simp only [execOp,ho];split at hK
   ·rename_i fields cs hu hx;split at hK
    ·rename_i fd hf;have hxv:=h.ev x;rw [hx] at hxv;obtain⟨vs,hv,hl,hr⟩:=hxv.agg_inv
     have e1:(Instr.field s (a.eval x) f).run P w=(part fd.type vs fd.offset).run P w:=by
      simp only [Instr.field,Zq4,Zq5 hu,Zq3,hf,hv,asAgg,Zrf]
     have:=Zgk (o:=o) (Q:=Q) h hd hK hl hr;simp only [Zq4] at this ⊢;rw [e1];exact this
    ·exact hK.elim
   ·exact hK.elim
 | indexAddr t x i=>simp only [Zad,ho] at hK;simp only [execOp,ho];exact Zlk h hd hK (h.ev x) (h.ev i)
 | index t x i=>simp only [Zad,ho] at hK;simp only [execOp,ho];exact s_index h hd hK (h.ev x) (h.ev i)
 | extract x i =>
   simp only [Zad,ho] at hK;split at hK
   ·rename_i cs hx;split at hK
    ·rename_i b hb;have hxv:=h.ev x;rw [hx] at hxv;obtain⟨vs,hv,hl,hr⟩:=hxv.tup_inv;have hlt:i < vs.size:=by rw [←hl];exact Za2 hb
     have hrun:(execOp a.eval o).run P w=.ok (.value vs[i]) w:=by
      simp only [execOp,ho,Instr.extract,hv,Zrq hlt,Zq4,Zrf,Zq3]
     rw [hrun];exact Zb2 h hd hK λ_ _ hk=>hk.rs (hr i b _ hb (Zrq hlt))
    ·exact hK.elim
   ·exact hK.elim
 | makeInterface t x =>
   simp only [Zad,ho] at hK
   cases hu:P.underlying t with
   | none=>rw [hu] at hK;exact hK.elim
   | some d =>
     rw [hu] at hK
     have hrun:∀(hd:∀ms,d≠.interface ms),(execOp a.eval o).run P w=.ok (.value (.iface t (a.eval x))) w:=by
      intro hdd;simp only [execOp,ho,Instr.makeInterface,Zq4,Zq5 hu,Zq3];cases d<;>first
       | exact absurd rfl (hdd _)
       | simp only [Zrf,Zq3]
     cases d<;>first
      | exact hK.elim
      | (rw [hrun (λ_ h=>by cases h)]
         exact Zb2 h hd hK λ_ _ hk=>.ifc t _ _ (hk.rs (h.ev x)))
 | makeMap t r =>
   cases r with
   | none =>
     simp only [Zad,ho] at hK
     have hrun:(execOp a.eval o).run P w=.ok (.value (.map (some w.heap.size))) (w.alloc (.map #[] 0)):=by
      simp only [execOp,ho];rfl
     rw [hrun];exact Zot h hd hK
   | some r=>simp only [Zad,ho] at hK;exact hK.elim
 | lookup t m k ok=>simp only [Zad,ho] at hK;simp only [execOp,ho];exact s_lookup h hd hK
 | mapUpdate t m k x=>simp only [Zad,ho] at hK;simp only [execOp,ho];exact Zlj h hd hK
 | call cl=>simp only [Zad,ho] at hK;simp only [execOp,ho];exact s_call h hd hK
 | _=>simp only [Zad,ho] at hK;exact hK.elim
end
def Zhp:AV→Prop
 | .v _=>True
 | _=>False
def says:AV→Bool→Bool
 | .v (.bool b),w=>b == w
 | _,_=>false
def Zaz (all:List Oper) (st:St) (j:Nat):AV :=
 match (all[j]?).bind (·.dst) with
 | some d=>st.env d
 | none=>.u
def Zau (P:Program) (tok:Nat) (all:List Oper):List Oper→(St→Prop)→St→Prop
 | [],K,st=>K st
 | o :: r,K,st=>match o.guard with
   | none=>aRes P (tok+o.dst.getD 0) o.dst (Zad P st o.op) (Zau P tok all r K) st
   | some (j,want)=>Zhp (Zaz all st j)∧if says (Zaz all st j) want=true then aRes P (tok+o.dst.getD 0) o.dst (Zad P st o.op) (Zau P tok all r K) st else Zau P tok all r K (st.put o.dst (.v (.tuple #[])))
theorem Zqt {P:Program} {tok:Nat} {all:List Oper} {K:St→Prop} {st:St}:Zau P tok all [] K st=K st:=rfl
theorem Zc6 {P:Program} {tok:Nat} {all:List Oper} {K:St→Prop} {st:St} {d:Option Tmp} {op:Op} {t:TypeId} {pos:String} {af:Array Edge} {r:List Oper} :
 Zau P tok all (⟨d,op,t,pos,af,none⟩ :: r) K st=aRes P (tok+d.getD 0) d (Zad P st op) (Zau P tok all r K) st:=rfl
theorem Zgh {P:Program} {tok:Nat} {all:List Oper} {K:St→Prop} {st:St} {d:Option Tmp} {op:Op} {t:TypeId} {pos:String} {af:Array Edge} {r:List Oper} {j:Nat} {want:Bool} :
 Zau P tok all (⟨d,op,t,pos,af,some (j,want)⟩ :: r) K st=(Zhp (Zaz all st j)∧if says (Zaz all st j) want=true then aRes P (tok+d.getD 0) d (Zad P st op) (Zau P tok all r K) st else Zau P tok all r K (st.put d (.v (.tuple #[])))):=rfl
def Zch (n:Nat) (o:Oper):Bool:=o.dst.all (λd=>decide (d < n))
inductive AE where
 | normal
 | exit (id:Nat)
 | ret
def AE.to:AE→Exit
 | .normal=>.normal
 | .exit id=>.exit id
 | .ret=>.ret
def post (c:Cx) (n:Nat) (Q:AE→St→Prop):Exit→Act→World→Prop:=λe a w=>∃ae st imm,e=ae.to∧Q ae st∧Rel c n st a w imm
def AWP (P:Program) (n:Nat) (code:Code) (Q:AE→St→Prop) (st:St):Prop:=∀(c:Cx) (a:Act) (w:World) (imm:Imm),Rel c n st a w imm→code.wp P (post c n Q) a w
section
variable {P:Program} {c:Cx} {n tok:Nat}
theorem Zfq (all:List Oper) {Q:AE→St→Prop}:∀(l:List Oper) (st:St) (a:Act) (w:World) (imm:Imm),Rel c n st a w imm→l.all (Zch n)=true→Zau P tok all l (Q .normal) st→wpList P all.toArray (post c n Q) l a w
 | [],st,a,w,imm,h,_,hK=>⟨.normal,st,imm,rfl,hK,h⟩
 | o :: r,st,a,w,imm,h,hf,hK=>by
   simp only [Ztt,Zrh] at hf
   have hd:∀d,o.dst=some d→d < n:=by
    intro d hdd;have:=hf.1;rw [Zch,hdd] at this
    simpa using this
   have yes:aRes P (tok+o.dst.getD 0) o.dst (Zad P st o.op) (Zau P tok all r (Q .normal)) st→o.wp P a w (wpList P all.toArray (post c n Q) r) (post c n Q):=λhy =>
    Oper.wp_mono (λa' w' hg=>by
     obtain⟨st',imm',hk,hr⟩:=hg;exact Zfq all r st' a' w' imm' hr hf.2 hk) (Zb4 h hd hy)
   have no:Zau P tok all r (Q .normal) (st.put o.dst (.v (.tuple #[])))→wpList P all.toArray (post c n Q) r (a.put o.dst undef) w:=λhn =>
    Zfq all r _ _ w imm (h.step (Keeps.refl _ _) h.mem hd (.pure (.v _))) hf.2 hn
   unfold wpList;unfold Zau at hK
   cases hg:o.guard with
   | none =>
     rw [hg] at hK;rw [Zqv (by simp [Region.wanted,hg])];exact .inl (yes hK)
   | some jw =>
     obtain⟨j,want⟩:=jw;rw [hg] at hK;simp only at hK;obtain⟨hB,hK⟩:=hK;unfold Zaz at hB hK;split at hB
     ·rename_i d hdj;rw [hdj] at hK;simp only at hK
      cases hb:st.env d with
      | v x =>
        have hv:=h.env d;rw [hb] at hv;have hv:=hv.v_inv;have hdj':((all.toArray[j]?).bind (·.dst))=some d:=by simpa using hdj
        by_cases hx:∃b,x=.bool b
        ·obtain⟨b,rfl⟩:=hx
         have hlt:d < a.tmps.size:=by
          rcases Zrc d a.tmps.size with h1 | h1
          ·exact h1
          ·rw [Zsg,Ztq h1] at hv;simp [undef] at hv
         have hget:a.tmps[d]?=some (.bool b):=by
          rw [Zrq hlt];rw [Zsg,Zrq hlt] at hv
          simpa using hv
         have hy:yielded all.toArray a.tmps j=some b:=by
          unfold yielded;rw [hdj'];simp [hget]
         have hbo:says (st.env d) want=(b == want):=by rw [hb];rfl
         by_cases hbw:b=want
         ·rw [Zqv (by simp [Region.wanted,hg,hy,hbw])];rw [Zqv (by rw [hbo,hbw];simp)] at hK;exact .inl (yes hK)
         ·rw [Zqw (by simp [Region.wanted,hg,hy,hbw])];rw [Zqw (by rw [hbo];simpa using hbw)] at hK;exact no hK
        ·have hy:yielded all.toArray a.tmps j=none:=by
          unfold yielded;rw [hdj'];simp only [Zt9];rcases ht:a.tmps[d]? with _ | y
          ·rfl
          ·rw [Zsg,ht] at hv;simp only [Zsf] at hv;subst hv;split
           ·rename_i b heq;simp only [Option.some.injEq] at heq;exact absurd ⟨b,heq⟩ hx
           ·rfl
         have hbo:says (st.env d) want=false:=by
          rw [hb];cases x<;>first|rfl|exact absurd ⟨_,rfl⟩ hx
         rw [Zqw (by simp [Region.wanted,hg,hy])];rw [Zqw (by rw [hbo];simp)] at hK;exact no hK
      | _=>rw [hb] at hB;exact hB.elim
     ·exact hB.elim
def Zan (n:Nat):Code→Bool
 | .region _ ops _=>ops.toList.all (Zch n)
 | .seq x y=>Zan n x && Zan n y
 | .cond _ x y=>Zan n x && Zan n y
 | .block _ x=>Zan n x
 | .loop x=>Zan n x
 | _=>true
def AE.inBlock (id:Nat) (Q:AE→St→Prop):AE→St→Prop
 | .exit i,st=>if i=id then Q .normal st else Q (.exit i) st
 | .normal,st=>Q .normal st
 | .ret,st=>Q .ret st
def AE.then (next:St→Prop) (Q:AE→St→Prop):AE→St→Prop
 | .normal,st=>next st
 | .exit i,st=>Q (.exit i) st
 | .ret,st=>Q .ret st
def Zam (P:Program) (tok n:Nat):Code→(AE→St→Prop)→St→Prop
 | .skip,Q,st=>Q .normal st
 | .region id ops false,Q,st=>Zau P tok ops.toList ops.toList (Q .normal) st
 | .seq x y,Q,st=>Zam P tok n x (AE.then (Zam P tok n y Q) Q) st
 | .cond o x y,Q,st=>match st.ev o with
   | .v (.bool t)=>(t=true→Zam P tok n x Q st)∧(t=false→Zam P tok n y Q st)
   | _=>False
 | .block id x,Q,st=>Zam P tok n x (AE.inBlock id Q) st
 | .exit id,Q,st=>Q (.exit id) st
 | .ret,Q,st=>Q .ret st
 | code,Q,st=>AWP P n code Q st
theorem Zpg {Q Q':AE→St→Prop} (h:∀e st,Q e st→Q' e st) {e:Exit} {a:Act} {w:World}:post c n Q e a w→post c n Q' e a w:=fun⟨ae,st,imm,h1,h2,h3⟩=>⟨ae,st,imm,h1,h _ _ h2,h3⟩
theorem Zat:∀(code:Code) (Q:AE→St→Prop) (st:St),Zan n code=true→Zam P tok n code Q st→AWP P n code Q st
 | .skip,Q,st,_,h=>λc a w imm hr=>wp_skip ⟨.normal,st,imm,rfl,h,hr⟩
 | .region id ops false,Q,st,hf,h=>λc a w imm hr=>by
   have:=Zfq (c:=c) ops.toList ops.toList st a w imm hr hf h;simp only [Zut] at this;exact wp_region_list this
 | .seq x y,Q,st,hf,h=>λc a w imm hr=>by
   simp only [Zan,Zrh] at hf;refine wp_seq (Ztm (λe a' w' hp=>?_) (Zat x _ st hf.1 h c a w imm hr));obtain⟨ae,st',imm',rfl,h2,h3⟩:=hp
   cases ae with
   | normal=>exact Zat y _ st' hf.2 h2 c a' w' imm' h3
   | exit id=>exact⟨.exit id,st',imm',rfl,h2,h3⟩
   | ret=>exact⟨.ret,st',imm',rfl,h2,h3⟩
 | .cond o x y,Q,st,hf,h=>λc a w imm hr=>by
   simp only [Zan,Zrh] at hf;simp only [Zam] at h;split at h
   ·rename_i t ht;have hv:=hr.ev o;rw [ht] at hv;exact wp_cond_split hv.v_inv (λe=>Zat x _ st hf.1 (h.1 e) c a w imm hr) (λe=>Zat y _ st hf.2 (h.2 e) c a w imm hr)
   ·exact h.elim
 | .block id x,Q,st,hf,h=>λc a w imm hr=>by
   refine wp_block (Ztm (λe a' w' hp=>?_) (Zat x _ st hf h c a w imm hr));obtain⟨ae,st',imm',rfl,h2,h3⟩:=hp
   cases ae with
   | normal=>exact⟨.normal,st',imm',rfl,h2,h3⟩
   | exit i =>
     simp only [AE.inBlock] at h2;by_cases hi:i=id
     ·rw [Zqv hi] at h2;simp only [AE.to,Exit.inBlock,hi,Zry];exact⟨.normal,st',imm',rfl,h2,h3⟩
     ·rw [Zqw hi] at h2;simp only [AE.to,Exit.inBlock,hi,Zrl];exact⟨.exit i,st',imm',rfl,h2,h3⟩
   | ret=>exact⟨.ret,st',imm',rfl,h2,h3⟩
 | .exit id,Q,st,_,h=>λc a w imm hr=>wp_exit ⟨.exit id,st,imm,rfl,h,hr⟩
 | .ret,Q,st,_,h=>λc a w imm hr=>wp_ret ⟨.ret,st,imm,rfl,h,hr⟩
 | .region id ops true,Q,st,_,h=>h
 | .loop x,Q,st,_,h=>h
 | .rangeFunc ..,Q,st,_,h=>h
 | .scope x,Q,st,_,h=>h
 | .label l,Q,st,_,h=>h
 | .goto l,Q,st,_,h=>h
 | .refuse y,Q,st,_,h=>h
theorem awp_loop {ι:Type} {body:Code} {Q:AE→St→Prop} (I:ι→St→Prop) (μ:ι→Nat) (hf:Zan n body=true)
 (round:∀i st,I i st→Zam P tok n body (AE.then (λst'=>∃i',I i' st'∧μ i' < μ i) Q) st) {i:ι} {st:St} (h0:I i st):AWP P n (.loop body) Q st:=by
 intro c a w imm hr b k cs;have key:∀m i st a w imm,μ i=m→I i st→Rel c n st a w imm →
  ∃e a' w',post c n Q e a' w'∧Arrives P (lone (b.at a (.code body :: .inLoop body :: k)) cs w) b k cs e a' w':=by
  intro m
  induction m using Nat.strongRecOn with
  | _ m ih =>
    intro i st a w imm hm hI hr;obtain⟨e,a₁,w₁,hq,harr⟩:=Zat body _ st hf (round i st hI) c a w imm hr b (.inLoop body :: k) cs;obtain⟨ae,st',imm',rfl,h2,h3⟩:=hq
    cases ae with
    | normal =>
      obtain⟨i',hI',hlt⟩:=h2;obtain⟨e₂,a₂,w₂,hq₂,harr₂⟩:=ih (μ i') (hm ▸ hlt) i' st' a₁ w₁ imm' rfl hI' h3;exact⟨e₂,a₂,w₂,hq₂,.of_steps (Steps.trans harr (.one step_inLoop)) harr₂⟩
    | exit id=>exact⟨_,a₁,w₁,⟨.exit id,st',imm',rfl,h2,h3⟩,.pass (x:=.inLoop body) rfl (λ_ _=>.inl (by simp [AE.to])) harr⟩
    | ret=>exact⟨_,a₁,w₁,⟨.ret,st',imm',rfl,h2,h3⟩,.pass (x:=.inLoop body) rfl (λ_ _=>.inl (by simp [AE.to])) harr⟩
 obtain⟨e,a',w',hq,harr⟩:=key _ i st a w imm rfl h0 hr;exact⟨e,a',w',hq,.of_steps (.one step_loop) harr⟩
end
def Pure (P:Program) (f:FuncId) (args:List AV) (r:AV):Prop :=
 (∀(vs:Array Value) (w:World),(callFunc f vs).run P w=.ok (.enter f vs) w) ∧
 ∀(w:World) (imm:Imm) (vs:Array Value),(∀ad,imm ad→ad.block < w.heap.size∧ad.spot=none)→args.length=vs.size→(∀(j:Nat) (a:AV) (x:Value),args[j]?=some a→vs[j]?=some x→Rd w imm a x) →
  Calls P f vs w λe w'=>∃x imm',e=.returned x∧Rd w' imm' r x∧(∀ad,imm ad→imm' ad)∧(∀ad,imm' ad→(imm ad∨w.heap.size≤ad.block)∧ad.block < w'.heap.size∧ad.spot=none)∧Blw w.heap.size w w'
theorem Zgf {P:Program} {f:FuncId} {args args':List AV} {r:AV} {σ:Mem} {R:AV→Mem→Prop} (h:Pure P f args' r) (ho:Zc9 (marks σ (AV.toksL args)) args) (ha:Zc2 (marks σ (AV.toksL args)) args=args')
 (hR:R r (marks σ (AV.toksL args))):ACall P f args σ R:=by
 refine⟨h.1,λc w imm vs hm hl hr=>?_⟩;obtain⟨i1,hm1,hk1⟩:=Zbv (AV.toksL args) hm;refine(h.2 w i1 vs (λad h1=>⟨hm1.ok.lt ad h1,hm1.ok.spot ad h1⟩) (by rw [←ha,Zbh];exact hl) λj a x h1 h2=>?_).mono λe w' he=>?_
 ·rw [←ha] at h1;obtain⟨b,hb,rfl⟩:=Zdi j a h1;exact Zd8 hm1 (hk1.rs (hr j b x hb h2)) (Zcr ho j b hb)
 ·obtain⟨x,i2,rfl,hrd,hi,hn,hb⟩:=he;have hg:w.grownBy w' none:=⟨hb.os,hb.tape,hb.output,hb.size,λk hk _=>hb.block k hk⟩;have hcell:∀ad,i1 ad→w'.cell? ad=w.cell? ad:=λad h1=>hb.cell (hm1.ok.lt ad h1);refine⟨r,_,i2,x,rfl,hR,.pure hrd,⟨⟨λk e hk=>?_,hm1.ok.apart,λad h1=>(hn ad h1).2.1,λad h1=>(hn ad h1).2.2⟩,hm1.below.trans (hb.mono hm1.lt),Zrn hm1.lt hb.size,λad h1=>hi _ (hm1.old ad h1),λad h1=>?_,λad h1=>(hcell ad (hm1.old ad h1)).trans (hm1.cells ad h1)⟩,
   hk1.trans λad h1=>⟨hi ad h1,hcell ad h1⟩⟩
  ·refine(hm1.ok.ent k e hk).keep hg ?_ hi hcell λad h1=>?_
   ·rcases hbk:e.blk with _ | b
    ·exact .inl rfl
    ·exact .inr zs
   ·rcases (hn ad h1).1 with h2 | h2
    ·exact .inl h2
    ·refine .inr λh3=>?_;have:=((hm1.ok.ent k e hk).blk_lt h3).2;omega
  ·rcases (hn ad h1).1 with h2 | h2
   ·exact hm1.new ad h2
   ·exact .inr (Zrn hm1.lt h2)
def resK:Res→(AV→Prop)→Prop
 | .val x [],K=>K x
 | .need p r,K=>p∧resK r K
 | _,_=>False
def Zmo (P:Program) (st:St):ResultVar→(AV→Prop)→Prop
 | .tmp t,K=>K (st.env t)
 | .cell a t,K=>resK (Zb8 P st t (st.env a)) K
def Zjb (P:Program) (st:St):List ResultVar→(List AV→Prop)→Prop
 | [],K=>K []
 | v :: r,K=>Zmo P st v λa=>Zjb P st r λaS=>K (a :: aS)
def Zfu (P:Program) (st:St) (rs:List ResultVar) (K:AV→Prop):Prop :=
 Zjb P st rs λaS=>K (match aS with | [a]=>a | aS=>.tup aS)
section
variable {P:Program} {c:Cx} {n tok:Nat} {st:St} {a:Act} {w:World} {imm:Imm}
theorem Zc4 {t:TypeId} {cs:List AV} {ad:Addr} {K:AV→Prop} (hK:resK (Zfd P t cs) K) (hc:CellsAt w imm ad cs):∃y b,(loadVar t ad).run P w=.ok y w∧K b∧Rs w imm b y:=by
 unfold Zfd at hK
 cases hu:P.underlying t with
 | none=>rw [hu] at hK;exact hK.elim
 | some d =>
   rw [hu] at hK
   have hag:(isAgg t).run P w=.ok (Zdw d) w:=by
    simp only [isAgg,Zq4,Zq5 hu,Zq3];cases d<;>rfl
   cases hb:Zdw d with
   | false =>
     rw [hb] at hag;simp only [hb,Zrb,Zrl] at hK
     cases cs with
     | nil=>exact hK.elim
     | cons x r =>
       obtain⟨y,hy,hr⟩:=hc 0 x rfl;have:ad.add 0=ad:=by simp [Addr.add]
       rw [this] at hy;exact⟨y,x,by simp [loadVar,hag,hy],hK,hr⟩
   | true =>
     rw [hb] at hag;simp only [hb,Zry] at hK;unfold Zf7 at hK
     cases hs:szOf P t with
     | none=>rw [hs] at hK;exact hK.elim
     | some k =>
       rw [hs] at hK;obtain⟨hle,hK⟩:=hK
       have hex:∀j,j < k→∃x,w.cell? (ad.add j)=some x∧∀b,cs[j]?=some b→Rs w imm b x:=by
        intro j hj;obtain⟨x,h1,h2⟩:=hc j cs[j] (Zqx zo);exact⟨x,h1,λb hb=>by rw [Zqx zo] at hb;simp only [Option.some.injEq] at hb;exact hb ▸ h2⟩
       let f:Nat→Value:=λj=>(w.cell? (ad.add j)).getD undef
       have hf:∀j,j < k→w.cell? (ad.add j)=some (f j):=by
        intro j hj;obtain⟨x,h1,_⟩:=hex j hj;simp [f,h1]
       have hl:=run_loadCells (P:=P) w ad k f hf;refine⟨.agg ((List.range k).map f).toArray,_,by simp [loadVar,hag,Zae hs,hl],hK,.agg _ _ (by simp [hle]) λj b x h1 h2=>?_⟩;rw [Zr9] at h1;split at h1
       ·rename_i hj;obtain⟨y,h3,h4⟩:=hex j hj
        have:f j=x:=by
         have h2':((List.range k).map f)[j]?=some x:=by simpa using h2
         simpa [Zrx,Zua hj] using h2'
        rw [←this];simp only [f,h3,Zsf];exact h4 b h1
       ·cases h1
def Zll (a:Act):ResultVar→Sem Value
 | .tmp t=>pure (a.tmps.getD t undef)
 | .cell x t=>do loadVar t (←asAddr (a.tmps.getD x undef))
theorem Znx {rv:ResultVar} {K:AV→Prop} (h:Rel c n st a w imm) (hK:Zmo P st rv K) :
 ∃y b,(Zll a rv).run P w=.ok y w∧K b∧Rs w imm b y:=by
 cases rv with
 | tmp t=>exact⟨_,_,rfl,hK,h.env t⟩
 | cell x t =>
   simp only [Zmo] at hK;have hx:=h.env x
   cases hxx:st.env x with
   | pbox k g off =>
     rw [hxx] at hK hx;have hv:=hx.pbox_inv;simp only [Zll,hv];unfold Zb8 at hK;simp only at hK
     cases hk:st.mem k with
     | none=>simp only [hk] at hK;exact hK.elim
     | some e =>
       cases e with
       | row=>simp only [hk] at hK;exact hK.elim
       | map=>simp only [hk] at hK;exact hK.elim
       | obj=>simp only [hk] at hK;exact hK.elim
       | box g' e cs pub =>
         simp only [hk] at hK;obtain⟨rfl,hK⟩:=hK;have hca:=(Zh1 h.mem hk).drop off;rw [Zr0,Zrg] at hca;obtain⟨y,b,h1,h2,h3⟩:=Zc4 hK hca;exact⟨y,b,by simp only [asAddr,Zq4,Zrf,Zq3];exact h1,h2,h3⟩
   | pimm cs =>
     rw [hxx] at hK hx;obtain⟨ad,f,hv,h1,h2⟩:=hx.pimm_inv;simp only [Zll,hv];obtain⟨y,b,h3,h4,h5⟩:=Zc4 (ad:=ad) hK λj b hb=>⟨f j,(h1 j (Za2 hb)).2,.pure (h2 j b hb)⟩;exact⟨y,b,by simp only [asAddr,Zq4,Zrf,Zq3];exact h3,h4,h5⟩
   | prow k sv m i off =>
     rw [hxx] at hK hx;obtain⟨g,nn,cc,e1,hv⟩:=hx.prow_inv;subst e1;simp only [Zll,hv];unfold Zb8 at hK;simp only at hK
     cases hk:st.mem k with
     | none=>simp only [hk] at hK;exact hK.elim
     | some e =>
       cases e with
       | box=>simp only [hk] at hK;exact hK.elim
       | map=>simp only [hk] at hK;exact hK.elim
       | obj=>simp only [hk] at hK;exact hK.elim
       | row sv' e m' es pub =>
         simp only [hk] at hK;obtain⟨⟨rfl,rfl,hi⟩,hK⟩:=hK;have hca:=(Zha h.mem hk hi).drop off;rw [Zr0] at hca;obtain⟨y,b,h1,h2,h3⟩:=Zc4 hK hca;exact⟨y,b,by simp only [asAddr,Zq4,Zrf,Zq3];exact h1,h2,h3⟩
   | _=>rw [hxx] at hK;exact hK.elim
theorem Zhc:∀(rs:List ResultVar) {K:List AV→Prop},Rel c n st a w imm→Zjb P st rs K →
 ∃ys bs,(rs.mapM λrv=>Zll a rv).run P w=.ok ys w∧K bs∧bs.length=ys.length ∧
  ∀(j:Nat) (b:AV) (y:Value),bs[j]?=some b→ys[j]?=some y→Rs w imm b y
 | [],K,h,hK=>⟨[],[],rfl,hK,rfl,by simp⟩
 | rv :: rs,K,h,hK=>by
   obtain⟨y,b,h1,h2,h3⟩:=Znx h hK;obtain⟨ys,bs,h4,h5,h6,h7⟩:=Zhc rs h h2;refine⟨y :: ys,b :: bs,?_,h5,by simp [h6],λj b' y' hb hy=>?_⟩
   ·rw [List.mapM_cons];simp only [Zq4,h1,h4,Zq3,Zrf]
   ·match j with
    | 0=>simp at hb hy;subst hb;subst hy;exact h3
    | j+1=>exact h7 j b' y' (by simpa using hb) (by simpa using hy)
theorem Zja {fn:Func} {rs:List ResultVar} {K:AV→Prop} (hrs:fn.results=rs.toArray) (h:Rel c n st a w imm) (hK:Zfu P st rs K):∃y b,(results fn a.tmps).run P w=.ok y w∧K b∧Rs w imm b y:=by
 obtain⟨ys,bs,h1,h2,h3,h4⟩:=Zhc rs h hK
 have hm:(fn.results.mapM λrv=>Zll a rv).run P w=.ok ys.toArray w:=by
  rw [hrs,Array.mapM_eq_mapM_toList];simp only [Sem.run_map,h1,Zq3]
 have hr:(results fn a.tmps).run P w=.ok (if h:ys.toArray.size=1 then ys.toArray[0] else .tuple ys.toArray) w:=by
  have e:results fn a.tmps=(do let vs ←fn.results.mapM (Zll a);pure (if h:vs.size=1 then vs[0] else .tuple vs)):=by
   unfold results;congr 1
  rw [e];simp only [Zq4,hm,Zq3,Zrf]
 match bs,ys,h3,h4,h2,hr with
 | [b],[y],_,h4,h2,hr=>exact⟨y,b,by simpa using hr,h2,h4 0 b y rfl rfl⟩
 | [],[],_,h4,h2,hr=>exact⟨_,_,hr,h2,.tup _ _ rfl zs⟩
 | b1 :: b2 :: bs,y1 :: y2 :: ys,h3,h4,h2,hr=>exact⟨_,_,hr,h2,by simpa using Rs.tup _ (y1 :: y2 :: ys).toArray (by simpa using h3) (λj b y hb hy=>h4 j b y hb (by simpa using hy))⟩
end
def Zik (st:St) (r:AV) (b:AV):Prop:=Zdt (marks st.mem b.toks) b∧pubV (marks st.mem b.toks) b=r
def Done (P:Program) (rs:List ResultVar) (K:St→AV→Prop):AE→St→Prop
 | .exit _,_=>False
 | .normal,st=>Zfu P st rs (K st)
 | .ret,st=>Zfu P st rs (K st)
theorem Zjy {P:Program} {rs:List ResultVar} {K:St→AV→Prop} {ae:AE} {st:St} (h:Done P rs K ae st):Zfu P st rs (K st):=by
 cases ae with
 | exit=>exact h.elim
 | normal=>exact h
 | ret=>exact h
theorem Zab {P:Program} {f n tok:Nat} {fn:Func} {code:Code} {rs:List ResultVar} {args:List AV} {r:AV} (hf:P.funcs[f]?=some fn) (hb:fn.body=some code) (hn:fn.ntmps=n) (hrs:fn.results=rs.toArray)
 (hc:∀(vs:Array Value) (w:World),(callFunc f vs).run P w=.ok (.enter f vs) w) (hfit:Zan n code=true) (hal:args.length≤n)
 (h:Zam P tok n code (Done P rs λst=>Zik st r) ⟨λt=>args.getD t .u,Zac⟩):Pure P f args r:=by
 refine⟨hc,λw imm vs himm hl hr=>?_⟩;refine calls_of_wp hf hb ?_
 let c:Cx:=⟨w.heap.size,w,imm⟩
 have hrel:Rel c n ⟨λt=>args.getD t .u,Zac⟩ { tmps:=vs++Array.replicate (fn.ntmps - vs.size) undef,defers:=[] } w imm:=by
  refine⟨λt=>?_,by simp [hn];omega,rfl,⟨⟨λk e hk=>by simp [Zac] at hk,λk k' e e' b hk=>by simp [Zac] at hk,λad h1=>(himm ad h1).1,λad h1=>(himm ad h1).2⟩,Blw.refl _ _,Zq0 _,λ_ h1=>h1,λ_ h1=>.inl h1,λ_ _=>rfl⟩⟩;simp only [Zq6];rcases Zrc t args.length with ht | ht
  ·have ht2:t < vs.size:=zo;rw [Zqx ht,Zsg,Ztw ht2,Zrq ht2];exact .pure (hr t _ _ (Zqx ht) (Zrq ht2))
  ·rw [Zse ht];exact .pure (.u _)
 refine Ztm (λe a' w' hp=>?_) (Zat code _ _ hfit h c _ w imm hrel);obtain⟨ae,st',imm',rfl,hdone,hrel'⟩:=hp;have hret:=Zjy hdone;have hae:∀id,ae≠.exit id:=by rintro id rfl;exact hdone
 obtain⟨y,b,hrun,⟨hpo,hpv⟩,hrs'⟩:=Zja hrs hrel' hret;obtain⟨i2,hm2,hk2⟩:=Zbv b.toks hrel'.mem;have hrd:=Zd8 hm2 (hk2.rs hrs') hpo;rw [hpv] at hrd;have fin:a'.defers=[]∧∃v,(results fn a'.tmps).run P w'=.ok v w'∧(λe w'=>∃x imm',e=Ending.returned x∧Rd w' imm' r x∧(∀ad,imm ad→imm' ad)∧(∀ad,imm' ad→(imm ad∨w.heap.size≤ad.block)∧ad.block < w'.heap.size∧ad.spot=none)∧Blw w.heap.size w w') (Ending.returned v) w' :=
  ⟨hrel'.defers,y,hrun,y,i2,rfl,hrd,hm2.old,λad h1=>⟨hm2.new ad h1,hm2.ok.lt ad h1,hm2.ok.spot ad h1⟩,hm2.below⟩
 cases ae with
 | normal=>exact fin
 | ret=>exact fin
 | exit id=>exact absurd rfl (hae id)
theorem pI {P:Program} {f n:Nat} {fn:Func} {code:Code} {rs:List ResultVar} {args:List AV} {r:AV} (hf:P.funcs[f]?=some fn) (hb:fn.body=some code) (hn:fn.ntmps=n) (hrs:fn.results=rs.toArray)
 (hc:∀(vs:Array Value) (w:World),(callFunc f vs).run P w=.ok (.enter f vs) w)
 (h:Zam P 0 n code (Done P rs λst=>Zik st r) ⟨λt=>args.getD t .u,Zac⟩) (hfit:Zan n code=true:=by rfl) (hal:args.length≤n:=by simp):Pure P f args r:=Zab (tok:=0) hf hb hn hrs hc hfit hal h
theorem Zbb {P:Program} {f n tok:Nat} {fn:Func} {code:Code} {rs:List ResultVar} {args:List AV} {σ:Mem} {R:AV→Mem→Prop} (hf:P.funcs[f]?=some fn) (hb:fn.body=some code) (hn:fn.ntmps=n) (hrs:fn.results=rs.toArray)
 (hc:∀(vs:Array Value) (w:World),(callFunc f vs).run P w=.ok (.enter f vs) w) (hfit:Zan n code=true) (hal:args.length≤n)
 (h:Zam P tok n code (Done P rs λst b=>R b st.mem) ⟨λt=>args.getD t .u,σ⟩):ACall P f args σ R:=by
 refine⟨hc,λc w imm vs hm hl hr=>?_⟩;refine calls_of_wp hf hb ?_
 have hrel:Rel ⟨c.B,w,imm⟩ n ⟨λt=>args.getD t .u,σ⟩ { tmps:=vs++Array.replicate (fn.ntmps - vs.size) undef,defers:=[] } w imm:=by
  refine⟨λt=>?_,by simp [hn];omega,rfl,⟨hm.ok,Blw.refl _ _,hm.lt,λ_ h1=>h1,λ_ h1=>.inl h1,λ_ _=>rfl⟩⟩;simp only [Zq6];rcases Zrc t args.length with ht | ht
  ·have ht2:t < vs.size:=zo;rw [Zqx ht,Zsg,Ztw ht2,Zrq ht2];exact hr t _ _ (Zqx ht) (Zrq ht2)
  ·rw [Zse ht];exact .pure (.u _)
 refine Ztm (λe a' w' hp=>?_) (Zat code _ _ hfit h _ _ w imm hrel);obtain⟨ae,st',imm',rfl,hdone,hrel'⟩:=hp;have hret:=Zjy hdone;have hae:∀id,ae≠.exit id:=by rintro id rfl;exact hdone
 obtain⟨y,b,hrun,hR,hrs'⟩:=Zja hrs hrel' hret;have hm':=hrel'.mem;have fin:a'.defers=[]∧∃v,(results fn a'.tmps).run P w'=.ok v w'∧(λe w'=>∃r σ' imm' x,e=Ending.returned x∧R r σ'∧Rs w' imm' r x∧Mx c σ' w' imm'∧Keeps w imm w' imm') (Ending.returned v) w' :=
  ⟨hrel'.defers,y,hrun,b,st'.mem,imm',y,rfl,hR,hrs',⟨hm'.ok,hm.below.trans hm'.below,hm'.lt,λad h1=>hm'.old ad (hm.old ad h1),λad h1=>(hm'.new ad h1).elim (hm.new ad) .inr,λad h1=>(hm'.cells ad (hm.old ad h1)).trans (hm.cells ad h1)⟩,
   λad h1=>⟨hm'.old ad h1,hm'.cells ad h1⟩⟩
 cases ae with
 | normal=>exact fin
 | ret=>exact fin
 | exit id=>exact absurd rfl (hae id)
theorem ACall.mono {P:Program} {f:FuncId} {args:List AV} {σ:Mem} {R R':AV→Mem→Prop} (h:ACall P f args σ R) (hR:∀r σ',R r σ'→R' r σ'):ACall P f args σ R' :=
 ⟨h.1,λc w imm vs hm hl hr=>(h.2 c w imm vs hm hl hr).mono λe w' ⟨r,σ',imm',x,h1,h2,h3⟩=>⟨r,σ',imm',x,h1,hR r σ' h2,h3⟩⟩
def Sub (a b:AV):Prop:=∀(w:World) (imm:Imm) (x:Value),Rs w imm a x→Rs w imm b x
theorem Sub.refl (a:AV):Sub a a:=λ_ _ _ h=>h
theorem Sub.own (k k':Nat) (sv:Value):Sub (.own k sv) (.own k' sv):=λ_ _ _ h=>by
 have h1:=h.own_inv;subst h1;exact .own _ _ h.own_one
theorem Sub.mp (k k' g:Nat):Sub (.mp k g) (.mp k' g):=λ_ _ _ h=>by rw [h.mp_inv];exact .mp _ _
theorem Sub.view (k k':Nat) (sv:Value) (m i len:Nat):Sub (.view k sv m i len) (.view k' sv m i len):=λ_ _ _ h=>.view _ _ _ _ _ _ h.view_inv
theorem Sub.pbox (k k' g off:Nat):Sub (.pbox k g off) (.pbox k' g off):=λ_ _ _ h=>by
 have h1:=h.pbox_inv;subst h1;exact .pbox _ _ _
theorem Sub.prow (k k':Nat) (sv:Value) (m i off:Nat):Sub (.prow k sv m i off) (.prow k' sv m i off):=λ_ _ _ h=>by
 obtain⟨g,n,c,rfl,rfl⟩:=h.prow_inv;exact .prow _ _ _ _ _ g n c rfl
theorem Sub.tup (aS bs:List AV) (hl:aS.length=bs.length) (h:∀(j:Nat) (a b:AV),aS[j]?=some a→bs[j]?=some b→Sub a b):Sub (.tup aS) (.tup bs):=λw imm x hx=>by
 obtain⟨vs,rfl,h1,h2⟩:=hx.tup_inv;refine .tup _ _ zo λj b y hb hy=>?_;have hj:j < aS.length:=by rw [hl];exact(List.getElem?_eq_some_iff.1 hb).1
 exact h j aS[j] b (Zqx hj) hb w imm y (h2 j aS[j] y (Zqx hj) hy)
inductive Subs:List AV→List AV→Prop
 | nil:Subs [] []
 | cons {a b:AV} {aS bs:List AV} (h:Sub a b) (t:Subs aS bs):Subs (a :: aS) (b :: bs)
theorem Subs.len {aS bs:List AV} (h:Subs aS bs):aS.length=bs.length:=by
 induction h with
 | nil=>rfl
 | cons _ _ ih=>simp [ih]
theorem Subs.get {aS bs:List AV} (h:Subs aS bs):∀(j:Nat) (a b:AV),aS[j]?=some a→bs[j]?=some b→Sub a b:=by
 induction h with
 | nil=>intro j a b h1;simp at h1
 | cons h1 _ ih =>
   intro j a b h2 h3
   cases j with
   | zero=>simp at h2 h3;subst h2;subst h3;exact h1
   | succ j=>exact ih j a b (by simpa using h2) (by simpa using h3)
def lent (σ:Mem):Mem:=λk=>if k < 1000 then none else σ (k - 1000)
def Back (R:AV→Mem→Prop) (b:AV) (m:Mem):Prop:=∃(r:AV) (σ':Mem) (ρ:Nat→Nat),Sub b r∧R r σ'∧(∀k e,σ' k=some e→m (ρ k)=some e)∧(∀k k',σ' k≠none→σ' k'≠none→ρ k=ρ k'→k=k')
section
variable {P:Program} {tok n:Nat} {Q:AE→St→Prop} {st:St}
theorem r_seq {x y:Code} (h:Zam P tok n x (AE.then (Zam P tok n y Q) Q) st):Zam P tok n (.seq x y) Q st:=h
theorem r_skip (h:Q .normal st):Zam P tok n .skip Q st:=h
theorem r_ret (h:Q .ret st):Zam P tok n .ret Q st:=h
theorem r_exit {id:Nat} (h:Q (.exit id) st):Zam P tok n (.exit id) Q st:=h
theorem r_block {id:Nat} {x:Code} (h:Zam P tok n x (AE.inBlock id Q) st):Zam P tok n (.block id x) Q st:=h
theorem r_cond {o:Operand} {x y:Code} {t:Bool} (ht:st.ev o=.v (.bool t)) (h1:t=true→Zam P tok n x Q st) (h2:t=false→Zam P tok n y Q st):Zam P tok n (.cond o x y) Q st:=by
 unfold Zam;rw [ht];exact⟨h1,h2⟩
theorem r_loop {ι:Type} {body:Code} (I:ι→St→Prop) (μ:ι→Nat) (i:ι) (hf:Zan n body=true)
 (round:∀i st,I i st→Zam P tok n body (AE.then (λst'=>∃i',I i' st'∧μ i' < μ i) Q) st) (h0:I i st):Zam P tok n (.loop body) Q st:=awp_loop (tok:=tok) I μ hf round h0
theorem t_then {next:St→Prop} (h:next st):AE.then next Q .normal st:=h
theorem Znq {next:St→Prop} (h:Q .ret st):AE.then next Q .ret st:=h
theorem Zlf {next:St→Prop} {i:Nat} (h:Q (.exit i) st):AE.then next Q (.exit i) st:=h
theorem t_done {rs:List ResultVar} {K:St→AV→Prop} (h:Zfu P st rs (K st)):Done P rs K .ret st:=h
theorem t_done' {rs:List ResultVar} {K:St→AV→Prop} (h:Zfu P st rs (K st)):Done P rs K .normal st:=h
theorem t_in {id:Nat} (h:Q .normal st):AE.inBlock id Q .normal st:=h
theorem t_in_ret {id:Nat} (h:Q .ret st):AE.inBlock id Q .ret st:=h
theorem Zj8 {id:Nat} (h:Q .normal st):AE.inBlock id Q (.exit id) st:=by simp only [AE.inBlock,Zry];exact h
theorem Zag {id i:Nat} (hi:i≠id) (h:Q (.exit i) st):AE.inBlock id Q (.exit i) st:=by simp only [AE.inBlock,Zqw hi];exact h
end
theorem Znd {α:Type} {f:α→AV} {l:List α} {k:Nat} {x:α} (h:k < l.length):(l.map f).getD k .u=f (l.getD k x):=by
 simp [Zq6,Zqx h]
theorem Zqi (cs:List AV):(AV.agg cs).cells=cs:=rfl
theorem cells_v (x:Value):(AV.v x).cells=[.v x]:=rfl
theorem cells_sl (m:Nat) (es:List AV):(AV.sl m es).cells=[.sl m es]:=rfl
theorem Zqh (k:Nat) (sv:Value):(AV.own k sv).cells=[.own k sv]:=rfl
theorem Zok (cs:List AV):(AV.pimm cs).cells=[.pimm cs]:=rfl
theorem Zol (k g o:Nat):(AV.pbox k g o).cells=[.pbox k g o]:=rfl
theorem Zoj (k:Nat) (sv:Value) (m i len:Nat):(AV.view k sv m i len).cells=[.view k sv m i len]:=rfl
theorem cells_fn (f:FuncId) (cs:List AV):(AV.fn f cs).cells=[.fn f cs]:=rfl
theorem Zeu {x:Int} (h1:-9223372036854775808≤x) (h2:x≤9223372036854775807):IntKind.i64.wrap x=x:=IntWalk.i64_in x ⟨h1,h2⟩
theorem Zo7 (b w:Bool):says (.v (.bool b)) w=(b == w):=rfl
theorem Znw (w:Bool):says (.v (.tuple #[])) w=false:=rfl
theorem known_v (x:Value):Zhp (.v x)=True:=rfl
attribute [go_sem] Zno Zi8 Zdd Zl9 Zqt Zc6 Zgh Zaz Zo7 Znw known_v aRes Zad St.ev St.put Zaj marks mark AV.ofVal Zbq Zis Zi0 Znc Zmj Znn Zj0 Zhh Zph Zax Zgy Zb8 Zfd Zdw Zhq Zf7 Zgw Zkm
 Zng Zep Zcm Zjz Zgz Zex Zct Zcb Ze3 Zof Zg0 Zk7 Zc3 Zdj Zfz Zfy mkOf Zk2 Zpy mpRes Zdf putEl Zip Zhm aZero Zcx Zqi cells_v cells_sl Zqh Zok Zol Zoj cells_fn
 AV.toks AV.toksL Ent.mark Zd9 Zic Zgx Zdt Zc9 pubV Zc2 AV.ok AV.one Value.oneCell' Zik Zfu Zjb Zmo resK
end Go.Pg
