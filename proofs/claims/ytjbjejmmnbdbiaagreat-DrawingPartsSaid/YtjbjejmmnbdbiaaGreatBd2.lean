/- Contracts of the functions that the law reaches, and the rules by which they are walked. They say what a call hands back for every input within the bounds that each names; no other condition. -/
import Derived.Test.YtjbjejmmnbdbiaaGreatBd1
import Derived.Lib.AppendZeros
import Derived.Laws.BytesString
import Derived.Laws.StructEq
import Derived.MapKept
set_option linter.unusedSimpArgs false
set_option linter.unusedVariables false
set_option maxRecDepth 20000
set_option maxHeartbeats 16000000
namespace Go.Pg
open Go Go.RowKit
section
variable {P:Program} {c:Cx} {n tok:Nat} {st:St} {a:Act} {w:World} {imm:Imm} {K:St→Prop} {o:Oper} {Q:Exit→Act→World→Prop}
structure Src (w:World) (imm:Imm) (m:Nat) (es:List AV) (x:Value) (A:Option Addr) (cp:Nat) (xs:List Value):Prop where
 val:x=.slice A es.length cp
 len:xs.length=es.length*m
 some_:0 < es.length→A≠none
 cell:∀ad,A=some ad→∀(j:Nat) (u:Value),xs[j]?=some u→w.cell? (ad.add j)=some u
 one:∀u∈xs,u.oneCell'=true
 rd:∀(j:Nat) (a:AV) (x:Value),(flat es)[j]?=some a→xs[j]?=some x→Rd w imm a x
 cells:∀x∈es,x.cells.length=m
 ok:∀x∈es,x.ok=true
theorem Zbp {α:Type} {l:List α} {j:Nat} {a:α} (h:l[j]?=some a):j < l.length:=by
 rcases Zzo j l.length with h1 | h1
 ·exact h1
 ·rw [ZAf h1] at h;cases h
theorem src_sl {m:Nat} {es:List AV} {x:Value} (h:Rs w imm (.sl m es) x):∃A cp xs,Src w imm m es x A cp xs∧es.length≤cp:=by
 obtain⟨A,cap,f,rfl,hcap,hm,hok,hn,hA,hr⟩:=h.sl_inv;have hfl:=Za0 hm;refine⟨A,cap,(List.range (es.length*m)).map f,⟨rfl,by simp,hn,λad had j u hu=>?_,λu hu=>?_,λj b y hb hy=>?_,hm,hok⟩,hcap⟩
 ·have hj:j < es.length*m:=by simpa using Zbp hu
  rw [ZAb,ZC1 hj] at hu;simp only [ZAq,Option.some.injEq] at hu;obtain⟨ad',h1,_,h2⟩:=hA j hj;rw [had] at h1;cases h1;rw [←hu];exact h2
 ·simp only [List.mem_map,List.mem_range] at hu;obtain⟨j,hj,rfl⟩:=hu;have hlt:j < (flat es).length:=by rw [hfl];exact hj
  exact(hr j _ (Zy4 hlt)).one_of (Znt hok _ (Zzm hlt))
 ·have hj:j < es.length*m:=by rw [←hfl];exact Zbp hb
  rw [ZAb,ZC1 hj] at hy;simp only [ZAq,Option.some.injEq] at hy;rw [←hy];exact hr j b hb
theorem Zkh {σ:Mem} (h:Mx c σ w imm) {k:Nat} {sv:Value} {e:TypeId} {m pub:Nat} {es:List AV} (hk:σ k=some (.row sv e m es pub)):∃A cp xs,Src w imm m es sv A cp xs∧es.length≤cp∧w.ownsRow c.B e m sv es.length xs:=by
 obtain⟨xs,hown,hm,hok,hr,_⟩:=h.ok.ent k _ hk;have hfl:=Za0 hm
 have hone:∀u∈xs,u.oneCell'=true:=by
  intro u hu;obtain⟨j,hj⟩:=List.getElem?_of_mem hu;have hlt:j < (flat es).length:=by rw [hfl,←hown.1];exact Zbp hj
  exact(hr j _ u (Zy4 hlt) hj).one_of (Znt hok _ (Zzm hlt))
 rcases hown.2 with⟨rfl,hn⟩ | ⟨g,cap,cur,rfl,hB,hh,hnc,hcm,hcs,htake⟩
 ·have:es=[]:=ZB8 hn;subst this;exact⟨none,0,xs,⟨rfl,hown.1,by simp,by simp,hone,hr,hm,hok⟩,by simp,hown⟩
 ·exact⟨some ⟨g,0,none⟩,cap,xs,⟨rfl,hown.1,by simp,λad had=>by cases had;exact hown.cells (g:=g) rfl,hone,hr,hm,hok⟩,hnc,hown⟩
theorem src_view {σ:Mem} (h:Mx c σ w imm) {k:Nat} {sv y:Value} {e:TypeId} {m pub i len:Nat} {es:List AV} (hk:σ k=some (.row sv e m es pub)) (hv:ViewOk sv m i len y):∃A cp xs,Src w imm m ((es.take (i+len)).drop i) y A cp xs:=by
 obtain⟨A,cp,xs,hs,hcap,hown⟩:=Zkh h hk;rcases hv with⟨rfl,rfl,rfl,rfl⟩ | ⟨g,n,c',off,cap,rfl,rfl,hle,hlc,hoff,_⟩
 ·exact⟨none,0,[],⟨rfl,by simp,by simp,by simp,by simp,by simp [flat],by simp,by simp⟩⟩
 ·have hval:=hs.val;cases hval;have hlen:((es.take (i+len)).drop i).length=len:=by simp;omega
  have hsub:∀e∈(es.take (i+len)).drop i,e∈es:=λe he=>ZAe (ZBl he);have hmul:i*m+len*m≤es.length*m:=by rw [←Zzw];exact Zzx _ hle
  have hxl:=hs.len;refine⟨some ⟨g,off,none⟩,cap,(xs.drop (i*m)).take (len*m),⟨by rw [hlen],by rw [hlen,Zzh,ZBn];omega,λ_=>by simp,λad had j u hu=>?_,λu hu=>hs.one u (ZBl (ZAe hu)),λj a x ha hx=>?_,λe he=>hs.cells e (hsub e he),λe he=>hs.ok e (hsub e he)⟩⟩
  ·cases had;have hj:j < len*m:=by have:=Zbp hu;simp at this;omega
   have hl0:0 < len:=by
    rcases ZAi len with h5 | h5
    ·rw [h5] at hj;omega
    ·exact h5
   rw [ZAx,Zy1 hj,ZBg] at hu;have:=hs.cell _ rfl _ u hu;rw [hoff hl0];rw [ZAl] at this ⊢
   rwa [Zzv] at this
  ·have hj:j < len*m:=by have:=Zbp hx;simp at this;omega
   rw [ZAx,Zy1 hj,ZBg] at hx;exact hs.rd _ a x (Znu hs.cells zo hle j a ha) hx
theorem Zfa {m:Nat} {av:AV} {x:Value} {R:List AV→Res} {dst:Option Nat} (h:Mx c st.mem w imm) (hx:Rs w imm av x) (hK:aRes P tok dst (Zd4 st.mem m av R) K st) :
 ∃es A cp xs,aRes P tok dst (R es) K st∧Src w imm m es x A cp xs:=by
 unfold Zd4 at hK;split at hK
 ·rename_i m' es;obtain⟨rfl,hK⟩:=hK;obtain⟨A,cp,xs,hs,_⟩:=src_sl hx;exact⟨es,A,cp,xs,hK,hs⟩
 ·rename_i k sv;split at hK
  ·rename_i sv' e m' es pub hk;obtain⟨⟨rfl,rfl⟩,hK⟩:=hK;obtain⟨A,cp,xs,hs,_⟩:=Zkh h hk;have:=hx.own_inv;subst this;exact⟨es,A,cp,xs,hK,hs⟩
  ·exact hK.elim
 ·rename_i k sv m' i len;split at hK
  ·rename_i sv' e m'' es pub hk;obtain⟨⟨rfl,rfl,rfl⟩,hK⟩:=hK;obtain⟨A,cp,xs,hs⟩:=src_view h hk hx.view_inv;exact⟨_,A,cp,xs,hK,hs⟩
  ·exact hK.elim
 ·have:=hx.v_inv;subst this;exact⟨[],none,0,[],hK,⟨rfl,by simp,by simp,by simp,by simp,by simp [flat],by simp,by simp⟩⟩
 ·exact hK.elim
theorem s_append {t t' ty:TypeId} {sv_ xv:AV} {s x:Value} (h:Rel c n st a w imm) (hd:∀d,o.dst=some d→d < n) (hK:aRes P tok o.dst (Zgz P st t t' sv_ xv) K st) (hs:Rs w imm sv_ s) (hx:Rs w imm xv x) :
 o.upon P a (Zby c n K) Q (((do pure (Next.value (←Builtin.append_ #[t,t'] ty #[s,x]))):Sem Next).run P w):=by
 unfold Zgz at hK;split at hK
 ·rename_i e hu;split at hK
  ·rename_i m by_ z hsz hby hz;obtain⟨i,hi,rfl,rfl,hzz⟩:=Zmh hsz hby hz;split at hK
   ·rename_i k sv;split at hK
    ·rename_i sv' e' m' es pub hk;split at hK
     ·rename_i b;obtain⟨⟨hu2,rfl,rfl,rfl,hm1,hb1,rfl,hbytes⟩,hK⟩:=hK;have:=hs.own_inv;subst this;have hxv:=hx.v_inv;subst hxv;obtain⟨xs,hown,hm,hok,hr,hpl,hp,hq⟩:=h.mem.ok.ent k _ hk;have hbs:(b.data.toList.map λc=>AV.v (.int .u8 c.toNat)).length=b.size:=by rw [Zy3,ZBw];rfl
      obtain⟨v',w',hrun,hown',hg,hdw,hat,hsame⟩:=Zrn (P:=P) w c.B t t' ty e' i hu hu2 hi hzz hm1 hb1 s es.length xs hown b (by simp only [maxLen];omega) hbytes h.mem.lt
      have hfl:flat (b.data.toList.map λc=>AV.v (.int .u8 c.toNat))=b.data.toList.map λc=>AV.v (.int .u8 c.toNat):=by
       generalize b.data.toList=q;unfold flat
       induction q with
       | nil=>rfl
       | cons a q ih=>simp only [ZAj,ZB9,ih];rfl
      obtain⟨i',hm',hk'⟩:=Zln (pub:=pub) (news:=b.data.toList.map λc=>AV.v (.int .u8 c.toNat)) (xn:=Lib.strCells b) h.mem (by rw [hbs];exact hown') hown.1 hg hdw hat hsame (λy hy=>(List.mem_append.1 hy).elim (hm y) λhy=>by obtain⟨q,_,rfl⟩:=List.mem_map.1 hy;rfl) (λy hy=>(List.mem_append.1 hy).elim (hok y) λhy=>by obtain⟨q,_,rfl⟩:=List.mem_map.1 hy;rfl) hr
       (λj a x ha hx2=>by
        rw [hfl,ZAb] at ha;unfold Lib.strCells at hx2;rw [ZAb] at hx2;obtain⟨q,hq1,rfl⟩:=Option.map_eq_some_iff.1 ha;rw [hq1] at hx2;simp only [ZAq,Option.some.injEq] at hx2;subst hx2;exact .v _) hpl
       (λg hg'=>(hown.lt g hg').1) hp (λj e2 b h1 h2 h3 h4=>h1 (h.mem.ok.apart j k e2 _ b h2 hk h3 h4.symm))
      rw [Zh0 hrun]
      have hv1:v'.oneCell'=true:=by
       rcases hown'.2 with⟨rfl,_⟩ | ⟨g,cap,cur,rfl,_⟩<;>rfl
      have hK2:∀sv:Value,K (St.put ⟨st.env,upd st.mem k (some (.row sv e' 1 (es++b.data.toList.map λc=>AV.v (.int .u8 c.toNat)) pub))⟩ o.dst (.own k sv)):=by
       have:=hK;simp only [aRes,marks,hk] at this;exact this
      exact⟨_,i',hK2 v',h.step hk' hm' hd (.own k v' hv1)⟩
     ·obtain⟨⟨rfl,rfl,rfl,rfl,hzs⟩,hK⟩:=hK;have:=hs.own_inv;subst this;obtain⟨news,A,cp,xn,hK,hsrc⟩:=Zfa h.mem hx hK;obtain⟨⟨h63,hbytes⟩,hK⟩:=hK;obtain⟨xs,hown,hm,hok,hr,hpl,hp,hq⟩:=h.mem.ok.ent k _ hk;have hxv:=hsrc.val;subst hxv;obtain⟨v',w',hrun,hown',hg,hdw,hat,hsame⟩:=Zi9 (P:=P) w c.B t ty e' i z hu hi hzz hzs s es.length xs hown A news.length cp xn hsrc.len hsrc.some_ hsrc.cell hsrc.one (by simp only [maxLen];omega) hbytes h.mem.lt;obtain⟨i',hm',hk'⟩:=Zln (pub:=pub) h.mem hown' hown.1 hg hdw hat hsame (λy hy=>(List.mem_append.1 hy).elim (hm y) (hsrc.cells y)) (λy hy=>(List.mem_append.1 hy).elim (hok y) (hsrc.ok y)) hr hsrc.rd hpl
       (λg hg'=>(hown.lt g hg').1) hp (λj e2 b h1 h2 h3 h4=>h1 (h.mem.ok.apart j k e2 _ b h2 hk h3 h4.symm))
      rw [Zh0 hrun]
      have hv1:v'.oneCell'=true:=by
       rcases hown'.2 with⟨rfl,_⟩ | ⟨g,cap,cur,rfl,_⟩<;>rfl
      have hK2:∀sv:Value,K (St.put ⟨st.env,upd st.mem k (some (.row sv e' i.size (es++news) pub))⟩ o.dst (.own k sv)):=by
       have:=hK;simp only [aRes,marks,hk] at this;exact this
      exact⟨_,i',hK2 v',h.step hk' hm' hd (.own k v' hv1)⟩
    ·exact hK.elim
   ·rename_i k sv m₁ i₁ n₁;split at hK
    ·rename_i sv' e' m' es pub hk;obtain⟨⟨rfl,rfl,rfl,rfl,hmm,rfl,hpn,hnl,hzs⟩,hK⟩:=hK;subst hmm;have hvw:=hs.view_inv;obtain⟨news,A,cp,xn,hK,hsrc⟩:=Zfa h.mem hx hK;obtain⟨⟨h63,hbytes⟩,hK⟩:=hK;obtain⟨xs,hown,hm,hok,hr,hpl,hp,hq⟩:=h.mem.ok.ent k _ hk;have hxv:=hsrc.val;subst hxv;have hnm:n₁*i.size≤es.length*i.size:=Zzx _ hnl;have hxl:=hown.1
     have hsub:w.ownsRow c.B e' i.size s n₁ (xs.take (n₁*i.size))∧s.ownBlock=sv.ownBlock:=by
      rcases hvw with⟨rfl,_,rfl,rfl⟩ | ⟨g,n,c',off,cap,rfl,rfl,hle,hlc,hoff,h0⟩
      ·exact⟨⟨by simp,.inl ⟨rfl,rfl⟩⟩,rfl⟩
      ·obtain⟨rfl,rfl⟩:=h0 rfl;rcases hown.2 with⟨h1,_⟩ | ⟨g',cap',cur,h1,hB,hh,hnc,hcm,hcs,htake⟩
       ·cases h1
       ·cases h1;refine⟨⟨by rw [Zzh];omega,.inr ⟨g,cap,cur,rfl,hB,hh,hlc,hcm,hcs,?_⟩⟩,rfl⟩;rw [←htake,List.take_take,ZAy hnm]
     obtain⟨hown1,hblk⟩:=hsub;have hmt:∀y∈es.take n₁,y.cells.length=i.size:=λy hy=>hm y (ZAe hy);have hlt1:(es.take n₁).length=n₁:=by rw [Zzh];omega
     obtain⟨v',w',hrun,hown',hg,hdw,hat,hsame⟩:=Zi9 (P:=P) w c.B t ty e' i z hu hi hzz hzs s n₁ _ hown1 A news.length cp xn hsrc.len hsrc.some_ hsrc.cell hsrc.one (by simp only [maxLen];omega) hbytes h.mem.lt;obtain⟨i',hm',hk'⟩:=Zln (k:=k) (es:=es.take n₁) (pub:=pub) h.mem (by rw [hlt1];exact hown') (by rw [hlt1];exact hown1.1) hg hdw hat (by rw [hlt1];exact hsame) (λy hy=>(List.mem_append.1 hy).elim (hmt y) (hsrc.cells y)) (λy hy=>(List.mem_append.1 hy).elim (λh5=>hok y (ZAe h5)) (hsrc.ok y))
      (λj a x ha hx=>by
       have h5:=Znu (l:=0) (hh:=n₁) hm zo hnl j a (by simpa using ha);have hj:j < n₁*i.size:=by have:=Zbp hx;simp at this;omega
       rw [ZAx,Zy1 hj] at hx;exact hr j a x (by simpa using h5) hx) hsrc.rd (by rw [hlt1];exact hpn)
      (λg hg'=>(hown1.lt g hg').1) (λad h1 h2=>hp ad h1 (hblk ▸ h2)) (λj e2 b h1 h2 h3 h4=>h1 (h.mem.ok.apart j k e2 _ b h2 hk h3 (show sv.ownBlock=some b from hblk ▸ h4.symm)))
     rw [Zh0 hrun]
     have hv1:v'.oneCell'=true:=by
      rcases hown'.2 with⟨rfl,_⟩ | ⟨g,cap,cur,rfl,_⟩<;>rfl
     have hK2:∀sv:Value,K (St.put ⟨st.env,upd st.mem k (some (.row sv e' i.size (es.take n₁++news) pub))⟩ o.dst (.own k sv)):=by
      have:=hK;simp only [aRes,hk] at this;exact this
     exact⟨_,i',hK2 v',h.step hk' hm' hd (.own k v' hv1)⟩
    ·exact hK.elim
   ·split at hK
    ·rename_i nn;obtain⟨⟨htn,hzs,hm0,hn0,h63,hby2,hzl,hzok⟩,hK⟩:=hK;have:=hs.v_inv;subst this;have:=hx.v_inv;subst this;obtain⟨nn,rfl⟩:=ZDg (show 0≤nn by omega);simp only [ZAm] at hby2 hK;have hrun:=Go.Lib.run_append_nil_zeros (P:=P) w t t' ty e i z .i64 .i64 hu htn hi hzz nn zo hm0 h63 zo;have hl1:(Builtin.zeroCells z.cells nn).toList.length=nn*i.size:=by rw [ZBw,size_zeroCells,hzs]
     have hown':World.ownsRow (w.drew.alloc (.cells (Builtin.zeroCells z.cells nn++Builtin.zeroCells z.cells (grownCap w nn 0 e - nn)) e)) c.B e i.size (.slice (some ⟨w.heap.size,0,none⟩) nn (grownCap w nn 0 e)) nn (Builtin.zeroCells z.cells nn).toList:=by
      have hge:=grownCap_ge w nn 0 e;refine⟨hl1,.inr ⟨w.heap.size,_,_,rfl,h.mem.lt,heap_alloc_new w.drew _,hge,grownCap_le_maxLen w nn 0 e (by simp only [maxLen];omega),?_,?_⟩⟩
      ·rw [Array.size_append,size_zeroCells,size_zeroCells,hzs,←Zzw,show nn+(grownCap w nn 0 e - nn)=grownCap w nn 0 e by omega]
      ·rw [←hl1];simp only [Array.toList_append];exact List.take_left
     have hg:w.grownBy (w.drew.alloc (.cells (Builtin.zeroCells z.cells nn++Builtin.zeroCells z.cells (grownCap w nn 0 e - nn)) e)) none:=⟨rfl,rfl,rfl,by simp,λk hk _=>Below.heap_alloc w.drew _ k hk⟩
     have hcs:∀(b:AV) (y:Value) (j:Nat),(AV.ofVal z).cells[j]?=some b→z.cells[j]?=some y→b=.v y:=by
      intro b y j hb hy;cases z<;>first
       | (simp only [AV.ofVal,AV.cells,Value.cells] at hb hy
          match j with
          | 0=>simp at hb hy;rw [←hb,←hy]
          | j+1=>simp at hb)
       | (simp only [AV.ofVal,AV.cells,Value.cells,ZAb,ZBv] at hb hy
          rw [hy] at hb;simp at hb;exact hb.symm)
     have hrd:∀(j:Nat) (b:AV) (y:Value),(flat (List.replicate nn (AV.ofVal z)))[j]?=some b→(Builtin.zeroCells z.cells nn).toList[j]?=some y→Rd w imm b y:=by
      intro j b y hb hy;have hm:∀x∈List.replicate nn (AV.ofVal z),x.cells.length=i.size:=λy hy=>by rw [ZB4 hy];exact hzl
      have hj:j < nn*i.size:=by
       have:=Zbp hb
       rwa [Za0 hm,ZCu] at this
      have hdm:j=(j/i.size)*i.size+j%i.size:=by rw [Zz0];exact(ZBh j i.size).symm
      have hq:j/i.size < nn:=by rw [ZB5 hm0];exact hj
      have hfg:=Zdu hm (j/i.size) (j%i.size) (Zz9 _ hm0) (by simpa using hq);rw [←hdm,hb] at hfg;rw [Zzc,ZDh,Zy1 hq] at hfg;simp only [ZAs] at hfg;have hlt:j%i.size < z.cells.size:=by rw [hzs];exact Zz9 _ hm0
      have hy2:y=z.cells[j%i.size]!:=by
       rw [ZBv] at hy;unfold Builtin.zeroCells at hy;rw [ZC3,Array.getElem?_range,Zy1 (by rw [hzs];exact hj),hzs] at hy
       simpa using hy.symm
      have:=hcs b y (j%i.size) hfg.symm (by rw [hy2,Zz2 hlt];simp [hlt]);rw [this];exact .v y
     obtain⟨i',hm',hk'⟩:=Zln (k:=tok) (es:=[]) (xs:=[]) (pub:=0) (sv:=.slice none 0 0) (news:=List.replicate nn (AV.ofVal z)) (xn:=(Builtin.zeroCells z.cells nn).toList) (w':=w.drew.alloc (.cells (Builtin.zeroCells z.cells nn++Builtin.zeroCells z.cells (grownCap w nn 0 e - nn)) e)) (v':=.slice (some ⟨w.heap.size,0,none⟩) nn (grownCap w nn 0 e)) h.mem (by simpa using hown') zs hg (Nat.le_succ _) (.inr rfl) (by simp [Value.ownBlock]) (λy hy=>by rw [ZB4 hy];exact hzl) (λy hy=>by rw [ZB4 hy];exact hzok) (by simp [flat]) hrd zs
      (by simp [Value.ownBlock]) (by simp [Value.ownBlock]) (by simp [Value.ownBlock])
     rw [Zh0 hrun];exact⟨_,i',hK _,h.step hk' hm' hd (.own tok _ rfl)⟩
    ·obtain⟨⟨rfl,hzs⟩,hK⟩:=hK;have:=hs.v_inv;subst this;obtain⟨news,A,cp,xn,hK,hsrc⟩:=Zfa h.mem hx hK;obtain⟨⟨h63,hbytes⟩,hK⟩:=hK;have hxv:=hsrc.val;subst hxv;obtain⟨v',w',hrun,hown',hg,hdw,hat,hsame⟩:=Zi9 (P:=P) w c.B t ty e i z hu hi hzz hzs (.slice none 0 0) 0 [] (ZDq w c.B e i.size) A news.length cp xn hsrc.len hsrc.some_ hsrc.cell hsrc.one (by simp only [maxLen];omega) (by simpa using hbytes) h.mem.lt;obtain⟨i',hm',hk'⟩:=Zln (k:=tok) (es:=[]) (xs:=[]) (pub:=0) (sv:=.slice none 0 0) h.mem (by simpa using hown') zs hg hdw hat (by simp [Value.ownBlock]) (by simpa using hsrc.cells) (by simpa using hsrc.ok) (by simp [flat]) hsrc.rd zs
      (by simp [Value.ownBlock]) (by simp [Value.ownBlock]) (by simp [Value.ownBlock])
     rw [Zh0 hrun]
     have hv1:v'.oneCell'=true:=by
      rcases hown'.2 with⟨rfl,_⟩ | ⟨g,cap,cur,rfl,_⟩<;>rfl
     exact⟨_,i',hK v',h.step hk' hm' hd (.own tok v' hv1)⟩
   ·exact hK.elim
  ·exact hK.elim
 ·exact hK.elim
theorem s_copy {t ty u:TypeId} {dv xv:AV} {s x:Value} (h:Rel c n st a w imm) (hd:∀d,o.dst=some d→d < n) (hK:aRes P tok o.dst (Znz P st t dv xv) K st) (hs:Rs w imm dv s) (hx:Rs w imm xv x) :
 o.upon P a (Zby c n K) Q (((do pure (Next.value (←Builtin.copy_ #[t,u] ty #[s,x]))):Sem Next).run P w):=by
 unfold Znz at hK;split at hK
 ·rename_i e hu;split at hK
  ·rename_i m hsz;split at hK
   ·rename_i k sv;split at hK
    ·rename_i sv' e' m' es pub hk;obtain⟨⟨rfl,rfl,rfl,rfl⟩,hK⟩:=hK;have:=hs.own_inv;subst this;obtain⟨news,A,cp,xn,hK,hsrc⟩:=Zfa h.mem hx hK;have hxv:=hsrc.val;subst hxv;obtain⟨A2,cp2,xs,hsrc2,_,hown⟩:=Zkh h.mem hk;have hsv:=hsrc2.val;subst hsv;have hq:min news.length es.length*m'≤xn.length:=by rw [hsrc.len];exact Zzx _ (Nat.min_le_left _ _)
     have hf:(Builtin.firstCells m' (min news.length es.length) (.slice A news.length cp)).run P w=.ok (xn.take (min news.length es.length*m')).toArray w:=by
      cases A with
      | some ad =>
        refine run_firstCells_some (P:=P) w m' _ ad _ _ _ (by rw [Zzh];omega) λj v hv=>?_;rw [ZAx] at hv;split at hv
        ·exact hsrc.cell ad rfl j v hv
        ·cases hv
      | none =>
        have h0:news.length=0:=by rcases ZAi news.length with h1 | h1;exact h1;exact absurd rfl (hsrc.some_ h1)
        simp [Builtin.firstCells,h0]
     have hlen:(news.take es.length++es.drop news.length).length=es.length:=by simp;omega
     have put:∀i2,Mx c st.mem w i2→Keeps w imm w i2→∃w',(match A2 with | some ad=>storeCells ad (xn.take (min news.length es.length*m')) | none=>pure ()).run P w=.ok () w'∧Mx c (upd st.mem k (some (.row (.slice A2 es.length cp2) e' m' (news.take es.length++es.drop news.length) 0))) w' i2∧Keeps w i2 w' i2:=by
      intro i2 hm2 hk2;rcases hown.2 with⟨h1,h2⟩ | ⟨g,cap,cur,h1,h2⟩
      ·have:es=[]:=ZB8 h2;subst this;simp only [Zzi,Value.slice.injEq,true_and] at h1;obtain⟨rfl,rfl⟩:=h1;refine⟨w,rfl,?_,Keeps.refl _ _⟩
       have e1:upd st.mem k (some (.row (.slice none 0 0) e' m' [] 0))=st.mem:=by
        funext j
        rw [Zal];split
        ·subst_vars;rw [hk];rfl
        ·rfl
       simp only [Zzi,ZBx,List.drop_nil,ZAh];rw [e1];exact hm2
      ·cases h1;refine Zqg hm2 hk (off:=0) (vs:=xn.take (min news.length es.length*m')) hlen ?_ zs (λv hv=>hsrc.one v (ZAe hv)) ?_ ?_ λj b hb=>?_
       ·rw [Zzh,Zzv];exact Zzg (Nat.min_le_left _ _) (Zzx _ (Nat.min_le_right _ _))
       ·intro y hy;rcases List.mem_append.1 hy with hy | hy
        ·exact hsrc.cells y (ZAe hy)
        ·exact hsrc2.cells y (ZBl hy)
       ·intro y hy;rcases List.mem_append.1 hy with hy | hy
        ·exact hsrc.ok y (ZAe hy)
        ·exact hsrc2.ok y (ZBl hy)
       ·have hl1:(flat (news.take es.length)).length=min news.length es.length*m':=by
         rw [Za0 λy hy=>hsrc.cells y (ZAe hy),Zzh,Nat.min_comm]
        have hl2:(xn.take (min news.length es.length*m')).length=min news.length es.length*m':=by rw [Zzh];omega
        rw [Zbn] at hb;rw [hl2];split
        ·rename_i hc;rw [Zz8 zo] at hb;intro y hy;rw [ZB3,ZAx,Zy1 zo] at hy
         have hb2:(flat news)[j]?=some b:=by
          have e1:flat news=flat (news.take es.length)++flat (news.drop es.length):=by rw [←Zbn,ZBf]
          rw [e1,Zz8 zo];exact hb
         exact hk2.rd (hsrc.rd j b y hb2 hy)
        ·rename_i hc;rw [ZAd zo,hl1] at hb;have e1:flat es=flat (es.take news.length)++flat (es.drop news.length):=by rw [←Zbn,ZBf]
         have hl3:(flat (es.take news.length)).length=min news.length es.length*m':=by
          rw [Za0 λy hy=>hsrc2.cells y (ZAe hy),Zzh]
         rw [e1,ZAd zo,hl3];exact hb
     obtain⟨w',hrun,_,_⟩:=put imm h.mem (Keeps.refl _ _)
     have hall:(Builtin.copy_ #[t,u] ty #[.slice A2 es.length cp2,.slice A news.length cp]).run P w=.ok (.int .i64 (min news.length es.length:Nat)) w':=by
      have hmin:Nat.min news.length es.length=min news.length es.length:=rfl
      cases A2 with
      | none =>
        simp only [Zzs,Result.ok.injEq,true_and] at hrun;subst hrun;simp [Builtin.copy_,Zzl hu,Builtin.lenOf,Zah hsz,hmin,hf,goInt]
      | some ad=>simp [Builtin.copy_,Zzl hu,Builtin.lenOf,Zah hsz,hmin,hf,goInt,hrun]
     rw [Zh0 hall];refine Zf5 h hd hK (.inl rfl) λi' hm' hk'=>?_;obtain⟨w2,hrun2,hm2,hk2⟩:=put i' hm' hk';rw [hrun] at hrun2;cases hrun2;exact⟨hm2,hk2,.pure (.v _)⟩
    ·exact hK.elim
   ·exact hK.elim
  ·exact hK.elim
 ·exact hK.elim
theorem s_make {t:TypeId} {lv cv:AV} {l cp:Value} (h:Rel c n st a w imm) (hd:∀d,o.dst=some d→d < n) (hK:aRes P tok o.dst (Zfi P t lv cv) K st) (hl:Rs w imm lv l) (hc:Rs w imm cv cp) :
 o.upon P a (Zby c n K) Q (((do pure (Next.value (←Instr.makeSlice t l cp))):Sem Next).run P w):=by
 unfold Zfi at hK;split at hK
 ·rename_i e kl nn kc cap hu;split at hK
  ·rename_i m by_ z hsz hby hz;obtain⟨i,hi,rfl,rfl,hzz⟩:=Zmh hsz hby hz;obtain⟨⟨h0,h1,h2,h3,hzl,hzok⟩,hK⟩:=hK;have:=hl.v_inv;subst this;have:=hc.v_inv;subst this;obtain⟨nn,rfl⟩:=ZDg h0;obtain⟨cap,rfl⟩:=ZDg (show 0≤cap by omega);have hr:=run_make (P:=P) w t e i z hu hi hzz kl kc (nn:Int) (cap:Int) zo zo h3 h2;simp only [ZAm] at hr hK;rw [Zh0 hr];have hzc:=(Rs.pure (Rd.v (w:=w) (imm:=imm) z))
   have hcs:∀(b:AV) (y:Value) (j:Nat),(AV.ofVal z).cells[j]?=some b→z.cells[j]?=some y→b=.v y:=by
    intro b y j hb hy;cases z<;>first
     | (simp only [AV.ofVal,AV.cells,Value.cells] at hb hy
        match j with
        | 0=>simp at hb hy;rw [←hb,←hy]
        | j+1=>simp at hb)
     | (simp only [AV.ofVal,AV.cells,Value.cells,ZAb,ZBv] at hb hy
        rw [hy] at hb;simp at hb;exact hb.symm)
   have hzsz:z.cells.size=i.size:=by
    rw [←hzl];cases z<;>simp [AV.ofVal,AV.cells,Value.cells]
   refine upon_row (cap:=cap) (vs:=madeCells z.cells (cap*i.size)) (es:=List.replicate nn (AV.ofVal z)) h hd hK (by simp;omega) (by simp only [maxLen];omega) (by simp [madeCells]) (λy hy=>by rw [ZB4 hy];exact hzl) (λy hy=>by rw [ZB4 hy];exact hzok) ?_ |> (λh=>by simpa using h)
   intro imm' _ _ j b y hb hy;have hm:∀x∈List.replicate nn (AV.ofVal z),x.cells.length=i.size:=λy hy=>by rw [ZB4 hy];exact hzl
   have hj:j < nn*i.size:=by
    have:=Zbp hb
    rwa [Za0 hm,ZCu] at this
   have hm0:0 < i.size:=by
    rcases ZAi i.size with h4 | h4
    ·rw [h4] at hj;omega
    ·exact h4
   have hdm:j=(j/i.size)*i.size+j%i.size:=by rw [Zz0];exact(ZBh j i.size).symm
   have hq:j/i.size < nn:=by rw [ZB5 hm0];exact hj
   have hfg:=Zdu hm (j/i.size) (j%i.size) (Zz9 _ hm0) (by simpa using hq);rw [←hdm,hb] at hfg;rw [Zzc,ZDh,Zy1 hq] at hfg;simp only [ZAs] at hfg;have hjc:j < cap*i.size:=ZA9 hj (Zzx _ zo)
   have hy2:y=z.cells[j%i.size]!:=by
    simp only [madeCells,hzsz] at hy;rw [ZC3,Array.getElem?_range,Zy1 hjc] at hy
    simpa using hy.symm
   have hlt:j%i.size < z.cells.size:=by rw [hzsz];exact Zz9 _ hm0
   have:=hcs b y (j%i.size) hfg.symm (by rw [hy2,Zz2 hlt];simp [hlt]);rw [this];exact .v y
  ·exact hK.elim
 ·exact hK.elim
end
section
variable {P:Program} {c:Cx} {n tok:Nat} {st:St} {a:Act} {w:World} {imm:Imm} {K:St→Prop} {o:Oper} {Q:Exit→Act→World→Prop}
theorem s_field {s:TypeId} {xv:AV} {x:Value} {f:Nat} (h:Rel c n st a w imm) (hd:∀d,o.dst=some d→d < n) (hK:aRes P tok o.dst (Zhe P s xv f) K st) (hx:Rs w imm xv x) :
 o.upon P a (Zby c n K) Q (((do pure (Next.value (←Instr.fieldAt s x f))):Sem Next).run P w):=by
 unfold Zhe at hK;split at hK
 ·rename_i fields hu;split at hK
  ·rename_i fd hf;split at hK
   ·rename_i sz hsz;obtain⟨hne,hK⟩:=hK
    have run:∀ad:Addr,x=.pointer (some ad)→(Instr.fieldAt s x f).run P w=.ok (.pointer (some (ad.add fd.offset))) w:=by
     rintro ad rfl
     simp [Instr.fieldAt,Zzl hu,hf,Instr.sureAddr,fieldPlace,Zah hsz,hne]
    cases xv with
    | pimm cs =>
      obtain⟨ad,g,rfl,h1,h2⟩:=hx.pimm_inv;refine Zae h hd hK (run ad rfl) (.pure (.pimm _ _ (λj=>g (fd.offset+j)) (λj hj=>?_) λj b hb=>?_))
      ·rw [Zev];exact h1 _ (by simp at hj;omega)
      ·rw [ZBg] at hb;exact h2 _ b hb
    | pbox k g off =>
      have:=hx.pbox_inv;subst this;refine Zae h hd hK (run _ rfl) ?_;rw [ZAl];exact .pbox _ _ _
    | prow k sv m i off =>
      obtain⟨g,nn,cc,rfl,rfl⟩:=hx.prow_inv;refine Zae h hd hK (run _ rfl) ?_;rw [ZAl,ZDf];exact .prow k _ m i (off+fd.offset) g nn cc rfl
    | _=>exact hK.elim
   ·exact hK.elim
  ·exact hK.elim
 ·exact hK.elim
theorem Zqb {t:TypeId} {xv iv:AV} {x i:Value} (h:Rel c n st a w imm) (hd:∀d,o.dst=some d→d < n) (hK:aRes P tok o.dst (Zbb P st t xv iv) K st) (hx:Rs w imm xv x) (hi:Rs w imm iv i) :
 o.upon P a (Zby c n K) Q (((do pure (Next.value (←Instr.indexAt t x i))):Sem Next).run P w):=by
 unfold Zbb at hK;split at hK
 ·rename_i e kk j hu;have:=hi.v_inv;subst this;split at hK
  ·rename_i sz hsz
   have run:∀(ad:Addr) (len cap:Nat),x=.slice (some ad) len cap→0≤j→j < len→(Instr.indexAt t x (.int kk j)).run P w=.ok (.pointer (some (ad.add (j.toNat*sz)))) w:=by
    rintro ad len cap rfl h0 h1
    simp [Instr.indexAt,asIntOf,Zzl hu,h0,h1,Zah hsz]
   cases xv with
   | sl m es =>
     obtain⟨⟨rfl,h0,h1⟩,hK⟩:=hK;obtain⟨A,cap,f,rfl,hcap,hm,hok,hn,hA,hr⟩:=hx.sl_inv;obtain⟨j,rfl⟩:=ZDg h0;have hj:j < es.length:=zo;have hA1:A≠none:=hn zo
     cases A with
     | none=>exact absurd rfl hA1
     | some ad =>
       simp only [ZAm] at hK
       have hel:(es.getD j .u).cells.length=sz:=by
        rw [Zzc,Zy4 hj];exact hm _ (Zzm _)
       have hmul:j*sz+sz≤es.length*sz:=by
        have:(j+1)*sz≤es.length*sz:=Zzx _ hj
        rwa [Zzw,ZA3] at this
       refine Zae h hd hK (run ad _ cap rfl h0 h1) (.pure (.pimm _ _ (λq=>f (j*sz+q)) (λq hq=>?_) λq b hb=>?_))
       ·rw [hel] at hq;rw [Zev,ZAm];obtain⟨ad',e1,e2,e3⟩:=hA (j*sz+q) zo;cases e1;exact⟨e2,e3⟩
       ·have hq:q < sz:=by rw [←hel];exact Zbp hb
        exact hr _ b ((Zdu hm j q hq hj).trans hb)
   | own k sv =>
     simp only at hK;split at hK
     ·rename_i sv' e' m es pub hk;obtain⟨⟨rfl,rfl,h0,h1⟩,hK⟩:=hK;have:=hx.own_inv;subst this;obtain⟨xs,hown,_⟩:=h.mem.ok.ent k _ hk;rcases hown.2 with⟨_,hn⟩ | ⟨g,cap,cur,rfl,_⟩
      ·omega
      ·refine Zae h hd hK (run ⟨g,0,none⟩ _ cap rfl h0 h1) ?_;rw [ZAl,Zzv];exact .prow k _ sz j.toNat 0 g _ _ rfl
     ·exact hK.elim
   | view k sv m i len =>
     obtain⟨⟨rfl,h0,h1⟩,hK⟩:=hK;rcases hx.view_inv with⟨_,_,rfl,_⟩ | ⟨g,nn,cc,off,cap,rfl,rfl,hle,hlc,hoff,_⟩
     ·omega
     ·refine Zae h hd hK (run ⟨g,off,none⟩ _ cap rfl h0 h1) ?_;have e1:off+j.toNat*sz=(i+j.toNat)*sz+0:=by rw [hoff zo,Zz3,Zzw]
      rw [ZAl,e1];exact .prow k _ sz (i+j.toNat) 0 g _ _ rfl
   | _=>exact hK.elim
  ·exact hK.elim
 ·rename_i len e kk j hu;have:=hi.v_inv;subst this;split at hK
  ·rename_i sz hsz;obtain⟨⟨h0,h1⟩,hK⟩:=hK
   have run:∀ad:Addr,x=.pointer (some ad)→(Instr.indexAt t x (.int kk j)).run P w=.ok (.pointer (some (ad.add (j.toNat*sz)))) w:=by
    rintro ad rfl
    simp [Instr.indexAt,asIntOf,Zzl hu,Instr.sureAddr,h0,h1,Zah hsz]
   cases xv with
   | pimm cs =>
     obtain⟨ad,g,rfl,h2,h3⟩:=hx.pimm_inv;refine Zae h hd hK (run ad rfl) (.pure (.pimm _ _ (λq=>g (j.toNat*sz+q)) (λq hq=>?_) λq b hb=>?_))
     ·rw [Zev];exact h2 _ (by simp at hq;omega)
     ·rw [ZBg] at hb;exact h3 _ b hb
   | pbox k g off =>
     have:=hx.pbox_inv;subst this;refine Zae h hd hK (run _ rfl) ?_;rw [ZAl];exact .pbox _ _ _
   | prow k sv m i off =>
     obtain⟨g,nn,cc,rfl,rfl⟩:=hx.prow_inv;refine Zae h hd hK (run _ rfl) ?_;rw [ZAl,ZDf];exact .prow k _ m i (off+j.toNat*sz) g nn cc rfl
   | _=>exact hK.elim
  ·exact hK.elim
 ·exact hK.elim
theorem s_index {t:TypeId} {xv iv:AV} {x i:Value} (h:Rel c n st a w imm) (hd:∀d,o.dst=some d→d < n) (hK:aRes P tok o.dst (Zj5 P t xv iv) K st) (hx:Rs w imm xv x) (hi:Rs w imm iv i) :
 o.upon P a (Zby c n K) Q (((do pure (Next.value (←Instr.index t x i))):Sem Next).run P w):=by
 unfold Zj5 at hK;split at hK
 ·rename_i len e cs kk j hu;have:=hi.v_inv;subst this;split at hK
  ·rename_i sz hsz;obtain⟨⟨h0,h1⟩,hK⟩:=hK;obtain⟨vs,rfl,hl,hr⟩:=hx.agg_inv
   have e1:(Instr.index t (.agg vs) (.int kk j)).run P w=(part e vs (j.toNat*sz)).run P w:=by
    simp [Instr.index,asIntOf,Zzl hu,h0,h1,Zah hsz]
   have:=Zjj (o:=o) (Q:=Q) h hd hK hl hr;simp only [Zzk] at this ⊢;rw [e1];exact this
  ·exact hK.elim
 ·rename_i s kk j hu;have:=hi.v_inv;subst this;have:=hx.v_inv;subst this;obtain⟨⟨h0,h1⟩,hK⟩:=hK;obtain⟨j,rfl⟩:=ZDg h0;have hj:j < s.size:=zo;refine Zae h hd hK ?_ (.pure (.v _));have hj2:j < s.data.toList.length:=hj;simp only [ZAm];rw [Zzc,Zy4 hj2];simp [Instr.index,asIntOf,Zzl hu,hj];rfl
 ·exact hK.elim
def CLs (w:World) (imm:Imm) (cs:List AV) (vs:Array Value):Prop:=cs.length=vs.size∧∀(j:Nat) (b:AV) (y:Value),cs[j]?=some b→vs[j]?=some y→Rs w imm b y
theorem Zhp {t:TypeId} {x y:Bool} (hu:P.underlying t=some .bool):(Op.equal t (.bool x) (.bool y)).run P w=.ok (x == y) w:=by
 have hd:Op.maxDepth=9999+1:=rfl;unfold Op.equal;rw [hd];unfold Op.equalIn;simp only [Zzk,Zzl hu,Zzj,Zzs]
theorem Zoh {t e:TypeId} {a:Addr} {n c:Nat} (hu:P.underlying t=some (.slice e)):(Op.equal t (.slice (some a) n c) (.slice none 0 0)).run P w=.ok false w:=by
 have hd:Op.maxDepth=9999+1:=rfl;unfold Op.equal;rw [hd];unfold Op.equalIn;simp only [Zzk,Zzl hu,Zzj,Zzs]
theorem Zmy {t e:TypeId} (hu:P.underlying t=some (.slice e)):(Op.equal t (.slice none 0 0) (.slice none 0 0)).run P w=.ok true w:=by
 have hd:Op.maxDepth=9999+1:=rfl;unfold Op.equal;rw [hd];unfold Op.equalIn;simp only [Zzk,Zzl hu,Zzj,Zzs];rfl
theorem Zdp {t:TypeId} {d:TypeDesc} {vs:Array Value} {off:Nat} {x:Value} (hu:P.underlying t=some d) (hd:Zfy d=false) (hx:vs[off]?=some x):(part t vs off).run P w=.ok x w:=by
 have hag:(isAgg t).run P w=.ok false w:=by
  simp only [isAgg,Zzk,Zzl hu,Zzj];cases d<;>first|rfl|cases hd
 simp [part,hag,hx]
def Zlx (d:Nat) (vs us:Array Value):List (TypeId × Nat)→Sem Bool
 | []=>pure true
 | (t,off) :: r=>do
   let a ←part t vs off
   let b ←part t us off
   if ←Op.equalIn d t a b then Zlx d vs us r else pure false
theorem Zh6 {d:Nat} {xs ys:List AV} {vs us:Array Value} {dst:Option Nat} (hx:CLs w imm xs vs) (hy:CLs w imm ys us):∀(l:List (TypeId × Nat)) (R:Bool→Res),aRes P tok dst (Ze9 P l xs ys R) K st →
 ∃b,aRes P tok dst (R b) K st∧(Zlx (d+1) vs us l).run P w=.ok b w
 | [],R,hK=>⟨true,hK,rfl⟩
 | (t,off) :: r,R,hK=>by
   simp only [Ze9] at hK
   have get:∀{zs:List AV} {ws:Array Value} {v:Value} {rest:List AV},CLs w imm zs ws→zs.drop off=.v v :: rest→ws[off]?=some v:=by
    intro zs ws v rest hc h1
    have h2:zs[off]?=some (.v v):=by
     have:=congrArg (λl=>l[0]?) h1
     simpa [ZBg] using this
    have hlt:off < ws.size:=by rw [←hc.1];exact(List.getElem?_eq_some_iff.1 h2).1
    rw [Zz2 hlt];have:=hc.2 off _ _ h2 (Zz2 hlt);rw [this.v_inv]
   have step:∀(a b:Value) (c:Bool) (td:TypeDesc),P.underlying t=some td→Zfy td=false→vs[off]?=some a→us[off]?=some b→(Op.equalIn (d+1) t a b).run P w=.ok c w→aRes P tok dst (Ze9 P r xs ys λc'=>R (c && c')) K st →
    ∃b,aRes P tok dst (R b) K st∧(Zlx (d+1) vs us ((t,off) :: r)).run P w=.ok b w:=by
    intro a b c td hu hag ha hb he hK;obtain⟨c',h1,h2⟩:=Zh6 hx hy r _ hK;refine⟨c && c',h1,?_⟩;simp only [Zlx,Zzk,Zdp hu hag ha,Zdp hu hag hb,Zzj,he];cases c
    ·simp
    ·simpa using h2
   split at hK
   ·rename_i a ra b rb hu h1 h2;exact step _ _ (a == b) _ hu rfl (get hx h1) (get hy h2) (run_equalIn_bool' (P:=P) w d t a b hu) hK
   ·rename_i kk k a ra k' b rb hu h1 h2;obtain⟨rfl,hK⟩:=hK;exact step _ _ (a == b) _ hu rfl (get hx h1) (get hy h2) (run_equalIn_int (P:=P) w d t k kk a b hu) hK
   ·rename_i a ra b rb hu h1 h2;exact step _ _ (a.toList == b.toList) _ hu rfl (get hx h1) (get hy h2) (run_equalIn_string (P:=P) w d t a b hu) hK
   ·exact hK.elim
theorem Zgy {d : Nat} {vs us : Array Value} : ∀ (fs : List Field), (fs.all fun f => f.name != "_") = true → Op.eqFields d vs us fs = Zlx d vs us (fs.map fun f => (f.type, f.offset))
 | [],_=>rfl
 | f :: fs,h=>by
   simp only [ZCl,Zzn,bne_iff_ne,ne_eq] at h;simp only [Op.eqFields,ZAj,Zlx,ne_eq,h.1,not_false_eq_true,Zzt,Zgy fs h.2];congr 1;funext a;congr 1;funext b;congr 1;funext r;cases r<;>rfl
theorem Zqf {d n:Nat} {t e:TypeId} {sz:Nat} {vs us:Array Value} (hu:P.underlying t=some (.array n e)) (hsz:szOf P e=some sz) :
 (Op.equalIn (d+1) t (.agg vs) (.agg us)).run P w=(Zlx d vs us ((List.range n).map λi=>(e,i*sz))).run P w:=by
 unfold Op.equalIn;simp only [Zzk,Zzl hu,Zzj,Zah hsz,Std.Legacy.Range.forIn_eq_forIn_range',Std.Legacy.Range.size,ZB3,Nat.add_one_sub_one,ZCv,List.range_eq_range'];generalize List.range' 0 n=l
 induction l generalizing w with
 | nil=>rfl
 | cons i l ih =>
   simp only [List.forIn_cons,ZAj,Zlx,Zzk]
   cases (part e vs (i*sz)).run P w with
   | halt x w1=>rfl
   | ok a w1 =>
     simp only [Zzj]
     cases (part e us (i*sz)).run P w1 with
     | halt x w2=>rfl
     | ok b w2 =>
       simp only [Zzj]
       cases (Op.equalIn d e a b).run P w2 with
       | halt x w3=>rfl
       | ok r w3 =>
         cases r
         ·rfl
         ·simp only [Zzj,ZCm,Zzf,Zzp,Zzt,Zzk,Zzs];exact ih
theorem Zps {t:TypeId} {xs ys:List AV} {vs us:Array Value} {R:Bool→Res} {dst:Option Nat} (hx:CLs w imm xs vs) (hy:CLs w imm ys us) (hK:aRes P tok dst (Zrh P t xs ys R) K st) :
 ∃b,aRes P tok dst (R b) K st∧(Op.equalIn 10000 t (.agg vs) (.agg us)).run P w=.ok b w∧P.eqGuardType P.depth t=false:=by
 unfold Zrh at hK;split at hK
 ·rename_i fs hu;obtain⟨ht,hK⟩:=hK;simp only [eqTy,hu,Zzn,ZAv] at ht;obtain⟨h1,h2,h3⟩:=ht;have hf:P.fieldsOf t=fs:=by simp [Program.fieldsOf,hu]
  obtain⟨b,h4,h5⟩:=Zh6 (d:=9998) hx hy _ _ hK;refine⟨b,h4,?_,h1⟩;rw [show(10000:Nat)=9999+1 from rfl,run_equalIn_agg (P:=P) w 9999 t vs us (by rw [hf];exact hu) h2,hf,Zgy _ h3];exact h5
 ·rename_i n e hu;split at hK
  ·rename_i sz hsz;obtain⟨ht,hK⟩:=hK;simp only [eqTy,hu,Zzn,ZAv,and_true] at ht;obtain⟨b,h4,h5⟩:=Zh6 (d:=9998) hx hy _ _ hK;refine⟨b,h4,?_,ht⟩;rw [show(10000:Nat)=9999+1 from rfl,Zqf hu hsz];exact h5
  ·exact hK.elim
 ·exact hK.elim
theorem s_bin {op:BinOp} {t:TypeId} {p q:Operand} {xv yv:AV} {x y:Value} (h:Rel c n st a w imm) (hd:∀d,o.dst=some d→d < n) (hK:aRes P tok o.dst (Zmn P op t xv yv) K st) (hx:Rs w imm xv x) (hy:Rs w imm yv y) :
 o.upon P a (Zby c n K) Q (((do pure (Next.value (←(do eqGuard op t p q x y;binOp op t x y)))):Sem Next).run P w):=by
 unfold Zmn at hK;split at hK
 ·rename_i k i k' j;have:=hx.v_inv;subst this;have:=hy.v_inv;subst this;split at hK
  ·obtain⟨h0,hK⟩:=hK;refine Zae h hd hK ?_ (.pure (.v _));have:¬j < 0:=zo;simp [eqGuard,binOp,Op.shift,this,shlI,shrI]
  ·obtain⟨h0,hK⟩:=hK;refine Zae h hd hK ?_ (.pure (.v _));have:¬j < 0:=zo;simp [eqGuard,binOp,Op.shift,this,shlI,shrI]
  ·obtain⟨rfl,hK⟩:=hK;unfold Zsu at hK;cases op<;>first
    | exact hK.elim
    | (refine Zae h hd hK ?_ (.pure (.v _));simp [eqGuard,binOp,Op.intArith,Op.intBits,Op.intCmp,andI,orI,xorI];done)
    | (obtain⟨h0,hK⟩:=hK;refine Zae h hd hK ?_ (.pure (.v _));simp [eqGuard,binOp,Op.intDiv,h0];done)
 ·rename_i s1 s2;have:=hx.v_inv;subst this;have:=hy.v_inv;subst this;unfold Zrw at hK;cases op<;>first
   | exact hK.elim
   | (refine Zae h hd hK ?_ (.pure (.v _));simp [eqGuard,binOp,Op.stringOp];done)
   | (obtain⟨h0,hK⟩:=hK
      refine Zae h hd hK ?_ (.pure (.v _))
      have:¬(IntKind.i64.max < ((s1.size+s2.size:Nat):Int)):=by
       have:IntKind.i64.max=9223372036854775807:=by decide
       omega
      simp only [eqGuard,binOp,Op.stringOp,GT.gt,this,Zzp];simp)
 ·rename_i b1 b2;have:=hx.v_inv;subst this;have:=hy.v_inv;subst this;split at hK
  ·rename_i hu;refine Zae h hd hK ?_ (.pure (.v _));simp [eqGuard,binOp,Zhp hu]
  ·rename_i hu;refine Zae h hd hK ?_ (.pure (.v _));simp [eqGuard,binOp,Zhp hu]
  ·exact hK.elim
 ·rename_i xs ys;obtain⟨vs,rfl,hl1,hr1⟩:=hx.agg_inv;obtain⟨us,rfl,hl2,hr2⟩:=hy.agg_inv;split at hK
  ·obtain⟨b,h1,h2,h3⟩:=Zps ⟨hl1,hr1⟩ ⟨hl2,hr2⟩ hK;refine Zae h hd h1 ?_ (.pure (.v _));simp only [Zzk,run_eqGuard_agg (P:=P) w _ t p q vs us h3,Zzj,run_eql_struct,h2]
  ·obtain⟨b,h1,h2,h3⟩:=Zps ⟨hl1,hr1⟩ ⟨hl2,hr2⟩ hK;refine Zae h hd h1 ?_ (.pure (.v _));simp only [Zzk,run_eqGuard_agg (P:=P) w _ t p q vs us h3,Zzj,run_neq_struct,h2]
  ·exact hK.elim
 ·rename_i mm es;obtain⟨A,cap,f,rfl,_,_,_,hA,_⟩:=hx.sl_inv;have:=hy.v_inv;subst this;split at hK
  ·rename_i e hu;obtain⟨h0,hK⟩:=hK;refine Zae h hd hK ?_ (.pure (.v _));have hA:=hA h0
   cases A with
   | none=>exact absurd rfl hA
   | some ad=>simp [eqGuard,binOp,Zoh hu]
  ·exact hK.elim
 ·have:=hx.v_inv;subst this;have:=hy.v_inv;subst this;split at hK
  ·rename_i e hu;refine Zae h hd hK ?_ (.pure (.v _));simp [eqGuard,binOp,Zmy hu]
  ·exact hK.elim
 ·exact hK.elim
theorem s_un {op:UnOp} {xv:AV} {x:Value} (h:Rel c n st a w imm) (hd:∀d,o.dst=some d→d < n) (hK:aRes P tok o.dst (Ztj op xv) K st) (hx:Rs w imm xv x) :
 o.upon P a (Zby c n K) Q (((do pure (Next.value (←Op.unary op x))):Sem Next).run P w):=by
 unfold Ztj at hK;split at hK
 ·have:=hx.v_inv;subst this;exact Zae h hd hK (by simp [Op.unary]) (.pure (.v _))
 ·have:=hx.v_inv;subst this;exact Zae h hd hK (by simp [Op.unary,Op.intArith]) (.pure (.v _))
 ·exact hK.elim
theorem Zn7:∀{es:List AV} {ns:List Int},Ztk es=some ns→es=ns.map λn=>AV.v (.int .u8 n)
 | [],ns,h=>by
   simp only [Ztk,Option.some.injEq] at h;subst h;rfl
 | a :: r,ns,h=>by
   unfold Ztk at h;split at h
   ·cases ‹_ :: _=[]›
   ·rename_i n r' e;cases e;obtain⟨ms,hm,rfl⟩:=Option.map_eq_some_iff.1 h;rw [Zn7 hm];rfl
   ·cases h
theorem s_conv {s d:TypeId} {xv:AV} {x:Value} (h:Rel c n st a w imm) (hd:∀d,o.dst=some d→d < n) (hK:aRes P tok o.dst (Zn0 P st.mem s d xv) K st) (hx:Rs w imm xv x) :
 o.upon P a (Zby c n K) Q (((do pure (Next.value (←convert s d x))):Sem Next).run P w):=by
 unfold Zn0 at hK;split at hK
 ·rename_i u k k' i hsu hu;have:=hx.v_inv;subst this;exact Zae h hd hK (by simp [convert,Zzl hsu,Zzl hu,Conv.intToInt]) (.pure (.v _))
 ·rename_i u i hsu hu;have:=hx.v_inv;subst this;exact Zae h hd hK (by simp [convert,Zzl hsu,Zzl hu]) (.pure (.v _))
 ·rename_i e hsu hu _;split at hK
  ·rename_i hue;obtain⟨es,A,cp,xs,hK,hsrc⟩:=Zfa h.mem hx hK;unfold Zmx at hK;split at hK
   ·rename_i ns hns;have hes:=Zn7 hns;subst hes;have hval:=hsrc.val;subst hval;refine Zae h hd hK ?_ (.pure (.v _))
    have hb:(Conv.bytesToString (.slice A (ns.map λn=>AV.v (.int .u8 n)).length cp)).run P w=.ok (.string (strOf ns)) w:=by
     cases A with
     | none =>
       have h0:ns=[]:=by
        cases ns with
        | nil=>rfl
        | cons x r=>exact absurd rfl (hsrc.some_ zs)
       subst h0;rfl
     | some ad =>
       refine run_bytesToString w ad _ cp ns ?_
       have hxs:xs=ns.map (Value.int .u8):=by
        refine List.ext_getElem? λj=>?_;have hl:=hsrc.len;by_cases hj:j < ns.length
        ·have hj2:j < xs.length:=by rw [hl];simpa using hj
         have hr:=hsrc.rd j (.v (.int .u8 ns[j])) xs[j] (by
          have:flat (ns.map λn=>AV.v (.int .u8 n))=ns.map λn=>AV.v (.int .u8 n):=by
           unfold flat;clear hns hK hsrc hl hj hj2 hx
           induction ns with
           | nil=>rfl
           | cons a l ih=>simp only [ZAj,ZB9,ih];rfl
          rw [this,ZAb,Zy4 hj];rfl) (Zy4 hj2)
         have hv:xs[j]=.int .u8 ns[j]:=(Rs.pure hr).v_inv;rw [Zy4 hj2,ZAb,Zy4 hj,hv];rfl
        ·rw [ZAf (by rw [hl];simp;omega),ZAf (by simp;omega)]
       have:=run_loadCells_list (P:=P) w ad xs λj v hv=>hsrc.cell ad rfl j v hv;rw [hsrc.len,ZCb] at this;rw [this,hxs]
    simp only [run_convert_bytes_string (P:=P) w s d e A _ cp hsu hue hu,Zzk,hb,Zzj,Zzs]
   ·exact hK.elim
  ·exact hK.elim
 ·exact hK.elim
end
section
variable {P:Program} {c:Cx} {n tok:Nat} {st:St} {a:Act} {w:World} {imm:Imm} {K:St→Prop} {o:Oper} {Q:Exit→Act→World→Prop}
theorem Ze0 {lo:Option AV} {R:Int→Res} {dst:Option Nat} (hK:aRes P tok dst (Zef lo R) K st):∃l:Int,aRes P tok dst (R l) K st∧((lo=none∧l=0)∨∃k,lo=some (.v (.int k l))):=by
 unfold Zef at hK;split at hK
 ·exact⟨0,hK,.inl ⟨rfl,rfl⟩⟩
 ·rename_i k l;exact⟨l,hK,.inr ⟨k,rfl⟩⟩
 ·exact hK.elim
theorem Zde {len:Nat} {hi:Option AV} {R:Int→Res} {dst:Option Nat} (hK:aRes P tok dst (Zdn len hi R) K st):∃l:Int,aRes P tok dst (R l) K st∧((hi=none∧l=len)∨∃k,hi=some (.v (.int k l))):=by
 unfold Zdn at hK;split at hK
 ·exact⟨len,hK,.inl ⟨rfl,rfl⟩⟩
 ·rename_i k l;exact⟨l,hK,.inr ⟨k,rfl⟩⟩
 ·exact hK.elim
theorem Zyo {b:Option Operand} {k:IntKind} {l:Int} (h:Rel c n st a w imm) (hb:b.map st.ev=some (.v (.int k l))):b.map a.eval=some (.int k l):=by
 cases b with
 | none=>cases hb
 | some x =>
   simp only [ZAq,Option.some.injEq] at hb ⊢;have:=h.ev x;rw [hb] at this;exact this.v_inv
theorem Zdz {len cap:Nat} {lo hi mx:Option Value} {l hh m:Nat} (is:Bool) (hl:(lo=none∧l=0)∨∃k,lo=some (.int k l)) (hhi:(hi=none∧hh=len)∨∃k,hi=some (.int k hh))
 (hm:(mx=none∧m=cap)∨∃k,mx=some (.int k m)) (h1:l≤hh) (h2:hh≤m) (h3:m≤cap) (h4:mx.isSome=true→hi.isSome=true) :
 (Instr.sliceBounds is len cap lo hi mx).run P w=.ok (l,hh,m) w:=by
 have b:∀(k:IntKind) (i y:Nat) (code:BoundsCode),i≤y→(Instr.sliceBound (.int k i) y code).run P w=.ok i w:=by
  intro k i y code hi;have:((i:Int)≤(y:Int)):=zo;simp [Instr.sliceBound,asIntOf,this]
 rcases hm with⟨rfl,rfl⟩ | ⟨km,rfl⟩<;>rcases hhi with⟨rfl,rfl⟩ | ⟨kh,rfl⟩<;>rcases hl with⟨rfl,rfl⟩ | ⟨kl,rfl⟩<;>first
  | (simp only [Instr.sliceBounds,Zzk,Zzs,Zzj,b _ _ _ _ h1,b _ _ _ _ h2,b _ _ _ _ h3,b _ _ _ _ (Zzg h2 h3)];done)
  | (simp at h4;done)
theorem Ze2 {t e:TypeId} {sz:Nat} {A:Option Addr} {len cap:Nat} {lo hi mx:Option Value} {l hh m:Nat} (hu:P.underlying t=some (.slice e)) (hsz:szOf P e=some sz)
 (hb:(Instr.sliceBounds true len cap lo hi mx).run P w=.ok (l,hh,m) w) :
 (Instr.sliceAt t (.slice A len cap) lo hi mx).run P w=.ok (.slice (if m=l then A else A.map (·.add (l*sz))) (hh - l) (m - l)) w:=by
 simp only [Instr.sliceAt,Zzk,Zzl hu,Zzj,Instr.slice,hb,Zah hsz,Zzs]
theorem cut_rd {m:Nat} {es:List AV} {A:Option Addr} {cap l hh mm:Nat} (h:Rd w imm (.sl m es) (.slice A es.length cap)) (h1:l≤hh) (h2:hh≤es.length) (h3:hh≤mm) :
 Rd w imm (.sl m ((es.take hh).drop l)) (.slice (if mm=l then A else A.map (·.add (l*m))) (hh - l) (mm - l)):=by
 obtain⟨A',cap',f,hv,hcap,hm,hok,hn,hA,hr⟩:=(Rs.pure h).sl_inv;cases hv;have hlen:((es.take hh).drop l).length=hh - l:=by simp;omega
 rw [←hlen];have hsub:∀e∈(es.take hh).drop l,e∈es:=λe he=>ZAe (ZBl he)
 have hfl:∀(j:Nat) (b:AV),(flat ((es.take hh).drop l))[j]?=some b→(flat es)[l*m+j]?=some b:=by
  intro j b hb
  have e1:flat es=flat (es.take l)++(flat ((es.take hh).drop l)++flat (es.drop hh)):=by
   rw [←Zbn,←Zbn];congr 1;have e2:es.take l=(es.take hh).take l:=by rw [List.take_take,ZAy h1]
   rw [e2,←ZAa,ZBf,ZBf]
  have hl1:(flat (es.take l)).length=l*m:=by
   rw [Za0 λe he=>hm e (ZAe he),Zzh,ZAy zo]
  rw [e1,ZAd zo,hl1,ZCa,Zz8 (Zbp hb)];exact hb
 refine .sl m _ _ _ (λj=>f (l*m+j)) (λe he=>hm e (hsub e he)) (λe he=>hok e (hsub e he)) (by rw [hlen];omega) (λh4=>?_) (λj hj=>?_) λj b hb=>hr _ b (hfl j b hb)
 ·rw [hlen] at h4;rw [Zy0 zo];have:=hn zo
  cases A with
  | none=>exact absurd rfl this
  | some ad=>simp
 ·rw [hlen] at hj
  have hlt:l < hh:=by
   rcases Zzo l hh with h5 | h5
   ·exact h5
   ·have:hh - l=0:=zo;rw [this] at hj;omega
  rw [Zy0 zo];have hmul:l*m+(hh - l)*m≤es.length*m:=by rw [←Zzw];exact Zzx _ zo
  obtain⟨ad,rfl,h6,h7⟩:=hA (l*m+j) zo;exact⟨_,rfl,by rw [Zev];exact h6,by rw [Zev];exact h7⟩
theorem s_slice {t:TypeId} {p:Operand} {lo hi mx:Option Operand} (h:Rel c n st a w imm) (hd:∀d,o.dst=some d→d < n) (hK:aRes P tok o.dst (Zg6 P st t (st.ev p) (lo.map st.ev) (hi.map st.ev) (mx.map st.ev)) K st) :
 o.upon P a (Zby c n K) Q (((do pure (Next.value (←Instr.sliceAt t (a.eval p) (lo.map a.eval) (hi.map a.eval) (mx.map a.eval)))):Sem Next).run P w):=by
 have hx:=h.ev p
 have conv:∀{b:Option Operand} {l:Int} {d:Nat},((b.map st.ev=none∧l=d)∨∃k,b.map st.ev=some (.v (.int k l)))→0≤l→((b.map a.eval=none∧l.toNat=d)∨∃k,b.map a.eval=some (.int k (l.toNat:Nat))):=by
  intro b l d hb h0;rcases hb with⟨h1,h2⟩ | ⟨k,h1⟩
  ·cases b with
   | none=>exact .inl ⟨rfl,zo⟩
   | some x=>cases h1
  ·exact .inr ⟨k,by rw [Zyo h h1];congr 2;omega⟩
 have isS:∀{b:Option Operand},(b.map st.ev).isSome=(b.map a.eval).isSome:=by intro b;cases b<;>rfl
 unfold Zg6 at hK;split at hK
 ·rename_i s hu hxx;rw [hxx] at hx;split at hK
  ·rename_i hmx;obtain⟨l,hK,hl⟩:=Ze0 hK;obtain⟨hh,hK,hhi⟩:=Zde hK;obtain⟨⟨h0,h1,h2⟩,hK⟩:=hK;have:=hx.v_inv;rw [this];have hmx2:mx.map a.eval=none:=by cases mx<;>simp_all
   have hb:=Zdz (P:=P) (w:=w) (len:=s.size) (cap:=s.size) (m:=s.size) false (conv (d:=0) (by simpa using hl) h0) (conv hhi zo) (.inl ⟨rfl,rfl⟩) (show l.toNat≤hh.toNat by omega) zo (Zy5 _) zs;refine Zae h hd hK ?_ (.pure (.v _));simp only [Instr.sliceAt,Zzk,Zzl hu,Zzj,Instr.slice,hmx2,Option.isSome_none,Zzf,Zzp,Zzs,hb]
  ·exact hK.elim
 ·rename_i e m es hu hxx;rw [hxx] at hx;split at hK
  ·rename_i m' hsz;obtain⟨l,hK,hl⟩:=Ze0 hK;obtain⟨hh,hK,hhi⟩:=Zde hK;obtain⟨m2,hK,hm2⟩:=Zde hK;obtain⟨⟨rfl,h0,h1,h2,h3,h4⟩,hK⟩:=hK;obtain⟨A,cap,f,hv,hcap,hrest⟩:=hx.sl_inv;rw [hv]
   have hrd:Rd w imm (.sl m' es) (.slice A es.length cap):=by
    have:=hx;rw [hv] at this;cases this with | pure h=>exact h
   have hmm:(mx.map a.eval=none∧(if (mx.map a.eval).isSome then m2.toNat else cap)=cap)∨∃k,mx.map a.eval=some (.int k ((if (mx.map a.eval).isSome then m2.toNat else cap:Nat):Int)):=by
    rcases conv hm2 zo with⟨h5,_⟩ | ⟨k,h5⟩
    ·exact .inl ⟨h5,by rw [h5];rfl⟩
    ·exact .inr ⟨k,by rw [h5];rfl⟩
   have hmb:hh.toNat≤(if (mx.map a.eval).isSome then m2.toNat else cap):=by split<;>omega
   have hb:=Zdz (P:=P) (w:=w) (len:=es.length) (cap:=cap) true (conv (d:=0) (by simpa using hl) h0) (conv hhi zo) hmm (show l.toNat≤hh.toNat by omega) hmb (by split<;>omega) (by rw [←isS,←isS];exact h4);exact Zae h hd hK (Ze2 hu hsz hb) (.pure (cut_rd hrd zo zo hmb))
  ·exact hK.elim
 ·rename_i e k sv hu hxx;rw [hxx] at hx;split at hK
  ·rename_i sv' e' m es pub m' hk hsz;split at hK
   ·rename_i hmx;obtain⟨l,hK1,hl⟩:=Ze0 hK;obtain⟨hh,hK2,hhi⟩:=Zde hK1;obtain⟨⟨rfl,rfl,h0,h1,h2⟩,hK4⟩:=hK2;have hv:=hx.own_inv;rw [hv];obtain⟨A,cap,xs,hsrc,hcap,hown⟩:=Zkh h.mem hk;have hval:=hsrc.val;subst hval;have hmx2:mx.map a.eval=none:=by cases mx<;>simp_all
    have hb:=Zdz (P:=P) (w:=w) (len:=es.length) (cap:=cap) (m:=cap) true (conv (d:=0) (by simpa using hl) h0) (conv hhi zo) (.inl ⟨hmx2,rfl⟩) (show l.toNat≤hh.toNat by omega) zo (Zy5 _) (by rw [hmx2];simp);refine Zae h hd hK4 (Ze2 hu hsz hb) (.view k _ m' _ _ _ ?_);rcases hown.2 with⟨h5,h6⟩ | ⟨g,cap',cur,h5,_⟩
    ·simp only [Value.slice.injEq] at h5;obtain⟨rfl,_,rfl⟩:=h5;refine .inl ⟨by rw [h6],zo,zo,?_⟩;have e1:hh.toNat - l.toNat=0:=zo;rw [e1,h6];split<;>simp
    ·simp only [Value.slice.injEq,true_and] at h5;obtain⟨rfl,rfl⟩:=h5;refine .inr ⟨g,es.length,cap,if cap=l.toNat then 0 else l.toNat*m',cap - l.toNat,rfl,?_,zo,zo,λh6=>by rw [Zy0 zo],λh6=>⟨by rw [h6];simp,zo⟩⟩;split
     ·rfl
     ·simp [ZAl]
   ·exact hK.elim
  ·exact hK.elim
 ·rename_i e k sv m i len hu hxx;rw [hxx] at hx;split at hK
  ·rename_i m' hsz hmx;obtain⟨l,hK1,hl⟩:=Ze0 hK;obtain⟨hh,hK2,hhi⟩:=Zde hK1;obtain⟨⟨rfl,h0,h1,h2⟩,hK4⟩:=hK2;have hmx2:mx.map a.eval=none:=by cases mx<;>simp_all
   rcases hx.view_inv with⟨rfl,rfl,rfl,hv⟩ | ⟨g,nn,cc,off,cap,rfl,hv,hle,hlc,hoff,hz0⟩
   ·rw [hv];have hb:=Zdz (P:=P) (w:=w) (len:=0) (cap:=0) (m:=0) true (conv (d:=0) (by simpa using hl) h0) (conv hhi zo) (.inl ⟨hmx2,rfl⟩) (show l.toNat≤hh.toNat by omega) zo (Zy5 _) (by rw [hmx2];simp);refine Zae h hd hK4 (Ze2 hu hsz hb) (.view k _ m' _ _ _ (.inl ⟨rfl,zo,zo,?_⟩));have e1:hh.toNat - l.toNat=0:=zo;rw [e1,Nat.zero_sub];split<;>rfl
   ·rw [hv];have hb:=Zdz (P:=P) (w:=w) (len:=len) (cap:=cap) (m:=cap) true (conv (d:=0) (by simpa using hl) h0) (conv hhi zo) (.inl ⟨hmx2,rfl⟩) (show l.toNat≤hh.toNat by omega) zo (Zy5 _) (by rw [hmx2];simp);refine Zae h hd hK4 (Ze2 hu hsz hb) (.view k _ m' _ _ _ (.inr ⟨g,nn,cc,if cap=l.toNat then off else off+l.toNat*m',cap - l.toNat,rfl,?_,zo,zo,λh6=>?_,λh6=>?_⟩))
    ·split
     ·rfl
     ·simp [ZAl]
    ·rw [Zy0 zo,hoff zo,Zzw]
    ·have e1:i=0:=zo;have e2:l.toNat=0:=zo;obtain⟨e3,e4⟩:=hz0 e1;rw [e2,e3,e4];simp
  ·exact hK.elim
 ·rename_i e hu hxx;rw [hxx] at hx;split at hK
  ·rename_i sz hsz;obtain⟨l,hK1,hl⟩:=Ze0 hK;obtain⟨hh,hK2,hhi⟩:=Zde hK1;obtain⟨m2,hK3,hm2⟩:=Zde hK2;obtain⟨⟨h5,h6,h7,h4⟩,hK4⟩:=hK3;have hv:=hx.v_inv;rw [hv];have hb:=Zdz (P:=P) (w:=w) (len:=0) (cap:=0) (l:=l.toNat) (hh:=hh.toNat) (m:=m2.toNat) true (conv (d:=0) (by simpa using hl) zo) (conv hhi zo) (conv hm2 zo) zo zo zo (by rw [←isS,←isS];exact h4);refine Zae h hd hK4 (Ze2 hu hsz hb) ?_;have e1:hh.toNat - l.toNat=0:=zo;have e2:m2.toNat - l.toNat=0:=zo;rw [e1,e2];have e3:(if m2.toNat=l.toNat then (none:Option Addr) else Option.map (λx:Addr=>x.add (l.toNat*sz)) none)=none:=by split<;>rfl
   rw [e3];exact .pure (.v _)
  ·exact hK.elim
 ·rename_i nn e k g off hu hxx;rw [hxx] at hx;split at hK
  ·rename_i m cs hlo hhi hmx hsz hcs;obtain⟨⟨rfl,hn,h0,hpub,hone⟩,hK⟩:=hK;have hv:=hx.pbox_inv;have e1:lo.map a.eval=none:=by cases lo<;>simp_all
   have e2:hi.map a.eval=none:=by cases hi<;>simp_all
   have e3:mx.map a.eval=none:=by cases mx<;>simp_all
   have hrun:(Instr.sliceAt t (a.eval p) (lo.map a.eval) (hi.map a.eval) (mx.map a.eval)).run P w=.ok (.slice (some ⟨g,off,none⟩) nn nn) w:=by
    have hb:=Zdz (P:=P) (w:=w) (len:=nn) (cap:=nn) (lo:=none) (hi:=none) (mx:=none) (l:=0) (hh:=nn) (m:=nn) false (.inl ⟨rfl,rfl⟩) (.inl ⟨rfl,rfl⟩) (.inl ⟨rfl,rfl⟩) (Zzb _) (Zy5 _) (Zy5 _) zs;have e4:(if nn=0 then (⟨g,off,none⟩:Addr) else Addr.add ⟨g,off,none⟩ (0*1))=⟨g,off,none⟩:=by split<;>simp [ZAl]
    rw [hv,e1,e2,e3];simp only [Instr.sliceAt,Zzk,Zzl hu,Zzj,Instr.sureAddr,Zzs,hb,Zah hsz,e4,ZB3]
   rw [Zzk,hrun,Zzj];refine Zc8 h hd hK λi' hm' hk'=>?_;have hrd:=Zgf hm' (hk'.rs hx) hpub;rw [hcs,hv] at hrd;obtain⟨ad,f,he,hA,hr⟩:=(Rs.pure hrd).pimm_inv;have had:ad=⟨g,off,none⟩:=by simpa using he.symm
   subst had;rw [←hn];have hone':∀x∈cs,x.one=true:=λx hx=>List.all_eq_true.1 hone x hx;have hc1:∀x∈cs,x.cells=[x]:=λx hx=>by
    have:=hone' x hx;cases x<;>simp [AV.one] at this<;>rfl
   have hfl:flat cs=cs:=by
    clear hA hr hcs hn hone hone' hrd he h0 hK hpub;unfold flat
    induction cs with
    | nil=>rfl
    | cons x cs ih=>rw [ZB9,hc1 x (.head _),ih λy hy=>hc1 y (.tail _ hy)];rfl
   refine .pure (.sl 1 cs (some ⟨g,off,none⟩) cs.length f (λx hx=>by rw [hc1 x hx];rfl) (λx hx=>?_) (Zy5 _) (λ_=>by simp) (λj hj=>⟨_,rfl,hA j zo⟩) λj b hb=>?_)
   ·have:=hone' x hx;cases x<;>simp [AV.one] at this<;>simp [AV.ok,AV.one, *]
   ·rw [hfl] at hb;exact hr j b hb
  ·exact hK.elim
 ·exact hK.elim
end
theorem Zna (w:World) (imm:Imm) (z:Value):Rs w imm (AV.ofVal z) z:=by
 cases z<;>first
  | exact .pure (.v _)
  | (rename_i cs
     refine .pure (.agg _ cs zs λj a x h1 h2=>?_);simp only [ZAb,ZBv,h2,ZAq,Option.some.injEq] at h1;subst h1;exact .v _)
def CL (w:World) (imm:Imm) (cs:List AV) (vs:Array Value):Prop:=cs.length=vs.size∧∀(j:Nat) (b:AV) (y:Value),cs[j]?=some b→vs[j]?=some y→Rs w imm b y
theorem Zf7 {w:World} {imm:Imm} (z:Value):CL w imm (AV.ofVal z).cells z.cells:=by
 have h:=Zna w imm z;cases z<;>first
  | (rename_i cs
     obtain⟨vs,hv,hl,hr⟩:=h.agg_inv;cases hv;exact⟨hl,hr⟩)
  | (refine⟨rfl,λj b y hb hy=>?_⟩
     simp only [AV.ofVal,AV.cells,Value.cells] at hb hy
     match j with
     | 0=>simp at hb hy;subst hb;subst hy;exact .pure (.v _)
     | j+1=>simp at hb)
theorem Zpq (off:Nat) (vs:Array Value) (cs:Array Value) (h:off+vs.size≤cs.size) (j:Nat) :
 (vs.zipIdx.foldl (λcs (x:Value × Nat)=>cs.setIfInBounds (off+x.2) x.1) cs)[j]?=if off≤j∧j < off+vs.size then vs[j - off]? else cs[j]?:=by
 have key:∀(l:List Value) (k:Nat) (cs:Array Value),off+k+l.length≤cs.size→∀j,((l.zipIdx k).foldl (λcs (x:Value × Nat)=>cs.setIfInBounds (off+x.2) x.1) cs)[j]?=if off+k≤j∧j < off+k+l.length then l[j - (off+k)]? else cs[j]?:=by
  intro l
  induction l with
  | nil=>intro k cs _ j;simp;omega
  | cons x l ih =>
    intro k cs hle j;simp only [Zze] at hle;simp only [List.zipIdx_cons,ZDr,Zze];rw [ih (k+1) _ (by simp;omega) j];by_cases h1:off+(k+1)≤j∧j < off+(k+1)+l.length
    ·rw [Zy1 h1,Zy1 zo];have:j - (off+k)=(j - (off+(k+1)))+1:=zo;rw [this,ZC4]
    ·rw [Zy0 h1,ZDx];by_cases h2:off+k=j
     ·subst h2;rw [Zy1 rfl,Zy1 zo,Zy1 zo];simp
     ·rw [Zy0 h2,Zy0 zo]
 have:=key vs.toList 0 cs (by simpa using h) j;rw [←Array.foldl_toList,Array.toList_zipIdx]
 simpa using this
theorem Zlc (off:Nat) (vs:Array Value) (cs:Array Value):(vs.zipIdx.foldl (λcs (x:Value × Nat)=>cs.setIfInBounds (off+x.2) x.1) cs).size=cs.size:=by
 rw [←Array.foldl_toList];generalize vs.zipIdx.toList=l
 induction l generalizing cs with
 | nil=>rfl
 | cons x l ih=>simp only [ZDr];rw [ih];simp
section
variable {P:Program} {c:Cx} {n tok:Nat} {st:St} {a:Act} {w:World} {imm:Imm} {K:St→Prop} {o:Oper} {Q:Exit→Act→World→Prop}
theorem Zld {place:Nat→Option (Nat × Nat)} {R:List AV→Res} {dst:Option Nat}:∀(parts:List (Nat × AV)) (vals:List (Nat × Value)) (cs:List AV) (vs:Array Value),
 CL w imm cs vs→parts.length=vals.length→(∀(j:Nat) (p:Nat × AV) (q:Nat × Value),parts[j]?=some p→vals[j]?=some q→p.1=q.1∧Rs w imm p.2 q.2) →
 aRes P tok dst (Zul place cs parts R) K st→∃cs' vs',Instr.fill place vs vals=some vs'∧CL w imm cs' vs'∧aRes P tok dst (R cs') K st
 | [],[],cs,vs,hcl,_,_,hK=>⟨cs,vs,rfl,hcl,hK⟩
 | [],q :: vals,_,_,_,hl,_,_=>by simp at hl
 | (i,b) :: parts,[],_,_,_,hl,_,_=>by simp at hl
 | (i,b) :: parts,q :: vals,cs,vs,hcl,hl,hr,hK=>by
   obtain⟨h1,h2⟩:=hr 0 (i,b) q rfl rfl;simp only at h1 h2;subst h1;simp only [Zul] at hK
   cases hp:place q.1 with
   | none=>rw [hp] at hK;exact hK.elim
   | some os =>
     obtain⟨off,sz⟩:=os;rw [hp] at hK;obtain⟨⟨hok,hsz,hfit⟩,hK⟩:=hK;obtain⟨hlc,hrc,_⟩:=h2.cells_of hok;have hfit':off+b.cells.length≤cs.length:=zo;obtain⟨cs',vs',e1,e2,e3⟩:=Zld parts vals (Zei cs off b.cells) (q.2.cells.zipIdx.foldl (λcs (x:Value × Nat)=>cs.setIfInBounds (off+x.2) x.1) vs)
      ⟨by rw [Zep hfit',Zlc];exact hcl.1,λj x y hx hy=>by
       rw [Zg5 hfit'] at hx;rw [Zpq off q.2.cells vs (by rw [←hcl.1,←hlc];exact hfit'),←hlc] at hy;split at hx
       ·rename_i hc;rw [Zy1 hc] at hy;exact hrc _ x y hx hy
       ·rename_i hc;rw [Zy0 hc] at hy;exact hcl.2 j x y hx hy⟩ (by simpa using hl) (λj p q' hp hq=>hr (j+1) p q' (by simpa using hp) (by simpa using hq)) hK
     refine⟨cs',vs',?_,e2,e3⟩;simp only [Instr.fill,hp];have h5:=hcl.1;rw [Zy0 (by simp;omega)];exact e1
theorem Zot {parts:Array (Nat × Operand)} (h:Rel c n st a w imm):((parts.toList.map λp=>(p.1,st.ev p.2)).length=(parts.map fun(i,x)=>(i,a.eval x)).toList.length) ∧
 ∀(j:Nat) (p:Nat × AV) (q:Nat × Value),(parts.toList.map λp=>(p.1,st.ev p.2))[j]?=some p→(parts.map fun(i,x)=>(i,a.eval x)).toList[j]?=some q→p.1=q.1∧Rs w imm p.2 q.2:=by
 refine⟨by simp,λj p q hp hq=>?_⟩;simp only [Array.toList_map,ZAb] at hp hq;rcases hx:parts.toList[j]? with _ | x
 ·rw [hx] at hp;cases hp
 ·rw [hx] at hp hq;simp only [ZAq,Option.some.injEq] at hp hq;subst hp;subst hq;exact⟨rfl,h.ev _⟩
theorem Zq7 {fields:Array Field} (hall:(fields.toList.all λf=>(szOf P f.type).isSome)=true) :
 (fields.mapM λf=>(do pure (f.offset,←sizeOf f.type):Sem (Nat × Nat))).run P w=.ok (fields.map λf=>(f.offset,(szOf P f.type).getD 0)) w:=by
 have key:∀(l:List Field),(∀f∈l,(szOf P f.type).isSome=true)→(l.mapM λf=>(do pure (f.offset,←sizeOf f.type):Sem (Nat × Nat))).run P w=.ok (l.map λf=>(f.offset,(szOf P f.type).getD 0)) w:=by
  intro l
  induction l with
  | nil=>intro _;rfl
  | cons f l ih =>
    intro hl;have h1:=hl f (ZAc ..);obtain⟨s,hs⟩:=Option.isSome_iff_exists.1 h1;have h2:=ih λg hg=>hl g (ZAr _ hg);rw [List.mapM_cons];simp only [Zzk,Zah hs,Zzj,Zzs,h2,ZAj,hs,ZAs]
 have h:=key fields.toList λf hf=>List.all_eq_true.1 hall f hf;rw [Array.mapM_eq_mapM_toList];simp only [Sem.run_map,h,Zzj];congr 1;apply Array.ext';simp
theorem s_build {t:TypeId} {parts:Array (Nat × Operand)} (h:Rel c n st a w imm) (hd:∀d,o.dst=some d→d < n) (hK:aRes P tok o.dst (Zj7 P t (parts.toList.map λp=>(p.1,st.ev p.2))) K st) :
 o.upon P a (Zby c n K) Q (((do pure (Next.value (←Instr.build t (parts.map fun(i,x)=>(i,a.eval x))))):Sem Next).run P w):=by
 obtain⟨hpl,hpr⟩:=Zot (parts:=parts) h;unfold Zj7 at hK;split at hK
 ·rename_i fields z hu hz;obtain⟨hall,hK⟩:=hK
  have hpe:(λi:Nat=>(fields[i]?).bind λf:Field=>(szOf P f.type).map λs=>(f.offset,s))=λi:Nat=>((fields.map λf:Field=>(f.offset,(szOf P f.type).getD 0))[i]?):=by
   funext i
   rw [ZC3];rcases hf:fields[i]? with _ | f
   ·rfl
   ·have:(szOf P f.type).isSome=true:=List.all_eq_true.1 hall f (by
     have:=Array.mem_of_getElem? hf;exact Array.mem_toList_iff.2 this)
    obtain⟨s,hs⟩:=Option.isSome_iff_exists.1 this;simp [hs]
  rw [hpe] at hK;obtain⟨cs',vs',e1,e2,e3⟩:=Zld _ _ _ _ (Zf7 z) hpl hpr hK;refine Zae h hd e3 (x:=.agg vs') ?_ (.agg _ _ e2.1 e2.2);simp only [Instr.build,Zzk,Zak hz,Zzj,Zzl hu,Zq7 hall,e1,Zzs]
 ·rename_i len e z hu hz;split at hK
  ·rename_i sz hsz;obtain⟨cs',vs',e1,e2,e3⟩:=Zld _ _ _ _ (Zf7 z) hpl hpr hK;refine Zae h hd e3 (x:=.agg vs') ?_ (.agg _ _ e2.1 e2.2);simp only [Instr.build,Zzk,Zak hz,Zzj,Zzl hu,Zah hsz,e1,Zzs]
  ·exact hK.elim
 ·exact hK.elim
theorem Zmj {σ:Mem} {m:Nat} {R:List AV→Res} {dst:Option Nat} (hm:Mx c σ w imm):∀(parts:List (Nat × AV)) (vals:List (Nat × Value)) (es:List AV) (vs:Array Value),
 (∀e∈es,e.cells.length=m)→(∀e∈es,e.ok=true)→(flat es).length=vs.size→(∀(j:Nat) (b:AV) (y:Value),(flat es)[j]?=some b→vs[j]?=some y→Rd w imm b y) →
 parts.length=vals.length→(∀(j:Nat) (p:Nat × AV) (q:Nat × Value),parts[j]?=some p→vals[j]?=some q→p.1=q.1∧Rs w imm p.2 q.2) →
 aRes P tok dst (Zpr σ m es parts R) K st→∃es' vs',Instr.fill (λi=>some (i*m,m)) vs vals=some vs'∧es'.length=es.length∧(∀e∈es',e.cells.length=m)∧(∀e∈es',e.ok=true)∧vs'.size=vs.size ∧
  (∀(j:Nat) (b:AV) (y:Value),(flat es')[j]?=some b→vs'[j]?=some y→Rd w imm b y)∧aRes P tok dst (R es') K st
 | [],[],es,vs,h1,h2,_,h4,_,_,hK=>⟨es,vs,rfl,rfl,h1,h2,rfl,h4,hK⟩
 | [],q :: vals,_,_,_,_,_,_,hl,_,_=>by simp at hl
 | (i,b) :: parts,[],_,_,_,_,_,_,hl,_,_=>by simp at hl
 | (i,b) :: parts,q :: vals,es,vs,h1,h2,h3,h4,hl,hr,hK=>by
   obtain⟨e1,e2⟩:=hr 0 (i,b) q rfl rfl;simp only at e1 e2;subst e1;simp only [Zpr] at hK;obtain⟨⟨hok,hsz,hi,hpo⟩,hK⟩:=hK;obtain⟨hpok,hpl⟩:=pub_ok hpo hok;have hrd:=Zgf hm e2 hpo;obtain⟨hlc,_,_⟩:=(Rs.pure hrd).cells_of hpok;have hel:(pubV σ b).cells.length=m:=zo;have hfl:=Za0 h1
   have him:q.1*m+m≤es.length*m:=by
    have:(q.1+1)*m≤es.length*m:=Zzx _ hi
    rwa [Zzw,ZA3] at this
   have hs1:∀e∈es.set q.1 (pubV σ b),e.cells.length=m:=λy hy=>by
    rcases ZC2 hy with h5 | rfl
    ·exact h1 y h5
    ·exact hel
   obtain⟨es',vs',f1,f2,f3,f4,f5,f6,f7⟩:=Zmj hm parts vals (es.set q.1 (pubV σ b)) (q.2.cells.zipIdx.foldl (λcs (x:Value × Nat)=>cs.setIfInBounds (q.1*m+x.2) x.1) vs) hs1
    (λy hy=>by
     rcases ZC2 hy with h5 | rfl
     ·exact h2 y h5
     ·exact hpok)
    (by rw [Za0 hs1,Zlc,←h3,hfl,List.length_set])
    (λj x y hx hy=>by
     rw [Zns h1 _ hi hel] at hx;rw [Zpq (q.1*m) q.2.cells vs zo,←hlc,hel] at hy;split at hx
     ·rename_i hc;rw [Zy1 hc] at hy;exact Zl9 hrd hpok _ x hx y hy
     ·rename_i hc;rw [Zy0 hc] at hy;exact h4 j x y hx hy)
    (by simpa using hl) (λj p q' hp hq=>hr (j+1) p q' (by simpa using hp) (by simpa using hq)) hK
   refine⟨es',vs',?_,by rw [f2,List.length_set],f3,f4,by rw [f5,Zlc],f6,f7⟩;simp only [Instr.fill];rw [Zy0 (by simp;omega)];exact f1
theorem Zlt {t e:TypeId} {len m:Nat} {z:Value} {vals:Array (Nat × Value)} {vs':Array Value} (hu:P.underlying t=some (.slice e)) (hsz:szOf P e=some m) (hz:Zaq P e=some z) (hlim:len*m≤16777216)
 (f1:Instr.fill (λi=>some (i*m,m)) ((Array.range (len*m)).map (z.cells[·%z.cells.size]!)) vals.toList=some vs') :
 (Instr.buildSlice t len vals).run P w=.ok (.slice (some ⟨w.heap.size,0,none⟩) len len) (w.alloc (.cells vs' e)):=by
 have hlim':¬(len*m > 2 ^ 24):=zo;simp only [Instr.buildSlice,Zzk,Zzl hu,Zzj,Zah hsz,Zy0 hlim'];by_cases h0:len*m=0
 ·have h1:Array.range (len*m)=#[]:=by rw [h0];rfl
  rw [h1] at f1;simp only [Array.map_empty] at f1;simp only [Zy1 h0,Zzk,Zzs,Zzj,h1,Array.map_empty,f1,newRow,run_newObj];rfl
 ·simp only [Zy0 h0,Zzk,Zak hz,Zzs,Zzj,f1,newRow,run_newObj];rfl
theorem Zog {t:TypeId} {len:Nat} {parts:Array (Nat × Operand)} (h:Rel c n st a w imm) (hd:∀d,o.dst=some d→d < n) (hK:aRes P tok o.dst (Zet P st t len (parts.toList.map λp=>(p.1,st.ev p.2))) K st) :
 o.upon P a (Zby c n K) Q (((do pure (Next.value (←Instr.buildSlice t len (parts.map fun(i,x)=>(i,a.eval x))))):Sem Next).run P w):=by
 unfold Zet at hK;split at hK
 ·rename_i e hu;split at hK
  ·rename_i m z hsz hz;obtain⟨⟨hlim,hlim2,hzl,hzok⟩,hK⟩:=hK;generalize hks:AV.toksL ((parts.toList.map λp=>(p.1,st.ev p.2)).map (·.2))=ks at hK;obtain⟨i',hm',hk'⟩:=Zc4 ks h.mem;obtain⟨hpl,hpr⟩:=Zot (parts:=parts) h;have hrep1:∀y∈List.replicate len (AV.ofVal z),y.cells.length=m:=λy hy=>by rw [ZB4 hy];exact hzl
   have hzsz:z.cells.size=m:=by rw [←hzl];exact(Zf7 (w:=w) (imm:=imm) z).1.symm
   obtain⟨es',vs',f1,f2,f3,f4,f5,f6,f7⟩:=Zmj hm' _ _ _ ((Array.range (len*m)).map (z.cells[·%z.cells.size]!)) hrep1 (λy hy=>by rw [ZB4 hy];exact hzok)
    (by rw [Za0 hrep1];simp) (λj b y hb hy=>by
     have hj:j < len*m:=by
      have:=Zbp hb
      rwa [Za0 hrep1,ZCu] at this
     have hm0:0 < m:=by
      rcases ZAi m with h4 | h4
      ·rw [h4] at hj;omega
      ·exact h4
     have hdm:j=(j/m)*m+j%m:=by rw [Zz0];exact(ZBh j m).symm
     have hq:j/m < len:=by rw [ZB5 hm0];exact hj
     have hfg:=Zdu hrep1 (j/m) (j%m) (Zz9 _ hm0) (by simpa using hq);rw [←hdm,hb] at hfg;rw [Zzc,ZDh,Zy1 hq] at hfg;simp only [ZAs] at hfg;have hlt:j%m < z.cells.size:=by rw [hzsz];exact Zz9 _ hm0
     have hy2:y=z.cells[j%m]:=by
      rw [ZC3,Array.getElem?_range,Zy1 hj] at hy;simp only [ZAq,Option.some.injEq,hzsz] at hy;rw [←hy];simp [hlt]
     rw [hy2];have h8:=(Zf7 (w:=w) (imm:=i') z).2 (j%m) b _ hfg.symm (Zz2 hlt)
     have h9:∃y,b=.v y:=by
      cases z<;>first
       | (simp only [AV.ofVal,AV.cells] at hfg
          have:j%m=0:=by
           have:=Zbp hfg.symm;simp at this;omega
          rw [this] at hfg;simp at hfg;exact⟨_,hfg⟩)
       | (simp only [AV.ofVal,AV.cells,ZAb] at hfg
          rename_i cs;rcases hc:cs.toList[j%m]? with _ | y
          ·rw [hc] at hfg;cases hfg
          ·rw [hc] at hfg;simp only [ZAq,Option.some.injEq] at hfg;exact⟨y,hfg⟩)
     obtain⟨y',rfl⟩:=h9;rw [h8.v_inv];exact .v _)
    hpl (λj p q h1 h2=>⟨(hpr j p q h1 h2).1,hk'.rs (hpr j p q h1 h2).2⟩) hK
   have hlen:es'.length=len:=by rw [f2,ZCu]
   have hrun:=Zlt (w:=w) hu hsz hz hlim f1;rw [Zh0 hrun];have:=Zn5 (Q:=Q) (cap:=len) (vs:=vs') h hd f7 hm' hk' zo ?_ (by rw [f5];simp) f3 f4 f6
   ·rwa [hlen] at this
   ·simp only [maxLen];omega
  ·exact hK.elim
 ·exact hK.elim
end
section
variable {P:Program} {c:Cx} {n tok:Nat} {st:St} {a:Act} {w:World} {imm:Imm} {K:St→Prop} {o:Oper} {Q:Exit→Act→World→Prop}
theorem Znv {xs:Array Operand} (h:Rel c n st a w imm):(xs.toList.map st.ev).length=(xs.map a.eval).size∧∀(j:Nat) (b:AV) (y:Value),(xs.toList.map st.ev)[j]?=some b→(xs.map a.eval)[j]?=some y→Rs w imm b y:=by
 refine⟨by simp,λj b y hb hy=>?_⟩;rw [ZAb,ZBv] at hb;rw [ZC3] at hy;rcases hx:xs[j]? with _ | x
 ·rw [hx] at hb;cases hb
 ·rw [hx] at hb hy;simp only [ZAq,Option.some.injEq] at hb hy;subst hb;subst hy;exact h.ev x
theorem s_len {t ty:TypeId} {xv:AV} {x:Value} {d:TypeDesc} (h:Rel c n st a w imm) (hd:∀d,o.dst=some d→d < n) (hu:P.underlying t=some d) (hK:aRes P tok o.dst (Zmf st d xv) K st) (hx:Rs w imm xv x) :
 o.upon P a (Zby c n K) Q (((do pure (Next.value (←Builtin.len_ #[t] ty #[x]))):Sem Next).run P w):=by
 unfold Zmf at hK;split at hK
 ·obtain⟨A,cap,f,rfl,_⟩:=hx.sl_inv;exact Zae h hd hK (by simp [Builtin.len_,Zzl hu,goInt]) (.pure (.v _))
 ·split at hK
  ·rename_i sv' e' m es pub hk;obtain⟨rfl,hK⟩:=hK;have:=hx.own_inv;subst this;obtain⟨A,cp,xs,hsrc,_,_⟩:=Zkh h.mem hk;have hv:=hsrc.val;subst hv;exact Zae h hd hK (by simp [Builtin.len_,Zzl hu,goInt]) (.pure (.v _))
  ·exact hK.elim
 ·rcases hx.view_inv with⟨_,_,rfl,rfl⟩ | ⟨g,nn,cc,off,cap,_,rfl,_⟩
  ·simp_all only
   exact Zae h hd hK (by simp [Builtin.len_,Zzl hu,goInt]) (.pure (.v _))
  ·exact Zae h hd hK (by simp [Builtin.len_,Zzl hu,goInt]) (.pure (.v _))
 ·have:=hx.v_inv;subst this;exact Zae h hd hK (by simp [Builtin.len_,Zzl hu,goInt]) (.pure (.v _))
 ·have:=hx.v_inv;subst this;exact Zae h hd hK (by simp [Builtin.len_,Zzl hu,goInt]) (.pure (.v _))
 ·split at hK
  ·rename_i h' es hk;obtain⟨rfl,hK⟩:=hK;have:=hx.mp_inv;subst this;obtain⟨arr,clock,hh,hB,hl,hr,hbo,hp⟩:=h.mem.ok.ent _ _ hk;exact Zae h hd hK (by simp [Builtin.len_,Zzl hu,goInt,ZC5 hh,hl]) (.pure (.v _))
  ·exact hK.elim
 ·exact Zae h hd hK (by simp [Builtin.len_,Zzl hu,goInt]) (.pure (.v _))
 ·exact hK.elim
theorem s_cap {t ty:TypeId} {xv:AV} {x:Value} {d:TypeDesc} (h:Rel c n st a w imm) (hd:∀d,o.dst=some d→d < n) (hu:P.underlying t=some d) (hK:aRes P tok o.dst (Zs7 d xv) K st) (hx:Rs w imm xv x) :
 o.upon P a (Zby c n K) Q (((do pure (Next.value (←Builtin.cap_ #[t] ty #[x]))):Sem Next).run P w):=by
 unfold Zs7 at hK;split at hK
 ·have:=hx.v_inv;subst this;exact Zae h hd hK (by simp [Builtin.cap_,Zzl hu,goInt]) (.pure (.v _))
 ·exact hK.elim
theorem Zf6 {cl:Call} {ty:TypeId} {b:Builtin} (hb:cl.callee=.builtin b):((do let d ←resolve a.eval cl ty;invoke d.target d.args):Sem Next).run P w=(builtin b cl.argTypes ty (cl.args.map fun | .const _=>true | _=>false) (cl.args.map a.eval)).run P w:=by
 simp [resolve,hb,invoke];rfl
theorem map1 (f:Operand→Value) (x:Operand):(#[x]:Array Operand).map f=#[f x]:=by simp
theorem map2 (f:Operand→Value) (x y:Operand):(#[x,y]:Array Operand).map f=#[f x,f y]:=by simp
theorem Zuf {α:Type} {xs:Array α} {x:α} (h:xs.toList=[x]):xs=#[x]:=by rw [←ZDi (xs:=xs),h]
theorem list2 {α:Type} {xs:Array α} {x y:α} (h:xs.toList=[x,y]):xs=#[x,y]:=by rw [←ZDi (xs:=xs),h]
theorem Zue {t:TypeId} {name:String} {g:FuncId} {x:Value} (h:ivkOf P t name=some g) (k:Nat):(method (k+1) t x name).run P w=.ok (g,x) w:=by
 unfold ivkOf at h;split at h
 ·rename_i i hi;split at h
  ·rename_i m hm;split at h
   ·rename_i hp;split at h
    ·rename_i f fs e1 e2;injection h with h
     subst h;have hp':m.path.toList=[]:=by simpa using hp
     simp only [method,Zzk,run_typeInfo w hi,Zzj,hm,hp',follow,Zzs,e1,receiverAt,Zzl e2,Place.get]
    ·cases h
   ·cases h
  ·cases h
 ·cases h
theorem Zu1 (z:Value) {j:Nat} {b:AV} {y:Value} (hb:(AV.ofVal z).cells[j]?=some b) (hy:z.cells[j]?=some y):b=.v y:=by
 cases z<;>first
  | (simp only [AV.ofVal,AV.cells,Value.cells] at hb hy
     match j with
     | 0=>simp at hb hy;rw [←hb,←hy]
     | j+1=>simp at hb)
  | (simp only [AV.ofVal,AV.cells,Value.cells,ZAb,ZBv] at hb hy
     rw [hy] at hb;simp at hb;exact hb.symm)
theorem s_clear {t ty:TypeId} {xv:AV} {x:Value} (h:Rel c n st a w imm) (hd:∀d,o.dst=some d→d < n) (hK:aRes P tok o.dst (Zj6 P st t xv) K st) (hx:Rs w imm xv x) :
 o.upon P a (Zby c n K) Q (((do pure (Next.value (←Builtin.clear_ #[t] ty #[x]))):Sem Next).run P w):=by
 unfold Zj6 at hK;split at hK
 ·rename_i e k sv m i len hu;split at hK
  ·rename_i sv' e' m' es pub m₂ z hk hsz hzo;obtain⟨⟨rfl,rfl,rfl,rfl,hle,hm0,hzs,hzl,hzok⟩,hK⟩:=hK;have hvw:=hx.view_inv;by_cases hl0:len=0
   ·subst hl0;have e1:es.take i++List.replicate 0 (AV.ofVal z)++es.drop (i+0)=es:=by simp
    rw [e1] at hK;have e2:∀m:Mem,m k=some (.row sv e' m₂ es 0)→upd m k (some (.row sv e' m₂ es 0))=m:=λm hm=>by
     funext j
     rw [Zal];split
     ·subst_vars;exact hm.symm
     ·rfl
    have hrun:(Builtin.clear_ #[t] ty #[x]).run P w=.ok (.tuple #[]) w:=by
     rcases hvw with⟨rfl,_,_,rfl⟩ | ⟨g,n1,c1,off,cap,rfl,rfl,_⟩<;>simp [Builtin.clear_,Zzl hu]
    rw [Zh0 hrun];refine Zf5 h hd hK (.inl rfl) λi' hm' hk'=>⟨?_,Keeps.refl _ _,.pure (.v _)⟩;have:marks st.mem []=st.mem:=rfl;rw [this] at hm' ⊢;rw [e2 _ hk];exact hm'
   ·rcases hvw with⟨_,_,hl,_⟩ | ⟨g,n1,c1,off,cap,rfl,rfl,hin,hlc,hoff,_⟩
    ·exact absurd hl hl0
    have hoff:=hoff (ZBi hl0);subst hoff;have hvl:(Builtin.zeroCells z.cells len).toList.length=len*m₂:=by rw [ZBw,size_zeroCells,hzs]
    have hl1:(es.take i++List.replicate len (AV.ofVal z)++es.drop (i+len)).length=es.length:=by simp;omega
    obtain⟨xs,hown,hmm,hokk,-⟩:=h.mem.ok.ent k _ hk;have hmr:∀y∈List.replicate len (AV.ofVal z),y.cells.length=m₂:=λy hy=>by rw [ZB4 hy];exact hzl
    have z1:∀v∈(Builtin.zeroCells z.cells len).toList,v.oneCell'=true:=by
     intro v hv;unfold Builtin.zeroCells at hv;simp only [Array.toList_map,List.mem_map,Array.toList_range,List.mem_range] at hv;obtain⟨q,hq,rfl⟩:=hv;have hlt:q%z.cells.size < z.cells.size:=Zz9 _ (by rw [hzs];exact hm0);exact Ziu (w:=w) (imm:=imm) (Zna w imm z) hzok _ (by rw [getElem!_pos z.cells _ hlt];simp)
    have put:∀i2,Mx c st.mem w i2→∃w',(storeCells ⟨g,i*m₂,none⟩ (Builtin.zeroCells z.cells len).toList).run P w=.ok () w'∧Mx c (upd st.mem k (some (.row (.slice (some ⟨g,0,none⟩) n1 c1) e' m₂ (es.take i++List.replicate len (AV.ofVal z)++es.drop (i+len)) 0))) w' i2∧Keeps w i2 w' i2:=by
     intro i2 hm2;refine Zqg hm2 hk hl1 (by rw [hvl,←Zzw];exact Zzx _ hle) zs z1 ?_ ?_ λj b hb=>?_
     ·intro y hy;simp only [ZBu] at hy;rcases hy with(hy | hy) | hy
      ·exact hmm y (ZAe hy)
      ·exact hmr y hy
      ·exact hmm y (ZBl hy)
     ·intro y hy;simp only [ZBu] at hy;rcases hy with(hy | hy) | hy
      ·exact hokk y (ZAe hy)
      ·rw [ZB4 hy];exact hzok
      ·exact hokk y (ZBl hy)
     ·have hf1:(flat (es.take i)).length=i*m₂:=by rw [Za0 λy hy=>hmm y (ZAe hy),Zzh,ZAy zo]
      have hf2:(flat (List.replicate len (AV.ofVal z))).length=len*m₂:=by rw [Za0 hmr,ZCu]
      rw [Zbn,Zbn] at hb;rw [hvl];split
      ·rename_i hc;intro y hy;rw [Zz8 (by rw [Zzq];omega),ZAd zo,hf1] at hb;generalize hq:j - i*m₂=q at *;have hqj:q < len*m₂:=zo;have hdm:q=(q/m₂)*m₂+q%m₂:=by rw [Zz0];exact(ZBh q m₂).symm
       have hq2:q/m₂ < len:=by rw [ZB5 hm0];exact hqj
       have hfg:=Zdu hmr (q/m₂) (q%m₂) (Zz9 _ hm0) (by simpa using hq2);rw [←hdm,hb,Zzc,ZDh,Zy1 hq2] at hfg;simp only [ZAs] at hfg;have hlt:q%m₂ < z.cells.size:=by rw [hzs];exact Zz9 _ hm0
       have hy2:y=z.cells[q%m₂]!:=by
        rw [ZBv] at hy;unfold Builtin.zeroCells at hy;rw [ZC3,Array.getElem?_range,Zy1 (by rw [hzs];exact hqj),hzs] at hy
        simpa using hy.symm
       have:=Zu1 z hfg.symm (y:=y) (by rw [hy2,Zz2 hlt];simp [hlt]);rw [this];exact .v y
      ·rename_i hc
       have e0:flat es=flat (es.take i)++flat ((es.drop i).take len)++flat (es.drop (i+len)):=by
        rw [←Zbn,←Zbn,ZAa,←ZCc,ZBf,ZBf]
       have hf3:(flat ((es.drop i).take len)).length=len*m₂:=by
        rw [Za0 λy hy=>hmm y (ZBl (ZAe hy)),Zzh,ZBn,ZAy zo]
       rw [e0];by_cases hj:j < i*m₂
       ·rw [Zz8 (by rw [Zzq];omega),Zz8 zo] at hb ⊢;exact hb
       ·rw [ZAd (by rw [Zzq];omega),Zzq] at hb ⊢;rw [hf1,hf2] at hb;rw [hf1,hf3];exact hb
    obtain⟨w',hrun,_,_⟩:=put imm h.mem
    have hall:(Builtin.clear_ #[t] ty #[.slice (some ⟨g,i*m₂,none⟩) len cap]).run P w=.ok (.tuple #[]) w':=by
     obtain⟨q,rfl⟩:∃q,len=q+1:=⟨len - 1,zo⟩;simp [Builtin.clear_,Zzl hu,Zak hzo,hrun]
    rw [Zh0 hall];refine Zf5 h hd hK (.inl rfl) λi' hm' hk'=>?_;obtain⟨w2,hrun2,hm2,hk2⟩:=put i' hm';rw [hrun] at hrun2;cases hrun2;exact⟨hm2,hk2,.pure (.v _)⟩
  ·exact hK.elim
 ·exact hK.elim
theorem s_call {cl:Call} {ty:TypeId} (h:Rel c n st a w imm) (hd:∀d,o.dst=some d→d < n) (hK:aRes P tok o.dst (Zcr P st cl) K st) :
 o.upon P a (Zby c n K) Q (((do let d ←resolve a.eval cl ty;invoke d.target d.args):Sem Next).run P w):=by
 unfold Zcr at hK;split at hK
 ·rename_i hc;split at hK
  ·rename_i x t hx ht;rw [Zf6 hc,Zuf hx,Zuf ht,map1 a.eval];split at hK
   ·rename_i d hu;exact s_len h hd hu hK (h.ev x)
   ·exact hK.elim
  ·exact hK.elim
 ·rename_i hc;split at hK
  ·rename_i x t hx ht;rw [Zf6 hc,Zuf hx,Zuf ht,map1 a.eval];split at hK
   ·rename_i d hu;exact s_cap h hd hu hK (h.ev x)
   ·exact hK.elim
  ·exact hK.elim
 ·rename_i hc;split at hK
  ·rename_i s x t t' hx ht;rw [Zf6 hc,list2 hx,list2 ht,map2 a.eval];exact s_append h hd hK (h.ev s) (h.ev x)
  ·exact hK.elim
 ·rename_i hc;split at hK
  ·rename_i s x t t' hx ht;rw [Zf6 hc,list2 hx,list2 ht,map2 a.eval];exact s_copy h hd hK (h.ev s) (h.ev x)
  ·exact hK.elim
 ·rename_i hc;split at hK
  ·rename_i x t hx ht;rw [Zf6 hc,Zuf hx,Zuf ht,map1 a.eval];exact s_clear h hd hK (h.ev x)
  ·exact hK.elim
 ·rename_i hc;rw [Zf6 hc];generalize hl:cl.args.toList=l at hK;have hal:cl.args=l.toArray:=by rw [←hl]
  rw [hal]
  match l,hK with
  | [x,y],hK =>
    unfold Zky at hK;simp only [ZAj,ZAg] at hK;split at hK
    ·rename_i k i k' j heq;simp only [List.cons.injEq,and_true] at heq;obtain⟨rfl,hK⟩:=hK;have e1:=h.ev x;rw [heq.1] at e1;have e2:=h.ev y;rw [heq.2] at e2;refine Zae h hd hK ?_ (.pure (.v _));simp [e1.v_inv,e2.v_inv,Builtin.max_,Builtin.max2]
    ·rename_i heq;simp at heq
    ·exact hK.elim
  | [x,y,z],hK =>
    unfold Zky at hK;simp only [ZAj,ZAg] at hK;split at hK
    ·rename_i heq;simp at heq
    ·rename_i k i k' j k'' j2 heq;simp only [List.cons.injEq,and_true] at heq;obtain⟨⟨rfl,rfl⟩,hK⟩:=hK;have e1:=h.ev x;rw [heq.1] at e1;have e2:=h.ev y;rw [heq.2.1] at e2;have e3:=h.ev z;rw [heq.2.2] at e3;refine Zae h hd hK ?_ (.pure (.v _));simp [e1.v_inv,e2.v_inv,e3.v_inv,Builtin.max_,Builtin.max2]
    ·exact hK.elim
  | [],hK=>exact hK.elim
  | [x],hK=>simp [Zky,aRes] at hK
  | x :: y :: z :: u :: r,hK=>simp [Zky,aRes] at hK
 ·rename_i hc;rw [Zf6 hc];generalize hl:cl.args.toList=l at hK;have hal:cl.args=l.toArray:=by rw [←hl]
  rw [hal]
  match l,hK with
  | [x,y],hK =>
    unfold Zky at hK;simp only [ZAj,ZAg] at hK;split at hK
    ·rename_i k i k' j heq;simp only [List.cons.injEq,and_true] at heq;obtain⟨rfl,hK⟩:=hK;have e1:=h.ev x;rw [heq.1] at e1;have e2:=h.ev y;rw [heq.2] at e2;refine Zae h hd hK ?_ (.pure (.v _));simp [e1.v_inv,e2.v_inv,Builtin.min_,Builtin.min2]
    ·rename_i heq;simp at heq
    ·exact hK.elim
  | [x,y,z],hK =>
    unfold Zky at hK;simp only [ZAj,ZAg] at hK;split at hK
    ·rename_i heq;simp at heq
    ·rename_i k i k' j k'' j2 heq;simp only [List.cons.injEq,and_true] at heq;obtain⟨⟨rfl,rfl⟩,hK⟩:=hK;have e1:=h.ev x;rw [heq.1] at e1;have e2:=h.ev y;rw [heq.2.1] at e2;have e3:=h.ev z;rw [heq.2.2] at e3;refine Zae h hd hK ?_ (.pure (.v _));simp [e1.v_inv,e2.v_inv,e3.v_inv,Builtin.min_,Builtin.min2]
    ·exact hK.elim
  | [],hK=>exact hK.elim
  | [x],hK=>simp [Zky,aRes] at hK
  | x :: y :: z :: u :: r,hK=>simp [Zky,aRes] at hK
 ·rename_i f hc;split at hK
  ·rename_i g caps hf;have hfv:=h.ev f;rw [hf] at hfv;obtain⟨vs,hv,hl,hr⟩:=hfv.fn_inv;obtain⟨hal,har⟩:=Znv (xs:=cl.args) h
   have hrun:((do let d ←resolve a.eval cl ty;invoke d.target d.args):Sem Next).run P w=.ok (.enter g (cl.args.map a.eval++vs)) w:=by
    simp only [resolve,hc,hv,Deferred.ofValue,Zzk,Zzs,Zzj,invoke,Array.empty_append];exact hK.1 _ _
   rw [hrun];refine Zn6 h hd hK (by simp [hl]) λj b y hb hy=>?_;rcases Zzo j cl.args.size with hj | hj
   ·rw [Zz8 (by simpa using hj)] at hb;rw [ZCn (by simpa using hj)] at hy;exact har j b y hb hy
   ·rw [ZAd (by simpa using hj)] at hb;rw [Array.getElem?_append_right (by simpa using hj)] at hy;simp only [Zy3,ZBw] at hb;simp only [Array.size_map] at hy;exact hr _ b y hb hy
  ·exact hK.elim
 ·rename_i r name hc;split at hK
  ·rename_i t x hf;split at hK
   ·rename_i g hg;have hfv:=h.ev r;rw [hf] at hfv;obtain⟨v,hv,hrv⟩:=hfv.ifc_inv;obtain⟨hal,har⟩:=Znv (xs:=cl.args) h;have hm:=λk=>Zue (w:=w) (x:=v) hg k
    have hrun:((do let d ←resolve a.eval cl ty;invoke d.target d.args):Sem Next).run P w=.ok (.enter g (#[v]++cl.args.map a.eval)) w:=by
     simp only [resolve,hc,Zzk,Zzs,Zzj,invoke,hv];have h0:(#[Value.iface t v]++cl.args.map a.eval)[0]?=some (Value.iface t v):=by rw [ZCn zs];rfl
     have h1:(#[Value.iface t v]++cl.args.map a.eval).extract 1 (#[Value.iface t v]++cl.args.map a.eval).size=cl.args.map a.eval:=by
      apply Array.ext';simp;exact ZA4 zs
     simp only [h0,h1,callMethod,Zzk,Zzs,run_program,Zzj];rw [show P.types.size+Made.depth=(P.types.size+99)+1 from rfl,hm];exact hK.1 _ _
    rw [hrun];refine Zn6 h hd hK (by simp [ZB2]) λj b y hb hy=>?_
    cases j with
    | zero =>
      rw [ZCn zs] at hy;obtain rfl:x=b:=by simpa using hb
      obtain rfl:v=y:=by simpa using hy
      exact hrv
    | succ j =>
      refine har j b y (by simpa using hb) ?_;rw [Array.getElem?_append_right zs] at hy
      simpa using hy
   ·exact hK.elim
  ·exact hK.elim
 ·exact hK.elim
theorem Born.push {es:Array MapEntry} {clock:Nat} (h:Born es clock) (key val:Value):Born (es.push { key,val,born:=clock }) (clock+1):=by
 refine⟨λx hx=>?_,?_⟩
 ·simp only [Array.toList_push,ZBu,ZBa] at hx;rcases hx with hx | rfl
  ·exact Nat.lt_succ_of_lt (h.1 x hx)
  ·exact Nat.lt_succ_self _
 ·simp only [Array.toList_push,Zzz,ZAj,ZAg];refine List.nodup_append.2 ⟨h.2,by simp,λa ha b hb=>?_⟩;obtain⟨x,hx,rfl⟩:=List.mem_map.1 ha;have:=h.1 x hx;simp only [ZBa] at hb;omega
theorem Born.modify {es:Array MapEntry} {clock:Nat} (h:Born es clock) (i:Nat) (f:MapEntry→MapEntry) (hf:∀e,(f e).born=e.born):Born (es.modify i f) clock:=by
 have hb:(es.modify i f).toList.map (·.born)=es.toList.map (·.born):=by
  apply List.ext_getElem?;intro j;simp only [ZAb,ZBv,ZDs];split
  ·cases es[j]?<;>simp [hf]
  ·rfl
 refine⟨λx hx=>?_,by rw [hb];exact h.2⟩;have:x.born∈(es.modify i f).toList.map (·.born):=List.mem_map.2 ⟨x,hx,rfl⟩;rw [hb] at this;obtain⟨y,hy,e⟩:=List.mem_map.1 this;rw [←e];exact h.1 y hy
def KeyOk (P:Program) (kt:TypeId):MKey→Prop
 | .s _=>P.underlying kt=some .string
 | .l ns=>stI P kt ns.length=true
theorem Zst:∀{cs:List AV} {ns:List Int} {vs:List Value},Zpk cs=some ns→cs.length=vs.length→(∀(j:Nat) (a:AV) (y:Value),cs[j]?=some a→vs[j]?=some y→Rs w imm a y)→vs=ns.map (Value.int .i64)
 | [],ns,vs,h,hl,hr=>by
   cases h;exact List.length_eq_zero_iff.1 hl.symm
 | b :: cs,ns,[],h,hl,hr=>by simp at hl
 | b :: cs,ns,v :: vs,h,hl,hr=>by
   unfold Zpk at h;split at h
   ·rename_i heq;cases heq
   ·rename_i i r heq;cases heq;obtain⟨ms,h1,rfl⟩:=Option.map_eq_some_iff.1 h;have:=(hr 0 _ v rfl rfl).v_inv;subst this;have e:vs=ms.map (Value.int .i64):=Zst h1 (by simpa using hl) λj a y ha hy=>hr (j+1) a y (by simpa using ha) (by simpa using hy);rw [e];rfl
   ·cases h
theorem mk_of {kt:TypeId} {k:AV} {κ:MKey} {x:Value} (h:mkOf P kt k=some κ) (hx:Rs w imm k x):x=κ.val∧KeyOk P kt κ:=by
 unfold mkOf at h;split at h
 ·rename_i hu;cases h;exact⟨hx.v_inv,hu⟩
 ·rename_i fs cs hu;split at h
  ·rename_i ns hn;split at h
   ·rename_i hs;cases h;obtain⟨vs,rfl,hl,hr⟩:=hx.agg_inv;refine⟨?_,hs⟩;have:vs.toList=ns.map (Value.int .i64):=Zst hn (by simpa using hl) λj a y ha hy=>hr j a y ha (by simpa using hy);show Value.agg vs=.agg (ns.map (Value.int .i64)).toArray;rw [←this]
   ·cases h
  ·cases h
 ·cases h
theorem Zvh {kt : TypeId} {n : Nat} (h : stI P kt n = true) : P.stoodInHeld kt = false ∧ ∃ fs, P.underlying kt = some (.struct fs) ∧ fs.toList.map (·.offset) = List.range n ∧ ∀ f ∈ fs.toList, f.name ≠ "_" ∧ P.underlying f.type = some (.int .i64) ∧ f.offset < n := by
 unfold stI at h;split at h
 ·rename_i fs hu;simp only [Zzn,ZAv,Zzu,ZBb,bne_iff_ne,ne_eq] at h;obtain⟨h0,h1,h2⟩:=h;refine⟨h0,fs,hu,h1,λf hf=>⟨(h2 f hf).1,?_,?_⟩⟩
  ·have:=(h2 f hf).2;split at this
   ·assumption
   ·cases this
  ·have:f.offset∈fs.toList.map (·.offset):=List.mem_map.2 ⟨f,hf,rfl⟩;rw [h1] at this;exact List.mem_range.1 this
 ·simp at h
theorem Zxs (ns:List Int) {j:Nat} (h:j < ns.length):(ns.map (Value.int .i64)).toArray[j]?=some (.int .i64 (ns.getD j 0)):=by
 rw [ZA5,ZAb,Zy4 h,Zzc,Zy4 h];rfl
theorem Zpi {kt:TypeId} {κ:MKey} (h:KeyOk P kt κ) (b:Bool):(Instr.checkKey b 10000 kt κ.val).run P w=.ok () w:=by
 cases κ with
 | s t=>exact MapKept.run_checkKey (k:=.string t) h (by trivial) _ 9999
 | l ns =>
   obtain⟨-,fs,hu,-,hf⟩:=Zvh h;show(Instr.checkKey b 10000 kt (.agg (ns.map (Value.int .i64)).toArray)).run P w=_;unfold Instr.checkKey;simp only [Zzk,Zzl hu,Zzj,←Array.forIn_toList];generalize fs.toList=gs at hf
   induction gs with
   | nil=>rfl
   | cons f gs ih =>
     obtain⟨a1,a2,a3⟩:=hf f (.head _);have hp:(part f.type (ns.map (Value.int .i64)).toArray f.offset).run P w=.ok (.int .i64 (ns.getD f.offset 0)) w:=Zdp a2 rfl (Zxs ns a3)
     have hc:(Instr.checkKey b 9999 f.type (.int .i64 (ns.getD f.offset 0))).run P w=.ok () w:=by
      unfold Instr.checkKey;simp [Zzl a2]
     simp only [List.forIn_cons,a1,ne_eq,not_false_eq_true,Zzt,Zzk,hp,hc,Zzj,Zzs];exact ih λg hg=>hf g (.tail _ hg)
theorem key_eq {kt:TypeId} {ns ms:List Int} (h:stI P kt ns.length=true) (hl:ms.length=ns.length):(Op.equal kt (MKey.l ns).val (MKey.l ms).val).run P w=.ok (decide (ns=ms)) w:=by
 obtain⟨h0,fs,hu,ho,hf⟩:=Zvh h;have hfo:P.fieldsOf kt=fs:=by simp [Program.fieldsOf,hu]
 have hnm : (fs.toList.all fun f => f.name != "_") = true := List.all_eq_true.2 fun f hf' => by simpa using (hf f hf').1
 show(Op.equalIn 10000 kt (.agg (ns.map (Value.int .i64)).toArray) (.agg (ms.map (Value.int .i64)).toArray)).run P w=_;rw [show(10000:Nat)=9999+1 from rfl,run_equalIn_agg (P:=P) w 9999 kt _ _ (by rw [hfo];exact hu) h0,hfo,Zgy _ hnm]
 have key:∀(gs:List Field),(∀f∈gs,P.underlying f.type=some (.int .i64)∧f.offset < ns.length)→(Zlx 9999 (ns.map (Value.int .i64)).toArray (ms.map (Value.int .i64)).toArray (gs.map λf=>(f.type,f.offset))).run P w=.ok (gs.all λf=>ns.getD f.offset 0 == ms.getD f.offset 0) w:=by
  intro gs hg
  induction gs with
  | nil=>rfl
  | cons f gs ih =>
    obtain⟨a2,a3⟩:=hg f (.head _);have e1:(part f.type (ns.map (Value.int .i64)).toArray f.offset).run P w=.ok (.int .i64 (ns.getD f.offset 0)) w:=Zdp a2 rfl (Zxs ns a3);have e2:(part f.type (ms.map (Value.int .i64)).toArray f.offset).run P w=.ok (.int .i64 (ms.getD f.offset 0)) w:=Zdp a2 rfl (Zxs ms zo);have e3:=run_equalIn_int (P:=P) w 9998 f.type .i64 .i64 (ns.getD f.offset 0) (ms.getD f.offset 0) a2;have ih:=ih λg hg'=>hg g (.tail _ hg');simp only [ZAj,Zlx,Zzk,e1,e2,e3,Zzj,ZCl]
    cases ns.getD f.offset 0 == ms.getD f.offset 0 with
    | true=>simpa only [Zzt,ZAz] using ih
    | false=>simp only [Zzf,Zzp,Zzr,Zzs]
 rw [key _ λf hf'=>(hf f hf').2];congr 1;rw [Zzy,ZBb,Zzu];constructor
 ·intro g;refine List.ext_getElem hl.symm λi h1 h2=>?_;have:i∈fs.toList.map (·.offset):=by rw [ho];exact List.mem_range.2 h1
  obtain⟨f,hf',rfl⟩:=List.mem_map.1 this;have:=g f hf';rw [Zzc,Zzc,Zy4 h1,Zy4 h2] at this
  simpa using this
 ·rintro rfl f -
  simp
theorem Zxr (κ:MKey):(Instr.keyThatStays κ.val κ.val).run P w=.ok κ.val w:=by
 have:Instr.sameBits 10000 κ.val κ.val=true:=by
  cases κ with
  | s t=>exact(MapKept.bytes_beq _ _).2 rfl
  | l ns =>
    have h:∀l:List Int,((l.map (Value.int .i64)).zip (l.map (Value.int .i64))).all (fun(x,y)=>Instr.sameBits 9999 x y)=true:=λl=>by
     induction l with
     | nil=>rfl
     | cons i l ih=>simp [Instr.sameBits,ih]
    show((ns.map (Value.int .i64)).toArray.size == (ns.map (Value.int .i64)).toArray.size && ((ns.map (Value.int .i64)).toArray.toList.zip (ns.map (Value.int .i64)).toArray.toList).all fun(x,y)=>Instr.sameBits 9999 x y)=true;rw [h ns,beq_self_eq_true];rfl
 unfold Instr.keyThatStays;rw [Zy1 this];rfl
theorem find_s {w:World} {imm:Imm} (s:ByteArray):∀(l:List MapEntry) (es:List (MKey × AV)) (i:Nat),es.length=l.length→Zpa (.s s) es=true →
 (∀(j:Nat) (a:MKey × AV) (x:MapEntry),es[j]?=some a→l[j]?=some x→x.key=a.1.val∧Rd w imm a.2 x.val) →
 (Instr.findNow .string (.string s) l i=some none∧Zil (.s s) es=none∧∀y,Zgu (.s s) y es=es++[(.s s,y)]) ∨
 ∃(j:Nat) (x:MapEntry) (v:AV),Instr.findNow .string (.string s) l i=some (some (i+j,x.val))∧l[j]?=some x∧x.key=.string s∧Zil (.s s) es=some v∧Rd w imm v x.val∧j < es.length∧∀y,Zgu (.s s) y es=es.set j (.s s,y)
 | [],[],i,_,_,_=>.inl ⟨rfl,rfl,λ_=>rfl⟩
 | [],a :: r,_,hl,_,_=>by simp at hl
 | x :: l,[],_,hl,_,_=>by simp at hl
 | x :: l,a :: es,i,hl,ha,hr=>by
   obtain⟨hk,hv⟩:=hr 0 a x rfl rfl;obtain⟨κ,v⟩:=a;have ha':(MKey.like (.s s) κ && Zpa (.s s) es)=true:=ha;rw [Zzn] at ha';have ih:=find_s s l es (i+1) (by simpa using hl) ha'.2 λj b y h1 h2=>hr (j+1) b y (by simpa using h1) (by simpa using h2)
   cases κ with
   | l ns=>cases ha'.1
   | s t =>
   replace hk:x.key=.string t:=hk
   by_cases h:t=s
   ·subst h;refine .inr ⟨0,x,v,?_,rfl,hk,by simp [Zil],hv,by simp,λy=>by simp [Zgu]⟩;unfold Instr.findNow;rw [hk];have hb:(t == t)=true:=(MapKept.bytes_beq _ _).2 rfl;simp [Instr.sameNow,hb]
   ·have hb:(s == t)=false:=by
     cases hh:(s == t) with
     | false=>rfl
     | true=>exact absurd ((MapKept.bytes_beq _ _).1 hh).symm h
    have hs:Instr.findNow .string (.string s) (x :: l) i=Instr.findNow .string (.string s) l (i+1):=by
     conv=>lhs;unfold Instr.findNow
     rw [hk];simp [Instr.sameNow,hb]
    have h':¬MKey.s t=MKey.s s:=λg=>h (by cases g;rfl);rcases ih with⟨h1,h2,h3⟩ | ⟨j,y,v,h1,h2,h3,h4,h5,h6,h7⟩
    ·exact .inl ⟨by rw [hs,h1],by simp [Zil,h',h2],λz=>by simp [Zgu,h',h3 z]⟩
    ·exact .inr ⟨j+1,y,v,by rw [hs,h1];congr 3;omega,by simpa using h2,h3,by simp [Zil,h',h4],h5,by simp;omega,λz=>by simp [Zgu,h',h7 z]⟩
theorem find_l {w:World} {imm:Imm} {kt:TypeId} {ns:List Int} (hk:stI P kt ns.length=true):∀(l:List MapEntry) (es:List (MKey × AV)) (i:Nat),es.length=l.length→Zpa (.l ns) es=true →
 (∀(j:Nat) (a:MKey × AV) (x:MapEntry),es[j]?=some a→l[j]?=some x→x.key=a.1.val∧Rd w imm a.2 x.val) →
 ((Instr.findAsking kt (MKey.l ns).val l i).run P w=.ok none w∧Zil (.l ns) es=none∧∀y,Zgu (.l ns) y es=es++[(.l ns,y)]) ∨
 ∃(j:Nat) (x:MapEntry) (v:AV),(Instr.findAsking kt (MKey.l ns).val l i).run P w=.ok (some (i+j,x.val)) w∧l[j]?=some x∧x.key=(MKey.l ns).val∧Zil (.l ns) es=some v∧Rd w imm v x.val∧j < es.length∧∀y,Zgu (.l ns) y es=es.set j (.l ns,y)
 | [],[],i,_,_,_=>.inl ⟨rfl,rfl,λ_=>rfl⟩
 | [],a :: r,_,hl,_,_=>by simp at hl
 | x :: l,[],_,hl,_,_=>by simp at hl
 | x :: l,a :: es,i,hl,ha,hr=>by
   obtain⟨hkx,hv⟩:=hr 0 a x rfl rfl;obtain⟨κ,v⟩:=a;have ha':(MKey.like (.l ns) κ && Zpa (.l ns) es)=true:=ha;rw [Zzn] at ha';have ih:=find_l hk l es (i+1) (by simpa using hl) ha'.2 λj b y h1 h2=>hr (j+1) b y (by simpa using h1) (by simpa using h2)
   cases κ with
   | s t=>cases ha'.1
   | l ms =>
   have hlen:ms.length=ns.length:=(beq_iff_eq.1 (show(ns.length == ms.length)=true from ha'.1)).symm
   replace hkx:x.key=(MKey.l ms).val:=hkx
   have he:=key_eq (P:=P) (w:=w) hk hlen;by_cases h:ns=ms
   ·subst h;rw [Zy6 rfl] at he;refine .inr ⟨0,x,v,?_,rfl,hkx,by simp [Zil],hv,by simp,λy=>by simp [Zgu]⟩;simp only [Instr.findAsking,Zzk,hkx,he,Zzj,Zzt,Zzs,Zz3]
   ·rw [Zy2 h] at he
    have hs:(Instr.findAsking kt (MKey.l ns).val (x :: l) i).run P w=(Instr.findAsking kt (MKey.l ns).val l (i+1)).run P w:=by
     simp only [Instr.findAsking,Zzk,hkx,he,Zzj,Zzf,Zzp]
    have h':¬MKey.l ms=MKey.l ns:=λg=>h (by cases g;rfl);rcases ih with⟨h1,h2,h3⟩ | ⟨j,y,v,h1,h2,h3,h4,h5,h6,h7⟩
    ·exact .inl ⟨by rw [hs,h1],by simp [Zil,h',h2],λz=>by simp [Zgu,h',h3 z]⟩
    ·exact .inr ⟨j+1,y,v,by rw [hs,h1];congr 3;omega,by simpa using h2,h3,by simp [Zil,h',h4],h5,by simp;omega,λz=>by simp [Zgu,h',h7 z]⟩
theorem Zpp {w:World} {imm:Imm} {kt:TypeId} (κ:MKey) (hk:KeyOk P kt κ) (l:List MapEntry) (es:List (MKey × AV)) (hl:es.length=l.length) (ha:Zpa κ es=true)
 (hr:∀(j:Nat) (a:MKey × AV) (x:MapEntry),es[j]?=some a→l[j]?=some x→x.key=a.1.val∧Rd w imm a.2 x.val) :
 ((Instr.findKey kt κ.val l).run P w=.ok none w∧Zil κ es=none∧∀y,Zgu κ y es=es++[(κ,y)]) ∨
 ∃(j:Nat) (x:MapEntry) (v:AV),(Instr.findKey kt κ.val l).run P w=.ok (some (j,x.val)) w∧l[j]?=some x∧x.key=κ.val∧Zil κ es=some v∧Rd w imm v x.val∧j < es.length∧∀y,Zgu κ y es=es.set j (κ,y):=by
 cases κ with
 | s t =>
   rcases find_s (w:=w) (imm:=imm) t l es 0 hl ha hr with⟨f1,f2⟩ | ⟨j,x,v,f1,f2⟩
   ·exact .inl ⟨MapKept.run_findKey hk f1,f2⟩
   ·exact .inr ⟨j,x,v,by rw [Zzv] at f1;exact MapKept.run_findKey hk f1,f2⟩
 | l ns =>
   obtain⟨-,fs,hu,-⟩:=Zvh hk
   have hrun:(Instr.findKey kt (MKey.l ns).val l).run P w=(Instr.findAsking kt (MKey.l ns).val l 0).run P w:=by
    cases l with
    | nil=>simp [Instr.findKey,Zzl hu,Instr.findNow,Instr.findAsking]
    | cons x l=>simp [Instr.findKey,Zzl hu,Instr.findNow,Instr.sameNow]
   rw [hrun];rcases find_l hk l es 0 hl ha hr with⟨f1,f2⟩ | ⟨j,x,v,f1,f2⟩
   ·exact .inl ⟨f1,f2⟩
   ·exact .inr ⟨j,x,v,by rw [Zzv] at f1;exact f1,f2⟩
theorem s_lookup {t:TypeId} {m k:Operand} {ok:Bool} (h:Rel c n st a w imm) (hd:∀d,o.dst=some d→d < n) (hK:aRes P tok o.dst (Zin P st t (st.ev m) (st.ev k) ok) K st) :
 o.upon P a (Zby c n K) Q ((do let v ←Instr.lookup t (a.eval m) (a.eval k) ok;pure (.value v):Sem Next).run P w):=by
 unfold Zin at hK;split at hK
 ·rename_i kt et hu;split at hK
  ·rename_i κ tk g hmk hm;split at hK
   ·rename_i g' es z hmem hz;obtain⟨⟨rfl,hall⟩,hK⟩:=hK;have em:=h.ev m;rw [hm] at em;have em:=em.mp_inv;obtain⟨ek,hko⟩:=mk_of hmk (h.ev k);obtain⟨arr,clock,hh,hB,hl,hr,hbo,hp⟩:=h.mem.ok.ent tk _ hmem;have hzr:(zeroValue et).run P w=.ok z w:=Zak hz;have hck:=Zpi (P:=P) (w:=w) hko arr.isEmpty;have hval:∀(av:AV) (x:Value),Rs w imm av x→∀b,Rs w imm (if ok then .tup [av,.v (.bool b)] else av) (if ok then .tuple #[x,.bool b] else x):=λav x hx b=>by
     cases ok with
     | false=>exact hx
     | true =>
       refine .tup _ _ rfl λj a y h1 h2=>?_
       match j with
       | 0=>simp at h1 h2;subst h1;subst h2;exact hx
       | 1=>simp at h1 h2;subst h1;subst h2;exact .pure (.v _)
       | j+2=>simp at h1
    rcases Zpp (w:=w) (imm:=imm) κ hko arr.toList es (by simpa using hl) hall (λj b x h1 h2=>hr j b x h1 (by simpa using h2)) with⟨f1,f2,-⟩ | ⟨j,x,v,f1,-,-,f4,f5,-⟩
    ·rw [f2] at hK;refine Zae h hd hK ?_ (hval (AV.ofVal z) z (h.ev (.const z)) false);simp only [Instr.lookup,em,ek,Zzk,Zzl hu,Zzj,ZC5 hh,Zzs,hck,f1,hzr]
    ·rw [f4] at hK;refine Zae h hd hK ?_ (hval v x.val (.pure f5) true);simp only [Instr.lookup,em,ek,Zzk,Zzl hu,Zzj,ZC5 hh,Zzs,hck,f1]
   ·exact hK.elim
  ·exact hK.elim
 ·exact hK.elim
theorem Zqa {t:TypeId} {m k x:Operand} (h:Rel c n st a w imm) (hd:∀d,o.dst=some d→d < n) (hK:aRes P tok o.dst (Zim P st t (st.ev m) (st.ev k) (st.ev x)) K st) :
 o.upon P a (Zby c n K) Q ((do Instr.mapUpdate t (a.eval m) (a.eval k) (a.eval x);pure .skip:Sem Next).run P w):=by
 unfold Zim at hK;split at hK
 ·rename_i kt et hu;split at hK
  ·rename_i κ tk g hmk hm;split at hK
   ·rename_i g' es hmem;obtain⟨⟨rfl,hall,hpo⟩,hK⟩:=hK;have em:=h.ev m;rw [hm] at em;have em:=em.mp_inv;obtain⟨ek,hko⟩:=mk_of hmk (h.ev k);obtain⟨i0,hm0,hk0⟩:=Zc4 (st.ev x).toks h.mem;obtain⟨arr,clock,hh,hB,hl,hr,hbo,hp⟩:=hm0.ok.ent tk _ hmem;have hlt:g < w.heap.size:=(Array.getElem?_eq_some_iff.1 hh).1;have hck:=Zpi (P:=P) (w:=w) hko false;have hset:∀o':Obj,(setObj g o').run P w=.ok () { w with heap:=w.heap.setIfInBounds g o' }:=λo'=>MapKept.run_setObj_map o' hh;have hgrow:∀o':Obj,w.grownBy { w with heap:=w.heap.setIfInBounds g o' } (some g):=λo'=>by
     refine⟨rfl,rfl,rfl,by simp,λk hk hne=>?_⟩;simp only;rw [ZDy (λh9=>hne (by rw [h9]))]
    have fin:∀(arr':Array MapEntry) (clock':Nat),Born arr' clock'→(Zgu κ (pubV (marks st.mem (st.ev x).toks) (st.ev x)) es).length=arr'.size →
     (∀(imm':Imm),Rd w imm' (pubV (marks st.mem (st.ev x).toks) (st.ev x)) (a.eval x)→(∀(j:Nat) (b:MKey × AV) (y:MapEntry),es[j]?=some b→arr[j]?=some y→y.key=b.1.val∧Rd w imm' b.2 y.val) →
      ∀(j:Nat) (b:MKey × AV) (y:MapEntry),(Zgu κ (pubV (marks st.mem (st.ev x).toks) (st.ev x)) es)[j]?=some b→arr'[j]?=some y→y.key=b.1.val∧Rd w imm' b.2 y.val) →
     (Instr.mapUpdate t (a.eval m) (a.eval k) (a.eval x)).run P w=.ok () { w with heap:=w.heap.setIfInBounds g (.map arr' clock') } →
     o.upon P a (Zby c n K) Q ((do Instr.mapUpdate t (a.eval m) (a.eval k) (a.eval x);pure .skip:Sem Next).run P w):=λarr' clock' hbn h1 h2 h3=>by
     simp only [Zzk,h3,Zzj,Zzs];refine Zf5 (x:=undef) h hd hK (.inr ⟨rfl,rfl⟩) λimm' hm' hk'=>?_;obtain⟨arr2,clock2,hh2,hB2,hl2,hr2,hbo2,hp2⟩:=hm'.ok.ent tk _ hmem;rw [hh] at hh2;cases hh2;have hcell:∀ad,imm' ad→World.cell? { w with heap:=w.heap.setIfInBounds g (.map arr' clock') } ad=w.cell? ad:=λad h9=>Zd3 (hgrow _) (hm'.ok.lt ad h9) (λh8=>hp2 ad h9 (by cases h8;rfl));have hkeep:Keeps w imm' { w with heap:=w.heap.setIfInBounds g (.map arr' clock') } imm':=λad h9=>⟨h9,hcell ad h9⟩;have hx:=Zgf hm' (hk'.rs (h.ev x)) hpo;obtain⟨q1,q2⟩:=Zd1 hm' (hgrow (.map arr' clock')) (Zy5 _) (λg' hg'=>by cases hg';exact hB2) hcell tk (.map g (Zgu κ (pubV (marks st.mem (st.ev x).toks) (st.ev x)) es))
      ⟨arr',clock',by simp [hlt],hB2,h1,λj b y k1 k2=>⟨(h2 imm' hx hr2 j b y k1 k2).1,hkeep.rd (h2 imm' hx hr2 j b y k1 k2).2⟩,hbn,hp2⟩
      (λj e2 b hj hje hb=>⟨λe=>hj (hm'.ok.apart j tk e2 _ b hje hmem hb (by rw [Ent.blk,e])),λe=>hj (hm'.ok.apart j tk e2 _ b hje hmem hb (by simpa [Ent.blk] using e))⟩)
     exact⟨q1,q2,.pure (.u _)⟩
    rcases Zpp (w:=w) (imm:=i0) κ hko arr.toList es (by simpa using hl) hall (λj b x h1 h2=>hr j b x h1 (by simpa using h2)) with⟨f1,-,f3⟩ | ⟨j,y,v,f1,f2,fk,-,-,f6,f7⟩
    ·refine fin (arr.push { key:=κ.val,val:=a.eval x,born:=clock }) (clock+1) (hbo.push _ _) (by rw [f3];simp [hl]) (λimm' hx hr' j b y k1 k2=>?_) ?_
     ·rw [f3] at k1;by_cases hj:j < es.length
      ·rw [Zz8 hj] at k1;rw [Array.getElem?_push,Zy0 zo] at k2;exact hr' j b y k1 k2
      ·rw [ZAd zo] at k1
       have hje:j=es.length:=by
        rcases Zzo (j - es.length) 1 with h9 | h9
        ·omega
        ·rw [ZAf (by simpa using h9)] at k1;cases k1
       subst hje;rw [ZC6] at k1;simp only [ZCo,Option.some.injEq] at k1;rw [Array.getElem?_push,Zy1 hl] at k2;simp only [Option.some.injEq] at k2;subst k1;subst k2;exact⟨rfl,hx⟩
     ·simp only [Instr.mapUpdate,em,ek,Zzk,Zzl hu,Zzj,ZC5 hh,hck,f1,hset]
    ·have f2':arr[j]?=some y:=by simpa using f2
     have hjs:j < arr.size:=(Array.getElem?_eq_some_iff.1 f2').1;refine fin (arr.modify j λe=>{ e with key:=κ.val,val:=a.eval x }) clock (hbo.modify _ _ λ_=>rfl) (by rw [f7];simp [hl]) (λimm' hx hr' j' b z k1 k2=>?_) ?_
     ·rw [f7,List.getElem?_set] at k1;rw [ZDs] at k2;by_cases hj:j=j'
      ·subst hj;rw [Zy1 rfl,Zy1 f6] at k1;rw [Zy1 rfl,f2'] at k2;simp only [ZAq,Option.some.injEq] at k1 k2;subst k1;subst k2;exact⟨rfl,hx⟩
      ·rw [Zy0 hj] at k1;rw [Zy0 hj] at k2;exact hr' j' b z k1 k2
     ·have hst:(Instr.keyThatStays (((arr[j]?).map (·.key)).getD κ.val) κ.val).run P w=.ok κ.val w:=by
       rw [f2'];simp only [ZAq,ZAs,fk];exact Zxr κ
      simp only [Instr.mapUpdate,em,ek,Zzk,Zzl hu,Zzj,ZC5 hh,hck,f1,hst,hset]
   ·exact hK.elim
  ·rename_i tk g ka i kb j hmk hm hk;split at hK
   ·rename_i g' len et hmem hku;obtain⟨⟨rfl,rfl,hue,rfl,hsz⟩,hK⟩:=hK;have em:=h.ev m;rw [hm] at em;have em:=em.mp_inv;have ek:=h.ev k;rw [hk] at ek;obtain⟨vs,hv,hvl,hvr⟩:=ek.agg_inv
    have hvs:vs=#[.int kb i,.int kb j]:=by
     have hz:vs.size=2:=by simpa using hvl.symm
     refine Array.ext (by simp [hz]) λq q1 q2=>?_;have hq:q < 2:=zo
     match q,hq with
     | 0,_=>have:=hvr 0 _ vs[0] rfl (Zz2 zo);simpa using this.v_inv
     | 1,_=>have:=hvr 1 _ vs[1] rfl (Zz2 zo);simpa using this.v_inv
    subst hvs;obtain⟨arr,clock,hh,hB,hl,hr,hbo,hp⟩:=h.mem.ok.ent tk _ hmem
    have harr:arr=#[]:=by
     have:arr.size=0:=by simpa using hl.symm
     exact Array.eq_empty_of_size_eq_zero this
    subst harr;have hag:(isAgg et).run P w=.ok false w:=by simp [isAgg,Zzl hue]
    have hszr:=Zah (w:=w) hsz;have hp0:(part et #[.int kb i,.int kb j] 0).run P w=.ok (.int kb i) w:=by simp [part,hag]
    have hp1:(part et #[.int kb i,.int kb j] 1).run P w=.ok (.int kb j) w:=by simp [part,hag]
    have hci:∀x:Value,(Instr.checkKey false 9999 et x).run P w=.ok () w:=λx=>by
     unfold Instr.checkKey;simp [Zzl hue]
    have hck:(Instr.checkKey false 10000 kt (.agg #[.int kb i,.int kb j])).run P w=.ok () w:=by
     unfold Instr.checkKey;simp [Zzl hku,hszr,hp0,hp1,hci,show List.range' 0 2=[0,1] from rfl]
    have hset:∀o':Obj,(setObj g o').run P w=.ok () { w with heap:=w.heap.setIfInBounds g o' }:=λo'=>MapKept.run_setObj_map o' hh;have hgrow:∀o':Obj,w.grownBy { w with heap:=w.heap.setIfInBounds g o' } (some g):=λo'=>by
     refine⟨rfl,rfl,rfl,by simp,λk hk hne=>?_⟩;simp only;rw [ZDy (λh9=>hne (by rw [h9]))]
    have hrun:(Instr.mapUpdate t (a.eval m) (a.eval k) (a.eval x)).run P w=.ok () { w with heap:=w.heap.setIfInBounds g (.map #[{ key:=.agg #[.int kb i,.int kb j],val:=a.eval x,born:=clock }] (clock+1)) }:=by
     simp only [Instr.mapUpdate,em,hv,Zzk,Zzl hu,Zzj,ZC5 hh,hck,MapKept.run_findKey hku (show Instr.findNow _ _ (#[]:Array MapEntry).toList 0=some none from rfl),hset];rfl
    simp only [Zzk,hrun,Zzj,Zzs];refine Zf5 (x:=undef) h hd hK (.inr ⟨rfl,rfl⟩) λimm' hm' hk'=>?_;obtain⟨arr2,clock2,hh2,hB2,hl2,hr2,hbo2,hp2⟩:=hm'.ok.ent tk _ hmem;have hcell:∀o',∀ad,imm' ad→World.cell? { w with heap:=w.heap.setIfInBounds g o' } ad=w.cell? ad:=λo' ad h9=>Zd3 (hgrow _) (hm'.ok.lt ad h9) (λh8=>hp2 ad h9 (by cases h8;rfl));obtain⟨q1,q2⟩:=Zd1 hm' (hgrow _) (Zy5 _) (λg' hg'=>by cases hg';exact hB2) (hcell _) tk (.row (.slice none 0 0) 0 0 [] 0) ⟨[],ZDq _ c.B 0 0,by simp,by simp,by simp [flat],by simp,λad _ h2=>by simp [Value.ownBlock] at h2,λg off h1 _=>by simp [Value.ownBlock] at h1⟩
     (λj e2 b hj hje hb=>⟨λe=>hj (hm'.ok.apart j tk e2 _ b hje hmem hb (by rw [Ent.blk,e])),by simp [Ent.blk,Value.ownBlock]⟩)
    exact⟨q1,q2,.pure (.u _)⟩
   ·exact hK.elim
  ·exact hK.elim
 ·exact hK.elim
end
section
variable {P:Program} {c:Cx} {n tok:Nat} {st:St} {a:Act} {w:World} {imm:Imm} {K:St→Prop} {o:Oper} {Q:Exit→Act→World→Prop}
theorem s_nil {x:Operand} (h:Rel c n st a w imm) (hd:∀d,o.dst=some d→d < n) (hK:aRes P tok o.dst (Zmd (st.ev x)) K st) (ho:o.op=.nilCheck x) :
 o.upon P a (Zby c n K) Q ((execOp a.eval o).run P w):=by
 have hx:=h.ev x;unfold Zmd at hK;split at hK
 ·rename_i cs he;rw [he] at hx;obtain⟨ad,f,hv,_⟩:=hx.pimm_inv;simp only [execOp,ho,hv,Zzs];exact Zc8 h hd hK λ_ _ hk=>hk.rs (hv ▸ hx)
 ·rename_i k g off he;rw [he] at hx;have hv:=hx.pbox_inv;simp only [execOp,ho,hv,Zzs];exact Zc8 h hd hK λ_ _ hk=>hk.rs (hv ▸ hx)
 ·rename_i k sv m i off he;rw [he] at hx;obtain⟨g,nn,cc,e1,hv⟩:=hx.prow_inv;simp only [execOp,ho,hv,Zzs];exact Zc8 h hd hK λ_ _ hk=>hk.rs (hv ▸ hx)
 ·rename_i f cs he;rw [he] at hx;obtain⟨vs,hv,_⟩:=hx.fn_inv;simp only [execOp,ho,hv,Zzs];exact Zc8 h hd hK λ_ _ hk=>hk.rs (hv ▸ hx)
 ·exact hK.elim
theorem run_box {e:TypeId} {z:Value}:(Instr.box e z).run P w=.ok (.pointer (some ⟨w.heap.size,0,none⟩)) (w.alloc (.cells z.cells e)):=by
 simp only [Instr.box,newVar,newRow,Zzk,run_newObj,Zzj,Zzs];rfl
theorem Zc9 (h:Rel c n st a w imm) (hd:∀d,o.dst=some d→d < n) (hK:aRes P tok o.dst (Zag P st o.op) K st):o.wp P a w (Zby c n K) Q:=by
 unfold Oper.wp;have same:∀{x:Operand},aRes P tok o.dst (.val (st.ev x) []) K st→o.upon P a (Zby c n K) Q (.ok (.value (a.eval x)) w):=λhK=>Zc8 h hd hK λ_ _ hk=>hk.rs (h.ev _)
 cases ho:o.op with
 | move x=>simp only [Zag,ho] at hK;simp only [execOp,ho,Zzs];exact same hK
 | assign x=>simp only [Zag,ho] at hK;simp only [execOp,ho,Zzs];exact same hK
 | pick cc x y =>
   simp only [Zag,ho,Zks] at hK;split at hK
   ·rename_i t hc;have hcv:=h.ev cc;rw [hc] at hcv;have hv:=hcv.v_inv
    have hrun:(execOp a.eval o).run P w=.ok (.value (if t then a.eval x else a.eval y)) w:=by
     simp only [execOp,ho,hv,asBool,Zzk,Zzs,Zzj]
    rw [hrun];unfold Zwv at hK;split at hK
    ·rename_i p q hp hq;have e1:=h.ev x;rw [hp] at e1;have e2:=h.ev y;rw [hq] at e2;refine Zc8 h hd hK λ_ _ hk=>?_;rw [e1.v_inv,e2.v_inv];cases t<;>exact .pure (.v _)
    ·refine Zc8 h hd hK λ_ _ hk=>?_;cases t
     ·exact hk.rs (h.ev y)
     ·exact hk.rs (h.ev x)
   ·exact hK.elim
 | alloc e =>
   simp only [Zag,ho,aZero] at hK
   cases hz:Zaq P e with
   | none=>rw [hz] at hK;exact hK.elim
   | some z =>
     rw [hz] at hK;obtain⟨hok,hK⟩:=hK;obtain⟨hl,hr,h1⟩:=(Zna w imm z).cells_of hok
     have hrun:(execOp a.eval o).run P w=.ok (.value (.pointer (some ⟨w.heap.size,0,none⟩))) (w.alloc (.cells z.cells e)):=by
      simp only [execOp,ho,Instr.alloc,Zzk,Zak hz,Zzj,newVar,newRow,run_newObj,Zzs];rfl
     rw [hrun];exact Zro h hd hK hl h1 hr
 | box e x =>
   simp only [Zag,ho] at hK;obtain⟨hok,hK⟩:=hK;obtain⟨hl,hr,h1⟩:=(h.ev x).cells_of hok
   have hrun:(execOp a.eval o).run P w=.ok (.value (.pointer (some ⟨w.heap.size,0,none⟩))) (w.alloc (.cells (a.eval x).cells e)):=by
    simp only [execOp,ho,Zzk,run_box,Zzj,Zzs]
   rw [hrun];exact Zro h hd hK hl h1 hr
 | build t parts=>simp only [Zag,ho] at hK;simp only [execOp,ho];exact s_build h hd hK
 | buildSlice t len parts=>simp only [Zag,ho] at hK;simp only [execOp,ho];exact Zog h hd hK
 | load t x=>simp only [Zag,ho] at hK;simp only [execOp,ho];exact s_load h hd hK (h.ev x)
 | store t p x=>simp only [Zag,ho] at hK;simp only [execOp,ho];exact s_store h hd hK (h.ev p) (h.ev x)
 | nilCheck x=>simp only [Zag,ho] at hK;exact s_nil h hd hK ho
 | binOp op t x y u=>simp only [Zag,ho] at hK;simp only [execOp,ho];exact s_bin h hd hK (h.ev x) (h.ev y)
 | unOp op t x=>simp only [Zag,ho] at hK;simp only [execOp,ho];exact s_un h hd hK (h.ev x)
 | convert s d x=>simp only [Zag,ho] at hK;simp only [execOp,ho];exact s_conv h hd hK (h.ev x)
 | makeFunc fn first caps =>
   simp only [Zag,ho] at hK
   cases fn with
   | func f =>
     obtain⟨h0,hK⟩:=hK
     have hf:first=#[]:=by
      have:first.toList=[]:=ZB8 h0
      rw [←ZDi (xs:=first),this]
     obtain⟨hal,har⟩:=Znv (xs:=caps) h
     have hrun:(execOp a.eval o).run P w=.ok (.value (.func (.func f) #[] (caps.map a.eval))) w:=by
      simp only [execOp,ho,Instr.makeFunc,Zzk,Zzs,Zzj,hf,Array.map_empty]
     rw [hrun];exact Zc8 h hd hK λ_ _ hk=>hk.rs (.fn f _ _ hal har)
   | _=>exact hK.elim
 | makeSlice t l cp=>simp only [Zag,ho] at hK;simp only [execOp,ho];exact s_make h hd hK (h.ev l) (h.ev cp)
 | slice t x lo hi mx=>simp only [Zag,ho] at hK;simp only [execOp,ho];exact s_slice h hd hK
 | fieldAddr s x f=>simp only [Zag,ho] at hK;simp only [execOp,ho];exact s_field h hd hK (h.ev x)
 | field s x f =>
   simp only [Zag,ho] at hK;simp only [execOp,ho];split at hK
   ·rename_i fields cs hu hx;split at hK
    ·rename_i fd hf;have hxv:=h.ev x;rw [hx] at hxv;obtain⟨vs,hv,hl,hr⟩:=hxv.agg_inv
     have e1:(Instr.field s (a.eval x) f).run P w=(part fd.type vs fd.offset).run P w:=by
      simp only [Instr.field,Zzk,Zzl hu,Zzj,hf,hv,asAgg,Zzs]
     have:=Zjj (o:=o) (Q:=Q) h hd hK hl hr;simp only [Zzk] at this ⊢;rw [e1];exact this
    ·exact hK.elim
   ·exact hK.elim
 | indexAddr t x i=>simp only [Zag,ho] at hK;simp only [execOp,ho];exact Zqb h hd hK (h.ev x) (h.ev i)
 | index t x i=>simp only [Zag,ho] at hK;simp only [execOp,ho];exact s_index h hd hK (h.ev x) (h.ev i)
 | extract x i =>
   simp only [Zag,ho] at hK;split at hK
   ·rename_i cs hx;split at hK
    ·rename_i b hb;have hxv:=h.ev x;rw [hx] at hxv;obtain⟨vs,hv,hl,hr⟩:=hxv.tup_inv;have hlt:i < vs.size:=by rw [←hl];exact Zbp hb
     have hrun:(execOp a.eval o).run P w=.ok (.value vs[i]) w:=by
      simp only [execOp,ho,Instr.extract,hv,Zz2 hlt,Zzk,Zzs,Zzj]
     rw [hrun];exact Zc8 h hd hK λ_ _ hk=>hk.rs (hr i b _ hb (Zz2 hlt))
    ·exact hK.elim
   ·exact hK.elim
 | makeInterface t x =>
   simp only [Zag,ho] at hK
   cases hu:P.underlying t with
   | none=>rw [hu] at hK;exact hK.elim
   | some d =>
     rw [hu] at hK
     have hrun:∀(hd:∀ms,d≠.interface ms),(execOp a.eval o).run P w=.ok (.value (.iface t (a.eval x))) w:=by
      intro hdd;simp only [execOp,ho,Instr.makeInterface,Zzk,Zzl hu,Zzj];cases d<;>first
       | exact absurd rfl (hdd _)
       | simp only [Zzs,Zzj]
     cases d<;>first
      | exact hK.elim
      | (rw [hrun (λ_ h=>by cases h)]
         exact Zc8 h hd hK λ_ _ hk=>.ifc t _ _ (hk.rs (h.ev x)))
 | makeMap t r =>
   cases r with
   | none =>
     simp only [Zag,ho] at hK
     have hrun:(execOp a.eval o).run P w=.ok (.value (.map (some w.heap.size))) (w.alloc (.map #[] 0)):=by
      simp only [execOp,ho];rfl
     rw [hrun];exact Zu8 h hd hK
   | some r=>simp only [Zag,ho] at hK;exact hK.elim
 | lookup t m k ok=>simp only [Zag,ho] at hK;simp only [execOp,ho];exact s_lookup h hd hK
 | mapUpdate t m k x=>simp only [Zag,ho] at hK;simp only [execOp,ho];exact Zqa h hd hK
 | call cl=>simp only [Zag,ho] at hK;simp only [execOp,ho];exact s_call h hd hK
 | _=>simp only [Zag,ho] at hK;exact hK.elim
end
def Zhl:AV→Prop
 | .v _=>True
 | _=>False
def says:AV→Bool→Bool
 | .v (.bool b),w=>b == w
 | _,_=>false
def Zbe (all:List Oper) (st:St) (j:Nat):AV :=
 match (all[j]?).bind (·.dst) with
 | some d=>st.env d
 | none=>.u
def Za7 (P:Program) (tok:Nat) (all:List Oper):List Oper→(St→Prop)→St→Prop
 | [],K,st=>K st
 | o :: r,K,st=>match o.guard with
   | none=>aRes P (tok+o.dst.getD 0) o.dst (Zag P st o.op) (Za7 P tok all r K) st
   | some (j,want)=>Zhl (Zbe all st j)∧if says (Zbe all st j) want=true then aRes P (tok+o.dst.getD 0) o.dst (Zag P st o.op) (Za7 P tok all r K) st else Za7 P tok all r K (st.put o.dst (.v (.tuple #[])))
theorem Zyy {P:Program} {tok:Nat} {all:List Oper} {K:St→Prop} {st:St}:Za7 P tok all [] K st=K st:=rfl
theorem Zd5 {P:Program} {tok:Nat} {all:List Oper} {K:St→Prop} {st:St} {d:Option Tmp} {op:Op} {t:TypeId} {pos:String} {af:Array Edge} {r:List Oper} :
 Za7 P tok all (⟨d,op,t,pos,af,none⟩ :: r) K st=aRes P (tok+d.getD 0) d (Zag P st op) (Za7 P tok all r K) st:=rfl
theorem Zjc {P:Program} {tok:Nat} {all:List Oper} {K:St→Prop} {st:St} {d:Option Tmp} {op:Op} {t:TypeId} {pos:String} {af:Array Edge} {r:List Oper} {j:Nat} {want:Bool} :
 Za7 P tok all (⟨d,op,t,pos,af,some (j,want)⟩ :: r) K st=(Zhl (Zbe all st j)∧if says (Zbe all st j) want=true then aRes P (tok+d.getD 0) d (Zag P st op) (Za7 P tok all r K) st else Za7 P tok all r K (st.put d (.v (.tuple #[])))):=rfl
def Zdx (n:Nat) (o:Oper):Bool:=o.dst.all (λd=>decide (d < n))
inductive AE where
 | normal
 | exit (id:Nat)
 | ret
def AE.to:AE→Exit
 | .normal=>.normal
 | .exit id=>.exit id
 | .ret=>.ret
def post (c:Cx) (n:Nat) (Q:AE→St→Prop):Exit→Act→World→Prop:=λe a w=>∃ae st imm,e=ae.to∧Q ae st∧Rel c n st a w imm
def AWP (P:Program) (n:Nat) (code:Code) (Q:AE→St→Prop) (st:St):Prop:=∀(c:Cx) (a:Act) (w:World) (imm:Imm),Rel c n st a w imm→code.wp P (post c n Q) a w
section
variable {P:Program} {c:Cx} {n tok:Nat}
theorem Zh8 (all:List Oper) {Q:AE→St→Prop}:∀(l:List Oper) (st:St) (a:Act) (w:World) (imm:Imm),Rel c n st a w imm→l.all (Zdx n)=true→Za7 P tok all l (Q .normal) st→wpList P all.toArray (post c n Q) l a w
 | [],st,a,w,imm,h,_,hK=>⟨.normal,st,imm,rfl,hK,h⟩
 | o :: r,st,a,w,imm,h,hf,hK=>by
   simp only [ZCl,Zzn] at hf
   have hd:∀d,o.dst=some d→d < n:=by
    intro d hdd;have:=hf.1;rw [Zdx,hdd] at this
    simpa using this
   have yes:aRes P (tok+o.dst.getD 0) o.dst (Zag P st o.op) (Za7 P tok all r (Q .normal)) st→o.wp P a w (wpList P all.toArray (post c n Q) r) (post c n Q):=λhy =>
    Oper.wp_mono (λa' w' hg=>by
     obtain⟨st',imm',hk,hr⟩:=hg;exact Zh8 all r st' a' w' imm' hr hf.2 hk) (Zc9 h hd hy)
   have no:Za7 P tok all r (Q .normal) (st.put o.dst (.v (.tuple #[])))→wpList P all.toArray (post c n Q) r (a.put o.dst undef) w:=λhn =>
    Zh8 all r _ _ w imm (h.step (Keeps.refl _ _) h.mem hd (.pure (.v _))) hf.2 hn
   unfold wpList;unfold Za7 at hK
   cases hg:o.guard with
   | none =>
     rw [hg] at hK;rw [Zy1 (by simp [Region.wanted,hg])];exact .inl (yes hK)
   | some jw =>
     obtain⟨j,want⟩:=jw;rw [hg] at hK;simp only at hK;obtain⟨hB,hK⟩:=hK;unfold Zbe at hB hK;split at hB
     ·rename_i d hdj;rw [hdj] at hK;simp only at hK
      cases hb:st.env d with
      | v x =>
        have hv:=h.env d;rw [hb] at hv;have hv:=hv.v_inv;have hdj':((all.toArray[j]?).bind (·.dst))=some d:=by simpa using hdj
        by_cases hx:∃b,x=.bool b
        ·obtain⟨b,rfl⟩:=hx
         have hlt:d < a.tmps.size:=by
          rcases Zzo d a.tmps.size with h1 | h1
          ·exact h1
          ·rw [ZA2,ZCj h1] at hv;simp [undef] at hv
         have hget:a.tmps[d]?=some (.bool b):=by
          rw [Zz2 hlt];rw [ZA2,Zz2 hlt] at hv
          simpa using hv
         have hy:yielded all.toArray a.tmps j=some b:=by
          unfold yielded;rw [hdj'];simp [hget]
         have hbo:says (st.env d) want=(b == want):=by rw [hb];rfl
         by_cases hbw:b=want
         ·rw [Zy1 (by simp [Region.wanted,hg,hy,hbw])];rw [Zy1 (by rw [hbo,hbw];simp)] at hK;exact .inl (yes hK)
         ·rw [Zy0 (by simp [Region.wanted,hg,hy,hbw])];rw [Zy0 (by rw [hbo];simpa using hbw)] at hK;exact no hK
        ·have hy:yielded all.toArray a.tmps j=none:=by
          unfold yielded;rw [hdj'];simp only [ZC0];rcases ht:a.tmps[d]? with _ | y
          ·rfl
          ·rw [ZA2,ht] at hv;simp only [ZAs] at hv;subst hv;split
           ·rename_i b heq;simp only [Option.some.injEq] at heq;exact absurd ⟨b,heq⟩ hx
           ·rfl
         have hbo:says (st.env d) want=false:=by
          rw [hb];cases x<;>first|rfl|exact absurd ⟨_,rfl⟩ hx
         rw [Zy0 (by simp [Region.wanted,hg,hy])];rw [Zy0 (by rw [hbo];simp)] at hK;exact no hK
      | _=>rw [hb] at hB;exact hB.elim
     ·exact hB.elim
def Zax (n:Nat):Code→Bool
 | .region _ ops _=>ops.toList.all (Zdx n)
 | .seq x y=>Zax n x && Zax n y
 | .cond _ x y=>Zax n x && Zax n y
 | .block _ x=>Zax n x
 | .loop x=>Zax n x
 | _=>true
def AE.inBlock (id:Nat) (Q:AE→St→Prop):AE→St→Prop
 | .exit i,st=>if i=id then Q .normal st else Q (.exit i) st
 | .normal,st=>Q .normal st
 | .ret,st=>Q .ret st
def AE.then (next:St→Prop) (Q:AE→St→Prop):AE→St→Prop
 | .normal,st=>next st
 | .exit i,st=>Q (.exit i) st
 | .ret,st=>Q .ret st
def Zaw (P:Program) (tok n:Nat):Code→(AE→St→Prop)→St→Prop
 | .skip,Q,st=>Q .normal st
 | .region id ops false,Q,st=>Za7 P tok ops.toList ops.toList (Q .normal) st
 | .seq x y,Q,st=>Zaw P tok n x (AE.then (Zaw P tok n y Q) Q) st
 | .cond o x y,Q,st=>match st.ev o with
   | .v (.bool t)=>(t=true→Zaw P tok n x Q st)∧(t=false→Zaw P tok n y Q st)
   | _=>False
 | .block id x,Q,st=>Zaw P tok n x (AE.inBlock id Q) st
 | .exit id,Q,st=>Q (.exit id) st
 | .ret,Q,st=>Q .ret st
 | code,Q,st=>AWP P n code Q st
theorem Zwt {Q Q':AE→St→Prop} (h:∀e st,Q e st→Q' e st) {e:Exit} {a:Act} {w:World}:post c n Q e a w→post c n Q' e a w:=fun⟨ae,st,imm,h1,h2,h3⟩=>⟨ae,st,imm,h1,h _ _ h2,h3⟩
theorem Za2:∀(code:Code) (Q:AE→St→Prop) (st:St),Zax n code=true→Zaw P tok n code Q st→AWP P n code Q st
 | .skip,Q,st,_,h=>λc a w imm hr=>wp_skip ⟨.normal,st,imm,rfl,h,hr⟩
 | .region id ops false,Q,st,hf,h=>λc a w imm hr=>by
   have:=Zh8 (c:=c) ops.toList ops.toList st a w imm hr hf h;simp only [ZDi] at this;exact wp_region_list this
 | .seq x y,Q,st,hf,h=>λc a w imm hr=>by
   simp only [Zax,Zzn] at hf;refine wp_seq (ZCd (λe a' w' hp=>?_) (Za2 x _ st hf.1 h c a w imm hr));obtain⟨ae,st',imm',rfl,h2,h3⟩:=hp
   cases ae with
   | normal=>exact Za2 y _ st' hf.2 h2 c a' w' imm' h3
   | exit id=>exact⟨.exit id,st',imm',rfl,h2,h3⟩
   | ret=>exact⟨.ret,st',imm',rfl,h2,h3⟩
 | .cond o x y,Q,st,hf,h=>λc a w imm hr=>by
   simp only [Zax,Zzn] at hf;simp only [Zaw] at h;split at h
   ·rename_i t ht;have hv:=hr.ev o;rw [ht] at hv;exact wp_cond_split hv.v_inv (λe=>Za2 x _ st hf.1 (h.1 e) c a w imm hr) (λe=>Za2 y _ st hf.2 (h.2 e) c a w imm hr)
   ·exact h.elim
 | .block id x,Q,st,hf,h=>λc a w imm hr=>by
   refine wp_block (ZCd (λe a' w' hp=>?_) (Za2 x _ st hf h c a w imm hr));obtain⟨ae,st',imm',rfl,h2,h3⟩:=hp
   cases ae with
   | normal=>exact⟨.normal,st',imm',rfl,h2,h3⟩
   | exit i =>
     simp only [AE.inBlock] at h2;by_cases hi:i=id
     ·rw [Zy1 hi] at h2;simp only [AE.to,Exit.inBlock,hi,Zzt];exact⟨.normal,st',imm',rfl,h2,h3⟩
     ·rw [Zy0 hi] at h2;simp only [AE.to,Exit.inBlock,hi,Zzp];exact⟨.exit i,st',imm',rfl,h2,h3⟩
   | ret=>exact⟨.ret,st',imm',rfl,h2,h3⟩
 | .exit id,Q,st,_,h=>λc a w imm hr=>wp_exit ⟨.exit id,st,imm,rfl,h,hr⟩
 | .ret,Q,st,_,h=>λc a w imm hr=>wp_ret ⟨.ret,st,imm,rfl,h,hr⟩
 | .region id ops true,Q,st,_,h=>h
 | .loop x,Q,st,_,h=>h
 | .rangeFunc ..,Q,st,_,h=>h
 | .scope x,Q,st,_,h=>h
 | .label l,Q,st,_,h=>h
 | .goto l,Q,st,_,h=>h
 | .refuse y,Q,st,_,h=>h
theorem awp_loop {ι:Type} {body:Code} {Q:AE→St→Prop} (I:ι→St→Prop) (μ:ι→Nat) (hf:Zax n body=true)
 (round:∀i st,I i st→Zaw P tok n body (AE.then (λst'=>∃i',I i' st'∧μ i' < μ i) Q) st) {i:ι} {st:St} (h0:I i st):AWP P n (.loop body) Q st:=by
 intro c a w imm hr b k cs;have key:∀m i st a w imm,μ i=m→I i st→Rel c n st a w imm →
  ∃e a' w',post c n Q e a' w'∧Arrives P (lone (b.at a (.code body :: .inLoop body :: k)) cs w) b k cs e a' w':=by
  intro m
  induction m using Nat.strongRecOn with
  | _ m ih =>
    intro i st a w imm hm hI hr;obtain⟨e,a₁,w₁,hq,harr⟩:=Za2 body _ st hf (round i st hI) c a w imm hr b (.inLoop body :: k) cs;obtain⟨ae,st',imm',rfl,h2,h3⟩:=hq
    cases ae with
    | normal =>
      obtain⟨i',hI',hlt⟩:=h2;obtain⟨e₂,a₂,w₂,hq₂,harr₂⟩:=ih (μ i') (hm ▸ hlt) i' st' a₁ w₁ imm' rfl hI' h3;exact⟨e₂,a₂,w₂,hq₂,.of_steps (Steps.trans harr (.one step_inLoop)) harr₂⟩
    | exit id=>exact⟨_,a₁,w₁,⟨.exit id,st',imm',rfl,h2,h3⟩,.pass (x:=.inLoop body) rfl (λ_ _=>.inl (by simp [AE.to])) harr⟩
    | ret=>exact⟨_,a₁,w₁,⟨.ret,st',imm',rfl,h2,h3⟩,.pass (x:=.inLoop body) rfl (λ_ _=>.inl (by simp [AE.to])) harr⟩
 obtain⟨e,a',w',hq,harr⟩:=key _ i st a w imm rfl h0 hr;exact⟨e,a',w',hq,.of_steps (.one step_loop) harr⟩
end
def Pure (P:Program) (f:FuncId) (args:List AV) (r:AV):Prop :=
 (∀(vs:Array Value) (w:World),(callFunc f vs).run P w=.ok (.enter f vs) w) ∧
 ∀(w:World) (imm:Imm) (vs:Array Value),ImOk w imm→args.length=vs.size→(∀(j:Nat) (a:AV) (x:Value),args[j]?=some a→vs[j]?=some x→Rd w imm a x) →
  Calls P f vs w λe w'=>∃x imm',e=.returned x∧Rd w' imm' r x∧(∀ad,imm ad→imm' ad)∧(∀ad,imm' ad→(imm ad∨w.heap.size≤ad.block)∧ad.block < w'.heap.size∧ad.spot=none)∧Blw w.heap.size w w'
theorem Zja {P:Program} {f:FuncId} {args args':List AV} {r:AV} {σ:Mem} {R:AV→Mem→Prop} (h:Pure P f args' r) (ho:Ze5 (marks σ (AV.toksL args)) args) (ha:Zeq (marks σ (AV.toksL args)) args=args')
 (hR:R r (marks σ (AV.toksL args))):ACall P f args σ R:=by
 refine⟨h.1,λc w imm vs hm hl hr=>?_⟩;obtain⟨i1,hm1,hk1⟩:=Zc4 (AV.toksL args) hm;refine(h.2 w i1 vs ⟨λad h1=>⟨hm1.ok.lt ad h1,hm1.ok.spot ad h1⟩,hm1.tb⟩ (by rw [←ha,Zb5];exact hl) λj a x h1 h2=>?_).mono λe w' he=>?_
 ·rw [←ha] at h1;obtain⟨b,hb,rfl⟩:=Zfh j a h1;exact Zgf hm1 (hk1.rs (hr j b x hb h2)) (Zeb ho j b hb)
 ·obtain⟨x,i2,rfl,hrd,hi,hn,hb⟩:=he;have hg:w.grownBy w' none:=⟨hb.os,hb.tape,hb.output,hb.size,λk hk _=>hb.block k hk⟩;have hcell:∀ad,i1 ad→w'.cell? ad=w.cell? ad:=λad h1=>hb.cell (hm1.ok.lt ad h1);refine⟨r,_,i2,x,rfl,hR,.pure hrd,⟨⟨λk e hk=>?_,hm1.ok.apart,λad h1=>(hn ad h1).2.1,λad h1=>(hn ad h1).2.2⟩,hm1.below.trans (hb.mono hm1.lt),Zzg hm1.lt hb.size,λad h1=>hi _ (hm1.old ad h1),λad h1=>?_,λad h1=>(hcell ad (hm1.old ad h1)).trans (hm1.cells ad h1)⟩,
   hk1.trans λad h1=>⟨hi ad h1,hcell ad h1⟩⟩
  ·refine(hm1.ok.ent k e hk).keep hg ?_ hi hcell λad h1=>?_
   ·rcases hbk:e.blk with _ | b
    ·exact .inl rfl
    ·exact .inr zs
   ·rcases (hn ad h1).1 with h2 | h2
    ·exact .inl h2
    ·refine .inr λh3=>?_;have:=((hm1.ok.ent k e hk).blk_lt h3).2;omega
  ·rcases (hn ad h1).1 with h2 | h2
   ·exact hm1.new ad h2
   ·exact .inr (Zzg hm1.lt h2)
def resK:Res→(AV→Prop)→Prop
 | .val x [],K=>K x
 | .need p r,K=>p∧resK r K
 | _,_=>False
def Zr4 (P:Program) (st:St):ResultVar→(AV→Prop)→Prop
 | .tmp t,K=>K (st.env t)
 | .cell a t,K=>resK (Zdg P st t (st.env a)) K
def Zm2 (P:Program) (st:St):List ResultVar→(List AV→Prop)→Prop
 | [],K=>K []
 | v :: r,K=>Zr4 P st v λa=>Zm2 P st r λaS=>K (a :: aS)
def Zig (P:Program) (st:St) (rs:List ResultVar) (K:AV→Prop):Prop :=
 Zm2 P st rs λaS=>K (match aS with | [a]=>a | aS=>.tup aS)
section
variable {P:Program} {c:Cx} {n tok:Nat} {st:St} {a:Act} {w:World} {imm:Imm}
theorem Zeu {t:TypeId} {cs:List AV} {ad:Addr} {K:AV→Prop} (hK:resK (Zhr P t cs) K) (hc:CellsAt w imm ad cs):∃y b,(loadVar t ad).run P w=.ok y w∧K b∧Rs w imm b y:=by
 unfold Zhr at hK
 cases hu:P.underlying t with
 | none=>rw [hu] at hK;exact hK.elim
 | some d =>
   rw [hu] at hK
   have hag:(isAgg t).run P w=.ok (Zfy d) w:=by
    simp only [isAgg,Zzk,Zzl hu,Zzj];cases d<;>rfl
   cases hb:Zfy d with
   | false =>
     rw [hb] at hag;simp only [hb,Zzf,Zzp] at hK
     cases cs with
     | nil=>exact hK.elim
     | cons x r =>
       obtain⟨y,hy,hr⟩:=hc 0 x rfl;have:ad.add 0=ad:=by simp [Addr.add]
       rw [this] at hy;exact⟨y,x,by simp [loadVar,hag,hy],hK,hr⟩
   | true =>
     rw [hb] at hag;simp only [hb,Zzt] at hK;unfold Ziy at hK
     cases hs:szOf P t with
     | none=>rw [hs] at hK;exact hK.elim
     | some k =>
       rw [hs] at hK;obtain⟨hle,hK⟩:=hK
       have hex:∀j,j < k→∃x,w.cell? (ad.add j)=some x∧∀b,cs[j]?=some b→Rs w imm b x:=by
        intro j hj;obtain⟨x,h1,h2⟩:=hc j cs[j] (Zy4 zo);exact⟨x,h1,λb hb=>by rw [Zy4 zo] at hb;simp only [Option.some.injEq] at hb;exact hb ▸ h2⟩
       let f:Nat→Value:=λj=>(w.cell? (ad.add j)).getD undef
       have hf:∀j,j < k→w.cell? (ad.add j)=some (f j):=by
        intro j hj;obtain⟨x,h1,_⟩:=hex j hj;simp [f,h1]
       have hl:=run_loadCells (P:=P) w ad k f hf;refine⟨.agg ((List.range k).map f).toArray,_,by simp [loadVar,hag,Zah hs,hl],hK,.agg _ _ (by simp [hle]) λj b x h1 h2=>?_⟩;rw [ZAx] at h1;split at h1
       ·rename_i hj;obtain⟨y,h3,h4⟩:=hex j hj
        have:f j=x:=by
         have h2':((List.range k).map f)[j]?=some x:=by simpa using h2
         simpa [ZAb,ZC1 hj] using h2'
        rw [←this];simp only [f,h3,ZAs];exact h4 b h1
       ·cases h1
def Zqe (a:Act):ResultVar→Sem Value
 | .tmp t=>pure (a.tmps.getD t undef)
 | .cell x t=>do loadVar t (←asAddr (a.tmps.getD x undef))
theorem Ztz {rv:ResultVar} {K:AV→Prop} (h:Rel c n st a w imm) (hK:Zr4 P st rv K) :
 ∃y b,(Zqe a rv).run P w=.ok y w∧K b∧Rs w imm b y:=by
 cases rv with
 | tmp t=>exact⟨_,_,rfl,hK,h.env t⟩
 | cell x t =>
   simp only [Zr4] at hK;have hx:=h.env x
   cases hxx:st.env x with
   | pbox k g off =>
     rw [hxx] at hK hx;have hv:=hx.pbox_inv;simp only [Zqe,hv];unfold Zdg at hK;simp only at hK
     cases hk:st.mem k with
     | none=>simp only [hk] at hK;exact hK.elim
     | some e =>
       cases e with
       | row=>simp only [hk] at hK;exact hK.elim
       | map=>simp only [hk] at hK;exact hK.elim
       | obj=>simp only [hk] at hK;exact hK.elim
       | box g' e cs pub =>
         simp only [hk] at hK;obtain⟨rfl,hK⟩:=hK;have hca:=(Zll h.mem hk).drop off;rw [ZAl,Zzv] at hca;obtain⟨y,b,h1,h2,h3⟩:=Zeu hK hca;exact⟨y,b,by simp only [asAddr,Zzk,Zzs,Zzj];exact h1,h2,h3⟩
   | pimm cs =>
     rw [hxx] at hK hx;obtain⟨ad,f,hv,h1,h2⟩:=hx.pimm_inv;simp only [Zqe,hv];obtain⟨y,b,h3,h4,h5⟩:=Zeu (ad:=ad) hK λj b hb=>⟨f j,(h1 j (Zbp hb)).2,.pure (h2 j b hb)⟩;exact⟨y,b,by simp only [asAddr,Zzk,Zzs,Zzj];exact h3,h4,h5⟩
   | prow k sv m i off =>
     rw [hxx] at hK hx;obtain⟨g,nn,cc,e1,hv⟩:=hx.prow_inv;subst e1;simp only [Zqe,hv];unfold Zdg at hK;simp only at hK
     cases hk:st.mem k with
     | none=>simp only [hk] at hK;exact hK.elim
     | some e =>
       cases e with
       | box=>simp only [hk] at hK;exact hK.elim
       | map=>simp only [hk] at hK;exact hK.elim
       | obj=>simp only [hk] at hK;exact hK.elim
       | row sv' e m' es pub =>
         simp only [hk] at hK;obtain⟨⟨rfl,rfl,hi⟩,hK⟩:=hK;have hca:=(Zkn h.mem hk hi).drop off;rw [ZAl] at hca;obtain⟨y,b,h1,h2,h3⟩:=Zeu hK hca;exact⟨y,b,by simp only [asAddr,Zzk,Zzs,Zzj];exact h1,h2,h3⟩
   | _=>rw [hxx] at hK;exact hK.elim
theorem Zko:∀(rs:List ResultVar) {K:List AV→Prop},Rel c n st a w imm→Zm2 P st rs K →
 ∃ys bs,(rs.mapM λrv=>Zqe a rv).run P w=.ok ys w∧K bs∧bs.length=ys.length ∧
  ∀(j:Nat) (b:AV) (y:Value),bs[j]?=some b→ys[j]?=some y→Rs w imm b y
 | [],K,h,hK=>⟨[],[],rfl,hK,rfl,by simp⟩
 | rv :: rs,K,h,hK=>by
   obtain⟨y,b,h1,h2,h3⟩:=Ztz h hK;obtain⟨ys,bs,h4,h5,h6,h7⟩:=Zko rs h h2;refine⟨y :: ys,b :: bs,?_,h5,by simp [h6],λj b' y' hb hy=>?_⟩
   ·rw [List.mapM_cons];simp only [Zzk,h1,h4,Zzj,Zzs]
   ·match j with
    | 0=>simp at hb hy;subst hb;subst hy;exact h3
    | j+1=>exact h7 j b' y' (by simpa using hb) (by simpa using hy)
theorem Zm1 {fn:Func} {rs:List ResultVar} {K:AV→Prop} (hrs:fn.results=rs.toArray) (h:Rel c n st a w imm) (hK:Zig P st rs K):∃y b,(results fn a.tmps).run P w=.ok y w∧K b∧Rs w imm b y:=by
 obtain⟨ys,bs,h1,h2,h3,h4⟩:=Zko rs h hK
 have hm:(fn.results.mapM λrv=>Zqe a rv).run P w=.ok ys.toArray w:=by
  rw [hrs,Array.mapM_eq_mapM_toList];simp only [Sem.run_map,h1,Zzj]
 have hr:(results fn a.tmps).run P w=.ok (if h:ys.toArray.size=1 then ys.toArray[0] else .tuple ys.toArray) w:=by
  have e:results fn a.tmps=(do let vs ←fn.results.mapM (Zqe a);pure (if h:vs.size=1 then vs[0] else .tuple vs)):=by
   unfold results;congr 1
  rw [e];simp only [Zzk,hm,Zzj,Zzs]
 match bs,ys,h3,h4,h2,hr with
 | [b],[y],_,h4,h2,hr=>exact⟨y,b,by simpa using hr,h2,h4 0 b y rfl rfl⟩
 | [],[],_,h4,h2,hr=>exact⟨_,_,hr,h2,.tup _ _ rfl zs⟩
 | b1 :: b2 :: bs,y1 :: y2 :: ys,h3,h4,h2,hr=>exact⟨_,_,hr,h2,by simpa using Rs.tup _ (y1 :: y2 :: ys).toArray (by simpa using h3) (λj b y hb hy=>h4 j b y hb (by simpa using hy))⟩
end
def Zl8 (st:St) (r:AV) (b:AV):Prop:=Zfv (marks st.mem b.toks) b∧pubV (marks st.mem b.toks) b=r
def Done (P:Program) (rs:List ResultVar) (K:St→AV→Prop):AE→St→Prop
 | .exit _,_=>False
 | .normal,st=>Zig P st rs (K st)
 | .ret,st=>Zig P st rs (K st)
theorem Znx {P:Program} {rs:List ResultVar} {K:St→AV→Prop} {ae:AE} {st:St} (h:Done P rs K ae st):Zig P st rs (K st):=by
 cases ae with
 | exit=>exact h.elim
 | normal=>exact h
 | ret=>exact h
theorem Zaa {P:Program} {f n tok:Nat} {fn:Func} {code:Code} {rs:List ResultVar} {args:List AV} {r:AV} (hf:P.funcs[f]?=some fn) (hb:fn.body=some code) (hn:fn.ntmps=n) (hrs:fn.results=rs.toArray)
 (hc:∀(vs:Array Value) (w:World),(callFunc f vs).run P w=.ok (.enter f vs) w) (hfit:Zax n code=true) (hal:args.length≤n)
 (h:Zaw P tok n code (Done P rs λst=>Zl8 st r) ⟨λt=>args.getD t .u,Zad⟩):Pure P f args r:=by
 refine⟨hc,λw imm vs himm hl hr=>?_⟩;refine calls_of_wp hf hb ?_
 let c:Cx:=⟨w.heap.size,w,imm,himm.tb.here⟩
 have hrel:Rel c n ⟨λt=>args.getD t .u,Zad⟩ { tmps:=vs++Array.replicate (fn.ntmps - vs.size) undef,defers:=[] } w imm:=by
  refine⟨λt=>?_,by simp [hn];omega,rfl,⟨⟨λk e hk=>by simp [Zad] at hk,λk k' e e' b hk=>by simp [Zad] at hk,λad h1=>(himm.at_ ad h1).1,λad h1=>(himm.at_ ad h1).2⟩,Blw.refl _ _,Zy5 _,λ_ h1=>h1,λ_ h1=>.inl h1,λ_ _=>rfl⟩⟩;simp only [Zzc];rcases Zzo t args.length with ht | ht
  ·have ht2:t < vs.size:=zo;rw [Zy4 ht,ZA2,ZCn ht2,Zz2 ht2];exact .pure (hr t _ _ (Zy4 ht) (Zz2 ht2))
  ·rw [ZAf ht];exact .pure (.u _)
 refine ZCd (λe a' w' hp=>?_) (Za2 code _ _ hfit h c _ w imm hrel);obtain⟨ae,st',imm',rfl,hdone,hrel'⟩:=hp;have hret:=Znx hdone;have hae:∀id,ae≠.exit id:=by rintro id rfl;exact hdone
 obtain⟨y,b,hrun,⟨hpo,hpv⟩,hrs'⟩:=Zm1 hrs hrel' hret;obtain⟨i2,hm2,hk2⟩:=Zc4 b.toks hrel'.mem;have hrd:=Zgf hm2 (hk2.rs hrs') hpo;rw [hpv] at hrd;have fin:a'.defers=[]∧∃v,(results fn a'.tmps).run P w'=.ok v w'∧(λe w'=>∃x imm',e=Ending.returned x∧Rd w' imm' r x∧(∀ad,imm ad→imm' ad)∧(∀ad,imm' ad→(imm ad∨w.heap.size≤ad.block)∧ad.block < w'.heap.size∧ad.spot=none)∧Blw w.heap.size w w') (Ending.returned v) w' :=
  ⟨hrel'.defers,y,hrun,y,i2,rfl,hrd,hm2.old,λad h1=>⟨hm2.new ad h1,hm2.ok.lt ad h1,hm2.ok.spot ad h1⟩,hm2.below⟩
 cases ae with
 | normal=>exact fin
 | ret=>exact fin
 | exit id=>exact absurd rfl (hae id)
theorem pI {P:Program} {f n:Nat} {fn:Func} {code:Code} {rs:List ResultVar} {args:List AV} {r:AV} (hf:P.funcs[f]?=some fn) (hb:fn.body=some code) (hn:fn.ntmps=n) (hrs:fn.results=rs.toArray)
 (hc:∀(vs:Array Value) (w:World),(callFunc f vs).run P w=.ok (.enter f vs) w)
 (h:Zaw P 0 n code (Done P rs λst=>Zl8 st r) ⟨λt=>args.getD t .u,Zad⟩) (hfit:Zax n code=true:=by rfl) (hal:args.length≤n:=by simp):Pure P f args r:=Zaa (tok:=0) hf hb hn hrs hc hfit hal h
theorem Zbi {P:Program} {f n tok:Nat} {fn:Func} {code:Code} {rs:List ResultVar} {args:List AV} {σ:Mem} {R:AV→Mem→Prop} (hf:P.funcs[f]?=some fn) (hb:fn.body=some code) (hn:fn.ntmps=n) (hrs:fn.results=rs.toArray)
 (hc:∀(vs:Array Value) (w:World),(callFunc f vs).run P w=.ok (.enter f vs) w) (hfit:Zax n code=true) (hal:args.length≤n)
 (h:Zaw P tok n code (Done P rs λst b=>R b st.mem) ⟨λt=>args.getD t .u,σ⟩):ACall P f args σ R:=by
 refine⟨hc,λc w imm vs hm hl hr=>?_⟩;refine calls_of_wp hf hb ?_
 have hrel:Rel ⟨c.B,w,imm,hm.tbB⟩ n ⟨λt=>args.getD t .u,σ⟩ { tmps:=vs++Array.replicate (fn.ntmps - vs.size) undef,defers:=[] } w imm:=by
  refine⟨λt=>?_,by simp [hn];omega,rfl,⟨hm.ok,Blw.refl _ _,hm.lt,λ_ h1=>h1,λ_ h1=>.inl h1,λ_ _=>rfl⟩⟩;simp only [Zzc];rcases Zzo t args.length with ht | ht
  ·have ht2:t < vs.size:=zo;rw [Zy4 ht,ZA2,ZCn ht2,Zz2 ht2];exact hr t _ _ (Zy4 ht) (Zz2 ht2)
  ·rw [ZAf ht];exact .pure (.u _)
 refine ZCd (λe a' w' hp=>?_) (Za2 code _ _ hfit h _ _ w imm hrel);obtain⟨ae,st',imm',rfl,hdone,hrel'⟩:=hp;have hret:=Znx hdone;have hae:∀id,ae≠.exit id:=by rintro id rfl;exact hdone
 obtain⟨y,b,hrun,hR,hrs'⟩:=Zm1 hrs hrel' hret;have hm':=hrel'.mem;have fin:a'.defers=[]∧∃v,(results fn a'.tmps).run P w'=.ok v w'∧(λe w'=>∃r σ' imm' x,e=Ending.returned x∧R r σ'∧Rs w' imm' r x∧Mx c σ' w' imm'∧Keeps w imm w' imm') (Ending.returned v) w' :=
  ⟨hrel'.defers,y,hrun,b,st'.mem,imm',y,rfl,hR,hrs',⟨hm'.ok,hm.below.trans hm'.below,hm'.lt,λad h1=>hm'.old ad (hm.old ad h1),λad h1=>(hm'.new ad h1).elim (hm.new ad) .inr,λad h1=>(hm'.cells ad (hm.old ad h1)).trans (hm.cells ad h1)⟩,
   λad h1=>⟨hm'.old ad h1,hm'.cells ad h1⟩⟩
 cases ae with
 | normal=>exact fin
 | ret=>exact fin
 | exit id=>exact absurd rfl (hae id)
theorem ACall.mono {P:Program} {f:FuncId} {args:List AV} {σ:Mem} {R R':AV→Mem→Prop} (h:ACall P f args σ R) (hR:∀r σ',R r σ'→R' r σ'):ACall P f args σ R' :=
 ⟨h.1,λc w imm vs hm hl hr=>(h.2 c w imm vs hm hl hr).mono λe w' ⟨r,σ',imm',x,h1,h2,h3⟩=>⟨r,σ',imm',x,h1,hR r σ' h2,h3⟩⟩
def Sub (a b:AV):Prop:=∀(w:World) (imm:Imm) (x:Value),Rs w imm a x→Rs w imm b x
theorem Sub.refl (a:AV):Sub a a:=λ_ _ _ h=>h
theorem Sub.own (k k':Nat) (sv:Value):Sub (.own k sv) (.own k' sv):=λ_ _ _ h=>by
 have h1:=h.own_inv;subst h1;exact .own _ _ h.own_one
theorem Sub.mp (k k' g:Nat):Sub (.mp k g) (.mp k' g):=λ_ _ _ h=>by rw [h.mp_inv];exact .mp _ _
theorem Sub.view (k k':Nat) (sv:Value) (m i len:Nat):Sub (.view k sv m i len) (.view k' sv m i len):=λ_ _ _ h=>.view _ _ _ _ _ _ h.view_inv
theorem Sub.pbox (k k' g off:Nat):Sub (.pbox k g off) (.pbox k' g off):=λ_ _ _ h=>by
 have h1:=h.pbox_inv;subst h1;exact .pbox _ _ _
theorem Sub.prow (k k':Nat) (sv:Value) (m i off:Nat):Sub (.prow k sv m i off) (.prow k' sv m i off):=λ_ _ _ h=>by
 obtain⟨g,n,c,rfl,rfl⟩:=h.prow_inv;exact .prow _ _ _ _ _ g n c rfl
theorem Sub.tup (aS bs:List AV) (hl:aS.length=bs.length) (h:∀(j:Nat) (a b:AV),aS[j]?=some a→bs[j]?=some b→Sub a b):Sub (.tup aS) (.tup bs):=λw imm x hx=>by
 obtain⟨vs,rfl,h1,h2⟩:=hx.tup_inv;refine .tup _ _ zo λj b y hb hy=>?_;have hj:j < aS.length:=by rw [hl];exact(List.getElem?_eq_some_iff.1 hb).1
 exact h j aS[j] b (Zy4 hj) hb w imm y (h2 j aS[j] y (Zy4 hj) hy)
inductive Subs:List AV→List AV→Prop
 | nil:Subs [] []
 | cons {a b:AV} {aS bs:List AV} (h:Sub a b) (t:Subs aS bs):Subs (a :: aS) (b :: bs)
theorem Subs.len {aS bs:List AV} (h:Subs aS bs):aS.length=bs.length:=by
 induction h with
 | nil=>rfl
 | cons _ _ ih=>simp [ih]
theorem Subs.get {aS bs:List AV} (h:Subs aS bs):∀(j:Nat) (a b:AV),aS[j]?=some a→bs[j]?=some b→Sub a b:=by
 induction h with
 | nil=>intro j a b h1;simp at h1
 | cons h1 _ ih =>
   intro j a b h2 h3
   cases j with
   | zero=>simp at h2 h3;subst h2;subst h3;exact h1
   | succ j=>exact ih j a b (by simpa using h2) (by simpa using h3)
def lent (σ:Mem):Mem:=λk=>if k < 1000 then none else σ (k - 1000)
def Back (R:AV→Mem→Prop) (b:AV) (m:Mem):Prop:=∃(r:AV) (σ':Mem) (ρ:Nat→Nat),Sub b r∧R r σ'∧(∀k e,σ' k=some e→m (ρ k)=some e)∧(∀k k',σ' k≠none→σ' k'≠none→ρ k=ρ k'→k=k')
section
variable {P:Program} {tok n:Nat} {Q:AE→St→Prop} {st:St}
theorem r_seq {x y:Code} (h:Zaw P tok n x (AE.then (Zaw P tok n y Q) Q) st):Zaw P tok n (.seq x y) Q st:=h
theorem r_skip (h:Q .normal st):Zaw P tok n .skip Q st:=h
theorem r_ret (h:Q .ret st):Zaw P tok n .ret Q st:=h
theorem r_exit {id:Nat} (h:Q (.exit id) st):Zaw P tok n (.exit id) Q st:=h
theorem r_block {id:Nat} {x:Code} (h:Zaw P tok n x (AE.inBlock id Q) st):Zaw P tok n (.block id x) Q st:=h
theorem r_cond {o:Operand} {x y:Code} {t:Bool} (ht:st.ev o=.v (.bool t)) (h1:t=true→Zaw P tok n x Q st) (h2:t=false→Zaw P tok n y Q st):Zaw P tok n (.cond o x y) Q st:=by
 unfold Zaw;rw [ht];exact⟨h1,h2⟩
theorem r_loop {ι:Type} {body:Code} (I:ι→St→Prop) (μ:ι→Nat) (i:ι) (hf:Zax n body=true)
 (round:∀i st,I i st→Zaw P tok n body (AE.then (λst'=>∃i',I i' st'∧μ i' < μ i) Q) st) (h0:I i st):Zaw P tok n (.loop body) Q st:=awp_loop (tok:=tok) I μ hf round h0
theorem t_then {next:St→Prop} (h:next st):AE.then next Q .normal st:=h
theorem Ztn {next:St→Prop} (h:Q .ret st):AE.then next Q .ret st:=h
theorem Zp3 {next:St→Prop} {i:Nat} (h:Q (.exit i) st):AE.then next Q (.exit i) st:=h
theorem t_done {rs:List ResultVar} {K:St→AV→Prop} (h:Zig P st rs (K st)):Done P rs K .ret st:=h
theorem t_done' {rs:List ResultVar} {K:St→AV→Prop} (h:Zig P st rs (K st)):Done P rs K .normal st:=h
theorem t_in {id:Nat} (h:Q .normal st):AE.inBlock id Q .normal st:=h
theorem t_in_ret {id:Nat} (h:Q .ret st):AE.inBlock id Q .ret st:=h
theorem Zn9 {id:Nat} (h:Q .normal st):AE.inBlock id Q (.exit id) st:=by simp only [AE.inBlock,Zzt];exact h
theorem Zai {id i:Nat} (hi:i≠id) (h:Q (.exit i) st):AE.inBlock id Q (.exit i) st:=by simp only [AE.inBlock,Zy0 hi];exact h
end
theorem Zsy {α:Type} {f:α→AV} {l:List α} {k:Nat} {x:α} (h:k < l.length):(l.map f).getD k .u=f (l.getD k x):=by
 simp [Zzc,Zy4 h]
theorem Zyj (cs:List AV):(AV.agg cs).cells=cs:=rfl
theorem cells_v (x:Value):(AV.v x).cells=[.v x]:=rfl
theorem cells_sl (m:Nat) (es:List AV):(AV.sl m es).cells=[.sl m es]:=rfl
theorem Zyi (k:Nat) (sv:Value):(AV.own k sv).cells=[.own k sv]:=rfl
theorem Zus (cs:List AV):(AV.pimm cs).cells=[.pimm cs]:=rfl
theorem Zut (k g o:Nat):(AV.pbox k g o).cells=[.pbox k g o]:=rfl
theorem Zur (k:Nat) (sv:Value) (m i len:Nat):(AV.view k sv m i len).cells=[.view k sv m i len]:=rfl
theorem cells_fn (f:FuncId) (cs:List AV):(AV.fn f cs).cells=[.fn f cs]:=rfl
theorem Zdl {x:Int} (h1:-9223372036854775808≤x) (h2:x≤9223372036854775807):IntKind.i64.wrap x=x:=IntWalk.i64_in x ⟨h1,h2⟩
theorem Zvo (b w:Bool):says (.v (.bool b)) w=(b == w):=rfl
theorem Ztw (w:Bool):says (.v (.tuple #[])) w=false:=rfl
theorem known_v (x:Value):Zhl (.v x)=True:=rfl
attribute [go_sem] Ztk Zmx Ze9 Zrh Zyy Zd5 Zjc Zbe Zvo Ztw known_v aRes Zag St.ev St.put Zal marks mark AV.ofVal Zcr Zmf Zmn Zsu Zrw Ztj Zn0 Zks Zwv Zbb Zj5 Zdg Zhr Zfy Zk6 Ziy Zjz Zou
 Zs7 Zgz Zd4 Znz Zj6 Zg6 Zef Zdn Zhe Zul Zj7 Zpr Zet Zfi Zin Zim mkOf Zpk Zxg mpRes Zfd putEl Zmd Zky aZero Zei Zyj cells_v cells_sl Zyi Zus Zut Zur cells_fn
 AV.toks AV.toksL Ent.mark Zgg Zlv Zj4 Zfv Ze5 pubV Zeq AV.ok AV.one Value.oneCell' Zl8 Zig Zm2 Zr4 resK
end Go.Pg
