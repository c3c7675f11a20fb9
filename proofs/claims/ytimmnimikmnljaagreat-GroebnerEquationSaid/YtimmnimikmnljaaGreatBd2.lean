/- Contracts of the functions that the law reaches, and the rules by which they are walked. They say what a call hands back for every input within the bounds that each names; no other condition. -/
import Derived.Test.YtimmnimikmnljaaGreatBd1
import Derived.Lib.AppendZeros
import Derived.Laws.BytesString
import Derived.Laws.StructEq
import Derived.MapKept
set_option linter.unusedSimpArgs false
set_option linter.unusedVariables false
set_option maxRecDepth 20000
set_option maxHeartbeats 16000000
namespace Go.Pg
open Go Go.RowKit
section
variable {P:Program} {c:Cx} {n tok:Nat} {st:St} {a:Act} {w:World} {imm:Imm} {K:St→Prop} {o:Oper} {Q:Exit→Act→World→Prop}
structure Src (w:World) (imm:Imm) (m:Nat) (es:List AV) (x:Value) (A:Option Addr) (cp:Nat) (xs:List Value):Prop where
 val:x=.slice A es.length cp
 len:xs.length=es.length*m
 some_:0 < es.length→A≠none
 cell:∀ad,A=some ad→∀(j:Nat) (u:Value),xs[j]?=some u→w.cell? (ad.add j)=some u
 one:∀u∈xs,u.oneCell'=true
 rd:∀(j:Nat) (a:AV) (x:Value),(flat es)[j]?=some a→xs[j]?=some x→Rd w imm a x
 cells:∀x∈es,x.cells.length=m
 ok:∀x∈es,x.ok=true
theorem Zby {α:Type} {l:List α} {j:Nat} {a:α} (h:l[j]?=some a):j < l.length:=by
 rcases Nat.lt_or_ge j l.length with h1 | h1
 ·exact h1
 ·rw [List.getElem?_eq_none h1] at h;cases h
theorem src_sl {m:Nat} {es:List AV} {x:Value} (h:Rs w imm (.sl m es) x):∃A cp xs,Src w imm m es x A cp xs∧es.length≤cp:=by
 obtain⟨A,cap,f,rfl,hcap,hm,hok,hn,hA,hr⟩:=h.sl_inv;have hfl:=Zbd hm;refine⟨A,cap,(List.range (es.length*m)).map f,⟨rfl,by simp,hn,λad had j u hu=>?_,λu hu=>?_,λj b y hb hy=>?_,hm,hok⟩,hcap⟩
 ·have hj:j < es.length*m:=by simpa using Zby hu
  rw [List.getElem?_map,List.getElem?_range hj] at hu;simp only [Option.map_some,Option.some.injEq] at hu;obtain⟨ad',h1,_,h2⟩:=hA j hj;rw [had] at h1;cases h1;rw [←hu];exact h2
 ·simp only [List.mem_map,List.mem_range] at hu;obtain⟨j,hj,rfl⟩:=hu;have hlt:j < (flat es).length:=by rw [hfl];exact hj
  exact(hr j _ (List.getElem?_eq_getElem hlt)).one_of (Zqr hok _ (List.getElem_mem hlt))
 ·have hj:j < es.length*m:=by rw [←hfl];exact Zby hb
  rw [List.getElem?_map,List.getElem?_range hj] at hy;simp only [Option.map_some,Option.some.injEq] at hy;rw [←hy];exact hr j b hb
theorem Zi3 {σ:Mem} (h:Mx c σ w imm) {k:Nat} {sv:Value} {e:TypeId} {m pub:Nat} {es:List AV} (hk:σ k=some (.row sv e m es pub)):∃A cp xs,Src w imm m es sv A cp xs∧es.length≤cp∧w.ownsRow c.B e m sv es.length xs:=by
 obtain⟨xs,hown,hm,hok,hr,_⟩:=h.ok.ent k _ hk;have hfl:=Zbd hm
 have hone:∀u∈xs,u.oneCell'=true:=by
  intro u hu;obtain⟨j,hj⟩:=List.getElem?_of_mem hu;have hlt:j < (flat es).length:=by rw [hfl,←hown.1];exact Zby hj
  exact(hr j _ u (List.getElem?_eq_getElem hlt) hj).one_of (Zqr hok _ (List.getElem_mem hlt))
 rcases hown.2 with⟨rfl,hn⟩ | ⟨g,cap,cur,rfl,hB,hh,hnc,hcm,hcs,htake⟩
 ·have:es=[]:=List.eq_nil_of_length_eq_zero hn;subst this;exact⟨none,0,xs,⟨rfl,hown.1,by simp,by simp,hone,hr,hm,hok⟩,by simp,hown⟩
 ·exact⟨some ⟨g,0,none⟩,cap,xs,⟨rfl,hown.1,by simp,λad had=>by cases had;exact hown.cells (g:=g) rfl,hone,hr,hm,hok⟩,hnc,hown⟩
theorem src_view {σ:Mem} (h:Mx c σ w imm) {k:Nat} {sv y:Value} {e:TypeId} {m pub i len:Nat} {es:List AV} (hk:σ k=some (.row sv e m es pub)) (hv:ViewOk sv m i len y):∃A cp xs,Src w imm m ((es.take (i+len)).drop i) y A cp xs:=by
 obtain⟨A,cp,xs,hs,hcap,hown⟩:=Zi3 h hk;rcases hv with⟨rfl,rfl,rfl,rfl⟩ | ⟨g,n,c',off,cap,rfl,rfl,hle,hlc,hoff,_⟩
 ·exact⟨none,0,[],⟨rfl,by simp,by simp,by simp,by simp,by simp [flat],by simp,by simp⟩⟩
 ·have hval:=hs.val;cases hval;have hlen:((es.take (i+len)).drop i).length=len:=by simp;omega
  have hsub:∀e∈(es.take (i+len)).drop i,e∈es:=λe he=>List.mem_of_mem_take (List.mem_of_mem_drop he);have hmul:i*m+len*m≤es.length*m:=by rw [←Nat.add_mul];exact Nat.mul_le_mul_right _ hle
  have hxl:=hs.len;refine⟨some ⟨g,off,none⟩,cap,(xs.drop (i*m)).take (len*m),⟨by rw [hlen],by rw [hlen,List.length_take,List.length_drop];omega,λ_=>by simp,λad had j u hu=>?_,λu hu=>hs.one u (List.mem_of_mem_drop (List.mem_of_mem_take hu)),λj a x ha hx=>?_,λe he=>hs.cells e (hsub e he),λe he=>hs.ok e (hsub e he)⟩⟩
  ·cases had;have hj:j < len*m:=by have:=Zby hu;simp at this;omega
   have hl0:0 < len:=by
    rcases Nat.eq_zero_or_pos len with h5 | h5
    ·rw [h5] at hj;omega
    ·exact h5
   rw [List.getElem?_take,if_pos hj,List.getElem?_drop] at hu;have:=hs.cell _ rfl _ u hu;rw [hoff hl0];rw [Addr.add_lit] at this ⊢
   rwa [Nat.zero_add] at this
  ·have hj:j < len*m:=by have:=Zby hx;simp at this;omega
   rw [List.getElem?_take,if_pos hj,List.getElem?_drop] at hx;exact hs.rd _ a x (Zma hs.cells (by omega) hle j a ha) hx
theorem Zeo {m:Nat} {av:AV} {x:Value} {R:List AV→Res} {dst:Option Nat} (h:Mx c st.mem w imm) (hx:Rs w imm av x) (hK:aRes P tok dst (Zdm st.mem m av R) K st) :
 ∃es A cp xs,aRes P tok dst (R es) K st∧Src w imm m es x A cp xs:=by
 unfold Zdm at hK;split at hK
 ·rename_i m' es;obtain⟨rfl,hK⟩:=hK;obtain⟨A,cp,xs,hs,_⟩:=src_sl hx;exact⟨es,A,cp,xs,hK,hs⟩
 ·rename_i k sv;split at hK
  ·rename_i sv' e m' es pub hk;obtain⟨⟨rfl,rfl⟩,hK⟩:=hK;obtain⟨A,cp,xs,hs,_⟩:=Zi3 h hk;have:=hx.own_inv;subst this;exact⟨es,A,cp,xs,hK,hs⟩
  ·exact hK.elim
 ·rename_i k sv m' i len;split at hK
  ·rename_i sv' e m'' es pub hk;obtain⟨⟨rfl,rfl,rfl⟩,hK⟩:=hK;obtain⟨A,cp,xs,hs⟩:=src_view h hk hx.view_inv;exact⟨_,A,cp,xs,hK,hs⟩
  ·exact hK.elim
 ·have:=hx.v_inv;subst this;exact⟨[],none,0,[],hK,⟨rfl,by simp,by simp,by simp,by simp,by simp [flat],by simp,by simp⟩⟩
 ·exact hK.elim
theorem s_append {t t' ty:TypeId} {sv_ xv:AV} {s x:Value} (h:Rel c n st a w imm) (hd:∀d,o.dst=some d→d < n) (hK:aRes P tok o.dst (Zge P st t t' sv_ xv) K st) (hs:Rs w imm sv_ s) (hx:Rs w imm xv x) :
 o.upon P a (Zcc c n K) Q (((do pure (Next.value (←Builtin.append_ #[t,t'] ty #[s,x]))):Sem Next).run P w):=by
 unfold Zge at hK;split at hK
 ·rename_i e hu;split at hK
  ·rename_i m by_ z hsz hby hz;obtain⟨i,hi,rfl,rfl,hzz⟩:=Zk0 hsz hby hz;split at hK
   ·rename_i k sv;split at hK
    ·rename_i sv' e' m' es pub hk;obtain⟨⟨rfl,rfl,rfl,rfl,hzs⟩,hK⟩:=hK;have:=hs.own_inv;subst this;obtain⟨news,A,cp,xn,hK,hsrc⟩:=Zeo h.mem hx hK;obtain⟨⟨h63,hbytes⟩,hK⟩:=hK;obtain⟨xs,hown,hm,hok,hr,hpl,hp,hq⟩:=h.mem.ok.ent k _ hk;have hxv:=hsrc.val;subst hxv;obtain⟨v',w',hrun,hown',hg,hat,hsame⟩:=Zia (P:=P) w c.B t ty e' i z hu hi hzz hzs s es.length xs hown A news.length cp xn hsrc.len hsrc.some_ hsrc.cell hsrc.one (by simp only [maxLen];omega) hbytes h.mem.lt;obtain⟨i',hm',hk'⟩:=Zmm (pub:=pub) h.mem hown' hown.1 hg hat hsame (λy hy=>(List.mem_append.1 hy).elim (hm y) (hsrc.cells y)) (λy hy=>(List.mem_append.1 hy).elim (hok y) (hsrc.ok y)) hr hsrc.rd hpl
      (λg hg'=>(hown.lt g hg').1) hp (λj e2 b h1 h2 h3 h4=>h1 (h.mem.ok.apart j k e2 _ b h2 hk h3 h4.symm))
     rw [Zlf hrun]
     have hv1:v'.oneCell'=true:=by
      rcases hown'.2 with⟨rfl,_⟩ | ⟨g,cap,cur,rfl,_⟩<;>rfl
     have hK2:∀sv:Value,K (St.put ⟨st.env,upd st.mem k (some (.row sv e' i.size (es++news) pub))⟩ o.dst (.own k sv)):=by
      have:=hK;simp only [aRes,marks,hk] at this;exact this
     exact⟨_,i',hK2 v',h.step hk' hm' hd (.own k v' hv1)⟩
    ·exact hK.elim
   ·rename_i k sv m₁ i₁ n₁;split at hK
    ·rename_i sv' e' m' es pub hk;obtain⟨⟨rfl,rfl,rfl,rfl,hmm,rfl,hpn,hnl,hzs⟩,hK⟩:=hK;subst hmm;have hvw:=hs.view_inv;obtain⟨news,A,cp,xn,hK,hsrc⟩:=Zeo h.mem hx hK;obtain⟨⟨h63,hbytes⟩,hK⟩:=hK;obtain⟨xs,hown,hm,hok,hr,hpl,hp,hq⟩:=h.mem.ok.ent k _ hk;have hxv:=hsrc.val;subst hxv;have hnm:n₁*i.size≤es.length*i.size:=Nat.mul_le_mul_right _ hnl;have hxl:=hown.1
     have hsub:w.ownsRow c.B e' i.size s n₁ (xs.take (n₁*i.size))∧s.ownBlock=sv.ownBlock:=by
      rcases hvw with⟨rfl,_,rfl,rfl⟩ | ⟨g,n,c',off,cap,rfl,rfl,hle,hlc,hoff,h0⟩
      ·exact⟨⟨by simp,.inl ⟨rfl,rfl⟩⟩,rfl⟩
      ·obtain⟨rfl,rfl⟩:=h0 rfl;rcases hown.2 with⟨h1,_⟩ | ⟨g',cap',cur,h1,hB,hh,hnc,hcm,hcs,htake⟩
       ·cases h1
       ·cases h1;refine⟨⟨by rw [List.length_take];omega,.inr ⟨g,cap,cur,rfl,hB,hh,hlc,hcm,hcs,?_⟩⟩,rfl⟩;rw [←htake,List.take_take,Nat.min_eq_left hnm]
     obtain⟨hown1,hblk⟩:=hsub;have hmt:∀y∈es.take n₁,y.cells.length=i.size:=λy hy=>hm y (List.mem_of_mem_take hy);have hlt1:(es.take n₁).length=n₁:=by rw [List.length_take];omega
     obtain⟨v',w',hrun,hown',hg,hat,hsame⟩:=Zia (P:=P) w c.B t ty e' i z hu hi hzz hzs s n₁ _ hown1 A news.length cp xn hsrc.len hsrc.some_ hsrc.cell hsrc.one (by simp only [maxLen];omega) hbytes h.mem.lt;obtain⟨i',hm',hk'⟩:=Zmm (k:=k) (es:=es.take n₁) (pub:=pub) h.mem (by rw [hlt1];exact hown') (by rw [hlt1];exact hown1.1) hg hat (by rw [hlt1];exact hsame) (λy hy=>(List.mem_append.1 hy).elim (hmt y) (hsrc.cells y)) (λy hy=>(List.mem_append.1 hy).elim (λh5=>hok y (List.mem_of_mem_take h5)) (hsrc.ok y))
      (λj a x ha hx=>by
       have h5:=Zma (l:=0) (hh:=n₁) hm (by omega) hnl j a (by simpa using ha);have hj:j < n₁*i.size:=by have:=Zby hx;simp at this;omega
       rw [List.getElem?_take,if_pos hj] at hx;exact hr j a x (by simpa using h5) hx) hsrc.rd (by rw [hlt1];exact hpn)
      (λg hg'=>(hown1.lt g hg').1) (λad h1 h2=>hp ad h1 (hblk ▸ h2)) (λj e2 b h1 h2 h3 h4=>h1 (h.mem.ok.apart j k e2 _ b h2 hk h3 (show sv.ownBlock=some b from hblk ▸ h4.symm)))
     rw [Zlf hrun]
     have hv1:v'.oneCell'=true:=by
      rcases hown'.2 with⟨rfl,_⟩ | ⟨g,cap,cur,rfl,_⟩<;>rfl
     have hK2:∀sv:Value,K (St.put ⟨st.env,upd st.mem k (some (.row sv e' i.size (es.take n₁++news) pub))⟩ o.dst (.own k sv)):=by
      have:=hK;simp only [aRes,hk] at this;exact this
     exact⟨_,i',hK2 v',h.step hk' hm' hd (.own k v' hv1)⟩
    ·exact hK.elim
   ·split at hK
    ·rename_i nn;obtain⟨⟨htn,hzs,hm0,hn0,h63,hby2,hzl,hzok⟩,hK⟩:=hK;have:=hs.v_inv;subst this;have:=hx.v_inv;subst this;obtain⟨nn,rfl⟩:=Int.eq_ofNat_of_zero_le (show 0≤nn by omega);simp only [Int.toNat_natCast] at hby2 hK;have hrun:=Go.Lib.run_append_nil_zeros (P:=P) w t t' ty e i z .i64 .i64 hu htn hi hzz nn (by omega) hm0 h63 (by omega);have hl1:(Builtin.zeroCells z.cells nn).toList.length=nn*i.size:=by rw [Array.length_toList,size_zeroCells,hzs]
     have hown':World.ownsRow (w.drew.alloc (.cells (Builtin.zeroCells z.cells nn++Builtin.zeroCells z.cells (grownCap w nn 0 e - nn)) e)) c.B e i.size (.slice (some ⟨w.heap.size,0,none⟩) nn (grownCap w nn 0 e)) nn (Builtin.zeroCells z.cells nn).toList:=by
      have hge:=grownCap_ge w nn 0 e;refine⟨hl1,.inr ⟨w.heap.size,_,_,rfl,h.mem.lt,heap_alloc_new w.drew _,hge,grownCap_le_maxLen w nn 0 e (by simp only [maxLen];omega),?_,?_⟩⟩
      ·rw [Array.size_append,size_zeroCells,size_zeroCells,hzs,←Nat.add_mul,show nn+(grownCap w nn 0 e - nn)=grownCap w nn 0 e by omega]
      ·rw [←hl1];simp only [Array.toList_append];exact List.take_left
     have hg:w.grownBy (w.drew.alloc (.cells (Builtin.zeroCells z.cells nn++Builtin.zeroCells z.cells (grownCap w nn 0 e - nn)) e)) none:=⟨rfl,rfl,rfl,by simp,λk hk _=>Below.heap_alloc w.drew _ k hk⟩
     have hcs:∀(b:AV) (y:Value) (j:Nat),(AV.ofVal z).cells[j]?=some b→z.cells[j]?=some y→b=.v y:=by
      intro b y j hb hy;cases z<;>first
       | (simp only [AV.ofVal,AV.cells,Value.cells] at hb hy
          match j with
          | 0=>simp at hb hy;rw [←hb,←hy]
          | j+1=>simp at hb)
       | (simp only [AV.ofVal,AV.cells,Value.cells,List.getElem?_map,Array.getElem?_toList] at hb hy
          rw [hy] at hb;simp at hb;exact hb.symm)
     have hrd:∀(j:Nat) (b:AV) (y:Value),(flat (List.replicate nn (AV.ofVal z)))[j]?=some b→(Builtin.zeroCells z.cells nn).toList[j]?=some y→Rd w imm b y:=by
      intro j b y hb hy;have hm:∀x∈List.replicate nn (AV.ofVal z),x.cells.length=i.size:=λy hy=>by rw [List.eq_of_mem_replicate hy];exact hzl
      have hj:j < nn*i.size:=by
       have:=Zby hb
       rwa [Zbd hm,List.length_replicate] at this
      have hdm:j=(j/i.size)*i.size+j%i.size:=by rw [Nat.mul_comm];exact(Nat.div_add_mod j i.size).symm
      have hq:j/i.size < nn:=by rw [Nat.div_lt_iff_lt_mul hm0];exact hj
      have hfg:=Ze1 hm (j/i.size) (j%i.size) (Nat.mod_lt _ hm0) (by simpa using hq);rw [←hdm,hb] at hfg;rw [List.getD_eq_getElem?_getD,List.getElem?_replicate,if_pos hq] at hfg;simp only [Option.getD_some] at hfg;have hlt:j%i.size < z.cells.size:=by rw [hzs];exact Nat.mod_lt _ hm0
      have hy2:y=z.cells[j%i.size]!:=by
       rw [Array.getElem?_toList] at hy;unfold Builtin.zeroCells at hy;rw [Array.getElem?_map,Array.getElem?_range,if_pos (by rw [hzs];exact hj),hzs] at hy
       simpa using hy.symm
      have:=hcs b y (j%i.size) hfg.symm (by rw [hy2,Array.getElem?_eq_getElem hlt];simp [hlt]);rw [this];exact .v y
     obtain⟨i',hm',hk'⟩:=Zmm (k:=tok) (es:=[]) (xs:=[]) (pub:=0) (sv:=.slice none 0 0) (news:=List.replicate nn (AV.ofVal z)) (xn:=(Builtin.zeroCells z.cells nn).toList) (w':=w.drew.alloc (.cells (Builtin.zeroCells z.cells nn++Builtin.zeroCells z.cells (grownCap w nn 0 e - nn)) e)) (v':=.slice (some ⟨w.heap.size,0,none⟩) nn (grownCap w nn 0 e)) h.mem (by simpa using hown') (by simp) hg (.inr rfl) (by simp [Value.ownBlock]) (λy hy=>by rw [List.eq_of_mem_replicate hy];exact hzl) (λy hy=>by rw [List.eq_of_mem_replicate hy];exact hzok) (by simp [flat]) hrd (by simp)
      (by simp [Value.ownBlock]) (by simp [Value.ownBlock]) (by simp [Value.ownBlock])
     rw [Zlf hrun];exact⟨_,i',hK _,h.step hk' hm' hd (.own tok _ rfl)⟩
    ·obtain⟨⟨rfl,hzs⟩,hK⟩:=hK;have:=hs.v_inv;subst this;obtain⟨news,A,cp,xn,hK,hsrc⟩:=Zeo h.mem hx hK;obtain⟨⟨h63,hbytes⟩,hK⟩:=hK;have hxv:=hsrc.val;subst hxv;obtain⟨v',w',hrun,hown',hg,hat,hsame⟩:=Zia (P:=P) w c.B t ty e i z hu hi hzz hzs (.slice none 0 0) 0 [] (World.ownsRow_nil w c.B e i.size) A news.length cp xn hsrc.len hsrc.some_ hsrc.cell hsrc.one (by simp only [maxLen];omega) (by simpa using hbytes) h.mem.lt;obtain⟨i',hm',hk'⟩:=Zmm (k:=tok) (es:=[]) (xs:=[]) (pub:=0) (sv:=.slice none 0 0) h.mem (by simpa using hown') (by simp) hg hat (by simp [Value.ownBlock]) (by simpa using hsrc.cells) (by simpa using hsrc.ok) (by simp [flat]) hsrc.rd (by simp)
      (by simp [Value.ownBlock]) (by simp [Value.ownBlock]) (by simp [Value.ownBlock])
     rw [Zlf hrun]
     have hv1:v'.oneCell'=true:=by
      rcases hown'.2 with⟨rfl,_⟩ | ⟨g,cap,cur,rfl,_⟩<;>rfl
     exact⟨_,i',hK v',h.step hk' hm' hd (.own tok v' hv1)⟩
   ·exact hK.elim
  ·exact hK.elim
 ·exact hK.elim
theorem s_copy {t ty u:TypeId} {dv xv:AV} {s x:Value} (h:Rel c n st a w imm) (hd:∀d,o.dst=some d→d < n) (hK:aRes P tok o.dst (Zmg P st t dv xv) K st) (hs:Rs w imm dv s) (hx:Rs w imm xv x) :
 o.upon P a (Zcc c n K) Q (((do pure (Next.value (←Builtin.copy_ #[t,u] ty #[s,x]))):Sem Next).run P w):=by
 unfold Zmg at hK;split at hK
 ·rename_i e hu;split at hK
  ·rename_i m hsz;split at hK
   ·rename_i k sv;split at hK
    ·rename_i sv' e' m' es pub hk;obtain⟨⟨rfl,rfl,rfl,rfl⟩,hK⟩:=hK;have:=hs.own_inv;subst this;obtain⟨news,A,cp,xn,hK,hsrc⟩:=Zeo h.mem hx hK;have hxv:=hsrc.val;subst hxv;obtain⟨A2,cp2,xs,hsrc2,_,hown⟩:=Zi3 h.mem hk;have hsv:=hsrc2.val;subst hsv;have hq:min news.length es.length*m'≤xn.length:=by rw [hsrc.len];exact Nat.mul_le_mul_right _ (Nat.min_le_left _ _)
     have hf:(Builtin.firstCells m' (min news.length es.length) (.slice A news.length cp)).run P w=.ok (xn.take (min news.length es.length*m')).toArray w:=by
      cases A with
      | some ad =>
        refine run_firstCells_some (P:=P) w m' _ ad _ _ _ (by rw [List.length_take];omega) λj v hv=>?_;rw [List.getElem?_take] at hv;split at hv
        ·exact hsrc.cell ad rfl j v hv
        ·cases hv
      | none =>
        have h0:news.length=0:=by rcases Nat.eq_zero_or_pos news.length with h1 | h1;exact h1;exact absurd rfl (hsrc.some_ h1)
        simp [Builtin.firstCells,h0]
     have hlen:(news.take es.length++es.drop news.length).length=es.length:=by simp;omega
     have put:∀i2,Mx c st.mem w i2→Keeps w imm w i2→∃w',(match A2 with | some ad=>storeCells ad (xn.take (min news.length es.length*m')) | none=>pure ()).run P w=.ok () w'∧Mx c (upd st.mem k (some (.row (.slice A2 es.length cp2) e' m' (news.take es.length++es.drop news.length) 0))) w' i2∧Keeps w i2 w' i2:=by
      intro i2 hm2 hk2;rcases hown.2 with⟨h1,h2⟩ | ⟨g,cap,cur,h1,h2⟩
      ·have:es=[]:=List.eq_nil_of_length_eq_zero h2;subst this;simp only [List.length_nil,Value.slice.injEq,true_and] at h1;obtain⟨rfl,rfl⟩:=h1;refine⟨w,rfl,?_,Keeps.refl _ _⟩
       have e1:upd st.mem k (some (.row (.slice none 0 0) e' m' [] 0))=st.mem:=by
        funext j
        rw [Zaz];split
        ·subst_vars;rw [hk];rfl
        ·rfl
       simp only [List.length_nil,List.take_zero,List.drop_nil,List.append_nil];rw [e1];exact hm2
      ·cases h1;refine Zsh hm2 hk (off:=0) (vs:=xn.take (min news.length es.length*m')) hlen ?_ (by simp) (λv hv=>hsrc.one v (List.mem_of_mem_take hv)) ?_ ?_ λj b hb=>?_
       ·rw [List.length_take,Nat.zero_add];exact Nat.le_trans (Nat.min_le_left _ _) (Nat.mul_le_mul_right _ (Nat.min_le_right _ _))
       ·intro y hy;rcases List.mem_append.1 hy with hy | hy
        ·exact hsrc.cells y (List.mem_of_mem_take hy)
        ·exact hsrc2.cells y (List.mem_of_mem_drop hy)
       ·intro y hy;rcases List.mem_append.1 hy with hy | hy
        ·exact hsrc.ok y (List.mem_of_mem_take hy)
        ·exact hsrc2.ok y (List.mem_of_mem_drop hy)
       ·have hl1:(flat (news.take es.length)).length=min news.length es.length*m':=by
         rw [Zbd λy hy=>hsrc.cells y (List.mem_of_mem_take hy),List.length_take,Nat.min_comm]
        have hl2:(xn.take (min news.length es.length*m')).length=min news.length es.length*m':=by rw [List.length_take];omega
        rw [Zcw] at hb;rw [hl2];split
        ·rename_i hc;rw [List.getElem?_append_left (by omega)] at hb;intro y hy;rw [Nat.sub_zero,List.getElem?_take,if_pos (by omega)] at hy
         have hb2:(flat news)[j]?=some b:=by
          have e1:flat news=flat (news.take es.length)++flat (news.drop es.length):=by rw [←Zcw,List.take_append_drop]
          rw [e1,List.getElem?_append_left (by omega)];exact hb
         exact hk2.rd (hsrc.rd j b y hb2 hy)
        ·rename_i hc;rw [List.getElem?_append_right (by omega),hl1] at hb;have e1:flat es=flat (es.take news.length)++flat (es.drop news.length):=by rw [←Zcw,List.take_append_drop]
         have hl3:(flat (es.take news.length)).length=min news.length es.length*m':=by
          rw [Zbd λy hy=>hsrc2.cells y (List.mem_of_mem_take hy),List.length_take]
         rw [e1,List.getElem?_append_right (by omega),hl3];exact hb
     obtain⟨w',hrun,_,_⟩:=put imm h.mem (Keeps.refl _ _)
     have hall:(Builtin.copy_ #[t,u] ty #[.slice A2 es.length cp2,.slice A news.length cp]).run P w=.ok (.int .i64 (min news.length es.length:Nat)) w':=by
      have hmin:Nat.min news.length es.length=min news.length es.length:=rfl
      cases A2 with
      | none =>
        simp only [Sem.run_pure,Result.ok.injEq,true_and] at hrun;subst hrun;simp [Builtin.copy_,run_underlying hu,Builtin.lenOf,Zba hsz,hmin,hf,goInt]
      | some ad=>simp [Builtin.copy_,run_underlying hu,Builtin.lenOf,Zba hsz,hmin,hf,goInt,hrun]
     rw [Zlf hall];refine Zhi h hd hK (.inl rfl) λi' hm' hk'=>?_;obtain⟨w2,hrun2,hm2,hk2⟩:=put i' hm' hk';rw [hrun] at hrun2;cases hrun2;exact⟨hm2,hk2,.pure (.v _)⟩
    ·exact hK.elim
   ·exact hK.elim
  ·exact hK.elim
 ·exact hK.elim
theorem s_make {t:TypeId} {lv cv:AV} {l cp:Value} (h:Rel c n st a w imm) (hd:∀d,o.dst=some d→d < n) (hK:aRes P tok o.dst (Zey P t lv cv) K st) (hl:Rs w imm lv l) (hc:Rs w imm cv cp) :
 o.upon P a (Zcc c n K) Q (((do pure (Next.value (←Instr.makeSlice t l cp))):Sem Next).run P w):=by
 unfold Zey at hK;split at hK
 ·rename_i e kl nn kc cap hu;split at hK
  ·rename_i m by_ z hsz hby hz;obtain⟨i,hi,rfl,rfl,hzz⟩:=Zk0 hsz hby hz;obtain⟨⟨h0,h1,h2,h3,hzl,hzok⟩,hK⟩:=hK;have:=hl.v_inv;subst this;have:=hc.v_inv;subst this;obtain⟨nn,rfl⟩:=Int.eq_ofNat_of_zero_le h0;obtain⟨cap,rfl⟩:=Int.eq_ofNat_of_zero_le (show 0≤cap by omega);have hr:=run_make (P:=P) w t e i z hu hi hzz kl kc (nn:Int) (cap:Int) (by omega) (by omega) h3 h2;simp only [Int.toNat_natCast] at hr hK;rw [Zlf hr];have hzc:=(Rs.pure (Rd.v (w:=w) (imm:=imm) z))
   have hcs:∀(b:AV) (y:Value) (j:Nat),(AV.ofVal z).cells[j]?=some b→z.cells[j]?=some y→b=.v y:=by
    intro b y j hb hy;cases z<;>first
     | (simp only [AV.ofVal,AV.cells,Value.cells] at hb hy
        match j with
        | 0=>simp at hb hy;rw [←hb,←hy]
        | j+1=>simp at hb)
     | (simp only [AV.ofVal,AV.cells,Value.cells,List.getElem?_map,Array.getElem?_toList] at hb hy
        rw [hy] at hb;simp at hb;exact hb.symm)
   have hzsz:z.cells.size=i.size:=by
    rw [←hzl];cases z<;>simp [AV.ofVal,AV.cells,Value.cells]
   refine upon_row (cap:=cap) (vs:=madeCells z.cells (cap*i.size)) (es:=List.replicate nn (AV.ofVal z)) h hd hK (by simp;omega) (by simp only [maxLen];omega) (by simp [madeCells]) (λy hy=>by rw [List.eq_of_mem_replicate hy];exact hzl) (λy hy=>by rw [List.eq_of_mem_replicate hy];exact hzok) ?_ |> (λh=>by simpa using h)
   intro imm' _ _ j b y hb hy;have hm:∀x∈List.replicate nn (AV.ofVal z),x.cells.length=i.size:=λy hy=>by rw [List.eq_of_mem_replicate hy];exact hzl
   have hj:j < nn*i.size:=by
    have:=Zby hb
    rwa [Zbd hm,List.length_replicate] at this
   have hm0:0 < i.size:=by
    rcases Nat.eq_zero_or_pos i.size with h4 | h4
    ·rw [h4] at hj;omega
    ·exact h4
   have hdm:j=(j/i.size)*i.size+j%i.size:=by rw [Nat.mul_comm];exact(Nat.div_add_mod j i.size).symm
   have hq:j/i.size < nn:=by rw [Nat.div_lt_iff_lt_mul hm0];exact hj
   have hfg:=Ze1 hm (j/i.size) (j%i.size) (Nat.mod_lt _ hm0) (by simpa using hq);rw [←hdm,hb] at hfg;rw [List.getD_eq_getElem?_getD,List.getElem?_replicate,if_pos hq] at hfg;simp only [Option.getD_some] at hfg;have hjc:j < cap*i.size:=Nat.lt_of_lt_of_le hj (Nat.mul_le_mul_right _ (by omega))
   have hy2:y=z.cells[j%i.size]!:=by
    simp only [madeCells,hzsz] at hy;rw [Array.getElem?_map,Array.getElem?_range,if_pos hjc] at hy
    simpa using hy.symm
   have hlt:j%i.size < z.cells.size:=by rw [hzsz];exact Nat.mod_lt _ hm0
   have:=hcs b y (j%i.size) hfg.symm (by rw [hy2,Array.getElem?_eq_getElem hlt];simp [hlt]);rw [this];exact .v y
  ·exact hK.elim
 ·exact hK.elim
end
section
variable {P:Program} {c:Cx} {n tok:Nat} {st:St} {a:Act} {w:World} {imm:Imm} {K:St→Prop} {o:Oper} {Q:Exit→Act→World→Prop}
theorem s_field {s:TypeId} {xv:AV} {x:Value} {f:Nat} (h:Rel c n st a w imm) (hd:∀d,o.dst=some d→d < n) (hK:aRes P tok o.dst (Zgt P s xv f) K st) (hx:Rs w imm xv x) :
 o.upon P a (Zcc c n K) Q (((do pure (Next.value (←Instr.fieldAt s x f))):Sem Next).run P w):=by
 unfold Zgt at hK;split at hK
 ·rename_i fields hu;split at hK
  ·rename_i fd hf;split at hK
   ·rename_i sz hsz;obtain⟨hne,hK⟩:=hK
    have run:∀ad:Addr,x=.pointer (some ad)→(Instr.fieldAt s x f).run P w=.ok (.pointer (some (ad.add fd.offset))) w:=by
     rintro ad rfl
     simp [Instr.fieldAt,run_underlying hu,hf,Instr.sureAddr,fieldPlace,Zba hsz,hne]
    cases xv with
    | pimm cs =>
      obtain⟨ad,g,rfl,h1,h2⟩:=hx.pimm_inv;refine Zah h hd hK (run ad rfl) (.pure (.pimm _ _ (λj=>g (fd.offset+j)) (λj hj=>?_) λj b hb=>?_))
      ·rw [Zeb];exact h1 _ (by simp at hj;omega)
      ·rw [List.getElem?_drop] at hb;exact h2 _ b hb
    | pbox k g off =>
      have:=hx.pbox_inv;subst this;refine Zah h hd hK (run _ rfl) ?_;rw [Addr.add_lit];exact .pbox _ _ _
    | prow k sv m i off =>
      obtain⟨g,nn,cc,rfl,rfl⟩:=hx.prow_inv;refine Zah h hd hK (run _ rfl) ?_;rw [Addr.add_lit,Nat.add_assoc];exact .prow k _ m i (off+fd.offset) g nn cc rfl
    | _=>exact hK.elim
   ·exact hK.elim
  ·exact hK.elim
 ·exact hK.elim
theorem Zoj {t:TypeId} {xv iv:AV} {x i:Value} (h:Rel c n st a w imm) (hd:∀d,o.dst=some d→d < n) (hK:aRes P tok o.dst (Zbh P st t xv iv) K st) (hx:Rs w imm xv x) (hi:Rs w imm iv i) :
 o.upon P a (Zcc c n K) Q (((do pure (Next.value (←Instr.indexAt t x i))):Sem Next).run P w):=by
 unfold Zbh at hK;split at hK
 ·rename_i e kk j hu;have:=hi.v_inv;subst this;split at hK
  ·rename_i sz hsz
   have run:∀(ad:Addr) (len cap:Nat),x=.slice (some ad) len cap→0≤j→j < len→(Instr.indexAt t x (.int kk j)).run P w=.ok (.pointer (some (ad.add (j.toNat*sz)))) w:=by
    rintro ad len cap rfl h0 h1
    simp [Instr.indexAt,asIntOf,run_underlying hu,h0,h1,Zba hsz]
   cases xv with
   | sl m es =>
     obtain⟨⟨rfl,h0,h1⟩,hK⟩:=hK;obtain⟨A,cap,f,rfl,hcap,hm,hok,hn,hA,hr⟩:=hx.sl_inv;obtain⟨j,rfl⟩:=Int.eq_ofNat_of_zero_le h0;have hj:j < es.length:=by omega
     have hA1:A≠none:=hn (by omega)
     cases A with
     | none=>exact absurd rfl hA1
     | some ad =>
       simp only [Int.toNat_natCast] at hK
       have hel:(es.getD j .u).cells.length=sz:=by
        rw [List.getD_eq_getElem?_getD,List.getElem?_eq_getElem hj];exact hm _ (List.getElem_mem _)
       have hmul:j*sz+sz≤es.length*sz:=by
        have:(j+1)*sz≤es.length*sz:=Nat.mul_le_mul_right _ hj
        rwa [Nat.add_mul,Nat.one_mul] at this
       refine Zah h hd hK (run ad _ cap rfl h0 h1) (.pure (.pimm _ _ (λq=>f (j*sz+q)) (λq hq=>?_) λq b hb=>?_))
       ·rw [hel] at hq;rw [Zeb,Int.toNat_natCast];obtain⟨ad',e1,e2,e3⟩:=hA (j*sz+q) (by omega);cases e1;exact⟨e2,e3⟩
       ·have hq:q < sz:=by rw [←hel];exact Zby hb
        exact hr _ b ((Ze1 hm j q hq hj).trans hb)
   | own k sv =>
     simp only at hK;split at hK
     ·rename_i sv' e' m es pub hk;obtain⟨⟨rfl,rfl,h0,h1⟩,hK⟩:=hK;have:=hx.own_inv;subst this;obtain⟨xs,hown,_⟩:=h.mem.ok.ent k _ hk;rcases hown.2 with⟨_,hn⟩ | ⟨g,cap,cur,rfl,_⟩
      ·omega
      ·refine Zah h hd hK (run ⟨g,0,none⟩ _ cap rfl h0 h1) ?_;rw [Addr.add_lit,Nat.zero_add];exact .prow k _ sz j.toNat 0 g _ _ rfl
     ·exact hK.elim
   | view k sv m i len =>
     obtain⟨⟨rfl,h0,h1⟩,hK⟩:=hK;rcases hx.view_inv with⟨_,_,rfl,_⟩ | ⟨g,nn,cc,off,cap,rfl,rfl,hle,hlc,hoff,_⟩
     ·omega
     ·refine Zah h hd hK (run ⟨g,off,none⟩ _ cap rfl h0 h1) ?_;have e1:off+j.toNat*sz=(i+j.toNat)*sz+0:=by rw [hoff (by omega),Nat.add_zero,Nat.add_mul]
      rw [Addr.add_lit,e1];exact .prow k _ sz (i+j.toNat) 0 g _ _ rfl
   | _=>exact hK.elim
  ·exact hK.elim
 ·rename_i len e kk j hu;have:=hi.v_inv;subst this;split at hK
  ·rename_i sz hsz;obtain⟨⟨h0,h1⟩,hK⟩:=hK
   have run:∀ad:Addr,x=.pointer (some ad)→(Instr.indexAt t x (.int kk j)).run P w=.ok (.pointer (some (ad.add (j.toNat*sz)))) w:=by
    rintro ad rfl
    simp [Instr.indexAt,asIntOf,run_underlying hu,Instr.sureAddr,h0,h1,Zba hsz]
   cases xv with
   | pimm cs =>
     obtain⟨ad,g,rfl,h2,h3⟩:=hx.pimm_inv;refine Zah h hd hK (run ad rfl) (.pure (.pimm _ _ (λq=>g (j.toNat*sz+q)) (λq hq=>?_) λq b hb=>?_))
     ·rw [Zeb];exact h2 _ (by simp at hq;omega)
     ·rw [List.getElem?_drop] at hb;exact h3 _ b hb
   | pbox k g off =>
     have:=hx.pbox_inv;subst this;refine Zah h hd hK (run _ rfl) ?_;rw [Addr.add_lit];exact .pbox _ _ _
   | prow k sv m i off =>
     obtain⟨g,nn,cc,rfl,rfl⟩:=hx.prow_inv;refine Zah h hd hK (run _ rfl) ?_;rw [Addr.add_lit,Nat.add_assoc];exact .prow k _ m i (off+j.toNat*sz) g nn cc rfl
   | _=>exact hK.elim
  ·exact hK.elim
 ·exact hK.elim
theorem s_index {t:TypeId} {xv iv:AV} {x i:Value} (h:Rel c n st a w imm) (hd:∀d,o.dst=some d→d < n) (hK:aRes P tok o.dst (Ziw P t xv iv) K st) (hx:Rs w imm xv x) (hi:Rs w imm iv i) :
 o.upon P a (Zcc c n K) Q (((do pure (Next.value (←Instr.index t x i))):Sem Next).run P w):=by
 unfold Ziw at hK;split at hK
 ·rename_i len e cs kk j hu;have:=hi.v_inv;subst this;split at hK
  ·rename_i sz hsz;obtain⟨⟨h0,h1⟩,hK⟩:=hK;obtain⟨vs,rfl,hl,hr⟩:=hx.agg_inv
   have e1:(Instr.index t (.agg vs) (.int kk j)).run P w=(part e vs (j.toNat*sz)).run P w:=by
    simp [Instr.index,asIntOf,run_underlying hu,h0,h1,Zba hsz]
   have:=Zie (o:=o) (Q:=Q) h hd hK hl hr;simp only [Sem.run_bind] at this ⊢;rw [e1];exact this
  ·exact hK.elim
 ·rename_i s kk j hu;have:=hi.v_inv;subst this;have:=hx.v_inv;subst this;obtain⟨⟨h0,h1⟩,hK⟩:=hK;obtain⟨j,rfl⟩:=Int.eq_ofNat_of_zero_le h0;have hj:j < s.size:=by omega
  refine Zah h hd hK ?_ (.pure (.v _));have hj2:j < s.data.toList.length:=hj;simp only [Int.toNat_natCast];rw [List.getD_eq_getElem?_getD,List.getElem?_eq_getElem hj2];simp [Instr.index,asIntOf,run_underlying hu,hj];rfl
 ·exact hK.elim
def CLs (w:World) (imm:Imm) (cs:List AV) (vs:Array Value):Prop:=cs.length=vs.size∧∀(j:Nat) (b:AV) (y:Value),cs[j]?=some b→vs[j]?=some y→Rs w imm b y
theorem Zg0 {t:TypeId} {x y:Bool} (hu:P.underlying t=some .bool):(Op.equal t (.bool x) (.bool y)).run P w=.ok (x == y) w:=by
 have hd:Op.maxDepth=9999+1:=rfl;unfold Op.equal;rw [hd];unfold Op.equalIn;simp only [Sem.run_bind,run_underlying hu,Result.andThen_ok,Sem.run_pure]
theorem Zmw {t e:TypeId} {a:Addr} {n c:Nat} (hu:P.underlying t=some (.slice e)):(Op.equal t (.slice (some a) n c) (.slice none 0 0)).run P w=.ok false w:=by
 have hd:Op.maxDepth=9999+1:=rfl;unfold Op.equal;rw [hd];unfold Op.equalIn;simp only [Sem.run_bind,run_underlying hu,Result.andThen_ok,Sem.run_pure]
theorem Zlg {t e:TypeId} (hu:P.underlying t=some (.slice e)):(Op.equal t (.slice none 0 0) (.slice none 0 0)).run P w=.ok true w:=by
 have hd:Op.maxDepth=9999+1:=rfl;unfold Op.equal;rw [hd];unfold Op.equalIn;simp only [Sem.run_bind,run_underlying hu,Result.andThen_ok,Sem.run_pure];rfl
theorem Zhm {t:TypeId} {d:TypeDesc} {vs:Array Value} {off:Nat} {x:Value} (hu:P.underlying t=some d) (hd:Zgb d=false) (hx:vs[off]?=some x):(part t vs off).run P w=.ok x w:=by
 have hag:(isAgg t).run P w=.ok false w:=by
  simp only [isAgg,Sem.run_bind,run_underlying hu,Result.andThen_ok];cases d<;>first|rfl|cases hd
 simp [part,hag,hx]
def Zn0 (d:Nat) (vs us:Array Value):List (TypeId × Nat)→Sem Bool
 | []=>pure true
 | (t,off) :: r=>do
   let a ←part t vs off
   let b ←part t us off
   if ←Op.equalIn d t a b then Zn0 d vs us r else pure false
theorem Zhd {d:Nat} {xs ys:List AV} {vs us:Array Value} {dst:Option Nat} (hx:CLs w imm xs vs) (hy:CLs w imm ys us):∀(l:List (TypeId × Nat)) (R:Bool→Res),aRes P tok dst (Zen P l xs ys R) K st →
 ∃b,aRes P tok dst (R b) K st∧(Zn0 (d+1) vs us l).run P w=.ok b w
 | [],R,hK=>⟨true,hK,rfl⟩
 | (t,off) :: r,R,hK=>by
   simp only [Zen] at hK
   have get:∀{zs:List AV} {ws:Array Value} {v:Value} {rest:List AV},CLs w imm zs ws→zs.drop off=.v v :: rest→ws[off]?=some v:=by
    intro zs ws v rest hc h1
    have h2:zs[off]?=some (.v v):=by
     have:=congrArg (λl=>l[0]?) h1
     simpa [List.getElem?_drop] using this
    have hlt:off < ws.size:=by rw [←hc.1];exact(List.getElem?_eq_some_iff.1 h2).1
    rw [Array.getElem?_eq_getElem hlt];have:=hc.2 off _ _ h2 (Array.getElem?_eq_getElem hlt);rw [this.v_inv]
   have step:∀(a b:Value) (c:Bool) (td:TypeDesc),P.underlying t=some td→Zgb td=false→vs[off]?=some a→us[off]?=some b→(Op.equalIn (d+1) t a b).run P w=.ok c w→aRes P tok dst (Zen P r xs ys λc'=>R (c && c')) K st →
    ∃b,aRes P tok dst (R b) K st∧(Zn0 (d+1) vs us ((t,off) :: r)).run P w=.ok b w:=by
    intro a b c td hu hag ha hb he hK;obtain⟨c',h1,h2⟩:=Zhd hx hy r _ hK;refine⟨c && c',h1,?_⟩;simp only [Zn0,Sem.run_bind,Zhm hu hag ha,Zhm hu hag hb,Result.andThen_ok,he];cases c
    ·simp
    ·simpa using h2
   split at hK
   ·rename_i a ra b rb hu h1 h2;exact step _ _ (a == b) _ hu rfl (get hx h1) (get hy h2) (run_equalIn_bool' (P:=P) w d t a b hu) hK
   ·rename_i kk k a ra k' b rb hu h1 h2;obtain⟨rfl,hK⟩:=hK;exact step _ _ (a == b) _ hu rfl (get hx h1) (get hy h2) (run_equalIn_int (P:=P) w d t k kk a b hu) hK
   ·rename_i a ra b rb hu h1 h2;exact step _ _ (a.toList == b.toList) _ hu rfl (get hx h1) (get hy h2) (run_equalIn_string (P:=P) w d t a b hu) hK
   ·exact hK.elim
theorem Zij {d : Nat} {vs us : Array Value} : ∀ (fs : List Field), (fs.all fun f => f.name != "_") = true → Op.eqFields d vs us fs = Zn0 d vs us (fs.map fun f => (f.type, f.offset))
 | [],_=>rfl
 | f :: fs,h=>by
   simp only [List.all_cons,Bool.and_eq_true,bne_iff_ne,ne_eq] at h;simp only [Op.eqFields,List.map_cons,Zn0,ne_eq,h.1,not_false_eq_true,if_true,Zij fs h.2];congr 1;funext a;congr 1;funext b;congr 1;funext r;cases r<;>rfl
theorem Zol {d n:Nat} {t e:TypeId} {sz:Nat} {vs us:Array Value} (hu:P.underlying t=some (.array n e)) (hsz:szOf P e=some sz) :
 (Op.equalIn (d+1) t (.agg vs) (.agg us)).run P w=(Zn0 d vs us ((List.range n).map λi=>(e,i*sz))).run P w:=by
 unfold Op.equalIn;simp only [Sem.run_bind,run_underlying hu,Result.andThen_ok,Zba hsz,Std.Legacy.Range.forIn_eq_forIn_range',Std.Legacy.Range.size,Nat.sub_zero,Nat.add_one_sub_one,Nat.div_one,List.range_eq_range'];generalize List.range' 0 n=l
 induction l generalizing w with
 | nil=>rfl
 | cons i l ih =>
   simp only [List.forIn_cons,List.map_cons,Zn0,Sem.run_bind]
   cases (part e vs (i*sz)).run P w with
   | halt x w1=>rfl
   | ok a w1 =>
     simp only [Result.andThen_ok]
     cases (part e us (i*sz)).run P w1 with
     | halt x w2=>rfl
     | ok b w2 =>
       simp only [Result.andThen_ok]
       cases (Op.equalIn d e a b).run P w2 with
       | halt x w3=>rfl
       | ok r w3 =>
         cases r
         ·rfl
         ·simp only [Result.andThen_ok,Bool.not_true,Bool.false_eq_true,if_false,if_true,Sem.run_bind,Sem.run_pure];exact ih
theorem Zn1 {t:TypeId} {xs ys:List AV} {vs us:Array Value} {R:Bool→Res} {dst:Option Nat} (hx:CLs w imm xs vs) (hy:CLs w imm ys us) (hK:aRes P tok dst (Zpm P t xs ys R) K st) :
 ∃b,aRes P tok dst (R b) K st∧(Op.equalIn 10000 t (.agg vs) (.agg us)).run P w=.ok b w∧P.eqGuardType P.depth t=false:=by
 unfold Zpm at hK;split at hK
 ·rename_i fs hu;obtain⟨ht,hK⟩:=hK;simp only [eqTy,hu,Bool.and_eq_true,Bool.not_eq_true'] at ht;obtain⟨h1,h2,h3⟩:=ht;have hf:P.fieldsOf t=fs:=by simp [Program.fieldsOf,hu]
  obtain⟨b,h4,h5⟩:=Zhd (d:=9998) hx hy _ _ hK;refine⟨b,h4,?_,h1⟩;rw [show(10000:Nat)=9999+1 from rfl,run_equalIn_agg (P:=P) w 9999 t vs us (by rw [hf];exact hu) h2,hf,Zij _ h3];exact h5
 ·rename_i n e hu;split at hK
  ·rename_i sz hsz;obtain⟨ht,hK⟩:=hK;simp only [eqTy,hu,Bool.and_eq_true,Bool.not_eq_true',and_true] at ht;obtain⟨b,h4,h5⟩:=Zhd (d:=9998) hx hy _ _ hK;refine⟨b,h4,?_,ht⟩;rw [show(10000:Nat)=9999+1 from rfl,Zol hu hsz];exact h5
  ·exact hK.elim
 ·exact hK.elim
theorem s_bin {op:BinOp} {t:TypeId} {p q:Operand} {xv yv:AV} {x y:Value} (h:Rel c n st a w imm) (hd:∀d,o.dst=some d→d < n) (hK:aRes P tok o.dst (Zk4 P op t xv yv) K st) (hx:Rs w imm xv x) (hy:Rs w imm yv y) :
 o.upon P a (Zcc c n K) Q (((do pure (Next.value (←(do eqGuard op t p q x y;binOp op t x y)))):Sem Next).run P w):=by
 unfold Zk4 at hK;split at hK
 ·rename_i k i k' j;have:=hx.v_inv;subst this;have:=hy.v_inv;subst this;split at hK
  ·obtain⟨h0,hK⟩:=hK;refine Zah h hd hK ?_ (.pure (.v _));have:¬j < 0:=by omega
   simp [eqGuard,binOp,Op.shift,this,shlI,shrI]
  ·obtain⟨h0,hK⟩:=hK;refine Zah h hd hK ?_ (.pure (.v _));have:¬j < 0:=by omega
   simp [eqGuard,binOp,Op.shift,this,shlI,shrI]
  ·obtain⟨rfl,hK⟩:=hK;unfold Zqn at hK;cases op<;>first
    | exact hK.elim
    | (refine Zah h hd hK ?_ (.pure (.v _));simp [eqGuard,binOp,Op.intArith,Op.intBits,Op.intCmp,andI,orI,xorI];done)
    | (obtain⟨h0,hK⟩:=hK;refine Zah h hd hK ?_ (.pure (.v _));simp [eqGuard,binOp,Op.intDiv,h0];done)
 ·rename_i s1 s2;have:=hx.v_inv;subst this;have:=hy.v_inv;subst this;unfold Zpy at hK;cases op<;>first
   | exact hK.elim
   | (refine Zah h hd hK ?_ (.pure (.v _));simp [eqGuard,binOp,Op.stringOp];done)
   | (obtain⟨h0,hK⟩:=hK
      refine Zah h hd hK ?_ (.pure (.v _))
      have:¬(IntKind.i64.max < ((s1.size+s2.size:Nat):Int)):=by
       have:IntKind.i64.max=9223372036854775807:=by decide
       omega
      simp only [eqGuard,binOp,Op.stringOp,GT.gt,this,if_false];simp)
 ·rename_i b1 b2;have:=hx.v_inv;subst this;have:=hy.v_inv;subst this;split at hK
  ·rename_i hu;refine Zah h hd hK ?_ (.pure (.v _));simp [eqGuard,binOp,Zg0 hu]
  ·rename_i hu;refine Zah h hd hK ?_ (.pure (.v _));simp [eqGuard,binOp,Zg0 hu]
  ·exact hK.elim
 ·rename_i xs ys;obtain⟨vs,rfl,hl1,hr1⟩:=hx.agg_inv;obtain⟨us,rfl,hl2,hr2⟩:=hy.agg_inv;split at hK
  ·obtain⟨b,h1,h2,h3⟩:=Zn1 ⟨hl1,hr1⟩ ⟨hl2,hr2⟩ hK;refine Zah h hd h1 ?_ (.pure (.v _));simp only [Sem.run_bind,run_eqGuard_agg (P:=P) w _ t p q vs us h3,Result.andThen_ok,run_eql_struct,h2]
  ·obtain⟨b,h1,h2,h3⟩:=Zn1 ⟨hl1,hr1⟩ ⟨hl2,hr2⟩ hK;refine Zah h hd h1 ?_ (.pure (.v _));simp only [Sem.run_bind,run_eqGuard_agg (P:=P) w _ t p q vs us h3,Result.andThen_ok,run_neq_struct,h2]
  ·exact hK.elim
 ·rename_i mm es;obtain⟨A,cap,f,rfl,_,_,_,hA,_⟩:=hx.sl_inv;have:=hy.v_inv;subst this;split at hK
  ·rename_i e hu;obtain⟨h0,hK⟩:=hK;refine Zah h hd hK ?_ (.pure (.v _));have hA:=hA h0
   cases A with
   | none=>exact absurd rfl hA
   | some ad=>simp [eqGuard,binOp,Zmw hu]
  ·exact hK.elim
 ·have:=hx.v_inv;subst this;have:=hy.v_inv;subst this;split at hK
  ·rename_i e hu;refine Zah h hd hK ?_ (.pure (.v _));simp [eqGuard,binOp,Zlg hu]
  ·exact hK.elim
 ·exact hK.elim
theorem s_un {op:UnOp} {xv:AV} {x:Value} (h:Rel c n st a w imm) (hd:∀d,o.dst=some d→d < n) (hK:aRes P tok o.dst (Zqz op xv) K st) (hx:Rs w imm xv x) :
 o.upon P a (Zcc c n K) Q (((do pure (Next.value (←Op.unary op x))):Sem Next).run P w):=by
 unfold Zqz at hK;split at hK
 ·have:=hx.v_inv;subst this;exact Zah h hd hK (by simp [Op.unary]) (.pure (.v _))
 ·have:=hx.v_inv;subst this;exact Zah h hd hK (by simp [Op.unary,Op.intArith]) (.pure (.v _))
 ·exact hK.elim
theorem Zmq:∀{es:List AV} {ns:List Int},Zq0 es=some ns→es=ns.map λn=>AV.v (.int .u8 n)
 | [],ns,h=>by
   simp only [Zq0,Option.some.injEq] at h;subst h;rfl
 | a :: r,ns,h=>by
   unfold Zq0 at h;split at h
   ·cases ‹_ :: _=[]›
   ·rename_i n r' e;cases e;obtain⟨ms,hm,rfl⟩:=Option.map_eq_some_iff.1 h;rw [Zmq hm];rfl
   ·cases h
theorem s_conv {s d:TypeId} {xv:AV} {x:Value} (h:Rel c n st a w imm) (hd:∀d,o.dst=some d→d < n) (hK:aRes P tok o.dst (Zmh P st.mem s d xv) K st) (hx:Rs w imm xv x) :
 o.upon P a (Zcc c n K) Q (((do pure (Next.value (←convert s d x))):Sem Next).run P w):=by
 unfold Zmh at hK;split at hK
 ·rename_i u k k' i hsu hu;have:=hx.v_inv;subst this;exact Zah h hd hK (by simp [convert,run_underlying hsu,run_underlying hu,Conv.intToInt]) (.pure (.v _))
 ·rename_i u i hsu hu;have:=hx.v_inv;subst this;exact Zah h hd hK (by simp [convert,run_underlying hsu,run_underlying hu]) (.pure (.v _))
 ·rename_i e hsu hu _;split at hK
  ·rename_i hue;obtain⟨es,A,cp,xs,hK,hsrc⟩:=Zeo h.mem hx hK;unfold Zld at hK;split at hK
   ·rename_i ns hns;have hes:=Zmq hns;subst hes;have hval:=hsrc.val;subst hval;refine Zah h hd hK ?_ (.pure (.v _))
    have hb:(Conv.bytesToString (.slice A (ns.map λn=>AV.v (.int .u8 n)).length cp)).run P w=.ok (.string (strOf ns)) w:=by
     cases A with
     | none =>
       have h0:ns=[]:=by
        cases ns with
        | nil=>rfl
        | cons x r=>exact absurd rfl (hsrc.some_ (by simp))
       subst h0;rfl
     | some ad =>
       refine run_bytesToString w ad _ cp ns ?_
       have hxs:xs=ns.map (Value.int .u8):=by
        refine List.ext_getElem? λj=>?_;have hl:=hsrc.len;by_cases hj:j < ns.length
        ·have hj2:j < xs.length:=by rw [hl];simpa using hj
         have hr:=hsrc.rd j (.v (.int .u8 ns[j])) xs[j] (by
          have:flat (ns.map λn=>AV.v (.int .u8 n))=ns.map λn=>AV.v (.int .u8 n):=by
           unfold flat;clear hns hK hsrc hl hj hj2 hx
           induction ns with
           | nil=>rfl
           | cons a l ih=>simp only [List.map_cons,List.flatMap_cons,ih];rfl
          rw [this,List.getElem?_map,List.getElem?_eq_getElem hj];rfl) (List.getElem?_eq_getElem hj2)
         have hv:xs[j]=.int .u8 ns[j]:=(Rs.pure hr).v_inv;rw [List.getElem?_eq_getElem hj2,List.getElem?_map,List.getElem?_eq_getElem hj,hv];rfl
        ·rw [List.getElem?_eq_none (by rw [hl];simp;omega),List.getElem?_eq_none (by simp;omega)]
       have:=run_loadCells_list (P:=P) w ad xs λj v hv=>hsrc.cell ad rfl j v hv;rw [hsrc.len,Nat.mul_one] at this;rw [this,hxs]
    simp only [run_convert_bytes_string (P:=P) w s d e A _ cp hsu hue hu,Sem.run_bind,hb,Result.andThen_ok,Sem.run_pure]
   ·exact hK.elim
  ·exact hK.elim
 ·exact hK.elim
end
section
variable {P:Program} {c:Cx} {n tok:Nat} {st:St} {a:Act} {w:World} {imm:Imm} {K:St→Prop} {o:Oper} {Q:Exit→Act→World→Prop}
theorem Zeh {lo:Option AV} {R:Int→Res} {dst:Option Nat} (hK:aRes P tok dst (Zdx lo R) K st):∃l:Int,aRes P tok dst (R l) K st∧((lo=none∧l=0)∨∃k,lo=some (.v (.int k l))):=by
 unfold Zdx at hK;split at hK
 ·exact⟨0,hK,.inl ⟨rfl,rfl⟩⟩
 ·rename_i k l;exact⟨l,hK,.inr ⟨k,rfl⟩⟩
 ·exact hK.elim
theorem Zc4 {len:Nat} {hi:Option AV} {R:Int→Res} {dst:Option Nat} (hK:aRes P tok dst (Zdb len hi R) K st):∃l:Int,aRes P tok dst (R l) K st∧((hi=none∧l=len)∨∃k,hi=some (.v (.int k l))):=by
 unfold Zdb at hK;split at hK
 ·exact⟨len,hK,.inl ⟨rfl,rfl⟩⟩
 ·rename_i k l;exact⟨l,hK,.inr ⟨k,rfl⟩⟩
 ·exact hK.elim
theorem Zub {b:Option Operand} {k:IntKind} {l:Int} (h:Rel c n st a w imm) (hb:b.map st.ev=some (.v (.int k l))):b.map a.eval=some (.int k l):=by
 cases b with
 | none=>cases hb
 | some x =>
   simp only [Option.map_some,Option.some.injEq] at hb ⊢;have:=h.ev x;rw [hb] at this;exact this.v_inv
theorem Zdk {len cap:Nat} {lo hi mx:Option Value} {l hh m:Nat} (is:Bool) (hl:(lo=none∧l=0)∨∃k,lo=some (.int k l)) (hhi:(hi=none∧hh=len)∨∃k,hi=some (.int k hh))
 (hm:(mx=none∧m=cap)∨∃k,mx=some (.int k m)) (h1:l≤hh) (h2:hh≤m) (h3:m≤cap) (h4:mx.isSome=true→hi.isSome=true) :
 (Instr.sliceBounds is len cap lo hi mx).run P w=.ok (l,hh,m) w:=by
 have b:∀(k:IntKind) (i y:Nat) (code:BoundsCode),i≤y→(Instr.sliceBound (.int k i) y code).run P w=.ok i w:=by
  intro k i y code hi;have:((i:Int)≤(y:Int)):=by omega
  simp [Instr.sliceBound,asIntOf,this]
 rcases hm with⟨rfl,rfl⟩ | ⟨km,rfl⟩<;>rcases hhi with⟨rfl,rfl⟩ | ⟨kh,rfl⟩<;>rcases hl with⟨rfl,rfl⟩ | ⟨kl,rfl⟩<;>first
  | (simp only [Instr.sliceBounds,Sem.run_bind,Sem.run_pure,Result.andThen_ok,b _ _ _ _ h1,b _ _ _ _ h2,b _ _ _ _ h3,b _ _ _ _ (Nat.le_trans h2 h3)];done)
  | (simp at h4;done)
theorem Zej {t e:TypeId} {sz:Nat} {A:Option Addr} {len cap:Nat} {lo hi mx:Option Value} {l hh m:Nat} (hu:P.underlying t=some (.slice e)) (hsz:szOf P e=some sz)
 (hb:(Instr.sliceBounds true len cap lo hi mx).run P w=.ok (l,hh,m) w) :
 (Instr.sliceAt t (.slice A len cap) lo hi mx).run P w=.ok (.slice (if m=l then A else A.map (·.add (l*sz))) (hh - l) (m - l)) w:=by
 simp only [Instr.sliceAt,Sem.run_bind,run_underlying hu,Result.andThen_ok,Instr.slice,hb,Zba hsz,Sem.run_pure]
theorem cut_rd {m:Nat} {es:List AV} {A:Option Addr} {cap l hh mm:Nat} (h:Rd w imm (.sl m es) (.slice A es.length cap)) (h1:l≤hh) (h2:hh≤es.length) (h3:hh≤mm) :
 Rd w imm (.sl m ((es.take hh).drop l)) (.slice (if mm=l then A else A.map (·.add (l*m))) (hh - l) (mm - l)):=by
 obtain⟨A',cap',f,hv,hcap,hm,hok,hn,hA,hr⟩:=(Rs.pure h).sl_inv;cases hv;have hlen:((es.take hh).drop l).length=hh - l:=by simp;omega
 rw [←hlen];have hsub:∀e∈(es.take hh).drop l,e∈es:=λe he=>List.mem_of_mem_take (List.mem_of_mem_drop he)
 have hfl:∀(j:Nat) (b:AV),(flat ((es.take hh).drop l))[j]?=some b→(flat es)[l*m+j]?=some b:=by
  intro j b hb
  have e1:flat es=flat (es.take l)++(flat ((es.take hh).drop l)++flat (es.drop hh)):=by
   rw [←Zcw,←Zcw];congr 1;have e2:es.take l=(es.take hh).take l:=by rw [List.take_take,Nat.min_eq_left h1]
   rw [e2,←List.append_assoc,List.take_append_drop,List.take_append_drop]
  have hl1:(flat (es.take l)).length=l*m:=by
   rw [Zbd λe he=>hm e (List.mem_of_mem_take he),List.length_take,Nat.min_eq_left (by omega)]
  rw [e1,List.getElem?_append_right (by omega),hl1,Nat.add_sub_cancel_left,List.getElem?_append_left (Zby hb)];exact hb
 refine .sl m _ _ _ (λj=>f (l*m+j)) (λe he=>hm e (hsub e he)) (λe he=>hok e (hsub e he)) (by rw [hlen];omega) (λh4=>?_) (λj hj=>?_) λj b hb=>hr _ b (hfl j b hb)
 ·rw [hlen] at h4;rw [if_neg (by omega)];have:=hn (by omega)
  cases A with
  | none=>exact absurd rfl this
  | some ad=>simp
 ·rw [hlen] at hj
  have hlt:l < hh:=by
   rcases Nat.lt_or_ge l hh with h5 | h5
   ·exact h5
   ·have:hh - l=0:=by omega
    rw [this] at hj;omega
  rw [if_neg (by omega)];have hmul:l*m+(hh - l)*m≤es.length*m:=by rw [←Nat.add_mul];exact Nat.mul_le_mul_right _ (by omega)
  obtain⟨ad,rfl,h6,h7⟩:=hA (l*m+j) (by omega);exact⟨_,rfl,by rw [Zeb];exact h6,by rw [Zeb];exact h7⟩
theorem s_slice {t:TypeId} {p:Operand} {lo hi mx:Option Operand} (h:Rel c n st a w imm) (hd:∀d,o.dst=some d→d < n) (hK:aRes P tok o.dst (Zgi P st t (st.ev p) (lo.map st.ev) (hi.map st.ev) (mx.map st.ev)) K st) :
 o.upon P a (Zcc c n K) Q (((do pure (Next.value (←Instr.sliceAt t (a.eval p) (lo.map a.eval) (hi.map a.eval) (mx.map a.eval)))):Sem Next).run P w):=by
 have hx:=h.ev p
 have conv:∀{b:Option Operand} {l:Int} {d:Nat},((b.map st.ev=none∧l=d)∨∃k,b.map st.ev=some (.v (.int k l)))→0≤l→((b.map a.eval=none∧l.toNat=d)∨∃k,b.map a.eval=some (.int k (l.toNat:Nat))):=by
  intro b l d hb h0;rcases hb with⟨h1,h2⟩ | ⟨k,h1⟩
  ·cases b with
   | none=>exact .inl ⟨rfl,by omega⟩
   | some x=>cases h1
  ·exact .inr ⟨k,by rw [Zub h h1];congr 2;omega⟩
 have isS:∀{b:Option Operand},(b.map st.ev).isSome=(b.map a.eval).isSome:=by intro b;cases b<;>rfl
 unfold Zgi at hK;split at hK
 ·rename_i s hu hxx;rw [hxx] at hx;split at hK
  ·rename_i hmx;obtain⟨l,hK,hl⟩:=Zeh hK;obtain⟨hh,hK,hhi⟩:=Zc4 hK;obtain⟨⟨h0,h1,h2⟩,hK⟩:=hK;have:=hx.v_inv;rw [this];have hmx2:mx.map a.eval=none:=by cases mx<;>simp_all
   have hb:=Zdk (P:=P) (w:=w) (len:=s.size) (cap:=s.size) (m:=s.size) false (conv (d:=0) (by simpa using hl) h0) (conv hhi (by omega)) (.inl ⟨rfl,rfl⟩) (show l.toNat≤hh.toNat by omega) (by omega) (Nat.le_refl _) (by simp);refine Zah h hd hK ?_ (.pure (.v _));simp only [Instr.sliceAt,Sem.run_bind,run_underlying hu,Result.andThen_ok,Instr.slice,hmx2,Option.isSome_none,Bool.false_eq_true,if_false,Sem.run_pure,hb]
  ·exact hK.elim
 ·rename_i e m es hu hxx;rw [hxx] at hx;split at hK
  ·rename_i m' hsz;obtain⟨l,hK,hl⟩:=Zeh hK;obtain⟨hh,hK,hhi⟩:=Zc4 hK;obtain⟨m2,hK,hm2⟩:=Zc4 hK;obtain⟨⟨rfl,h0,h1,h2,h3,h4⟩,hK⟩:=hK;obtain⟨A,cap,f,hv,hcap,hrest⟩:=hx.sl_inv;rw [hv]
   have hrd:Rd w imm (.sl m' es) (.slice A es.length cap):=by
    have:=hx;rw [hv] at this;cases this with | pure h=>exact h
   have hmm:(mx.map a.eval=none∧(if (mx.map a.eval).isSome then m2.toNat else cap)=cap)∨∃k,mx.map a.eval=some (.int k ((if (mx.map a.eval).isSome then m2.toNat else cap:Nat):Int)):=by
    rcases conv hm2 (by omega) with⟨h5,_⟩ | ⟨k,h5⟩
    ·exact .inl ⟨h5,by rw [h5];rfl⟩
    ·exact .inr ⟨k,by rw [h5];rfl⟩
   have hmb:hh.toNat≤(if (mx.map a.eval).isSome then m2.toNat else cap):=by split<;>omega
   have hb:=Zdk (P:=P) (w:=w) (len:=es.length) (cap:=cap) true (conv (d:=0) (by simpa using hl) h0) (conv hhi (by omega)) hmm (show l.toNat≤hh.toNat by omega) hmb (by split<;>omega) (by rw [←isS,←isS];exact h4);exact Zah h hd hK (Zej hu hsz hb) (.pure (cut_rd hrd (by omega) (by omega) hmb))
  ·exact hK.elim
 ·rename_i e k sv hu hxx;rw [hxx] at hx;split at hK
  ·rename_i sv' e' m es pub m' hk hsz;split at hK
   ·rename_i hmx;obtain⟨l,hK1,hl⟩:=Zeh hK;obtain⟨hh,hK2,hhi⟩:=Zc4 hK1;obtain⟨⟨rfl,rfl,h0,h1,h2⟩,hK4⟩:=hK2;have hv:=hx.own_inv;rw [hv];obtain⟨A,cap,xs,hsrc,hcap,hown⟩:=Zi3 h.mem hk;have hval:=hsrc.val;subst hval;have hmx2:mx.map a.eval=none:=by cases mx<;>simp_all
    have hb:=Zdk (P:=P) (w:=w) (len:=es.length) (cap:=cap) (m:=cap) true (conv (d:=0) (by simpa using hl) h0) (conv hhi (by omega)) (.inl ⟨hmx2,rfl⟩) (show l.toNat≤hh.toNat by omega) (by omega) (Nat.le_refl _) (by rw [hmx2];simp);refine Zah h hd hK4 (Zej hu hsz hb) (.view k _ m' _ _ _ ?_);rcases hown.2 with⟨h5,h6⟩ | ⟨g,cap',cur,h5,_⟩
    ·simp only [Value.slice.injEq] at h5;obtain⟨rfl,_,rfl⟩:=h5;refine .inl ⟨by rw [h6],by omega,by omega,?_⟩;have e1:hh.toNat - l.toNat=0:=by omega
     rw [e1,h6];split<;>simp
    ·simp only [Value.slice.injEq,true_and] at h5;obtain⟨rfl,rfl⟩:=h5;refine .inr ⟨g,es.length,cap,if cap=l.toNat then 0 else l.toNat*m',cap - l.toNat,rfl,?_,by omega,by omega,λh6=>by rw [if_neg (by omega)],λh6=>⟨by rw [h6];simp,by omega⟩⟩;split
     ·rfl
     ·simp [Addr.add_lit]
   ·exact hK.elim
  ·exact hK.elim
 ·rename_i e k sv m i len hu hxx;rw [hxx] at hx;split at hK
  ·rename_i m' hsz hmx;obtain⟨l,hK1,hl⟩:=Zeh hK;obtain⟨hh,hK2,hhi⟩:=Zc4 hK1;obtain⟨⟨rfl,h0,h1,h2⟩,hK4⟩:=hK2;have hmx2:mx.map a.eval=none:=by cases mx<;>simp_all
   rcases hx.view_inv with⟨rfl,rfl,rfl,hv⟩ | ⟨g,nn,cc,off,cap,rfl,hv,hle,hlc,hoff,hz0⟩
   ·rw [hv];have hb:=Zdk (P:=P) (w:=w) (len:=0) (cap:=0) (m:=0) true (conv (d:=0) (by simpa using hl) h0) (conv hhi (by omega)) (.inl ⟨hmx2,rfl⟩) (show l.toNat≤hh.toNat by omega) (by omega) (Nat.le_refl _) (by rw [hmx2];simp);refine Zah h hd hK4 (Zej hu hsz hb) (.view k _ m' _ _ _ (.inl ⟨rfl,by omega,by omega,?_⟩));have e1:hh.toNat - l.toNat=0:=by omega
    rw [e1,Nat.zero_sub];split<;>rfl
   ·rw [hv];have hb:=Zdk (P:=P) (w:=w) (len:=len) (cap:=cap) (m:=cap) true (conv (d:=0) (by simpa using hl) h0) (conv hhi (by omega)) (.inl ⟨hmx2,rfl⟩) (show l.toNat≤hh.toNat by omega) (by omega) (Nat.le_refl _) (by rw [hmx2];simp);refine Zah h hd hK4 (Zej hu hsz hb) (.view k _ m' _ _ _ (.inr ⟨g,nn,cc,if cap=l.toNat then off else off+l.toNat*m',cap - l.toNat,rfl,?_,by omega,by omega,λh6=>?_,λh6=>?_⟩))
    ·split
     ·rfl
     ·simp [Addr.add_lit]
    ·rw [if_neg (by omega),hoff (by omega),Nat.add_mul]
    ·have e1:i=0:=by omega
     have e2:l.toNat=0:=by omega
     obtain⟨e3,e4⟩:=hz0 e1;rw [e2,e3,e4];simp
  ·exact hK.elim
 ·rename_i e hu hxx;rw [hxx] at hx;split at hK
  ·rename_i sz hsz;obtain⟨l,hK1,hl⟩:=Zeh hK;obtain⟨hh,hK2,hhi⟩:=Zc4 hK1;obtain⟨m2,hK3,hm2⟩:=Zc4 hK2;obtain⟨⟨h5,h6,h7,h4⟩,hK4⟩:=hK3;have hv:=hx.v_inv;rw [hv];have hb:=Zdk (P:=P) (w:=w) (len:=0) (cap:=0) (l:=l.toNat) (hh:=hh.toNat) (m:=m2.toNat) true (conv (d:=0) (by simpa using hl) (by omega)) (conv hhi (by omega)) (conv hm2 (by omega)) (by omega) (by omega) (by omega) (by rw [←isS,←isS];exact h4);refine Zah h hd hK4 (Zej hu hsz hb) ?_;have e1:hh.toNat - l.toNat=0:=by omega
   have e2:m2.toNat - l.toNat=0:=by omega
   rw [e1,e2];have e3:(if m2.toNat=l.toNat then (none:Option Addr) else Option.map (λx:Addr=>x.add (l.toNat*sz)) none)=none:=by split<;>rfl
   rw [e3];exact .pure (.v _)
  ·exact hK.elim
 ·rename_i nn e k g off hu hxx;rw [hxx] at hx;split at hK
  ·rename_i m cs hlo hhi hmx hsz hcs;obtain⟨⟨rfl,hn,h0,hpub,hone⟩,hK⟩:=hK;have hv:=hx.pbox_inv;have e1:lo.map a.eval=none:=by cases lo<;>simp_all
   have e2:hi.map a.eval=none:=by cases hi<;>simp_all
   have e3:mx.map a.eval=none:=by cases mx<;>simp_all
   have hrun:(Instr.sliceAt t (a.eval p) (lo.map a.eval) (hi.map a.eval) (mx.map a.eval)).run P w=.ok (.slice (some ⟨g,off,none⟩) nn nn) w:=by
    have hb:=Zdk (P:=P) (w:=w) (len:=nn) (cap:=nn) (lo:=none) (hi:=none) (mx:=none) (l:=0) (hh:=nn) (m:=nn) false (.inl ⟨rfl,rfl⟩) (.inl ⟨rfl,rfl⟩) (.inl ⟨rfl,rfl⟩) (Nat.zero_le _) (Nat.le_refl _) (Nat.le_refl _) (by simp);have e4:(if nn=0 then (⟨g,off,none⟩:Addr) else Addr.add ⟨g,off,none⟩ (0*1))=⟨g,off,none⟩:=by split<;>simp [Addr.add_lit]
    rw [hv,e1,e2,e3];simp only [Instr.sliceAt,Sem.run_bind,run_underlying hu,Result.andThen_ok,Instr.sureAddr,Sem.run_pure,hb,Zba hsz,e4,Nat.sub_zero]
   rw [Sem.run_bind,hrun,Result.andThen_ok];refine Zc2 h hd hK λi' hm' hk'=>?_;have hrd:=Zhp hm' (hk'.rs hx) hpub;rw [hcs,hv] at hrd;obtain⟨ad,f,he,hA,hr⟩:=(Rs.pure hrd).pimm_inv;have had:ad=⟨g,off,none⟩:=by simpa using he.symm
   subst had;rw [←hn];have hone':∀x∈cs,x.one=true:=λx hx=>List.all_eq_true.1 hone x hx;have hc1:∀x∈cs,x.cells=[x]:=λx hx=>by
    have:=hone' x hx;cases x<;>simp [AV.one] at this<;>rfl
   have hfl:flat cs=cs:=by
    clear hA hr hcs hn hone hone' hrd he h0 hK hpub;unfold flat
    induction cs with
    | nil=>rfl
    | cons x cs ih=>rw [List.flatMap_cons,hc1 x (.head _),ih λy hy=>hc1 y (.tail _ hy)];rfl
   refine .pure (.sl 1 cs (some ⟨g,off,none⟩) cs.length f (λx hx=>by rw [hc1 x hx];rfl) (λx hx=>?_) (Nat.le_refl _) (λ_=>by simp) (λj hj=>⟨_,rfl,hA j (by omega)⟩) λj b hb=>?_)
   ·have:=hone' x hx;cases x<;>simp [AV.one] at this<;>simp [AV.ok,AV.one, *]
   ·rw [hfl] at hb;exact hr j b hb
  ·exact hK.elim
 ·exact hK.elim
end
theorem Zqf (w:World) (imm:Imm) (z:Value):Rs w imm (AV.ofVal z) z:=by
 cases z<;>first
  | exact .pure (.v _)
  | (rename_i cs
     refine .pure (.agg _ cs (by simp) λj a x h1 h2=>?_);simp only [List.getElem?_map,Array.getElem?_toList,h2,Option.map_some,Option.some.injEq] at h1;subst h1;exact .v _)
def CL (w:World) (imm:Imm) (cs:List AV) (vs:Array Value):Prop:=cs.length=vs.size∧∀(j:Nat) (b:AV) (y:Value),cs[j]?=some b→vs[j]?=some y→Rs w imm b y
theorem Zfo {w:World} {imm:Imm} (z:Value):CL w imm (AV.ofVal z).cells z.cells:=by
 have h:=Zqf w imm z;cases z<;>first
  | (rename_i cs
     obtain⟨vs,hv,hl,hr⟩:=h.agg_inv;cases hv;exact⟨hl,hr⟩)
  | (refine⟨rfl,λj b y hb hy=>?_⟩
     simp only [AV.ofVal,AV.cells,Value.cells] at hb hy
     match j with
     | 0=>simp at hb hy;subst hb;subst hy;exact .pure (.v _)
     | j+1=>simp at hb)
theorem Zny (off:Nat) (vs:Array Value) (cs:Array Value) (h:off+vs.size≤cs.size) (j:Nat) :
 (vs.zipIdx.foldl (λcs (x:Value × Nat)=>cs.setIfInBounds (off+x.2) x.1) cs)[j]?=if off≤j∧j < off+vs.size then vs[j - off]? else cs[j]?:=by
 have key:∀(l:List Value) (k:Nat) (cs:Array Value),off+k+l.length≤cs.size→∀j,((l.zipIdx k).foldl (λcs (x:Value × Nat)=>cs.setIfInBounds (off+x.2) x.1) cs)[j]?=if off+k≤j∧j < off+k+l.length then l[j - (off+k)]? else cs[j]?:=by
  intro l
  induction l with
  | nil=>intro k cs _ j;simp;omega
  | cons x l ih =>
    intro k cs hle j;simp only [List.length_cons] at hle;simp only [List.zipIdx_cons,List.foldl_cons,List.length_cons];rw [ih (k+1) _ (by simp;omega) j];by_cases h1:off+(k+1)≤j∧j < off+(k+1)+l.length
    ·rw [if_pos h1,if_pos (by omega)];have:j - (off+k)=(j - (off+(k+1)))+1:=by omega
     rw [this,List.getElem?_cons_succ]
    ·rw [if_neg h1,Array.getElem?_setIfInBounds];by_cases h2:off+k=j
     ·subst h2;rw [if_pos rfl,if_pos (by omega),if_pos (by omega)];simp
     ·rw [if_neg h2,if_neg (by omega)]
 have:=key vs.toList 0 cs (by simpa using h) j;rw [←Array.foldl_toList,Array.toList_zipIdx]
 simpa using this
theorem Zjz (off:Nat) (vs:Array Value) (cs:Array Value):(vs.zipIdx.foldl (λcs (x:Value × Nat)=>cs.setIfInBounds (off+x.2) x.1) cs).size=cs.size:=by
 rw [←Array.foldl_toList];generalize vs.zipIdx.toList=l
 induction l generalizing cs with
 | nil=>rfl
 | cons x l ih=>simp only [List.foldl_cons];rw [ih];simp
section
variable {P:Program} {c:Cx} {n tok:Nat} {st:St} {a:Act} {w:World} {imm:Imm} {K:St→Prop} {o:Oper} {Q:Exit→Act→World→Prop}
theorem Zj0 {place:Nat→Option (Nat × Nat)} {R:List AV→Res} {dst:Option Nat}:∀(parts:List (Nat × AV)) (vals:List (Nat × Value)) (cs:List AV) (vs:Array Value),
 CL w imm cs vs→parts.length=vals.length→(∀(j:Nat) (p:Nat × AV) (q:Nat × Value),parts[j]?=some p→vals[j]?=some q→p.1=q.1∧Rs w imm p.2 q.2) →
 aRes P tok dst (Zro place cs parts R) K st→∃cs' vs',Instr.fill place vs vals=some vs'∧CL w imm cs' vs'∧aRes P tok dst (R cs') K st
 | [],[],cs,vs,hcl,_,_,hK=>⟨cs,vs,rfl,hcl,hK⟩
 | [],q :: vals,_,_,_,hl,_,_=>by simp at hl
 | (i,b) :: parts,[],_,_,_,hl,_,_=>by simp at hl
 | (i,b) :: parts,q :: vals,cs,vs,hcl,hl,hr,hK=>by
   obtain⟨h1,h2⟩:=hr 0 (i,b) q rfl rfl;simp only at h1 h2;subst h1;simp only [Zro] at hK
   cases hp:place q.1 with
   | none=>rw [hp] at hK;exact hK.elim
   | some os =>
     obtain⟨off,sz⟩:=os;rw [hp] at hK;obtain⟨⟨hok,hsz,hfit⟩,hK⟩:=hK;obtain⟨hlc,hrc,_⟩:=h2.cells_of hok;have hfit':off+b.cells.length≤cs.length:=by omega
     obtain⟨cs',vs',e1,e2,e3⟩:=Zj0 parts vals (Zd1 cs off b.cells) (q.2.cells.zipIdx.foldl (λcs (x:Value × Nat)=>cs.setIfInBounds (off+x.2) x.1) vs)
      ⟨by rw [Zd3 hfit',Zjz];exact hcl.1,λj x y hx hy=>by
       rw [Zgh hfit'] at hx;rw [Zny off q.2.cells vs (by rw [←hcl.1,←hlc];exact hfit'),←hlc] at hy;split at hx
       ·rename_i hc;rw [if_pos hc] at hy;exact hrc _ x y hx hy
       ·rename_i hc;rw [if_neg hc] at hy;exact hcl.2 j x y hx hy⟩ (by simpa using hl) (λj p q' hp hq=>hr (j+1) p q' (by simpa using hp) (by simpa using hq)) hK
     refine⟨cs',vs',?_,e2,e3⟩;simp only [Instr.fill,hp];have h5:=hcl.1;rw [if_neg (by simp;omega)];exact e1
theorem Zm5 {parts:Array (Nat × Operand)} (h:Rel c n st a w imm):((parts.toList.map λp=>(p.1,st.ev p.2)).length=(parts.map fun(i,x)=>(i,a.eval x)).toList.length) ∧
 ∀(j:Nat) (p:Nat × AV) (q:Nat × Value),(parts.toList.map λp=>(p.1,st.ev p.2))[j]?=some p→(parts.map fun(i,x)=>(i,a.eval x)).toList[j]?=some q→p.1=q.1∧Rs w imm p.2 q.2:=by
 refine⟨by simp,λj p q hp hq=>?_⟩;simp only [Array.toList_map,List.getElem?_map] at hp hq;rcases hx:parts.toList[j]? with _ | x
 ·rw [hx] at hp;cases hp
 ·rw [hx] at hp hq;simp only [Option.map_some,Option.some.injEq] at hp hq;subst hp;subst hq;exact⟨rfl,h.ev _⟩
theorem Zpd {fields:Array Field} (hall:(fields.toList.all λf=>(szOf P f.type).isSome)=true) :
 (fields.mapM λf=>(do pure (f.offset,←sizeOf f.type):Sem (Nat × Nat))).run P w=.ok (fields.map λf=>(f.offset,(szOf P f.type).getD 0)) w:=by
 have key:∀(l:List Field),(∀f∈l,(szOf P f.type).isSome=true)→(l.mapM λf=>(do pure (f.offset,←sizeOf f.type):Sem (Nat × Nat))).run P w=.ok (l.map λf=>(f.offset,(szOf P f.type).getD 0)) w:=by
  intro l
  induction l with
  | nil=>intro _;rfl
  | cons f l ih =>
    intro hl;have h1:=hl f (List.mem_cons_self ..);obtain⟨s,hs⟩:=Option.isSome_iff_exists.1 h1;have h2:=ih λg hg=>hl g (List.mem_cons_of_mem _ hg);rw [List.mapM_cons];simp only [Sem.run_bind,Zba hs,Result.andThen_ok,Sem.run_pure,h2,List.map_cons,hs,Option.getD_some]
 have h:=key fields.toList λf hf=>List.all_eq_true.1 hall f hf;rw [Array.mapM_eq_mapM_toList];simp only [Sem.run_map,h,Result.andThen_ok];congr 1;apply Array.ext';simp
theorem s_build {t:TypeId} {parts:Array (Nat × Operand)} (h:Rel c n st a w imm) (hd:∀d,o.dst=some d→d < n) (hK:aRes P tok o.dst (Zix P t (parts.toList.map λp=>(p.1,st.ev p.2))) K st) :
 o.upon P a (Zcc c n K) Q (((do pure (Next.value (←Instr.build t (parts.map fun(i,x)=>(i,a.eval x))))):Sem Next).run P w):=by
 obtain⟨hpl,hpr⟩:=Zm5 (parts:=parts) h;unfold Zix at hK;split at hK
 ·rename_i fields z hu hz;obtain⟨hall,hK⟩:=hK
  have hpe:(λi:Nat=>(fields[i]?).bind λf:Field=>(szOf P f.type).map λs=>(f.offset,s))=λi:Nat=>((fields.map λf:Field=>(f.offset,(szOf P f.type).getD 0))[i]?):=by
   funext i
   rw [Array.getElem?_map];rcases hf:fields[i]? with _ | f
   ·rfl
   ·have:(szOf P f.type).isSome=true:=List.all_eq_true.1 hall f (by
     have:=Array.mem_of_getElem? hf;exact Array.mem_toList_iff.2 this)
    obtain⟨s,hs⟩:=Option.isSome_iff_exists.1 this;simp [hs]
  rw [hpe] at hK;obtain⟨cs',vs',e1,e2,e3⟩:=Zj0 _ _ _ _ (Zfo z) hpl hpr hK;refine Zah h hd e3 (x:=.agg vs') ?_ (.agg _ _ e2.1 e2.2);simp only [Instr.build,Sem.run_bind,Zcy hz,Result.andThen_ok,run_underlying hu,Zpd hall,e1,Sem.run_pure]
 ·rename_i len e z hu hz;split at hK
  ·rename_i sz hsz;obtain⟨cs',vs',e1,e2,e3⟩:=Zj0 _ _ _ _ (Zfo z) hpl hpr hK;refine Zah h hd e3 (x:=.agg vs') ?_ (.agg _ _ e2.1 e2.2);simp only [Instr.build,Sem.run_bind,Zcy hz,Result.andThen_ok,run_underlying hu,Zba hsz,e1,Sem.run_pure]
  ·exact hK.elim
 ·exact hK.elim
theorem Zk1 {σ:Mem} {m:Nat} {R:List AV→Res} {dst:Option Nat} (hm:Mx c σ w imm):∀(parts:List (Nat × AV)) (vals:List (Nat × Value)) (es:List AV) (vs:Array Value),
 (∀e∈es,e.cells.length=m)→(∀e∈es,e.ok=true)→(flat es).length=vs.size→(∀(j:Nat) (b:AV) (y:Value),(flat es)[j]?=some b→vs[j]?=some y→Rd w imm b y) →
 parts.length=vals.length→(∀(j:Nat) (p:Nat × AV) (q:Nat × Value),parts[j]?=some p→vals[j]?=some q→p.1=q.1∧Rs w imm p.2 q.2) →
 aRes P tok dst (Znz σ m es parts R) K st→∃es' vs',Instr.fill (λi=>some (i*m,m)) vs vals=some vs'∧es'.length=es.length∧(∀e∈es',e.cells.length=m)∧(∀e∈es',e.ok=true)∧vs'.size=vs.size ∧
  (∀(j:Nat) (b:AV) (y:Value),(flat es')[j]?=some b→vs'[j]?=some y→Rd w imm b y)∧aRes P tok dst (R es') K st
 | [],[],es,vs,h1,h2,_,h4,_,_,hK=>⟨es,vs,rfl,rfl,h1,h2,rfl,h4,hK⟩
 | [],q :: vals,_,_,_,_,_,_,hl,_,_=>by simp at hl
 | (i,b) :: parts,[],_,_,_,_,_,_,hl,_,_=>by simp at hl
 | (i,b) :: parts,q :: vals,es,vs,h1,h2,h3,h4,hl,hr,hK=>by
   obtain⟨e1,e2⟩:=hr 0 (i,b) q rfl rfl;simp only at e1 e2;subst e1;simp only [Znz] at hK;obtain⟨⟨hok,hsz,hi,hpo⟩,hK⟩:=hK;obtain⟨hpok,hpl⟩:=pub_ok hpo hok;have hrd:=Zhp hm e2 hpo;obtain⟨hlc,_,_⟩:=(Rs.pure hrd).cells_of hpok;have hel:(pubV σ b).cells.length=m:=by omega
   have hfl:=Zbd h1
   have him:q.1*m+m≤es.length*m:=by
    have:(q.1+1)*m≤es.length*m:=Nat.mul_le_mul_right _ hi
    rwa [Nat.add_mul,Nat.one_mul] at this
   have hs1:∀e∈es.set q.1 (pubV σ b),e.cells.length=m:=λy hy=>by
    rcases List.mem_or_eq_of_mem_set hy with h5 | rfl
    ·exact h1 y h5
    ·exact hel
   obtain⟨es',vs',f1,f2,f3,f4,f5,f6,f7⟩:=Zk1 hm parts vals (es.set q.1 (pubV σ b)) (q.2.cells.zipIdx.foldl (λcs (x:Value × Nat)=>cs.setIfInBounds (q.1*m+x.2) x.1) vs) hs1
    (λy hy=>by
     rcases List.mem_or_eq_of_mem_set hy with h5 | rfl
     ·exact h2 y h5
     ·exact hpok)
    (by rw [Zbd hs1,Zjz,←h3,hfl,List.length_set])
    (λj x y hx hy=>by
     rw [Zl9 h1 _ hi hel] at hx;rw [Zny (q.1*m) q.2.cells vs (by omega),←hlc,hel] at hy;split at hx
     ·rename_i hc;rw [if_pos hc] at hy;exact Zkr hrd hpok _ x hx y hy
     ·rename_i hc;rw [if_neg hc] at hy;exact h4 j x y hx hy)
    (by simpa using hl) (λj p q' hp hq=>hr (j+1) p q' (by simpa using hp) (by simpa using hq)) hK
   refine⟨es',vs',?_,by rw [f2,List.length_set],f3,f4,by rw [f5,Zjz],f6,f7⟩;simp only [Instr.fill];rw [if_neg (by simp;omega)];exact f1
theorem Zke {t e:TypeId} {len m:Nat} {z:Value} {vals:Array (Nat × Value)} {vs':Array Value} (hu:P.underlying t=some (.slice e)) (hsz:szOf P e=some m) (hz:Zb4 P e=some z) (hlim:len*m≤16777216)
 (f1:Instr.fill (λi=>some (i*m,m)) ((Array.range (len*m)).map (z.cells[·%z.cells.size]!)) vals.toList=some vs') :
 (Instr.buildSlice t len vals).run P w=.ok (.slice (some ⟨w.heap.size,0,none⟩) len len) (w.alloc (.cells vs' e)):=by
 have hlim':¬(len*m > 2 ^ 24):=by omega
 simp only [Instr.buildSlice,Sem.run_bind,run_underlying hu,Result.andThen_ok,Zba hsz,if_neg hlim'];by_cases h0:len*m=0
 ·have h1:Array.range (len*m)=#[]:=by rw [h0];rfl
  rw [h1] at f1;simp only [Array.map_empty] at f1;simp only [if_pos h0,Sem.run_bind,Sem.run_pure,Result.andThen_ok,h1,Array.map_empty,f1,newRow,run_newObj];rfl
 ·simp only [if_neg h0,Sem.run_bind,Zcy hz,Sem.run_pure,Result.andThen_ok,f1,newRow,run_newObj];rfl
theorem Zmv {t:TypeId} {len:Nat} {parts:Array (Nat × Operand)} (h:Rel c n st a w imm) (hd:∀d,o.dst=some d→d < n) (hK:aRes P tok o.dst (Zd7 P st t len (parts.toList.map λp=>(p.1,st.ev p.2))) K st) :
 o.upon P a (Zcc c n K) Q (((do pure (Next.value (←Instr.buildSlice t len (parts.map fun(i,x)=>(i,a.eval x))))):Sem Next).run P w):=by
 unfold Zd7 at hK;split at hK
 ·rename_i e hu;split at hK
  ·rename_i m z hsz hz;obtain⟨⟨hlim,hlim2,hzl,hzok⟩,hK⟩:=hK;generalize hks:AV.toksL ((parts.toList.map λp=>(p.1,st.ev p.2)).map (·.2))=ks at hK;obtain⟨i',hm',hk'⟩:=Zdp ks h.mem;obtain⟨hpl,hpr⟩:=Zm5 (parts:=parts) h;have hrep1:∀y∈List.replicate len (AV.ofVal z),y.cells.length=m:=λy hy=>by rw [List.eq_of_mem_replicate hy];exact hzl
   have hzsz:z.cells.size=m:=by rw [←hzl];exact(Zfo (w:=w) (imm:=imm) z).1.symm
   obtain⟨es',vs',f1,f2,f3,f4,f5,f6,f7⟩:=Zk1 hm' _ _ _ ((Array.range (len*m)).map (z.cells[·%z.cells.size]!)) hrep1 (λy hy=>by rw [List.eq_of_mem_replicate hy];exact hzok)
    (by rw [Zbd hrep1];simp) (λj b y hb hy=>by
     have hj:j < len*m:=by
      have:=Zby hb
      rwa [Zbd hrep1,List.length_replicate] at this
     have hm0:0 < m:=by
      rcases Nat.eq_zero_or_pos m with h4 | h4
      ·rw [h4] at hj;omega
      ·exact h4
     have hdm:j=(j/m)*m+j%m:=by rw [Nat.mul_comm];exact(Nat.div_add_mod j m).symm
     have hq:j/m < len:=by rw [Nat.div_lt_iff_lt_mul hm0];exact hj
     have hfg:=Ze1 hrep1 (j/m) (j%m) (Nat.mod_lt _ hm0) (by simpa using hq);rw [←hdm,hb] at hfg;rw [List.getD_eq_getElem?_getD,List.getElem?_replicate,if_pos hq] at hfg;simp only [Option.getD_some] at hfg;have hlt:j%m < z.cells.size:=by rw [hzsz];exact Nat.mod_lt _ hm0
     have hy2:y=z.cells[j%m]:=by
      rw [Array.getElem?_map,Array.getElem?_range,if_pos hj] at hy;simp only [Option.map_some,Option.some.injEq,hzsz] at hy;rw [←hy];simp [hlt]
     rw [hy2];have h8:=(Zfo (w:=w) (imm:=i') z).2 (j%m) b _ hfg.symm (Array.getElem?_eq_getElem hlt)
     have h9:∃y,b=.v y:=by
      cases z<;>first
       | (simp only [AV.ofVal,AV.cells] at hfg
          have:j%m=0:=by
           have:=Zby hfg.symm;simp at this;omega
          rw [this] at hfg;simp at hfg;exact⟨_,hfg⟩)
       | (simp only [AV.ofVal,AV.cells,List.getElem?_map] at hfg
          rename_i cs;rcases hc:cs.toList[j%m]? with _ | y
          ·rw [hc] at hfg;cases hfg
          ·rw [hc] at hfg;simp only [Option.map_some,Option.some.injEq] at hfg;exact⟨y,hfg⟩)
     obtain⟨y',rfl⟩:=h9;rw [h8.v_inv];exact .v _)
    hpl (λj p q h1 h2=>⟨(hpr j p q h1 h2).1,hk'.rs (hpr j p q h1 h2).2⟩) hK
   have hlen:es'.length=len:=by rw [f2,List.length_replicate]
   have hrun:=Zke (w:=w) hu hsz hz hlim f1;rw [Zlf hrun];have:=Zmp (Q:=Q) (cap:=len) (vs:=vs') h hd f7 hm' hk' (by omega) ?_ (by rw [f5];simp) f3 f4 f6
   ·rwa [hlen] at this
   ·simp only [maxLen];omega
  ·exact hK.elim
 ·exact hK.elim
end
section
variable {P:Program} {c:Cx} {n tok:Nat} {st:St} {a:Act} {w:World} {imm:Imm} {K:St→Prop} {o:Oper} {Q:Exit→Act→World→Prop}
theorem Ztx {xs:Array Operand} (h:Rel c n st a w imm):(xs.toList.map st.ev).length=(xs.map a.eval).size∧∀(j:Nat) (b:AV) (y:Value),(xs.toList.map st.ev)[j]?=some b→(xs.map a.eval)[j]?=some y→Rs w imm b y:=by
 refine⟨by simp,λj b y hb hy=>?_⟩;rw [List.getElem?_map,Array.getElem?_toList] at hb;rw [Array.getElem?_map] at hy;rcases hx:xs[j]? with _ | x
 ·rw [hx] at hb;cases hb
 ·rw [hx] at hb hy;simp only [Option.map_some,Option.some.injEq] at hb hy;subst hb;subst hy;exact h.ev x
theorem s_len {t ty:TypeId} {xv:AV} {x:Value} {d:TypeDesc} (h:Rel c n st a w imm) (hd:∀d,o.dst=some d→d < n) (hu:P.underlying t=some d) (hK:aRes P tok o.dst (Zky st d xv) K st) (hx:Rs w imm xv x) :
 o.upon P a (Zcc c n K) Q (((do pure (Next.value (←Builtin.len_ #[t] ty #[x]))):Sem Next).run P w):=by
 unfold Zky at hK;split at hK
 ·obtain⟨A,cap,f,rfl,_⟩:=hx.sl_inv;exact Zah h hd hK (by simp [Builtin.len_,run_underlying hu,goInt]) (.pure (.v _))
 ·split at hK
  ·rename_i sv' e' m es pub hk;obtain⟨rfl,hK⟩:=hK;have:=hx.own_inv;subst this;obtain⟨A,cp,xs,hsrc,_,_⟩:=Zi3 h.mem hk;have hv:=hsrc.val;subst hv;exact Zah h hd hK (by simp [Builtin.len_,run_underlying hu,goInt]) (.pure (.v _))
  ·exact hK.elim
 ·rcases hx.view_inv with⟨_,_,rfl,rfl⟩ | ⟨g,nn,cc,off,cap,_,rfl,_⟩
  ·simp_all only
   exact Zah h hd hK (by simp [Builtin.len_,run_underlying hu,goInt]) (.pure (.v _))
  ·exact Zah h hd hK (by simp [Builtin.len_,run_underlying hu,goInt]) (.pure (.v _))
 ·have:=hx.v_inv;subst this;exact Zah h hd hK (by simp [Builtin.len_,run_underlying hu,goInt]) (.pure (.v _))
 ·have:=hx.v_inv;subst this;exact Zah h hd hK (by simp [Builtin.len_,run_underlying hu,goInt]) (.pure (.v _))
 ·split at hK
  ·rename_i h' es hk;obtain⟨rfl,hK⟩:=hK;have:=hx.mp_inv;subst this;obtain⟨arr,clock,hh,hB,hl,hr,hp⟩:=h.mem.ok.ent _ _ hk;exact Zah h hd hK (by simp [Builtin.len_,run_underlying hu,goInt,MapKept.run_getObj_map hh,hl]) (.pure (.v _))
  ·exact hK.elim
 ·exact Zah h hd hK (by simp [Builtin.len_,run_underlying hu,goInt]) (.pure (.v _))
 ·exact hK.elim
theorem s_cap {t ty:TypeId} {xv:AV} {x:Value} {d:TypeDesc} (h:Rel c n st a w imm) (hd:∀d,o.dst=some d→d < n) (hu:P.underlying t=some d) (hK:aRes P tok o.dst (Zqw d xv) K st) (hx:Rs w imm xv x) :
 o.upon P a (Zcc c n K) Q (((do pure (Next.value (←Builtin.cap_ #[t] ty #[x]))):Sem Next).run P w):=by
 unfold Zqw at hK;split at hK
 ·have:=hx.v_inv;subst this;exact Zah h hd hK (by simp [Builtin.cap_,run_underlying hu,goInt]) (.pure (.v _))
 ·exact hK.elim
theorem Zgj {cl:Call} {ty:TypeId} {b:Builtin} (hb:cl.callee=.builtin b):((do let d ←resolve a.eval cl ty;invoke d.target d.args):Sem Next).run P w=(builtin b cl.argTypes ty (cl.args.map fun | .const _=>true | _=>false) (cl.args.map a.eval)).run P w:=by
 simp [resolve,hb,invoke];rfl
theorem map1 (f:Operand→Value) (x:Operand):(#[x]:Array Operand).map f=#[f x]:=by simp
theorem map2 (f:Operand→Value) (x y:Operand):(#[x,y]:Array Operand).map f=#[f x,f y]:=by simp
theorem list1 {α:Type} {xs:Array α} {x:α} (h:xs.toList=[x]):xs=#[x]:=by rw [←Array.toArray_toList (xs:=xs),h]
theorem list2 {α:Type} {xs:Array α} {x y:α} (h:xs.toList=[x,y]):xs=#[x,y]:=by rw [←Array.toArray_toList (xs:=xs),h]
theorem s_call {cl:Call} {ty:TypeId} (h:Rel c n st a w imm) (hd:∀d,o.dst=some d→d < n) (hK:aRes P tok o.dst (Zcp P st cl) K st) :
 o.upon P a (Zcc c n K) Q (((do let d ←resolve a.eval cl ty;invoke d.target d.args):Sem Next).run P w):=by
 unfold Zcp at hK;split at hK
 ·rename_i hc;split at hK
  ·rename_i x t hx ht;rw [Zgj hc,list1 hx,list1 ht,map1 a.eval];split at hK
   ·rename_i d hu;exact s_len h hd hu hK (h.ev x)
   ·exact hK.elim
  ·exact hK.elim
 ·rename_i hc;split at hK
  ·rename_i x t hx ht;rw [Zgj hc,list1 hx,list1 ht,map1 a.eval];split at hK
   ·rename_i d hu;exact s_cap h hd hu hK (h.ev x)
   ·exact hK.elim
  ·exact hK.elim
 ·rename_i hc;split at hK
  ·rename_i s x t t' hx ht;rw [Zgj hc,list2 hx,list2 ht,map2 a.eval];exact s_append h hd hK (h.ev s) (h.ev x)
  ·exact hK.elim
 ·rename_i hc;split at hK
  ·rename_i s x t t' hx ht;rw [Zgj hc,list2 hx,list2 ht,map2 a.eval];exact s_copy h hd hK (h.ev s) (h.ev x)
  ·exact hK.elim
 ·rename_i hc;rw [Zgj hc];generalize hl:cl.args.toList=l at hK;have hal:cl.args=l.toArray:=by rw [←hl]
  rw [hal]
  match l,hK with
  | [x,y],hK =>
    unfold Zjo at hK;simp only [List.map_cons,List.map_nil] at hK;split at hK
    ·rename_i k i k' j heq;simp only [List.cons.injEq,and_true] at heq;obtain⟨rfl,hK⟩:=hK;have e1:=h.ev x;rw [heq.1] at e1;have e2:=h.ev y;rw [heq.2] at e2;refine Zah h hd hK ?_ (.pure (.v _));simp [e1.v_inv,e2.v_inv,Builtin.max_,Builtin.max2]
    ·rename_i heq;simp at heq
    ·exact hK.elim
  | [x,y,z],hK =>
    unfold Zjo at hK;simp only [List.map_cons,List.map_nil] at hK;split at hK
    ·rename_i heq;simp at heq
    ·rename_i k i k' j k'' j2 heq;simp only [List.cons.injEq,and_true] at heq;obtain⟨⟨rfl,rfl⟩,hK⟩:=hK;have e1:=h.ev x;rw [heq.1] at e1;have e2:=h.ev y;rw [heq.2.1] at e2;have e3:=h.ev z;rw [heq.2.2] at e3;refine Zah h hd hK ?_ (.pure (.v _));simp [e1.v_inv,e2.v_inv,e3.v_inv,Builtin.max_,Builtin.max2]
    ·exact hK.elim
  | [],hK=>exact hK.elim
  | [x],hK=>simp [Zjo,aRes] at hK
  | x :: y :: z :: u :: r,hK=>simp [Zjo,aRes] at hK
 ·rename_i hc;rw [Zgj hc];generalize hl:cl.args.toList=l at hK;have hal:cl.args=l.toArray:=by rw [←hl]
  rw [hal]
  match l,hK with
  | [x,y],hK =>
    unfold Zjo at hK;simp only [List.map_cons,List.map_nil] at hK;split at hK
    ·rename_i k i k' j heq;simp only [List.cons.injEq,and_true] at heq;obtain⟨rfl,hK⟩:=hK;have e1:=h.ev x;rw [heq.1] at e1;have e2:=h.ev y;rw [heq.2] at e2;refine Zah h hd hK ?_ (.pure (.v _));simp [e1.v_inv,e2.v_inv,Builtin.min_,Builtin.min2]
    ·rename_i heq;simp at heq
    ·exact hK.elim
  | [x,y,z],hK =>
    unfold Zjo at hK;simp only [List.map_cons,List.map_nil] at hK;split at hK
    ·rename_i heq;simp at heq
    ·rename_i k i k' j k'' j2 heq;simp only [List.cons.injEq,and_true] at heq;obtain⟨⟨rfl,rfl⟩,hK⟩:=hK;have e1:=h.ev x;rw [heq.1] at e1;have e2:=h.ev y;rw [heq.2.1] at e2;have e3:=h.ev z;rw [heq.2.2] at e3;refine Zah h hd hK ?_ (.pure (.v _));simp [e1.v_inv,e2.v_inv,e3.v_inv,Builtin.min_,Builtin.min2]
    ·exact hK.elim
  | [],hK=>exact hK.elim
  | [x],hK=>simp [Zjo,aRes] at hK
  | x :: y :: z :: u :: r,hK=>simp [Zjo,aRes] at hK
 ·rename_i f hc;split at hK
  ·rename_i g caps hf;have hfv:=h.ev f;rw [hf] at hfv;obtain⟨vs,hv,hl,hr⟩:=hfv.fn_inv;obtain⟨hal,har⟩:=Ztx (xs:=cl.args) h
   have hrun:((do let d ←resolve a.eval cl ty;invoke d.target d.args):Sem Next).run P w=.ok (.enter g (cl.args.map a.eval++vs)) w:=by
    simp only [resolve,hc,hv,Deferred.ofValue,Sem.run_bind,Sem.run_pure,Result.andThen_ok,invoke,Array.empty_append];exact hK.1 _ _
   rw [hrun];refine Zr3 h hd hK (by simp [hl]) λj b y hb hy=>?_;rcases Nat.lt_or_ge j cl.args.size with hj | hj
   ·rw [List.getElem?_append_left (by simpa using hj)] at hb;rw [Array.getElem?_append_left (by simpa using hj)] at hy;exact har j b y hb hy
   ·rw [List.getElem?_append_right (by simpa using hj)] at hb;rw [Array.getElem?_append_right (by simpa using hj)] at hy;simp only [List.length_map,Array.length_toList] at hb;simp only [Array.size_map] at hy;exact hr _ b y hb hy
  ·exact hK.elim
 ·exact hK.elim
theorem Zjy {w:World} {imm:Imm} (s:ByteArray):∀(l:List MapEntry) (es:List (ByteArray × AV)) (i:Nat),es.length=l.length →
 (∀(j:Nat) (a:ByteArray × AV) (x:MapEntry),es[j]?=some a→l[j]?=some x→x.key=.string a.1∧Rd w imm a.2 x.val) →
 (Instr.findNow .string (.string s) l i=some none∧Zpa s es=none∧∀y,Zkg s y es=es++[(s,y)]) ∨
 ∃(j:Nat) (x:MapEntry) (v:AV),Instr.findNow .string (.string s) l i=some (some (i+j,x.val))∧l[j]?=some x∧x.key=.string s∧Zpa s es=some v∧Rd w imm v x.val∧j < es.length∧∀y,Zkg s y es=es.set j (s,y)
 | [],[],i,_,_=>.inl ⟨rfl,rfl,λ_=>rfl⟩
 | [],a :: r,_,hl,_=>by simp at hl
 | x :: l,[],_,hl,_=>by simp at hl
 | x :: l,a :: es,i,hl,hr=>by
   obtain⟨hk,hv⟩:=hr 0 a x rfl rfl;have ih:=Zjy s l es (i+1) (by simpa using hl) λj b y h1 h2=>hr (j+1) b y (by simpa using h1) (by simpa using h2);by_cases h:a.1=s
   ·refine .inr ⟨0,x,a.2,?_,rfl,by rw [hk,h],by simp [Zpa,h],hv,by simp,λy=>by simp [Zkg,h]⟩;unfold Instr.findNow;rw [hk];have hb:(s == a.1)=true:=(MapKept.bytes_beq _ _).2 h.symm;simp [Instr.sameNow,hb]
   ·have hb:(s == a.1)=false:=by
     cases hh:(s == a.1) with
     | false=>rfl
     | true=>exact absurd ((MapKept.bytes_beq _ _).1 hh).symm h
    have hs:Instr.findNow .string (.string s) (x :: l) i=Instr.findNow .string (.string s) l (i+1):=by
     conv=>lhs;unfold Instr.findNow
     rw [hk];simp [Instr.sameNow,hb]
    rcases ih with⟨h1,h2,h3⟩ | ⟨j,y,v,h1,h2,h3,h4,h5,h6,h7⟩
    ·exact .inl ⟨by rw [hs,h1],by simp [Zpa,h,h2],λz=>by simp [Zkg,h,h3 z]⟩
    ·exact .inr ⟨j+1,y,v,by rw [hs,h1];congr 3;omega,by simpa using h2,h3,by simp [Zpa,h,h4],h5,by simp;omega,λz=>by simp [Zkg,h,h7 z]⟩
theorem s_lookup {t:TypeId} {m k:Operand} {ok:Bool} (h:Rel c n st a w imm) (hd:∀d,o.dst=some d→d < n) (hK:aRes P tok o.dst (Zhv P st t (st.ev m) (st.ev k) ok) K st) :
 o.upon P a (Zcc c n K) Q ((do let v ←Instr.lookup t (a.eval m) (a.eval k) ok;pure (.value v):Sem Next).run P w):=by
 unfold Zhv at hK;split at hK
 ·rename_i kt et hu;split at hK
  ·rename_i tk g s hku hm hk;split at hK
   ·rename_i g' es z hmem hz;obtain⟨rfl,hK⟩:=hK;have em:=h.ev m;rw [hm] at em;have em:=em.mp_inv;have ek:=h.ev k;rw [hk] at ek;have ek:=ek.v_inv;obtain⟨arr,clock,hh,hB,hl,hr,hp⟩:=h.mem.ok.ent tk _ hmem;have hzr:(zeroValue et).run P w=.ok z w:=Zcy hz;have hck:(Instr.checkKey arr.isEmpty 10000 kt (.string s)).run P w=.ok () w:=MapKept.run_checkKey (k:=.string s) hku (by trivial) _ 9999;have hval:∀(av:AV) (x:Value),Rs w imm av x→∀b,Rs w imm (if ok then .tup [av,.v (.bool b)] else av) (if ok then .tuple #[x,.bool b] else x):=λav x hx b=>by
     cases ok with
     | false=>exact hx
     | true =>
       refine .tup _ _ rfl λj a y h1 h2=>?_
       match j with
       | 0=>simp at h1 h2;subst h1;subst h2;exact hx
       | 1=>simp at h1 h2;subst h1;subst h2;exact .pure (.v _)
       | j+2=>simp at h1
    rcases Zjy (w:=w) (imm:=imm) s arr.toList es 0 (by simpa using hl) (λj b x h1 h2=>hr j b x h1 (by simpa using h2)) with⟨f1,f2,-⟩ | ⟨j,x,v,f1,-,-,f4,f5,-⟩
    ·rw [f2] at hK;refine Zah h hd hK ?_ (hval (AV.ofVal z) z (h.ev (.const z)) false);simp only [Instr.lookup,em,ek,Sem.run_bind,run_underlying hu,Result.andThen_ok,MapKept.run_getObj_map hh,Sem.run_pure,hck,MapKept.run_findKey hku f1,hzr]
    ·rw [f4] at hK;refine Zah h hd hK ?_ (hval v x.val (.pure f5) true);simp only [Instr.lookup,em,ek,Sem.run_bind,run_underlying hu,Result.andThen_ok,MapKept.run_getObj_map hh,Sem.run_pure,hck,MapKept.run_findKey hku f1]
   ·exact hK.elim
  ·exact hK.elim
 ·exact hK.elim
theorem Zoi {t:TypeId} {m k x:Operand} (h:Rel c n st a w imm) (hd:∀d,o.dst=some d→d < n) (hK:aRes P tok o.dst (Zhu P st t (st.ev m) (st.ev k) (st.ev x)) K st) :
 o.upon P a (Zcc c n K) Q ((do Instr.mapUpdate t (a.eval m) (a.eval k) (a.eval x);pure .skip:Sem Next).run P w):=by
 unfold Zhu at hK;split at hK
 ·rename_i kt et hu;split at hK
  ·rename_i tk g s hku hm hk;split at hK
   ·rename_i g' es hmem;obtain⟨⟨rfl,hpo⟩,hK⟩:=hK;have em:=h.ev m;rw [hm] at em;have em:=em.mp_inv;have ek:=h.ev k;rw [hk] at ek;have ek:=ek.v_inv;obtain⟨i0,hm0,hk0⟩:=Zdp (st.ev x).toks h.mem;obtain⟨arr,clock,hh,hB,hl,hr,hp⟩:=hm0.ok.ent tk _ hmem;have hlt:g < w.heap.size:=(Array.getElem?_eq_some_iff.1 hh).1;have hck:(Instr.checkKey false 10000 kt (.string s)).run P w=.ok () w:=MapKept.run_checkKey (k:=.string s) hku (by trivial) _ 9999;have hset:∀o':Obj,(setObj g o').run P w=.ok () { w with heap:=w.heap.setIfInBounds g o' }:=λo'=>MapKept.run_setObj_map o' hh;have hgrow:∀o':Obj,w.grownBy { w with heap:=w.heap.setIfInBounds g o' } (some g):=λo'=>by
     refine⟨rfl,rfl,rfl,by simp,λk hk hne=>?_⟩;simp only;rw [Array.getElem?_setIfInBounds_ne (λh9=>hne (by rw [h9]))]
    have fin:∀(arr':Array MapEntry) (clock':Nat),(Zkg s (pubV (marks st.mem (st.ev x).toks) (st.ev x)) es).length=arr'.size →
     (∀(imm':Imm),Rd w imm' (pubV (marks st.mem (st.ev x).toks) (st.ev x)) (a.eval x)→(∀(j:Nat) (b:ByteArray × AV) (y:MapEntry),es[j]?=some b→arr[j]?=some y→y.key=.string b.1∧Rd w imm' b.2 y.val) →
      ∀(j:Nat) (b:ByteArray × AV) (y:MapEntry),(Zkg s (pubV (marks st.mem (st.ev x).toks) (st.ev x)) es)[j]?=some b→arr'[j]?=some y→y.key=.string b.1∧Rd w imm' b.2 y.val) →
     (Instr.mapUpdate t (a.eval m) (a.eval k) (a.eval x)).run P w=.ok () { w with heap:=w.heap.setIfInBounds g (.map arr' clock') } →
     o.upon P a (Zcc c n K) Q ((do Instr.mapUpdate t (a.eval m) (a.eval k) (a.eval x);pure .skip:Sem Next).run P w):=λarr' clock' h1 h2 h3=>by
     simp only [Sem.run_bind,h3,Result.andThen_ok,Sem.run_pure];refine Zhi (x:=undef) h hd hK (.inr ⟨rfl,rfl⟩) λimm' hm' hk'=>?_;obtain⟨arr2,clock2,hh2,hB2,hl2,hr2,hp2⟩:=hm'.ok.ent tk _ hmem;rw [hh] at hh2;cases hh2;have hcell:∀ad,imm' ad→World.cell? { w with heap:=w.heap.setIfInBounds g (.map arr' clock') } ad=w.cell? ad:=λad h9=>Zfg (hgrow _) (hm'.ok.lt ad h9) (λh8=>hp2 ad h9 (by cases h8;rfl));have hkeep:Keeps w imm' { w with heap:=w.heap.setIfInBounds g (.map arr' clock') } imm':=λad h9=>⟨h9,hcell ad h9⟩;have hx:=Zhp hm' (hk'.rs (h.ev x)) hpo;obtain⟨q1,q2⟩:=Ze7 hm' (hgrow (.map arr' clock')) (λg' hg'=>by cases hg';exact hB2) hcell tk (.map g (Zkg s (pubV (marks st.mem (st.ev x).toks) (st.ev x)) es))
      ⟨arr',clock',by simp [hlt],hB2,h1,λj b y k1 k2=>⟨(h2 imm' hx hr2 j b y k1 k2).1,hkeep.rd (h2 imm' hx hr2 j b y k1 k2).2⟩,hp2⟩
      (λj e2 b hj hje hb=>⟨λe=>hj (hm'.ok.apart j tk e2 _ b hje hmem hb (by rw [Ent.blk,e])),λe=>hj (hm'.ok.apart j tk e2 _ b hje hmem hb (by simpa [Ent.blk] using e))⟩)
     exact⟨q1,q2,.pure (.u _)⟩
    rcases Zjy (w:=w) (imm:=i0) s arr.toList es 0 (by simpa using hl) (λj b x h1 h2=>hr j b x h1 (by simpa using h2)) with⟨f1,-,f3⟩ | ⟨j,y,v,f1,f2,fk,-,-,f6,f7⟩
    ·refine fin (arr.push { key:=.string s,val:=a.eval x,born:=clock }) (clock+1) (by rw [f3];simp [hl]) (λimm' hx hr' j b y k1 k2=>?_) ?_
     ·rw [f3] at k1;by_cases hj:j < es.length
      ·rw [List.getElem?_append_left hj] at k1;rw [Array.getElem?_push,if_neg (by omega)] at k2;exact hr' j b y k1 k2
      ·rw [List.getElem?_append_right (by omega)] at k1
       have hje:j=es.length:=by
        rcases Nat.lt_or_ge (j - es.length) 1 with h9 | h9
        ·omega
        ·rw [List.getElem?_eq_none (by simpa using h9)] at k1;cases k1
       subst hje;rw [Nat.sub_self] at k1;simp only [List.getElem?_cons_zero,Option.some.injEq] at k1;rw [Array.getElem?_push,if_pos hl] at k2;simp only [Option.some.injEq] at k2;subst k1;subst k2;exact⟨rfl,hx⟩
     ·simp only [Instr.mapUpdate,em,ek,Sem.run_bind,run_underlying hu,Result.andThen_ok,MapKept.run_getObj_map hh,hck,MapKept.run_findKey hku f1,hset]
    ·rw [Nat.zero_add] at f1;have f2':arr[j]?=some y:=by simpa using f2
     have hjs:j < arr.size:=(Array.getElem?_eq_some_iff.1 f2').1;refine fin (arr.modify j λe=>{ e with key:=.string s,val:=a.eval x }) clock (by rw [f7];simp [hl]) (λimm' hx hr' j' b z k1 k2=>?_) ?_
     ·rw [f7,List.getElem?_set] at k1;rw [Array.getElem?_modify] at k2;by_cases hj:j=j'
      ·subst hj;rw [if_pos rfl,if_pos f6] at k1;rw [if_pos rfl,f2'] at k2;simp only [Option.map_some,Option.some.injEq] at k1 k2;subst k1;subst k2;exact⟨rfl,hx⟩
      ·rw [if_neg hj] at k1;rw [if_neg hj] at k2;exact hr' j' b z k1 k2
     ·have hst:(Instr.keyThatStays (((arr[j]?).map (·.key)).getD (.string s)) (.string s)).run P w=.ok (.string s) w:=by
       rw [f2'];simp only [Option.map_some,Option.getD_some,fk];unfold Instr.keyThatStays;have:Instr.sameBits 10000 (.string s) (.string s)=true:=(MapKept.bytes_beq _ _).2 rfl;rw [if_pos this];rfl
      simp only [Instr.mapUpdate,em,ek,Sem.run_bind,run_underlying hu,Result.andThen_ok,MapKept.run_getObj_map hh,hck,MapKept.run_findKey hku f1,hst,hset]
   ·exact hK.elim
  ·rename_i len et tk g ka i kb j hku hm hk;split at hK
   ·rename_i g' hmem;obtain⟨⟨rfl,rfl,hue,rfl,hsz⟩,hK⟩:=hK;have em:=h.ev m;rw [hm] at em;have em:=em.mp_inv;have ek:=h.ev k;rw [hk] at ek;obtain⟨vs,hv,hvl,hvr⟩:=ek.agg_inv
    have hvs:vs=#[.int kb i,.int kb j]:=by
     have hz:vs.size=2:=by simpa using hvl.symm
     refine Array.ext (by simp [hz]) λq q1 q2=>?_;have hq:q < 2:=by omega
     match q,hq with
     | 0,_=>have:=hvr 0 _ vs[0] rfl (Array.getElem?_eq_getElem (by omega));simpa using this.v_inv
     | 1,_=>have:=hvr 1 _ vs[1] rfl (Array.getElem?_eq_getElem (by omega));simpa using this.v_inv
    subst hvs;obtain⟨arr,clock,hh,hB,hl,hr,hp⟩:=h.mem.ok.ent tk _ hmem
    have harr:arr=#[]:=by
     have:arr.size=0:=by simpa using hl.symm
     exact Array.eq_empty_of_size_eq_zero this
    subst harr;have hag:(isAgg et).run P w=.ok false w:=by simp [isAgg,run_underlying hue]
    have hszr:=Zba (w:=w) hsz;have hp0:(part et #[.int kb i,.int kb j] 0).run P w=.ok (.int kb i) w:=by simp [part,hag]
    have hp1:(part et #[.int kb i,.int kb j] 1).run P w=.ok (.int kb j) w:=by simp [part,hag]
    have hci:∀x:Value,(Instr.checkKey false 9999 et x).run P w=.ok () w:=λx=>by
     unfold Instr.checkKey;simp [run_underlying hue]
    have hck:(Instr.checkKey false 10000 kt (.agg #[.int kb i,.int kb j])).run P w=.ok () w:=by
     unfold Instr.checkKey;simp [run_underlying hku,hszr,hp0,hp1,hci,show List.range' 0 2=[0,1] from rfl]
    have hset:∀o':Obj,(setObj g o').run P w=.ok () { w with heap:=w.heap.setIfInBounds g o' }:=λo'=>MapKept.run_setObj_map o' hh;have hgrow:∀o':Obj,w.grownBy { w with heap:=w.heap.setIfInBounds g o' } (some g):=λo'=>by
     refine⟨rfl,rfl,rfl,by simp,λk hk hne=>?_⟩;simp only;rw [Array.getElem?_setIfInBounds_ne (λh9=>hne (by rw [h9]))]
    have hrun:(Instr.mapUpdate t (a.eval m) (a.eval k) (a.eval x)).run P w=.ok () { w with heap:=w.heap.setIfInBounds g (.map #[{ key:=.agg #[.int kb i,.int kb j],val:=a.eval x,born:=clock }] (clock+1)) }:=by
     simp only [Instr.mapUpdate,em,hv,Sem.run_bind,run_underlying hu,Result.andThen_ok,MapKept.run_getObj_map hh,hck,MapKept.run_findKey hku (show Instr.findNow _ _ (#[]:Array MapEntry).toList 0=some none from rfl),hset];rfl
    simp only [Sem.run_bind,hrun,Result.andThen_ok,Sem.run_pure];refine Zhi (x:=undef) h hd hK (.inr ⟨rfl,rfl⟩) λimm' hm' hk'=>?_;obtain⟨arr2,clock2,hh2,hB2,hl2,hr2,hp2⟩:=hm'.ok.ent tk _ hmem;have hcell:∀o',∀ad,imm' ad→World.cell? { w with heap:=w.heap.setIfInBounds g o' } ad=w.cell? ad:=λo' ad h9=>Zfg (hgrow _) (hm'.ok.lt ad h9) (λh8=>hp2 ad h9 (by cases h8;rfl));obtain⟨q1,q2⟩:=Ze7 hm' (hgrow _) (λg' hg'=>by cases hg';exact hB2) (hcell _) tk (.row (.slice none 0 0) 0 0 [] 0) ⟨[],World.ownsRow_nil _ c.B 0 0,by simp,by simp,by simp [flat],by simp,λad _ h2=>by simp [Value.ownBlock] at h2,λg off h1 _=>by simp [Value.ownBlock] at h1⟩
     (λj e2 b hj hje hb=>⟨λe=>hj (hm'.ok.apart j tk e2 _ b hje hmem hb (by rw [Ent.blk,e])),by simp [Ent.blk,Value.ownBlock]⟩)
    exact⟨q1,q2,.pure (.u _)⟩
   ·exact hK.elim
  ·exact hK.elim
 ·exact hK.elim
end
end Go.Pg
