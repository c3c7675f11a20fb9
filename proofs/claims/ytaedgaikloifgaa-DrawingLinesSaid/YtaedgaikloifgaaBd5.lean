/- Contracts of the functions that the law reaches, and the rules by which they are walked. They say what a call hands back for every input within the bounds that each names; no other condition. -/
import Derived.Test.YtaedgaikloifgaaBd4
import Derived.Shelf.SlSortCmp.PdqK
import Derived.Test.YtaedgaikloifgaaRows
set_option linter.unusedSimpArgs false
set_option linter.unusedVariables false
set_option maxRecDepth 20000
set_option maxHeartbeats 16000000
namespace Go.Pg
open Go Go.RowKit
theorem blw_grow {w w':World} (h:Blw w.heap.size w w'):∃q os,w'=Go.Sort.grow (w.drewN q) os:=by
 refine⟨w'.drawn - w.drawn,w'.heap.extract w.heap.size w'.heap.size,?_⟩;obtain⟨⟨h1,h2,h3,h4,h5⟩,h6⟩:=h;obtain⟨hp,tp,dr,os,op⟩:=w;obtain⟨hp',tp',dr',os',op'⟩:=w';simp only at h1 h2 h3 h4 h5 h6;subst h1;subst h2;subst h3;unfold Go.Sort.grow World.drewN;simp only [World.mk.injEq,and_true,true_and];refine⟨?_,zo⟩;apply Array.ext_getElem?;intro i;rw [Array.getElem?_append];by_cases hi:i < hp.size
 ·rw [Zqv hi];exact h5 i hi
 ·rw [Zqw hi,Array.getElem?_extract];by_cases hj:i < hp'.size
  ·rw [Zqv zo];congr 1;omega
  ·rw [Zqw zo,Ztq zo]
section
variable {α:Type} [Inhabited α] {enc:α→List Value} {k:Nat} {w:World} {b m:Nat} {d:Array α} {os:Array Obj}
theorem Zo0:(Go.Proofs.sortWorldK enc k w b 0 m d os).heap.size=w.heap.size+os.size:=by
 simp [Go.Proofs.sortWorldK,Go.Sort.grow,Go.Sort.putRowK,Go.Sort.putRow,Go.Sort.mapBlock,Go.Sort.ahead]
theorem Zmi {i:Nat} (hi:i < w.heap.size) (hb:i≠b):(Go.Proofs.sortWorldK enc k w b 0 m d os).heap[i]?=w.heap[i]?:=by
 simp only [Go.Proofs.sortWorldK,Go.Sort.grow,Go.Sort.putRowK,Go.Sort.putRow,Go.Sort.mapBlock,Go.Sort.ahead];rw [Array.getElem?_append,Zqv (by simpa using hi),Zu2,Zqw (Zsv hb)]
theorem sw_row {cur:Array Value} {e:TypeId} (hh:w.heap[b]?=some (.cells cur e (0,0))):(Go.Proofs.sortWorldK enc k w b 0 m d os).heap[b]?=some (.cells (Go.Sort.putCells id 0 (Go.Sort.flatK enc k d) cur) e (0,0)):=by
 have hb:b < w.heap.size:=(Array.getElem?_eq_some_iff.1 hh).1;simp only [Go.Proofs.sortWorldK,Go.Sort.grow,Go.Sort.putRowK,Go.Sort.putRow,Go.Sort.mapBlock,Go.Sort.ahead];rw [Array.getElem?_append,Zqv (by simpa using hb),Zu2,Zqv rfl,hh];rfl
theorem sw_grown (hb:b < w.heap.size):w.grownBy (Go.Proofs.sortWorldK enc k w b 0 m d os) (some b) :=
 ⟨rfl,rfl,rfl,by rw [Zo0];omega,λi hi hne=>Zmi hi λe=>hne (by rw [e])⟩
theorem sw_drawn:w.drawn≤(Go.Proofs.sortWorldK enc k w b 0 m d os).drawn:=Nat.le_add_right _ _
end
def Zb0 (xs:List Value) (k n i:Nat):List Value:=(xs.drop ((if i < n then i else 0)*k)).take k
theorem Zma {xs:List Value} {k n:Nat} (hl:xs.length=n*k) (hn:0 < n) (i:Nat):(Zb0 xs k n i).length=k:=by
 unfold Zb0;rw [Zrd,Zs1,hl];have h:(if i < n then i else 0)+1≤n:=by split<;>omega
 have:=Zrk k h;rw [Zri,Zsh] at this;omega
theorem Zfp {xs:List Value} {k n:Nat} {i j:Nat} (hj:j < k):(Zb0 xs k n i)[j]?=xs[(if i < n then i else 0)*k+j]?:=by
 unfold Zb0;rw [Zr9,Zqv hj,Zsx]
theorem Zns {P:Program} {ρ:Go.Shelf.Ren} (L:Go.Proofs.SlLaysF0.n14 P ρ) {k:Nat} (aE:∀w,(isAgg (ρ.t 24)).run P w=.ok true w) (zE:∀w,(Go.sizeOf (ρ.t 24)).run P w=.ok k w) (hk0:0 < k)
 {β:Type} (f:β→List AV) (cmp:β→β→Int) {ty:TypeId} {g:FuncId} {σ:Mem} {K:Nat} {sv:Value} (l:List β) (hf:∀x,(f x).length=k) (hK:σ K=some (.row sv ty k (l.map λx=>.agg (f x)) 0)) (hl:l.length < 4611686018427387904)
 (h1:∀x y,cmp x x=0∧(cmp x y < 0↔0 < cmp y x)) (h2:∀x y z,cmp x y≤0→cmp y z≤0→cmp x z≤0)
 (hc:∀x∈l,∀y∈l,Pure P g [.agg (f x),.agg (f y)] (.v (.int .i64 (cmp x y)))) (he:∀(vs:Array Value) (w:World),(callFunc (ρ.f 14) vs).run P w=.ok (.enter (ρ.f 14) vs) w) (lim:Nat) (hlim:lim < 4611686018427387904)
 (hnil:∀(p:Option Addr) (cap:Nat) (w:World),Calls P (ρ.f 14) #[.slice p 0 cap,.int .i64 0,.int .i64 0,.int .i64 lim,.func (.func g) #[] #[]] w λe w'=>e=.returned (.tuple #[])∧w'=w) :
 ACall P (ρ.f 14) [.own K sv,.v (.int .i64 0),.v (.int .i64 l.length),.v (.int .i64 lim),.fn g []] σ λr σ'=>∃l':List β,l'.Perm l∧l'.Pairwise (λx y=>cmp x y≤0)∧r=.tup []∧σ'=upd σ K (some (.row sv ty k (l'.map λx=>.agg (f x)) 0)):=by
 refine⟨he,λc w imm vs hm hlen hr=>?_⟩
 obtain⟨v0,v2,v3,v4,v1,rfl⟩:∃v0 v2 v3 v4 v1,vs=#[v0,v2,v3,v4,v1]:=by
  have h2:vs.size=5:=by simpa using hlen.symm
  exact⟨vs[0],vs[1],vs[2],vs[3],vs[4],by
   refine Array.ext (by simp [h2]) λi h3 h4=>?_
   match i,(by omega:i < 5) with
   | 0,_=>rfl
   | 1,_=>rfl
   | 2,_=>rfl
   | 3,_=>rfl
   | 4,_=>rfl⟩
 have r0:=hr 0 _ v0 rfl rfl;have r1:=hr 4 _ v1 rfl rfl;obtain rfl:=r0.own_inv;obtain rfl:=(hr 1 _ v2 rfl rfl).v_inv;obtain rfl:=(hr 2 _ v3 rfl rfl).v_inv;obtain rfl:=(hr 3 _ v4 rfl rfl).v_inv;obtain⟨cv,rfl,hcl,-⟩:=r1.fn_inv;obtain rfl:cv=#[]:=Array.eq_empty_of_size_eq_zero (by simpa using hcl.symm);obtain⟨xs,hown,hmm,hok,hrd,hpl,hp,hq⟩:=hm.ok.ent K _ hK;rw [Zq1] at hown;have nop:∀ad,imm ad→v0.ownBlock≠some ad.block:=λad ha h=>by have:=hp ad ha h;omega
 by_cases hn:l.length=0
 ·obtain⟨p,cap,rfl⟩:∃p cap,v0=.slice p 0 cap:=by
   rcases hown.2 with⟨h,-⟩ | ⟨b,cap,cur,h,-⟩
   ·exact⟨_,_,h⟩
   ·rw [hn] at h;exact⟨_,_,h⟩
  obtain rfl:=List.length_eq_zero_iff.1 hn;refine(hnil p cap w).mono λe w' h=>?_;obtain⟨rfl,rfl⟩:=h;have e1:upd σ K (some (.row (.slice p 0 cap) ty k (([]:List β).map λx=>.agg (f x)) 0))=σ:=funext λj=>by
   rw [Zaj];split
   ·rename_i hj;rw [hj,hK]
   ·rfl
  exact⟨.tup [],_,imm,_,rfl,⟨[],.nil,.nil,rfl,rfl⟩,.pure (.tup [] #[] rfl λj a x h1 _=>by simp at h1),by rw [e1];exact hm,Keeps.refl _ _⟩
 have hn:0 < l.length:=Zuh hn;rcases hown.2 with⟨-,h⟩ | ⟨b,cap,cur,rfl,hB,hh,hnc,hcm,hcs,htake⟩
 ·omega
 obtain⟨n,hnd⟩:∃n,n=l.length:=⟨_,rfl⟩;rw [←hnd] at hn hown hnc htake hl;have ixl:∀i,(if i < n then i else 0) < l.length:=λi=>by split<;>omega
 obtain⟨el,hel⟩:∃el:Nat→β,el=λi=>l[if i < n then i else 0]'(ixl i):=⟨_,rfl⟩;have el_mem:∀i,el i∈l:=λi=>by rw [hel];exact Zrz _
 have hk:=λi=>Zma (xs:=xs) (k:=k) hown.1 hn i;have hfl:∀i j,j < k→(flat (l.map λx=>AV.agg (f x)))[(if i < n then i else 0)*k+j]?=(f (el i))[j]?:=λi j hj=>by
  rw [Zcf hmm _ _ hj (by rw [Zq1];exact ixl i),Zq6,Zrx,Zqx (ixl i),hel];rfl
 have rdx:∀i,Rd w imm (.agg (f (el i))) (.agg (Zb0 xs k n i).toArray):=λi=>by
  refine .agg _ _ (by rw [hf,Zuq,hk]) λj a x g1 g2=>?_;have hj:j < k:=by rw [←hf (el i)];exact(List.getElem?_eq_some_iff.1 g1).1
  rw [Zsj,Zfp hj] at g2;exact hrd _ a x (by rw [hfl i j hj];exact g1) g2
 have h1':∀x,∀v∈Zb0 xs k n x,v.oneCell'=true:=λi v hv=>by
  obtain⟨j,hj,rfl⟩:=List.mem_iff_getElem.1 hv;rw [hk] at hj;have g2:(Zb0 xs k n i)[j]?=some _:=Zqx (by rw [hk];exact hj);rw [Zfp hj] at g2;have hlt:j < (f (el i)).length:=by rw [hf];exact hj
  have g1:=hfl i j hj;rw [Zqx hlt] at g1;exact(hrd _ _ _ g1 g2).one_of (Zjv hok _ (Zs3 g1))
 have hcell:∀(m:Nat) (dk:Array Nat) (os:Array Obj) (ad:Addr),imm ad→(Go.Proofs.sortWorldK (Zb0 xs k n) k w b 0 m dk os).cell? ad=w.cell? ad:=λm dk os ad ha=>World.cell?_of_block (Zmi (hm.ok.lt ad ha) λe=>nop ad ha (by rw [←e];rfl))
 have hO:Go.Sort.SWO (Go.Proofs.ltOf λi j=>cmp (el i) (el j)):=by
  refine⟨λx=>?_,λx y z g1 g2=>?_,λx y z g1 g2=>?_⟩
  ·simp [Go.Proofs.ltOf,(h1 (el x) (el x)).1]
  ·simp only [Go.Proofs.ltOf,Zrs] at g1 g2 ⊢;rcases Int.lt_trichotomy (cmp (el x) (el z)) 0 with h | h | h
   ·exact h
   ·have a1:=(h1 (el x) (el y)).2.1 g1;have a2:=h2 (el y) (el z) (el x) zo (by have:=(h1 (el z) (el x)).2;have:=(h1 (el x) (el z)).2;omega);omega
   ·have a1:=(h1 (el x) (el y)).2.1 g1;have a2:=h2 (el y) (el z) (el x) zo (by have:=(h1 (el z) (el x)).2.2 h;omega);omega
  ·simp only [Go.Proofs.ltOf,Zs4,Int.not_lt] at g1 g2 ⊢;have a1:cmp (el y) (el x)≤0:=by have:=(h1 (el x) (el y)).2;have:=(h1 (el y) (el x)).2;omega
   have a2:cmp (el z) (el y)≤0:=by have:=(h1 (el y) (el z)).2;have:=(h1 (el z) (el y)).2;omega
   have a3:=h2 (el z) (el y) (el x) a2 a1;have:=(h1 (el x) (el z)).2;have:=(h1 (el z) (el x)).2;omega
 have hcmp:Go.Proofs.CmpLays P g #[] (Zb0 xs k n) k (λi j=>cmp (el i) (el j)) b 0 (Array.range n).size w:=λm os dk hs x y=>by
  refine((hc _ (el_mem x) _ (el_mem y)).2 (Go.Proofs.sortWorldK (Zb0 xs k n) k w b 0 m dk os) imm _ (λad ha=>⟨by rw [Zo0];have:=hm.ok.lt ad ha;omega,hm.ok.spot ad ha⟩) rfl λj a z g1 g2=>?_).mono λe w' h=>?_
  ·match j with
   | 0=>simp at g1 g2;subst g1;subst g2;exact(rdx x).keep (λ_ h=>h) (hcell m dk os)
   | 1=>simp at g1 g2;subst g1;subst g2;exact(rdx y).keep (λ_ h=>h) (hcell m dk os)
   | j+2=>simp at g1
  ·obtain⟨x,i2,rfl,hx,-,-,hb⟩:=h;cases hx;exact⟨rfl,blw_grow hb⟩
 have hxl:xs.length=n*k:=hown.1;have hcl:n*k≤cur.size:=by rw [hcs];exact Zrk _ hnc
 have curx:∀j,j < n*k→cur[j]?=xs[j]?:=λj hj=>by rw [←htake,Zr9,Zqv hj,Zs6]
 have dk:∀(d:Array Nat),d.size=n→∀j,j < n*k→d[j/k]! < n→(Go.Sort.flatK (Zb0 xs k n) k d)[j]! = (xs[d[j/k]!*k+j%k]?).getD default:=λd hd j hj hlt=>by
  rw [Go.Sort.get_flatK _ _ _ _ (by rw [hd];exact hj),List.getElem!_eq_getElem?_getD,Zfp (Zrv _ hk0),Zqv hlt]
 have rng:∀i,i < n→(Array.range n)[i]! = i:=λi hi=>by rw [getElem!_pos _ i (by simpa using hi)];simp
 have dvl:∀j,j < n*k→j/k < n:=λj hj=>(Zte hk0).2 hj
 have hH:Go.Sort.HoldsK (Zb0 xs k n) k w b 0 (Array.range n):=by
  intro j hj;rw [Go.Sort.size_flatK,Array.size_range] at hj;have hj2:=dvl j hj;have e1:=dk (Array.range n) zs j hj (by rw [rng _ hj2];exact hj2);rw [rng _ hj2,Zrm (j/k) k,Zs2] at e1;refine⟨?_,by simp [World.frozen?,hh]⟩;rw [Zrg];have:w.cell? ⟨b,j,none⟩=cur[j]?:=by simp [World.cell?,hh]
  rw [this,curx j hj,e1,Zqx zo];rfl
 have hblk:b < w.heap.size:=(Array.getElem?_eq_some_iff.1 hh).1;have hcall:=Go.Proofs.AnyQ.pdqsortCmpFunc_all L k aE zE (Zb0 xs k n) (λi j=>cmp (el i) (el j)) g #[] hO b 0 cap (Array.range n) w (hc _ (el_mem 0) _ (el_mem 0)).1 hcmp ⟨hk,h1',hH,hblk⟩ (n+1) 0 n lim (Array.range n) w zo rfl (Go.Proofs.SWK.start hH) (Zre _) zs (by rw [Array.size_range];exact hl) hlim (.inl rfl);rw [Array.size_range] at hcall;rw [←hnd];refine hcall.mono λe w' h=>?_;obtain⟨rfl,n1,os,rfl⟩:=h;have hps:=Go.Sort.pdq_sorts (Go.Proofs.ltOf λi j=>cmp (el i) (el j)) hO (Array.range n) 0 n lim true true (Zre _) zs (.inl rfl)
 obtain⟨hpm,hsd⟩:=hps;generalize Go.Sort.pdq (Go.Proofs.ltOf λi j=>cmp (el i) (el j)) (Array.range n) 0 n lim true true=d' at hpm hsd;have hds:d'.size=n:=by rw [hpm.1,Array.size_range]
 have hperm:d'.toList.Perm (List.range n):=by
  have h3:=hpm.2.2;rw [show d'.extract 0 n=d' from by rw [←hds];simp,show(Array.range n).extract 0 n=Array.range n from by simp] at h3
  simpa using h3
 have hmap:(List.range n).map el=l:=by
  refine List.ext_getElem (by simp [hnd]) λi g1 g2=>?_;rw [List.getElem_map,List.getElem_range,hel];simp only [hnd];congr 1;rw [Zqv g2]
 have hdl:∀i,i < n→d'[i]! < n:=λi hi=>by
  rw [getElem!_pos _ i zo];have:d'[i]∈d'.toList:=by rw [Array.mem_toList_iff];exact Array.getElem_mem _
  exact List.mem_range.1 (hperm.mem_iff.1 this)
 obtain⟨l',hl'⟩:∃l',l'=d'.toList.map el:=⟨_,rfl⟩;have hll:l'.length=n:=by rw [hl',Zq1,Ztc,hds]
 obtain⟨cur',hcur'⟩:∃c',c'=Go.Sort.putCells id 0 (Go.Sort.flatK (Zb0 xs k n) k d') cur:=⟨_,rfl⟩;have hcs':cur'.size=cap*k:=by rw [hcur',Go.Sort.putCells,Array.size_mapIdx,hcs]
 have hmm':∀x∈l'.map (λx=>AV.agg (f x)),x.cells.length=k:=λx hx=>by
  obtain⟨y,-,rfl⟩:=List.mem_map.1 hx;exact hf y
 have hok':∀x∈l'.map (λx=>AV.agg (f x)),x.ok=true:=λx hx=>by
  obtain⟨y,hy,rfl⟩:=List.mem_map.1 hx;rw [hl'] at hy;obtain⟨i,-,rfl⟩:=List.mem_map.1 hy;exact hok _ (List.mem_map.2 ⟨_,el_mem i,rfl⟩)
 have hsw:=sw_row (enc:=Zb0 xs k n) (k:=k) (m:=n1) (d:=d') (os:=os) hh;rw [←hcur'] at hsw;obtain⟨mx,kp⟩:=Zck hm (sw_grown (enc:=Zb0 xs k n) (k:=k) (m:=n1) (d:=d') (os:=os) hblk) sw_drawn (λg' hg'=>by cases hg';exact hB) (hcell n1 d' os) K (.row (.slice (some ⟨b,0,none⟩) n cap) ty k (l'.map λx=>.agg (f x)) 0)
  ⟨cur'.toList.take (n*k),⟨by rw [Zrd,Ztc,hcs',Zq1,hll];exact Zsn (Zrk _ hnc),.inr ⟨b,cap,cur',by rw [Zq1,hll],hB,hsw,by rw [Zq1,hll];exact hnc,hcm,hcs',by rw [Zq1,hll]⟩⟩,hmm',hok',λj a x g1 g2=>by
   have hj:j < n*k:=by
    have:=(List.getElem?_eq_some_iff.1 g2).1;rw [Zrd] at this;omega
   rw [Zr9,Zqv hj,Zs6,hcur',Go.Sort.putCells,Array.getElem?_mapIdx,curx j hj,Zqx (by rw [hxl];exact hj)] at g2;simp only [Zr7,Option.some.injEq,Zre,true_and,Zrg,Ztk,Go.Sort.size_flatK,hds,hj,Zry,id] at g2;have hj2:=dvl j hj;rw [dk d' hds j hj (hdl _ hj2)] at g2;have hjm:=Zrv j hk0
   have hdt:d'.toList[j/k]?=some d'[j/k]!:=by
    have hjd:j/k < d'.size:=by rw [hds];exact hj2
    rw [Zs6,Zrq hjd,getElem!_pos d' (j/k) hjd]
   have hfg:=Zcf hmm' (j/k) (j%k) hjm (by rw [Zq1,hll];exact hj2);rw [Zrm (j/k) k,Zs2,g1,Zq6,Zrx,hl',Zrx,hdt] at hfg;have g3:=hfl (d'[j/k]!) (j%k) hjm;rw [Zqv (hdl _ hj2)] at g3;have g4:(f (el d'[j/k]!))[j%k]?=some a:=hfg.symm
   have hxj:d'[j/k]!*k+j%k < xs.length:=by
    rw [hxl];have:=Zrk k (show d'[j/k]!+1≤n from hdl _ hj2);rw [Zri,Zsh] at this;omega
   rw [Zqx hxj] at g2;refine(hrd (d'[j/k]!*k+j%k) a x (by rw [g3];exact g4) (by rw [Zqx hxj,←g2];rfl)).keep (λ_ h=>h) (hcell n1 d' os),Zre _,λad ha h=>absurd h (nop ad ha),λg off _ h=>absurd h zo⟩
  (λj e2 bb hj hje hb=>⟨λe=>hj (hm.ok.apart j K e2 _ bb hje hK hb (by rw [e];rfl)),λe=>hj (hm.ok.apart j K e2 _ bb hje hK hb e)⟩)
 refine⟨.tup [],_,imm,_,rfl,⟨l',?_,?_,rfl,rfl⟩,.pure (.tup [] #[] rfl λj a x h1 _=>by simp at h1),mx,kp⟩
 ·rw [hl'];have:=hperm.map el
  rwa [hmap] at this
 ·rw [hl',List.pairwise_map];refine List.pairwise_iff_getElem.2 λi j g1 g2 hij=>?_;have:=hsd i j (Zre _) hij (by simpa [hds] using g2);rw [Ztc] at g1 g2;rw [getElem!_pos d' i g1,getElem!_pos d' j g2] at this;simp only [Go.Proofs.ltOf,Zs4,Int.not_lt] at this;simp only [Array.getElem_toList];have h3:=(h1 (el d'[i]) (el d'[j])).2;have h4:=(h1 (el d'[j]) (el d'[i])).2;omega
section
variable {P:Program} {n:Nat} {Q:AE→List Deferred→St→Prop} {ds:List Deferred} {st:St}
theorem Zi3 {x y:Code} (hf:Zan n x=true) (h:Zam P 0 n x (AE.then (λst'=>XW P n y Q [] st') (λae st'=>Q ae [] st')) st):XW P n (.seq x y) Q [] st :=
 xw_seq (xw_pre hf (Zoq x st (λae st' h=>by cases ae<;>exact h) h))
theorem xw_frz {code:Code} {st':St} (hF:Frz n st st') (h:XW P n code Q ds st'):XW P n code Q ds st:=λc a w imm ha hr=>by
 obtain⟨imm',hr'⟩:=hF c _ w imm hr;exact h c a w imm' ha hr'
theorem xw_loop {g p:Nat} {aS bd:Code} {f:FuncId} {caps:List AV} (kD kL:Nat) (hkk:kD≠kL) (hg:st.env g=.fn f caps) (hp:p < n) (ha:(Zan n aS && Zgb aS)=true) (hb:(Zan n bd && Zgb bd)=true)
 (h:∀(D l:Nat) (RR RB:Obj),(∀(σ:Mem) (x:AV) (R:AV→Mem→Prop),σ (kL+1000)=some (.obj l RR) →
  Zam P 0 n aS (λae s1=>ae=.normal∧s1.mem (kL+1000+1000)=some (.obj l RR) ∧
   Zam P 0 n bd (λae s2=>ae=.normal∧s2.mem (kL+1000+1000)=some (.obj l RB)∧Zqu R (.v (.bool true)) (upd s2.mem (kL+1000+1000) (some (.obj l RR))))
    ⟨s1.env,upd s1.mem (kL+1000+1000) (some (.obj l RB))⟩) ⟨upd (λt=>(st.env t).bare.sh) p x.sh,Pg.lents σ⟩→YCall P l [x] σ R) →
  ACall P f (.v (.func (.yield l) #[] #[]) :: caps) (upd (upd st.mem kD (some (.obj D (.deferred (some []))))) kL (some (.obj l RR))) λr σ' =>
   σ' kL=some (.obj l RR)∧Q .normal (mkD D :: ds) ⟨st.env,upd σ' kL none⟩):XW P n (.rangeFunc (.tmp g) #[p] aS bd) Q ds st :=
 xw_range kD kL hkk hg λD l rt fn hbare hsz=>h D l (.loop (recR fn rt p aS bd D)) (.loop (recB fn rt p aS bd D)) λσ x R hσ hc =>
  Zlb hσ (λt w imm=>(AV.sub_sh _).1 w imm _ (hbare t w imm)) hsz hp ha hb hc
end
end Go.Pg
namespace Go.Proofs.Ytaedgaikloifgaa
open Go Go.RowKit Go.Pg Go.Proofs.Try
attribute [-bool_to_prop] Bool.and_eq_decide Bool.or_eq_decide Bool.decide_beq_decide decide_eq_decide
theorem sz3:szOf prog 3=some 1:=by kernel_rfl
theorem by3:Zie prog 3=some 8:=by kernel_rfl
theorem z3:Zbd prog 3=some (.int .i64 0):=by kernel_rfl
theorem szL:szOf prog 70=some 1:=by kernel_rfl
theorem byL:Zie prog 70=some 2:=by kernel_rfl
theorem zL:Zbd prog 70=some (.int .u16 0):=by kernel_rfl
theorem szQ:szOf prog 89=some 1:=by kernel_rfl
theorem zQ:Zbd prog 89=some (.int .u64 0):=by kernel_rfl
attribute [go_sem] underlying34 underlying3 underlying70 underlying87 underlying89 underlying21 sz3 by3 z3 szL byL zL
theorem Za7 (l:List Nat) (hs:l.length≤10000000000000) (hl:Lm l):Pure prog 81 [lim l] (lim (toL (nv l))):=by
 refine Zab (tok:=0) (rs:=[.tmp 2]) func81 rfl ntmps81 results81 call81 zr zs ?_
 (refine wkvp w_t w_t (w_s ?_);intros)
 refine Zai (ι:=Nat) (λk e m=>k≤l.length∧e 0=lim l∧e 3=.v (.int .i64 (k:Int))∧∀j,k≤j→gN l j=0) (λk=>k) l.length zr ?_ ?_
 ·rintro k e m ⟨hk,e0,e3,hz⟩
  have gl:=Zbm hl (k - 1);by_cases h0:k=0
  ·subst h0
   (refine wkvp (w_2 e0 e3) w_t (w_s ?_);intros)
   have:=Zhl hl hk hz (.inl rfl);simp (disch:=omega) only [go_sem];rw [←this];rfl
  ·by_cases h1:gN l (k - 1)=0
   ·(refine wkvp (w_2 e0 e3) w_t (w_s ?_);intros)
    exact⟨k - 1,⟨zo,gW e0,by simp (disch:=omega) only [go_sem,e3];congr 2;omega,λj hj=>by
     rcases Zrc j k with h2 | h2
     ·rw [show j=k - 1 by omega];exact h1
     ·exact hz j h2⟩,zo⟩
   ·(refine wkvp (w_2 e0 e3) w_t (w_s ?_);intros)
    have:=Zhl hl hk hz (.inr zo);simp (disch:=omega) only [go_sem,this]
 ·exact⟨Zq0 _,gC,gC,λj hj=>Zem hj⟩
theorem slN {l:List Nat} (h:l=[]):lim l=.sl 1 []:=by subst h;rfl
theorem Zl1 (l:List Nat) (hs:l.length≤10000000000000) (hl:Lm l):Pure prog 70 [lim l] (lim (toL (nv l))):=by
 have h1:=Zaq hl;by_cases h0:toL (nv l)=[]
 ·rw [slN h0];refine Pure.wk (r:=.v (.slice none 0 0)) ?_ (.nil 1);have h2:(toL (nv l)).length=0:=by rw [h0];rfl
  refine Zab (tok:=0) (rs:=[.tmp 2]) func70 rfl ntmps70 results70 call70 zr zs ?_
  (refine wkvp (w_1 h2) (w_1 (Za7 l hs hl)) (w_s ?_);intros)
  simp (disch:=omega) only [go_sem]
 ·have h2:0 < (toL (nv l)).length:=List.length_pos_iff.2 h0;refine Zab (tok:=0) (rs:=[.tmp 2]) func70 rfl ntmps70 results70 call70 zr zs ?_
  (refine wkvp w_t (w_1 (Za7 l hs hl)) (w_s ?_);intros)
  simp (disch:=omega) only [go_sem,Ztl,List.drop_replicate,Nat.sub_self,Zq0]
theorem natOf (n:Nat) (hn:n < 18446744073709551616):Pure prog 72 [.v (.int .u64 (n:Int))] (lim (toL n)):=by
 by_cases h0:n=0
 ·subst h0;rw [slN Zay];refine Pure.wk (r:=.v (.slice none 0 0)) ?_ (.nil 1);refine Zab (tok:=0) (rs:=[.tmp 2]) func72 rfl ntmps72 results72 call72 zr zs ?_
  (refine wkvp w_t w_t (w_s ?_);intros)
  refine Zai (ι:=Nat) (λk e m=>e 0=.v (.int .u64 0)∧e 3=.v (.slice none 0 0)) (λk=>k) 0 zr ?_ ?_
  ·rintro k e m ⟨e0,e3⟩
   (refine wkvp (w_2 e0 e3) w_t (w_s ?_);intros)
   simp (disch:=omega) only [go_sem]
  ·exact⟨by simp (disch:=omega) only [go_sem];rfl,gC⟩
 ·refine Zab (tok:=0) (rs:=[.tmp 2]) func72 rfl ntmps72 results72 call72 zr zs ?_
  (refine wkvp w_t w_t (w_s ?_);intros)
  refine Zai (ι:=Nat) (λk e m=>k≤n∧e 0=.v (.int .u64 (k:Int))∧((k=n∧e 3=.v (.slice none 0 0))∨(k < n∧∃sv l,e 3=.own 12 sv∧m 12=some (.row sv 70 1 (u16s l) 0)∧l++toL k=toL n))) (λk=>k) n zr ?_ ?_
  ·rintro k e m ⟨hk,e0,hor⟩
   by_cases hk0:k=0
   ·subst hk0;rcases hor with⟨h1,_⟩ | ⟨_,sv,l,e3,em,hl⟩
    ·omega
    ·(refine wkvp (w_2 e0 e3) w_t (w_s ?_);intros)
     simp (disch:=omega) only [go_sem,em];rw [Zay,Zso] at hl;rw [hl]
   ·rcases hor with⟨rfl,e3⟩ | ⟨_,sv,l,e3,em,hl⟩
    ·(refine wkvp (w_3 e0 e3 @Zbj) w_t (w_s ?_);intros)
     refine⟨k/65536,⟨zo,gW e0,.inr ⟨zo,_,[k%65536],gC,gC,?_⟩⟩,zo⟩;rw [Zd3 hk0];rfl
    ·have b1:=(Zal (n:=n) (k:=4)).2 hn;have b2:l.length≤(toL n).length:=by rw [←hl];simp
     (refine wkvp (w_4 e0 e3 em @Zbj) w_t (w_s ?_);intros)
     refine⟨k/65536,⟨zo,gW e0,.inr ⟨zo,_,l++[k%65536],gC,gC,?_⟩⟩,zo⟩;rw [←hl,Zd3 hk0];simp
  ·exact⟨Zq0 _,gC,.inl ⟨rfl,gC⟩⟩
def cmpN (a b:Nat):Int:=if a < b then -1 else if b < a then 1 else 0
theorem natCmp (a b:List Nat) (ha:a.length≤10000000000000) (hb:b.length≤10000000000000) (la:Lm a) (lb:Lm b):Pure prog 82 [lim a,lim b] (.v (.int .i64 (cmpN (nv a) (nv b)))):=by
 have h1:=Zaq la;have h2:=Zaq lb;have va:=Za0 (nv a);have vb:=Za0 (nv b);have ma:=Zba (nv a);have mb:=Zba (nv b);refine Zab (tok:=0) (rs:=[.tmp 4]) func82 rfl ntmps82 results82 call82 zr zs ?_;by_cases hlt:(toL (nv a)).length < (toL (nv b)).length
 ·have:nv a < nv b:=by
   rcases Zrc (nv a) (nv b) with h | h
   ·exact h
   ·have:=Za9 h;omega
  (refine wkvp w_t (w_2 (Za7 a ha la) (Za7 b hb lb)) (w_s ?_);intros)
  simp (disch:=omega) only [go_sem,cmpN,Zqv this]
 ·by_cases hgt:(toL (nv b)).length < (toL (nv a)).length
  ·have:nv b < nv a:=by
    rcases Zrc (nv b) (nv a) with h | h
    ·exact h
    ·have:=Za9 h;omega
   have this2:¬nv a < nv b:=zo
   (refine wkvp w_t (w_2 (Za7 a ha la) (Za7 b hb lb)) (w_s ?_);intros)
   simp (disch:=omega) only [go_sem,cmpN,Zqv this,Zqw this2]
  ·(refine wkvp w_t (w_2 (Za7 a ha la) (Za7 b hb lb)) (w_s ?_);intros)
   refine Zai (ι:=Nat) (λk e m=>k≤(toL (nv a)).length∧e 0=lim (toL (nv a))∧e 1=lim (toL (nv b))∧e 5=.v (.int .i64 ((k:Int) - 1))∧nv ((toL (nv a)).drop k)=nv ((toL (nv b)).drop k)) (λk=>k) (toL (nv a)).length zr ?_ ?_
   ·rintro k e m ⟨hk,e0,e1,e5,hz⟩
    by_cases h0:k=0
    ·subst h0;rw [Zsr,Zsr,va,vb] at hz
     (refine wkvp (w_3 e0 e1 e5) w_t (w_s ?_);intros)
     simp (disch:=omega) only [go_sem,cmpN,hz,Nat.lt_irrefl,Zrl]
    ·have hk1:k - 1+1=k:=zo;have ga:=Zbm ma (k - 1);have gb:=Zbm mb (k - 1);by_cases p1:gN (toL (nv a)) (k - 1) < gN (toL (nv b)) (k - 1)
     ·have:=Zm0 (k:=k - 1) ma mb (by rw [hk1];exact hz) p1;rw [va,vb] at this
      (refine wkad (w_3 e0 e1 e5) w_t w_t (w_s ?_);intros)
      simp (disch:=omega) only [go_sem,cmpN,Zqv this]
     ·by_cases p2:gN (toL (nv b)) (k - 1) < gN (toL (nv a)) (k - 1)
      ·have:=Zm0 (k:=k - 1) mb ma (by rw [hk1];exact hz.symm) p2;rw [va,vb] at this;have this2:¬nv a < nv b:=zo
       (refine wkad (w_3 e0 e1 e5) w_t w_t (w_s ?_);intros)
       simp (disch:=omega) only [go_sem,cmpN,Zqv this,Zqw this2]
      ·(refine wkad (w_3 e0 e1 e5) w_t w_t (w_s ?_);intros)
       refine⟨k - 1,⟨zo,gW e0,gW e1,by simp (disch:=omega) only [go_sem,e5];congr 2;omega,?_⟩,zo⟩;rw [Zbe,Zbe (toL (nv b)),hk1,hz];omega
   ·refine⟨Zq0 _,gC,gC,gC,?_⟩;rw [Zr4 (Zq0 _),Zr4 zo]
theorem okTup {a:AV} {n:Int} (h:a=.v (.slice none 0 0)):Wk (.tup [a,.v (.int .i64 n)]) (.tup [lim [],.v (.int .i64 n)]):=by
 subst h;exact Wk.pair (.nil 1)
section
attribute [local go_sem] underlying34 underlying3 underlying70 underlying87 underlying89 underlying21 sz3 by3 z3 szL byL zL
end
attribute [go_sem] underlying9 underlying5 underlying67
theorem Zqn (x:Nat) (hx:x < 65536):Pure prog 92 [.v (.int .u16 (x:Int))] (.v (.int .i64 (Zdu x:Nat))):=by
 refine Zab (tok:=0) (rs:=[.tmp 2]) func92 rfl ntmps92 results92 call92 zr zs ?_;by_cases h:256≤x
 ·have b:=Zga (i:=x/256) zo;have e:Zdu x=8+len8 (x/256):=Zqv h
  (repeat' (first|(apply o_tab (g:=len8) (n:=256) zk zk zo)|(with_reducible first|refine stp ?_|apply gx1|apply gx2|apply gx3|apply gx4|apply gx5|apply gx6|apply gx7)|(with_reducible refine Zb1 ?_;intro _)|((with_reducible refine gE ?_);(try simp (disch:=omega) only [go_sem])<;>first|rfl|omega)|with_reducible refine Zag zd ?_))
  simp (disch:=omega) only [go_sem,e,Int.natCast_add,Int.cast_ofNat_Int]
 ·have b:=Zga (i:=x) zo;have e:Zdu x=len8 x:=Zqw h
  (repeat' (first|(apply o_tab (g:=len8) (n:=256) zk zk zo)|(with_reducible first|refine stp ?_|apply gx1|apply gx2|apply gx3|apply gx4|apply gx5|apply gx6|apply gx7)|(with_reducible refine Zb1 ?_;intro _)|((with_reducible refine gE ?_);(try simp (disch:=omega) only [go_sem])<;>first|rfl|omega)|with_reducible refine Zag zd ?_))
  simp (disch:=omega) only [go_sem,e,Zq2]
theorem bitsLz16 (x:Nat) (hx:x < 65536):Pure prog 84 [.v (.int .u16 (x:Int))] (.v (.int .i64 ((16 - Zdu x:Nat):Int))):=by
 refine Zab (tok:=0) (rs:=[.tmp 2]) func84 rfl ntmps84 results84 call84 zr zs ?_;have b:=Zjp hx;have w:(16:Int) - (Zdu x:Int)=((16 - Zdu x:Nat):Int):=zo
 (refine wkvp (w_1 w) (w_1 (Zqn x hx)) (w_s ?_);intros)
 simp (disch:=omega) only [go_sem]
def bitsN (n:Nat):Nat:=if n=0 then 0 else 16*((toL n).length - 1)+Zdu (gN (toL n) ((toL n).length - 1))
theorem Zpx (a:List Nat) (d:Nat) (ha:a.length≤10000000000000) (la:Lm a) (hd0:0 < d) (hd:d < 65536):Pure prog 83 [lim a,.v (.int .u16 (d:Int))] (.tup [lim (toL (nv a/d)),.v (.int .u16 ((nv a%d:Nat):Int))]):=by
 refine Zab (tok:=0) (rs:=[.tmp 4,.tmp 5]) func83 rfl ntmps83 results83 call83 zr zs ?_
 (refine wkvp w_t w_t (w_s ?_);intros)
 refine Zai (ι:=Nat) (λk e m=>k≤a.length∧(e 0=lim a∧e 1=.v (.int .u16 (d:Int))∧e 8=.v (.int .i64 ((k:Int) - 1)))∧∃sv q r,(e 6=.own 11 sv∧e 7=.v (.int .u32 (r:Nat))∧m 11=some (.row sv 70 1 (u16s q) 0))∧q.length=a.length∧Lm q∧r < d∧(∀j,j < k→gN q j=0)∧nv (a.drop k)=d*nv (q.drop k)+r) (λk=>k) a.length zr ?_ ?_
 ·rintro k e m ⟨hk,⟨e0,e1,e8⟩,sv,q,r,⟨e6,e7,em⟩,hql,hLq,hr,hz,hv⟩
  by_cases h0:k=0
  ·subst h0;rw [Zsr,Zsr] at hv;have h2:nv a/d=nv q:=by rw [hv,Nat.mul_add_div hd0,Zuv hr,Zr2]
   have h3:nv a%d=r:=by rw [hv,Nat.mul_add_mod,Zsu hr]
   (refine wkax (w_7 e0 e1 e8 e6 e7 em hql) w_t w_t (w_1 (Za7 q zo hLq)) w_t w_t w_y (w_r 0) (w_s ?_);intros)
   simp (disch:=omega) only [go_sem,h2,h3]
  ·have ga:=Zbm la (k - 1);have hd1:=div_step (x:=gN a (k - 1)) rfl hv
   have w1:(r*65536+gN a (k - 1))/d < 65536:=by
    rw [Zte hd0];have:(r+1)*65536≤d*65536:=Zrk _ hr;rw [Zrm 65536 d];omega
   have w2:(r*65536+gN a (k - 1))%d < d:=Zrv _ hd0;have hk1:k - 1+1=k:=zo;have hrr:r < 65536:=zo;have w3:((r*65536+gN a (k - 1))/d)%65536=(r*65536+gN a (k - 1))/d:=Zsu w1
   (refine wkvp (w_11 e0 e1 e8 e6 e7 em hql @Zdp @Zdn @Zbj w3) w_t (w_s ?_);intros)
   refine⟨k - 1,⟨zo,⟨gW e0,gW e1,by(simp (disch:=omega) only [go_sem,e8];congr 2;omega)⟩,sv,_,_,⟨gW e6,gC,gC⟩,by simpa using hql,hLq.set _ w1,w2,λj hj=>?_,?_⟩,zo⟩
   ·rw [Zel zo,Zqw zo];exact hz j zo
   ·rw [Zbe,hk1,hd1,Zbe (q.set _ _),hk1,Zel zo,Zqv rfl,List.drop_set_of_lt zo]
 ·exact⟨Zq0 _,gC,_,List.replicate a.length 0,0,⟨gC,gC,gC⟩,by simp,Lm.zeros _,hd0,λj hj=>Zf1 _ _,by rw [Zr4 (Zq0 _),Zr4 zs];simp [nv]⟩
theorem natUint (l:List Nat) (hs:l.length≤10000000000000) (hl:Lm l):Pure prog 71 [lim l] (.tup [.v (.int .u64 (if nv l < 18446744073709551616 then (nv l:Int) else 0)),.v (.bool (decide (nv l < 18446744073709551616)))]):=by
 have h1:=Zaq hl;have hk:=Zal (n:=nv l) (k:=4);have va:=Za0 (nv l);have ma:=Zba (nv l);refine Zab (tok:=0) (rs:=[.tmp 2,.tmp 3]) func71 rfl ntmps71 results71 call71 zr zs ?_;by_cases hb:nv l < 18446744073709551616
 ·have h4:=hk.2 hb;generalize hA:toL (nv l)=A at *
  (refine wkvp (w_1 hA) (w_1 (Za7 l hs hl)) (w_s ?_);intros)
  rw [hA];refine Zai (ι:=Nat) (λk e m=>k≤A.length∧(e 12=lim A∧e 13=.v (.int .i64 A.length)∧e 14=.v (.int .i64 k)∧e 4=.v (.int .u64 (nv (A.take k):Nat)))) (λk=>A.length - k) 0 zr ?_ ?_
  ·rintro k e m ⟨hk,⟨e12,e13,e14,e4⟩⟩
   have ga:=Zbm ma k;by_cases hlt:k < A.length
   ·have b1:nv (A.take k) < 65536 ^ k:=Zss (Zfk (ma.take k)) (Zsy zo (by rw [Zrd];omega));rw [Zkk] at b1;have w:=orS_64 (n:=nv (A.take k)) (x:=gN A k) (s:=16*k) b1 zo ga;rw [←Zkk,←Zaw,Zkk] at w
    have w2:shlI .u64 (gN A k:Int) ((16:Int)*(k:Int))=((gN A k*2 ^ (16*k):Nat):Int):=by
     have e:(16:Int)*(k:Int)=((16*k:Nat):Int):=zo;rw [e];refine shl_64 zo ?_;have:(2:Nat) ^ (16*k)≤2 ^ 48:=Zsy zo zo;have h5:gN A k*2 ^ (16*k)≤65535*2 ^ 48:=Zun zo this;omega
    (refine wkvp (w_6 e12 e13 e14 e4 w2 w) w_t (w_s ?_);intros)
    exact⟨k+1,⟨zo,gV (And.intro e12 (And.intro e13 (And.intro e14 e4)))⟩,zo⟩
   ·rw [Zb3 zo,va] at e4
    (refine wkvp (w_4 e12 e13 e14 e4) w_t (w_s ?_);intros)
    simp (disch:=omega) only [go_sem,Zqv hb,Zqz hb]
  ·exact⟨Zre _,gC⟩
 ·have h4:4 < (toL (nv l)).length:=by
   rcases Zrc 4 (toL (nv l)).length with h | h
   ·exact h
   ·exact absurd (hk.1 h) hb
  (refine wkvp w_t (w_1 (Za7 l hs hl)) (w_s ?_);intros)
  simp (disch:=omega) only [go_sem,Zqw hb,Zqy hb]
abbrev iv (n:Int):AV:=.v (.int .i64 n)
abbrev strA (s:ByteArray):AV:=.v (.string s)
abbrev ivs (l:List Int):AV:=.sl 1 (l.map iv)
abbrev Vt:=Int × Int × Int
abbrev Vt.av (v:Vt):AV:=.agg [iv v.1,iv v.2.1,iv v.2.2]
theorem getD_mem {α:Type} {l:List α} {j:Nat} {d:α} (h:j < l.length):l.getD j d∈l:=by
 rw [Zq6,Zqx h];exact Zrz h
theorem Zah {α:Type} (f:α→AV) {l:List α} {k:Nat} (h:k < l.length):(l.map f).getD k .u=f l[k]:=by
 rw [Zq6,Zrx,Zqx h];rfl
theorem Zh9:szOf prog 28=some 1:=by kernel_rfl
theorem zErr:Zbd prog 28=some (.int .i64 0):=by kernel_rfl
theorem Zgt:szOf prog 9=some 1:=by kernel_rfl
theorem Zgu:Zie prog 9=some 16:=by kernel_rfl
theorem zStr:Zbd prog 9=some (.string ByteArray.empty):=by kernel_rfl
theorem Zh8:szOf prog 25=some 2:=by kernel_rfl
theorem zFig:Zbd prog 25=some (.agg #[.slice none 0 0,.slice none 0 0]):=by kernel_rfl
theorem Zfa:szOf prog 40=some 6:=by kernel_rfl
theorem Zfe:Zie prog 40=some 104:=by kernel_rfl
theorem Zh3:Zbd prog 40=some (.agg #[.int .i64 0,.string ByteArray.empty,.slice none 0 0,.bool false,.slice none 0 0,.slice none 0 0]):=by kernel_rfl
theorem Zfb:szOf prog 42=some 5:=by kernel_rfl
theorem Zff:Zie prog 42=some 88:=by kernel_rfl
theorem Zh4:Zbd prog 42=some (.agg #[.int .i64 0,.slice none 0 0,.bool false,.slice none 0 0,.slice none 0 0]):=by kernel_rfl
theorem Zh6:szOf prog 32=some 1:=by kernel_rfl
theorem zSlI:Zbd prog 32=some (.slice none 0 0):=by kernel_rfl
theorem Zh5:szOf prog 22=some 1:=by kernel_rfl
theorem zSlS:Zbd prog 22=some (.slice none 0 0):=by kernel_rfl
theorem Zh7:szOf prog 23=some 1:=by kernel_rfl
theorem zSlF:Zbd prog 23=some (.slice none 0 0):=by kernel_rfl
theorem Zqm (x:Nat) (hx:x < 256):Pure prog 61 [.v (.int .u64 (x:Int))] (iv (len8 x:Nat)):=by
 refine Zab (tok:=0) (rs:=[.tmp 2]) func61 rfl ntmps61 results61 call61 zr zs ?_;have b:=Zga (i:=x) zo
 (repeat' (first|(apply o_tab (g:=len8) (n:=256) zk zk zo)|(with_reducible first|refine stp ?_|apply gx1|apply gx2|apply gx3|apply gx4|apply gx5|apply gx6|apply gx7)|(with_reducible refine Zb1 ?_;intro _)|((with_reducible refine gE ?_);(try simp (disch:=omega) only [go_sem])<;>first|rfl|omega)|with_reducible refine Zag zd ?_))
 simp (disch:=omega) only [go_sem,Zq2]
theorem bitsLen (x:Nat) (hx:x < 256):Pure prog 37 [.v (.int .u64 (x:Int))] (iv (len8 x:Nat)):=by
 have c:=Zqm x hx;generalize ((len8 x:Nat):Int)=r at *;refine pI func37 rfl ntmps37 results37 call37 ?_
 (refine wkap w_t (w_1 c) (w_r 0) (w_s ?_);intros)
 all_goals exact gL
def expOk (x:Int):Bool:=!decide (x < 0) && !decide (1048576 < x)
def rightB (l:List Int):Bool:=decide (l.length≤64) && !(l.getLast?.getD 1 == 0) && l.all expOk
def Sm (l:List Int):Prop:=l.length≤1000∧∀j,0≤gI l j∧gI l j≤16777216
def sumT (l:List Int):Nat→Int
 | 0=>0
 | k+1=>sumT l k+gI l k
def expI (l:List Int) (v:Int):Int:=if v < 0 then 0 else gI l v.toNat
theorem toNat_lt {l:List Int} {v:Int} (h0:0≤v) (h:v < l.length):v.toNat < l.length:=zo
def sgn (n:Int):Int:=if n < 0 then -1 else if 0 < n then 1 else 0
attribute [go_sem] underlying32
def trimN (l:List Int):Nat→Nat
 | 0=>0
 | n+1=>if gI l n=0 then trimN l n else n+1
def trimI (l:List Int):List Int:=l.take (trimN l l.length)
def zipI (F:Int→Int→Int) (a b:List Int):List Int:=(List.range (max a.length b.length)).map λi=>F (gI a i) (gI b i)
def upto (n k:Nat) (F:Nat→Int):List AV:=(List.range n).map λi=>AV.v (.int .i64 (if i < k then F i else 0))
def Wd (l:List Int):Prop:=l.length≤1000∧∀j,-4503599627370496≤gI l j∧gI l j≤4503599627370496
def divI (a b:List Int):Bool:=(List.range a.length).all λi=>decide (gI a i≤gI b i)
def copI (a b:List Int):Bool:=(List.range a.length).all λi=>decide (gI a i=0∨gI b i=0)
def outL (F:Nat→Int) (k:Nat):List AV:=(List.range k).map λi=>AV.v (.int .i64 (F i))
def quoI (a b:List Int):List Int:=if divI b a=true then trimI (zipI (· - ·) a b) else []
def quoR (a b:List Int):List Int:=if divI b a=true then trimI ((List.range a.length).map λi=>gI a i - gI b i) else []
attribute [go_sem] underlying4
def normI (l:List Int):List Int:=if rightB (trimI l)=true then trimI l else []
def lt1 (x y:Int):Int:=if x < y then -1 else 1
def lexC (a b:List Int):Nat→Int
 | 0=>0
 | n+1=>if gI a n=gI b n then lexC a b n else lt1 (gI a n) (gI b n)
def cmpI (a b:List Int) (o:Int):Int :=
 if o=1∧sumT a a.length≠sumT b b.length then lt1 (sumT a a.length) (sumT b b.length) else lexC a b (max a.length b.length)
def low (x:Int):Bool:=!decide (262144 < x)
def rightL (ls:List (List Int)):Bool:=ls.all λl=>rightB l && l.all low
def gLs (ls:List (List Int)) (k:Nat):List Int:=ls.getD k []
theorem natRight (a:List Nat) (n:Nat) (ha:a.length≤10000000000000) (la:Lm a) (hn:n≤1048576):Pure prog 93 [lim a,.v (.int .i64 (n:Int))] (lim (toL (nv a/2 ^ n))):=by
 have hns:n=16*(n/16)+n%16:=zo;have q1:(n:Int).tdiv 16=((n/16:Nat):Int):=Zdp n 16;have q2:(n:Int).tmod 16=((n%16:Nat):Int):=Zdn n 16;have hs:n%16 < 16:=Zrv _ zo;rw [hns,Zn7,Zpv la,←hns];generalize n/16=l at *;generalize n%16=s at *;by_cases hl:a.length≤l
 ·have hz:toL (nv (a.drop l)/2 ^ s)=[]:=by rw [Zr4 hl];simp [nv,Zay]
  rw [slN hz];refine Pure.wk (r:=.v (.slice none 0 0)) ?_ (.nil 1);refine Zab (tok:=0) (rs:=[.tmp 4]) func93 rfl ntmps93 results93 call93 zr zs ?_
  (refine wkvp (w_2 q1 q2) w_t (w_s ?_);intros)
  simp (disch:=omega) only [go_sem]
 ·have hc:(a.length:Int) - (l:Int)=((a.length - l:Nat):Int):=zo;refine Zab (tok:=0) (rs:=[.tmp 4]) func93 rfl ntmps93 results93 call93 zr zs ?_
  (refine wkvp (w_3 q1 q2 hc) w_t (w_s ?_);intros)
  refine Zai (ι:=Nat) (λk e m=>k≤a.length - l∧(e 0=lim a∧e 5=.v (.int .i64 (l:Int))∧e 6=.v (.int .i64 (s:Int))∧e 24=.v (.int .i64 (a.length - l:Nat))∧e 25=.v (.int .i64 (k:Int)))∧∃sv o,(e 7=.own 22 sv∧m 22=some (.row sv 70 1 (u16s o) 0))∧o.length=a.length - l∧Lm o∧nv (o.take k)=(nv (a.drop l)/2 ^ s)%65536 ^ k) (λk=>a.length - l - k) 0 zr ?_ ?_
  ·rintro k e m ⟨hk,⟨e0,e5,e6,e24,e25⟩,sv,o,⟨e7,em⟩,hol,hLo,hv⟩
   by_cases hlt:k < a.length - l
   ·have ga:=Zbm la (k+l);have gb:=Zbm la (k+l+1)
    have hd:((gN a (k+l)+65536*gN a (k+l+1))/2 ^ s)%65536=(nv (a.drop l)/65536 ^ k/2 ^ s)%65536:=by
     rw [Zpv (la.drop l),Ztv,Zbe,Zbe a (l+k+1),shr_dig zo,Ztb l k]
    have hst:=shr_step hv hd;have w0:((gN a (k+l)+65536*gN a (k+l+1))/2 ^ s)%65536 < 65536:=Zrv _ zo;have sh:=λx=>shr_32 (x:=x) (s:=s) zo;by_cases hmore:k+l+1 < a.length
    ·(repeat' (first|(with_reducible first|refine stp ?_|apply gx1|apply gx2|apply gx3|apply gx4|apply gx5|apply gx6|apply gx7)|(with_reducible refine Zb1 ?_;intro _)|((with_reducible refine gE ?_);(try simp (disch:=omega) only [go_sem,e0,e5,e6,e24,e25,e7,em,hol,Zav,Za4,Zbj,or16_32',sh])<;>first|rfl|omega)|with_reducible refine Zag zd ?_))
     exact⟨k+1,⟨zo,gV (And.intro e0 (And.intro e5 (And.intro e6 (And.intro e24 e25)))),sv,_,⟨gW e7,gC⟩,by simpa using hol,hLo.set _ w0,by rw [Zdb zo];exact hst⟩,zo⟩
    ·have g0:gN a (k+l+1)=0:=Zem zo;simp only [g0,Zta,Zr2] at hst w0
     (refine wkvp (w_12 e0 e5 e6 e24 e25 e7 em hol @Zav @Za4 @Zbj sh) w_t (w_s ?_);intros)
     exact⟨k+1,⟨zo,gV (And.intro e0 (And.intro e5 (And.intro e6 (And.intro e24 e25)))),sv,_,⟨gW e7,gC⟩,by simpa using hol,hLo.set _ w0,by rw [Zdb zo];exact hst⟩,zo⟩
   ·rw [Zb3 zo] at hv;have h5:=Zfk (la.drop l);rw [Zs1] at h5;have hk2:k=a.length - l:=zo;rw [Zsu (Zu3 (Zu8 _ _) (by rw [hk2];exact h5))] at hv
    (refine wkax (w_8 e0 e5 e6 e24 e25 e7 em hol) w_t w_t (w_1 (Za7 o zo hLo)) w_t w_t w_y (w_r 0) (w_s ?_);intros)
    simp (disch:=omega) only [go_sem,hv]
  ·exact⟨Zre _,gC,_,List.replicate (a.length - l) 0,⟨gC,gC⟩,by simp,Lm.zeros _,by simp [nv,Nat.mod_one]⟩
theorem Zn9 (σ:Mem) (K:Nat) (sv:Value) (l:List Nat) (hs:l.length≤10000000000000) (hl:Lm l) (hσ:σ K=some (.row sv 70 1 (u16s l) 0)) :
 ACall prog 81 [.own K sv] σ λr σ'=>r=.view K sv 1 0 (toL (nv l)).length∧σ'=σ:=by
 refine Zbb (tok:=0) (rs:=[.tmp 2]) func81 rfl ntmps81 results81 call81 zr zs ?_
 (refine wkvp (w_1 hσ) w_t (w_s ?_);intros)
 refine Zai (ι:=Nat) (λk e m=>k≤l.length∧e 0=.own K sv∧e 3=.v (.int .i64 (k:Int))∧m=σ∧∀j,k≤j→gN l j=0) (λk=>k) l.length zr ?_ ?_
 ·rintro k e m ⟨hk,e0,e3,rfl,hz⟩
  have gl:=Zbm hl (k - 1);have fin:(k=0∨0 < gN l (k - 1))→k=(toL (nv l)).length:=λh=>by
   rw [←Zhl hl hk hz h,Zrd,Zsn hk]
  by_cases h0:k=0
  ·subst h0;have f:=fin (.inl rfl)
   (refine wkvp (w_3 e0 e3 hσ) w_t (w_s ?_);intros)
   simp (disch:=omega) only [go_sem,←f]
  ·by_cases h1:gN l (k - 1)=0
   ·(refine wkvp (w_3 e0 e3 hσ) w_t (w_s ?_);intros)
    exact⟨k - 1,⟨zo,gW e0,by(simp (disch:=omega) only [go_sem,e3];congr 2;omega),rfl,λj hj=>by
     rcases Zrc j k with h2 | h2
     ·rw [show j=k - 1 by omega];exact h1
     ·exact hz j h2⟩,zo⟩
   ·have f:=fin (.inr zo)
    (refine wkvp (w_3 e0 e3 hσ) w_t (w_s ?_);intros)
    simp (disch:=omega) only [go_sem,←f,Ztk]
 ·exact⟨Zq0 _,gC,gC,rfl,λj hj=>Zem hj⟩
theorem Zkt (σ:Mem) (a:List Nat) (n:Nat) (ha:a.length≤4000000000000) (la:Lm a) (hn:n≤1048576) (h0:nv a≠0) :
 ACall prog 85 [lim a,.v (.int .i64 (n:Int))] σ λr σ'=>∃sv o,r=.view 44 sv 1 0 (toL (nv a*2 ^ n)).length∧σ'=upd σ 44 (some (.row sv 70 1 (u16s o) 0))∧o.length=(toL (nv a)).length+n/16+1∧Lm o∧nv o=nv a*2 ^ n:=by
 have hns:n=16*(n/16)+n%16:=zo;have q1:(n:Int).tdiv 16=((n/16:Nat):Int):=Zdp n 16;have q2:(n:Int).tmod 16=((n%16:Nat):Int):=Zdn n 16;have hs:n%16 < 16:=Zrv _ zo
 have hnv:nv a*2 ^ n=nv a*2 ^ (n%16)*65536 ^ (n/16):=by
  have:=Zn6 (a:=nv a) (l:=n/16) (s:=n%16)
  rwa [←hns] at this
 have h1:=Zaq la;have h2:=(Zdl h0).1;have va:=Za0 (nv a);have ma:=Zba (nv a);have h16:n/16≤65536:=zo;clear hns;generalize hl:n/16=l at *;generalize hss:n%16=s at *;generalize hA:toL (nv a)=A at *;refine Zbb (tok:=0) (rs:=[.tmp 4]) func85 rfl ntmps85 results85 call85 zr zs ?_
 (refine wkvp (w_5 q1 q2 hA @Zav @Za4) (w_1 (Za7 a zo la)) (w_s ?_);intros)
 rw [hA];have e1:((A.length+l:Nat):Int)+3=((A.length+l+3:Nat):Int):=zo
 (refine wkvp (w_4 hA @Zav @Za4 e1) w_t (w_s ?_);intros)
 refine Zai (ι:=Nat) (λk e m=>k≤A.length∧(e 5=.v (.int .i64 (l:Int))∧e 6=.v (.int .i64 (s:Int))∧e 45=lim A∧e 46=.v (.int .i64 A.length)∧e 47=.v (.int .i64 (k:Int)))∧∃sv o,(e 7=.own 44 sv∧m=upd σ 44 (some (.row sv 70 1 (u16s o) 0)))∧o.length=A.length+l+1∧Lm o∧gN o (k+l) < 2 ^ s∧(∀j,k+l < j→gN o j=0)∧nv o=nv (A.take k)*2 ^ s*65536 ^ l) (λk=>A.length - k) 0 zr ?_ ?_
 ·rintro k e m ⟨hk,⟨e5,e6,e45,e46,e47⟩,sv,o,⟨e7,rfl⟩,hol,hLo,hg,hz,hv⟩
  by_cases hlt:k < A.length
  ·have gx:=Zbm ma k
   have p16:(2:Nat) ^ s≤32768:=by
    have:(2:Nat) ^ s≤2 ^ 15:=Zsy zo zo;omega
   have bx:gN A k*2 ^ s≤65535*32768:=Zun zo p16;have sh:=shl_32 (x:=gN A k) (s:=s) zo zo;have lo:=low_mul (x:=gN A k) (s:=s) zo;have hlo:(gN A k*2 ^ s)%65536 < 65536:=Zrv _ zo;rw [lo] at hlo;have hor:=or_16 (b:=gN o (k+l)) zo hg hlo;rw [←lo] at hor
   have hhi:gN A k*2 ^ s/65536 < 2 ^ s:=by
    rw [Zte zo,Zrm];exact Nat.mul_lt_mul_of_pos_left gx (Zuo s)
   have hsum:gN o (k+l)+(gN A k*2 ^ s)%65536 < 65536:=by
    rw [lo];have h5:(gN A k%2 ^ (16 - s)+1)*2 ^ s≤2 ^ (16 - s)*2 ^ s:=Zrk _ (Zrv _ (Zuo _));rw [←Zst,Zuu zo,Zri,Zsh] at h5;omega
   have hcut:gN A k*2 ^ s/65536%65536=gN A k*2 ^ s/65536:=Zsu zo
   (refine wkvp (w_14 e5 e6 e45 e46 e47 e7 hol @Zav @Za4 @Zbj sh hor hcut @l_set) w_t (w_s ?_);intros)
   refine⟨k+1,⟨zo,gV (And.intro e5 (And.intro e6 (And.intro e45 (And.intro e46 e47)))),sv,_,⟨gW e7,by(simp (disch:=omega) only [go_sem,Zfh]<;>repeat' first|rfl|refine⟨?_,?_⟩)⟩,by simpa using hol,(hLo.set _ hsum).set _ zo,?_,λj hj=>?_,?_⟩,zo⟩
   ·rw [Zel (by simp;omega),Zqv zo];exact hhi
   ·rw [Zel (by simp;omega),Zqw zo,Zel zo,Zqw zo];exact hz j zo
   ·have h3:=Zpu (o:=o) (j:=k+l) zo (gN o (k+l)+(gN A k*2 ^ s)%65536);have h4:=Zpu (o:=o.set (k+l) (gN o (k+l)+(gN A k*2 ^ s)%65536)) (j:=k+l+1) (by simp;omega) (gN A k*2 ^ s/65536);rw [Zel zo,Zqw zo,hz (k+l+1) zo,Zta,Zr2] at h4;rw [h4,Zaw,Zri,Zri,←hv]
    have h5:65536 ^ (k+l)*(gN A k*2 ^ s%65536)+65536 ^ (k+l+1)*(gN A k*2 ^ s/65536)=65536 ^ k*gN A k*2 ^ s*65536 ^ l:=by
     rw [Zs5,Zr1 (65536 ^ (k+l)),←Zrp,Nat.mod_add_div,Zst];simp only [Zr1,Ztx,Zrm]
    rw [Zrp] at h3;omega
  ·have hkA:k=A.length:=zo;subst hkA;rw [Zb3 (Zq0 _),va,←hnv] at hv;have ct:=Zn9 (upd σ 44 (some (.row sv 70 1 (u16s o) 0))) 44 sv o zo hLo (by simp only [Zaj,Zry]);rw [hv] at ct
   (repeat' (first|(with_reducible first|refine stp ?_|apply gx1|apply gx2|apply gx3|apply gx4|apply gx5|apply gx6|apply gx7|refine Zmy (ct) ?_)|(with_reducible refine Zb1 ?_;intro _)|((with_reducible refine gE ?_);(try simp (disch:=omega) only [go_sem,e5,e6,e45,e46,e47,e7])<;>first|rfl|omega)|with_reducible refine Zag zd ?_))
   simp (disch:=omega) only [go_sem];exact⟨sv,o,rfl,rfl,hol,hLo,hv⟩
 ·refine⟨Zre _,gC,_,List.replicate (A.length+l+1) 0,⟨gC,gC⟩,by simp,Lm.zeros _,?_,λj _=>Zf1 _ _,by simp [nv,Zmz]⟩;rw [Zf1];exact Zuo s
theorem natShl (a:List Nat) (n:Nat) (ha:a.length≤4000000000000) (la:Lm a) (hn:n≤1048576):Pure prog 85 [lim a,.v (.int .i64 (n:Int))] (lim (toL (nv a*2 ^ n))):=by
 by_cases h0:nv a=0
 ·have h2:=Zco.2 h0;rw [slN (show toL (nv a*2 ^ n)=[] by rw [h0,Nat.zero_mul,Zay])];refine Pure.wk (r:=.v (.slice none 0 0)) ?_ (.nil 1);refine Zab (tok:=0) (rs:=[.tmp 4]) func85 rfl ntmps85 results85 call85 zr zs ?_
  (refine wkvp (w_1 h2) (w_1 (Za7 a zo la)) (w_s ?_);intros)
  simp (disch:=omega) only [go_sem]
 ·refine Zjd (Zkt Zac a n ha la hn h0) λr σ' ⟨sv,o,hr,hσ,hol,hLo,hv⟩=>?_;subst hr;subst hσ;have hlen:=Zaq hLo;rw [hv] at hlen;refine⟨by simp (disch:=omega) only [go_sem],?_⟩;simp (disch:=omega) only [go_sem,Zrg];obtain⟨k,h1,h2⟩:=Zi5 hLo;rw [hv] at h2;have h3:k=(toL (nv a*2 ^ n)).length:=by rw [←h2,Zrd];omega
  rw [←h3,h2]
theorem natShr (a:List Nat) (n:Nat) (ha:a.length≤4000000000000) (la:Lm a) (h0:0 < n) (hn:n≤1048576):Pure prog 85 [lim a,.v (.int .i64 (-(n:Int)))] (lim (toL (nv a/2 ^ n))):=by
 by_cases hz:nv a=0
 ·have h2:=Zco.2 hz;rw [slN (show toL (nv a/2 ^ n)=[] by rw [hz,Nat.zero_div,Zay])];refine Pure.wk (r:=.v (.slice none 0 0)) ?_ (.nil 1);refine Zab (tok:=0) (rs:=[.tmp 4]) func85 rfl ntmps85 results85 call85 zr zs ?_
  (refine wkvp (w_1 h2) (w_1 (Za7 a zo la)) (w_s ?_);intros)
  simp (disch:=omega) only [go_sem]
 ·have h2:=(Zdl hz).1;have h1:=Zaq la;have hr:=natRight (toL (nv a)) n zo (Zba _) hn;rw [Za0] at hr;have w:(0:Int) - -(n:Int)=(n:Int):=zo;refine Zab (tok:=0) (rs:=[.tmp 4]) func85 rfl ntmps85 results85 call85 zr zs ?_
  (refine wkvp (w_1 w) (w_2 (Za7 a zo la) hr) (w_s ?_);intros)
  simp (disch:=omega) only [go_sem]
theorem Zlz (σ:Mem) (K:Nat) (sv:Value) (pre w post v:List Nat) (d:Nat) (hσ:σ K=some (.row sv 70 1 (u16s (pre++(w++post))) 0)) (hwv:w.length=v.length+1) (hsz:(pre++(w++post)).length≤10000000000000) (lw:Lm w) (lv:Lm v) (hd:d < 65536) :
 ACall prog 95 [.view K sv 1 pre.length w.length,lim v,.v (.int .u32 (d:Int))] σ λr σ'=>∃(w':List Nat) (b:Nat),r=.v (.bool (decide (0 < (b:Int))))∧σ'=upd σ K (some (.row sv 70 1 (u16s (pre++(w'++post))) 0))∧w'.length=w.length∧Lm w'∧b≤1∧nv w'+d*nv v=nv w+65536 ^ w.length*b:=by
 have hsz2:pre.length+(w.length+post.length)≤10000000000000:=by simpa using hsz
 refine Zbb (tok:=0) (rs:=[.tmp 6]) func95 rfl ntmps95 results95 call95 zr zs ?_
 (refine wkvp w_t w_t (w_s ?_);intros)
 refine Zai (ι:=Nat) (λk e m=>k≤w.length∧(e 0=.view K sv 1 pre.length w.length∧e 1=lim v∧e 2=.v (.int .u32 (d:Int))∧e 12=.v (.int .i64 w.length)∧e 13=.v (.int .i64 (k:Int)))∧∃w' c r,(e 7=.v (.int .u32 (c:Nat))∧e 8=.v (.int .i32 (r:Nat))∧m=upd σ K (some (.row sv 70 1 (u16s (pre++(w'++post))) 0)))∧w'.length=w.length∧Lm w'∧c < 65536∧(v.length < k→c=0)∧r≤1∧(∀j,k≤j→gN w' j=gN w j)∧nv (w'.take k)+d*nv (v.take k)=nv (w.take k)+65536 ^ k*(c+r)) (λk=>w.length - k) 0 zr ?_ ?_
 ·rintro k e m ⟨hk,⟨e0,e1,e2,e12,e13⟩,w',c,r,⟨e7,e8,rfl⟩,hwl,hLw,hc,hcz,hr,hsame,hv⟩
  by_cases hlt:k < w.length
  ·have gw:=Zbm lw k;have gv:=Zbm lv k;have hgw:=hsame k (Zq0 _);have mid:=gN_mid (pre:=pre) (post:=post) (show k < w'.length by omega);have smid:=λx=>Zo6 (pre:=pre) (post:=post) (show k < w'.length by omega) x;have hln:(pre++(w'++post)).length=pre.length+(w'.length+post.length):=by simp
   have bd:=Zm1 hd gv;have step:∀(x r' c1:Nat),c1=c+d*gN v k→x+c1%65536+r=gN w k+65536*r'→x < 65536→r'≤1 →
    (w'.set k x).length=w.length∧Lm (w'.set k x)∧c1/65536 < 65536∧(v.length < k+1→c1/65536=0)∧r'≤1∧(∀j,k+1≤j→gN (w'.set k x) j=gN w j)∧nv ((w'.set k x).take (k+1))+d*nv (v.take (k+1))=nv (w.take (k+1))+65536 ^ (k+1)*(c1/65536+r'):=by
    intro x r' c1 h1 h2 h3 h4;have h5:=Zlg hv h1 h2;refine⟨by simpa using hwl,hLw.set k h3,zo,λh6=>?_,h4,λj hj=>?_,?_⟩
    ·have:gN v k=0:=Zem zo;rw [this,Zta] at h1;omega
    ·rw [Zel zo,Zqw zo];exact hsame j zo
    ·rw [Zdb zo,Zaw,Zaw,Zs5];exact h5
   by_cases hkv:k < v.length
   ·generalize hxy:d*gN v k=xy at *;by_cases hneg:gN w k < (c+xy)%65536+r
    ·have hs:=step (gN w k+65536 - (c+xy)%65536 - r) 1 (c+xy) rfl zo zo zo;have wv:(gN w k:Int) - ((c+xy)%65536:Nat) - r+65536=((gN w k+65536 - (c+xy)%65536 - r:Nat):Int):=zo;have wm:(gN w k+65536 - (c+xy)%65536 - r)%65536=gN w k+65536 - (c+xy)%65536 - r:=Zsu zo
     (refine wkvp (w_18 e0 e1 e2 e12 e13 e7 e8 hln hwl mid smid hgw @Zav @Zf8 @Zbj hxy wv wm) w_t (w_s ?_);intros)
     exact⟨k+1,⟨zo,gV (And.intro e0 (And.intro e1 (And.intro e2 (And.intro e12 e13)))),_,_,1,⟨gC,gC,by(simp (disch:=omega) only [go_sem,Zfh]<;>repeat' first|rfl|refine⟨?_,?_⟩)⟩,hs⟩,zo⟩
    ·have hs:=step (gN w k - (c+xy)%65536 - r) 0 (c+xy) rfl zo zo zo;have wv:(gN w k:Int) - ((c+xy)%65536:Nat) - r=((gN w k - (c+xy)%65536 - r:Nat):Int):=zo;have wm:(gN w k - (c+xy)%65536 - r)%65536=gN w k - (c+xy)%65536 - r:=Zsu zo
     (refine wkvp (w_18 e0 e1 e2 e12 e13 e7 e8 hln hwl mid smid hgw @Zav @Zf8 @Zbj hxy wv wm) w_t (w_s ?_);intros)
     exact⟨k+1,⟨zo,gV (And.intro e0 (And.intro e1 (And.intro e2 (And.intro e12 e13)))),_,_,0,⟨gC,gC,by(simp (disch:=omega) only [go_sem,Zfh]<;>repeat' first|rfl|refine⟨?_,?_⟩)⟩,hs⟩,zo⟩
   ·have g0:gN v k=0:=Zem zo;have hcm:c%65536=c:=Zsu hc;simp only [g0,Zta,Zr2] at step;by_cases hneg:gN w k < c+r
    ·have hs:=step (gN w k+65536 - c - r) 1 c rfl zo zo zo;have wv:(gN w k:Int) - (c:Nat) - r+65536=((gN w k+65536 - c - r:Nat):Int):=zo;have wm:(gN w k+65536 - c - r)%65536=gN w k+65536 - c - r:=Zsu zo
     (refine wkvp (w_16 e0 e1 e2 e12 e13 e7 e8 hln hwl mid smid hgw @Zbj hcm wv wm) w_t (w_s ?_);intros)
     exact⟨k+1,⟨zo,gV (And.intro e0 (And.intro e1 (And.intro e2 (And.intro e12 e13)))),_,_,1,⟨gC,gC,by(simp (disch:=omega) only [go_sem,Zfh]<;>repeat' first|rfl|refine⟨?_,?_⟩)⟩,hs⟩,zo⟩
    ·have hs:=step (gN w k - c - r) 0 c rfl zo zo zo;have wv:(gN w k:Int) - (c:Nat) - r=((gN w k - c - r:Nat):Int):=zo;have wm:(gN w k - c - r)%65536=gN w k - c - r:=Zsu zo
     (refine wkvp (w_16 e0 e1 e2 e12 e13 e7 e8 hln hwl mid smid hgw @Zbj hcm wv wm) w_t (w_s ?_);intros)
     exact⟨k+1,⟨zo,gV (And.intro e0 (And.intro e1 (And.intro e2 (And.intro e12 e13)))),_,_,0,⟨gC,gC,by(simp (disch:=omega) only [go_sem,Zfh]<;>repeat' first|rfl|refine⟨?_,?_⟩)⟩,hs⟩,zo⟩
  ·have hkw:k=w.length:=zo;subst hkw;have hc0:=hcz zo;subst hc0;rw [Zb3 zo,Zb3 zo,Zb3 (Zq0 _),Zrg] at hv
   (refine wkvp (w_7 e0 e1 e2 e12 e13 e7 e8) w_t (w_s ?_);intros)
   simp (disch:=omega) only [go_sem];refine⟨w',r,?_,?_,hwl,hLw,hr,hv⟩<;>rfl
 ·exact⟨Zre _,gC,w,0,0,⟨gC,gC,by rw [Zmf hσ]⟩,rfl,lw,zo,λ_=>rfl,zo,λ_ _=>rfl,by simp [nv]⟩
theorem Zoa (σ:Mem) (K:Nat) (sv:Value) (pre w post v:List Nat) (hσ:σ K=some (.row sv 70 1 (u16s (pre++(w++post))) 0)) (hwv:v.length≤w.length) (hsz:(pre++(w++post)).length≤10000000000000) (lw:Lm w) (lv:Lm v) :
 ACall prog 96 [.view K sv 1 pre.length w.length,lim v] σ λr σ'=>∃(w':List Nat) (c:Nat),r=.tup []∧σ'=upd σ K (some (.row sv 70 1 (u16s (pre++(w'++post))) 0))∧w'.length=w.length∧Lm w'∧c≤1∧nv w'+65536 ^ w.length*c=nv w+nv v:=by
 have hsz2:pre.length+(w.length+post.length)≤10000000000000:=by simpa using hsz
 refine Zbb (tok:=0) (rs:=[]) func96 rfl ntmps96 results96 call96 zr zs ?_
 (refine wkvp w_t w_t (w_s ?_);intros)
 refine Zai (ι:=Nat) (λk e m=>k≤w.length∧(e 0=.view K sv 1 pre.length w.length∧e 1=lim v∧e 7=.v (.int .i64 w.length)∧e 8=.v (.int .i64 (k:Int)))∧∃w' c,(e 4=.v (.int .u32 (c:Nat))∧m=upd σ K (some (.row sv 70 1 (u16s (pre++(w'++post))) 0)))∧w'.length=w.length∧Lm w'∧c≤1∧(∀j,k≤j→gN w' j=gN w j)∧nv (w'.take k)+65536 ^ k*c=nv (w.take k)+nv (v.take k)) (λk=>w.length - k) 0 zr ?_ ?_
 ·rintro k e m ⟨hk,⟨e0,e1,e7,e8⟩,w',c,⟨e4,rfl⟩,hwl,hLw,hc,hsame,hv⟩
  by_cases hlt:k < w.length
  ·have gw:=Zbm lw k;have gv:=Zbm lv k;have hgw:=hsame k (Zq0 _);have mid:=gN_mid (pre:=pre) (post:=post) (show k < w'.length by omega);have smid:=λx=>Zo6 (pre:=pre) (post:=post) (show k < w'.length by omega) x;have hln:(pre++(w'++post)).length=pre.length+(w'.length+post.length):=by simp
   have hs:=add_step (x:=gN w k) (y:=gN v k) hv;have w1:(c+gN w k+gN v k)/65536≤1:=zo;have w2:(c+gN w k+gN v k)%65536 < 65536:=zo;have hsm:∀x j,k+1≤j→gN (w'.set k x) j=gN w j:=λx j hj=>by
    rw [Zel zo,Zqw zo];exact hsame j zo
   rw [←Zdb (o:=w') zo,←Zs5,←Zaw,←Zaw] at hs;by_cases hkv:k < v.length
   ·(refine wkvp (w_12 e0 e1 e7 e8 e4 hln hwl mid smid hgw @Zav @Zbj) w_t (w_s ?_);intros)
    exact⟨k+1,⟨zo,gV (And.intro e0 (And.intro e1 (And.intro e7 e8))),_,_,⟨gC,by(simp (disch:=omega) only [go_sem,Zfh]<;>repeat' first|rfl|refine⟨?_,?_⟩)⟩,by simpa using hwl,hLw.set k w2,w1,hsm _,hs⟩,zo⟩
   ·have g0:gN v k=0:=Zem zo;simp only [g0,Zr2] at hs w1 w2
    (refine wkvp (w_12 e0 e1 e7 e8 e4 hln hwl mid smid hgw @Zav @Zbj) w_t (w_s ?_);intros)
    exact⟨k+1,⟨zo,gV (And.intro e0 (And.intro e1 (And.intro e7 e8))),_,_,⟨gC,by(simp (disch:=omega) only [go_sem,Zfh]<;>repeat' first|rfl|refine⟨?_,?_⟩)⟩,by simpa using hwl,hLw.set k w2,w1,hsm _,hs⟩,zo⟩
  ·have hkw:k=w.length:=zo;subst hkw;rw [Zb3 zo,Zb3 (Zq0 _),Zb3 hwv] at hv
   (refine wkvp (w_5 e0 e1 e7 e8 e4) w_t (w_s ?_);intros)
   simp (disch:=omega) only [go_sem];refine⟨w',c,?_,hwl,hLw,hc,hv⟩<;>rfl
 ·exact⟨Zre _,gC,w,0,⟨gC,by rw [Zmf hσ]⟩,rfl,lw,zo,λ_ _=>rfl,by simp [nv]⟩
theorem Zly (σ:Mem) (sv:Value) (g2 g3 g5 g7 g9 g10:Nat) (U post v:List Nat) (d r j:Nat) (h2:σ 2=some (.box g2 34 [.view 44 sv 1 0 U.length] false)) (h3:σ 3=some (.box g3 34 [lim v] false)) (h5:σ 5=some (.box g5 3 [.v (.int .i64 v.length)] false))
 (h7:σ 7=some (.box g7 3 [.v (.int .i64 (j:Int))] false)) (h9:σ 9=some (.box g9 89 [.v (.int .u64 (d:Int))] false)) (h10:σ 10=some (.box g10 89 [.v (.int .u64 (r:Int))] false)) (h44:σ 44=some (.row sv 70 1 (u16s (U++post)) 0))
 (hn:2≤v.length) (hj:j+v.length < U.length) (hsz:U.length+post.length≤10000000000000) (lv:Lm v) (lU:Lm U) (hr:r < 65536) :
 ACall prog 94 [.pbox 9 g9 0,.pbox 3 g3 0,.pbox 5 g5 0,.pbox 10 g10 0,.pbox 2 g2 0,.pbox 7 g7 0] σ λx σ'=>x=.v (.bool (decide (65536≤d) || decide (r*65536+gN U (j+v.length - 2) < d*gN v (v.length - 2))))∧σ'=σ:=by
 refine Zbb (tok:=0) (rs:=[.tmp 6]) func94 rfl ntmps94 results94 call94 zr zs ?_;by_cases hd:65536≤d
 ·(refine wkad (w_7 h2 h3 h5 h7 h9 h10 h44) w_t w_t (w_s ?_);intros)
  simp (disch:=omega) only [go_sem,Zqz hd]
 ·have gv:=Zbm lv (v.length - 2);have gu:=Zbm lU (j+v.length - 2);have bd:=Zm1 (x:=d) zo gv;have e1:(v.length:Int) - 2=((v.length - 2:Nat):Int):=zo;have e2:((j+v.length:Nat):Int) - 2=((j+v.length - 2:Nat):Int):=zo;have hg:gN (U++post) (j+v.length - 2)=gN U (j+v.length - 2):=Zl8 zo;have hl:(U++post).length=U.length+post.length:=Zro;generalize hxy:d*gN v (v.length - 2)=xy at *;by_cases ht:r*65536+gN U (j+v.length - 2) < xy
  ·(refine wkad (w_15 h2 h3 h5 h7 h9 h10 h44 e1 e2 hg hl @Zav @Zf8 hxy @Zrg) w_t w_t (w_s ?_);intros)
   simp (disch:=omega) only [go_sem,Zqz ht]
  ·(refine wkad (w_15 h2 h3 h5 h7 h9 h10 h44 e1 e2 hg hl @Zav @Zf8 hxy @Zrg) w_t w_t (w_s ?_);intros)
   simp (disch:=omega) only [go_sem,Zqy hd,Zqy ht]
attribute [go_sem] szQ zQ
theorem Zjj {P:Program} {t d f:Nat} {args:List AV} {K:St→Prop} {e:Nat→AV} {m:Mem} {R:AV→Mem→Prop} (c:ACall P f args m R) (h:∀r σ',R r σ'→K ⟨upd e d r,σ'⟩):aRes P t (some d) (.call f args) K ⟨e,m⟩:=c.mono h
theorem Zks {σ:Mem} {K:Nat} {sv:Value} {pre w post v:List Nat} {d i len:Nat} (hi:pre.length=i) (hw:w.length=len) (hσ:σ K=some (.row sv 70 1 (u16s (pre++(w++post))) 0)) (hwv:len=v.length+1) (hsz:(pre++(w++post)).length≤10000000000000) (lw:Lm w) (lv:Lm v) (hd:d < 65536) :
 ACall prog 95 [.view K sv 1 i len,lim v,.v (.int .u32 (d:Int))] σ λr σ'=>∃(w':List Nat) (b:Nat),r=.v (.bool (decide (0 < (b:Int))))∧σ'=upd σ K (some (.row sv 70 1 (u16s (pre++(w'++post))) 0))∧w'.length=len∧Lm w'∧b≤1∧nv w'+d*nv v=nv w+65536 ^ len*b:=by
 subst hi;subst hw;exact Zlz σ K sv pre w post v d hσ hwv hsz lw lv hd
theorem Zl0 {σ:Mem} {K:Nat} {sv:Value} {pre w post v:List Nat} {i len:Nat} (hi:pre.length=i) (hw:w.length=len) (hσ:σ K=some (.row sv 70 1 (u16s (pre++(w++post))) 0)) (hwv:v.length≤len) (hsz:(pre++(w++post)).length≤10000000000000) (lw:Lm w) (lv:Lm v) :
 ACall prog 96 [.view K sv 1 i len,lim v] σ λr σ'=>∃(w':List Nat) (c:Nat),r=.tup []∧σ'=upd σ K (some (.row sv 70 1 (u16s (pre++(w'++post))) 0))∧w'.length=len∧Lm w'∧c≤1∧nv w'+65536 ^ len*c=nv w+nv v:=by
 subst hi;subst hw;exact Zoa σ K sv pre w post v hσ hwv hsz lw lv
structure LongInv (U v q U':List Nat) (k:Nat):Prop where
 ql:q.length=U.length - v.length
 qL:Lm q
 qz:∀j,j < k→gN q j=0
 ul:U'.length=U.length
 uL:Lm U'
 eq:nv U'+nv v*nv (q.drop k)*65536 ^ k=nv U
 lt:nv (U'.drop k) < nv v
theorem LongInv.step {U v q U' w'':List Nat} {j n:Nat} (h:LongInv U v q U' (j+1)) (hn:v.length=n) (lv:Lm v) (hj:j+n < U.length) (hw:w''.length=n+1) (hwL:Lm w'')
 (hwv:nv w''=nv ((U'.drop j).take (n+1))%nv v) (hd:nv ((U'.drop j).take (n+1))/nv v < 65536) :
 LongInv U v (q.set j (nv ((U'.drop j).take (n+1))/nv v)) (U'.take j++(w''++U'.drop (j+n+1))) j:=by
 have hV:0 < nv v:=Zu3 (Zre _) h.lt;have hz:=drop_zero lv hn h.lt;rw [Ztv,show j+1+n=j+n+1 by omega] at hz;have hql:=h.ql;have hul:=h.ul;have hlj:(U'.take j).length=j:=by rw [Zrd];omega
 have hj1:nv (U'.drop j)=nv ((U'.drop j).take (n+1)):=by
  have:=Za6 (U'.drop j) (n+1);rw [Ztv,show j+(n+1)=j+n+1 by omega,hz] at this;omega
 have hw2:nv (w''++U'.drop (j+n+1))=nv w'':=by rw [Zdc,hz];omega
 have hdr:nv ((U'.take j++(w''++U'.drop (j+n+1))).drop j)=nv w'':=by
  rw [List.drop_append_of_le_length zo,Zr4 zo,Zuz,hw2]
 refine⟨by simpa using hql,h.qL.set j hd,λi hi=>?_,by simp;omega,(h.uL.take j).append (hwL.append (h.uL.drop _)),?_,by rw [hdr,hwv];exact Zrv _ hV⟩
 ·rw [Zel zo,Zqw zo];exact h.qz i zo
 ·have h1:=h.eq;have h2:=Za6 U' j;have h3:=Zs2 (nv ((U'.drop j).take (n+1))) (nv v);rw [Zdc,hlj,hw2,hwv,Zbe (q.set j _),Zel zo,Zqv rfl,List.drop_set_of_lt zo];rw [←h1,h2,hj1,Zrp,Zri,Zs5];generalize nv ((U'.drop j).take (n+1))=W at *;generalize nv (q.drop (j+1))=Q at *
  have e1:nv v*(W/nv v)*65536 ^ j+65536 ^ j*(W%nv v)=65536 ^ j*W:=by
   rw [Zrm (nv v*(W/nv v)),←Zrp,h3]
  have e2:nv v*(65536*Q)*65536 ^ j=nv v*Q*(65536 ^ j*65536):=by
   simp only [Zr1,Ztx,Zrm]
  omega
theorem natLong (σ:Mem) (sv:Value) (U post v:List Nat) (n:Nat) (hvn:v.length=n) (h44:σ 44=some (.row sv 70 1 (u16s (U++post)) 0)) (hn:2≤n) (hlen:n < U.length) (hsz:U.length+post.length≤10000000000000) (lU:Lm U) (lp:Lm post) (lv:Lm v)
 (hvt:0 < gN v (n - 1)) (hlt:nv (U.drop (U.length - n)) < nv v) :
 ACall prog 86 [.view 44 sv 1 0 U.length,lim v] σ λr σ'=>∃U':List Nat,r=lim (toL (nv U/nv v))∧σ' 44=some (.row sv 70 1 (u16s (U'++post)) 0)∧U'.length=U.length∧Lm U'∧nv U'=nv U%nv v:=by
 have hc:(U.length:Int) - (n:Int)=((U.length - n:Nat):Int):=zo;refine Zbb (tok:=0) (rs:=[.tmp 4]) func86 rfl ntmps86 results86 call86 zr zs ?_
 (refine wkvp (w_2 hvn hc) w_t (w_s ?_);intros)
 refine Zai (ι:=Nat) (λk e m=>k≤U.length - n∧∃g2 g3 g5 g7 svo q U',(e 2=.pbox 2 g2 0∧e 3=.pbox 3 g3 0∧e 5=.pbox 5 g5 0∧e 6=.own 18 svo∧e 7=.pbox 7 g7 0)∧m 2=some (.box g2 34 [.view 44 sv 1 0 U.length] false)∧m 3=some (.box g3 34 [lim v] false)∧m 5=some (.box g5 3 [.v (.int .i64 n)] false)∧m 7=some (.box g7 3 [.v (.int .i64 ((k:Int) - 1))] false) ∧
  m 18=some (.row svo 70 1 (u16s q) 0)∧m 44=some (.row sv 70 1 (u16s (U'++post)) 0)∧LongInv U v q U' k) (λk=>k) (U.length - n) zr ?_ ?_
 ·rintro k e m ⟨hk,g2,g3,g5,g7,svo,q,U',⟨e2,e3,e5,e6,e7⟩,m2,m3,m5,m7,m18,m44,inv⟩
  have hql:=inv.ql;rw [hvn] at hql;have hul:=inv.ul;rcases Zr5 k with h0 | h0
  ·subst h0;have h1:=inv.eq;have h2:=inv.lt;rw [Zsr] at h1 h2;rw [Nat.pow_zero,Ztu] at h1;have hq:nv U/nv v=nv q:=by rw [←h1,Ztb,Nat.mul_add_div zo,Zuv h2,Zr2]
   have hr:nv U'=nv U%nv v:=by rw [←h1,Ztb,Nat.mul_add_mod,Zsu h2]
   (repeat' (first|(with_reducible first|refine stp ?_|apply gx1|apply gx2|apply gx3|apply gx4|apply gx5|apply gx6|apply gx7|apply gw1 (Za7 q zo inv.qL))|(with_reducible refine Zb1 ?_;intro _)|((with_reducible refine gE ?_);(try simp (disch:=omega) only [go_sem,e2,e3,e5,e6,e7,m2,m3,m5,m7,m18,m44])<;>first|rfl|omega)|with_reducible refine Zag zd ?_))
   simp (disch:=omega) only [go_sem,hq];refine⟨U',?_,hul,inv.uL,hr⟩;simp (disch:=omega) only [go_sem,m44]
  ·obtain⟨j,rfl⟩:∃j,k=j+1:=⟨k - 1,zo⟩;have ej:((j+1:Nat):Int) - 1=(j:Int):=zo;rw [ej] at m7;have g0:=Zbm inv.uL (j+n);have g1:=Zbm inv.uL (j+n - 1);have g2':=Zbm inv.uL (j+n - 2);have gv1:=Zbm lv (n - 1);have gv2:=Zbm lv (n - 2);have hl:(U'++post).length=U'.length+post.length:=Zro;have x0:gN (U'++post) (j+n)=gN U' (j+n):=Zl8 zo;have x1:gN (U'++post) (j+n - 1)=gN U' (j+n - 1):=Zl8 zo;have ex1:((j+n:Nat):Int) - 1=((j+n - 1:Nat):Int):=zo;have ex2:(n:Int) - 1=((n - 1:Nat):Int):=zo;have hwl:((U'.drop j).take (n+1)).length=n+1:=by rw [Zrd,Zs1];omega
   have hwL:Lm ((U'.drop j).take (n+1)):=(inv.uL.drop j).take _;have wg:∀i,i≤n→gN ((U'.drop j).take (n+1)) i=gN U' (j+i):=λi hi=>by rw [gN_take zo,Zp8]
   have hW:=nv_top3 hwl hn;rw [wg n (Zq0 _),wg (n - 1) zo,wg (n - 2) zo,show j+(n - 1)=j+n - 1 by omega,show j+(n - 2)=j+n - 2 by omega] at hW;have hwl2:=Ze1 hwL (n - 2);have hVt:=nv_top2 hvn hn;have hvl2:=Ze1 lv (n - 2);have hV:0 < nv v:=Zu3 (Zre _) inv.lt
   have htop:gN U' (j+n)≤gN v (n - 1):=by
    have:=top_le (inv.uL.drop (j+1)) lv hvn hn inv.lt
    rwa [Zp8,show j+1+(n - 1)=j+n by omega] at this
   have hWV:nv ((U'.drop j).take (n+1))/nv v < 65536:=by
    rw [Zte hV];have h1:=Za6 (U'.drop j) (n+1);have h2:=Zbe U' j;have h3:=inv.lt;have h4:=Zbm inv.uL j;omega
   obtain⟨high,hhigh⟩:∃h,gN U' (j+n)*65536+gN U' (j+n - 1)=h:=⟨_,rfl⟩;rw [hhigh] at hW;have hinit:=kn_init (Nat.pow_pos zo) hVt hW hwl2 g2' hvt (Nat.div_mul_le_self (nv ((U'.drop j).take (n+1))) (nv v));have hhd:=Zs2 high (gN v (n - 1));have hhr:=Zrv high hvt;have hhq:=Zu8 high (gN v (n - 1));rw [Zrm] at hhd;have hv1i:(gN v (n - 1):Int)≠0:=zo
   have hq1:(high:Int)/(gN v (n - 1):Int)≤4294967296:=by
    have:((high/gN v (n - 1):Nat):Int)≤4294967296:=zo;exact this
   have wq:IntKind.u64.wrap ((high/gN v (n - 1):Nat):Int)=((high/gN v (n - 1):Nat):Int):=Zd1 (Zu5 _) zo
   (repeat' (first|(with_reducible first|refine stp ?_|apply gx1|apply gx2|apply gx3|apply gx4|apply gx5|apply gx6|apply gx7|apply gy8|apply gz2|apply gz3)|(with_reducible refine Zb1 ?_;intro _)|((with_reducible refine gE ?_);(try simp (disch:=omega) only [go_sem,e2,e3,e5,e6,e7,m2,m3,m5,m7,m18,m44,hl,hul,hvn,x0,x1,ex1,ex2,hhigh,hv1i,Zav,Zdp,Zdn,Zrg,wq])<;>first|rfl|omega)|with_reducible refine Zag zd ?_|((with_reducible apply gy1);iterate 3 focus rfl)|((with_reducible apply gy2);iterate 3 focus rfl)|((with_reducible apply gy3);iterate 2 focus rfl)|((with_reducible apply gy4);iterate 1 focus rfl)|((with_reducible apply gy5);iterate 4 focus rfl)|((with_reducible apply gy5c);iterate 4 focus rfl)|((with_reducible apply gy6);iterate 4 focus rfl)|((with_reducible apply Zfo);iterate 3 focus rfl)|((with_reducible apply Zfj);iterate 1 focus rfl)|((with_reducible apply gy7);iterate 1 focus rfl)|((with_reducible apply gy9);(focus ((with_reducible refine gE ?_);(try simp (disch:=omega) only [go_sem,e2,e3,e5,e6,e7,m2,m3,m5,m7,m18,m44,hl,hul,hvn,x0,x1,ex1,ex2,hhigh,hv1i,Zav,Zdp,Zdn,Zrg,wq])<;>rfl)))|((with_reducible apply gz1);(focus first|rfl|(simp (disch:=omega) only [go_sem,e2,e3,e5,e6,e7,m2,m3,m5,m7,m18,m44,hl,hul,hvn,x0,x1,ex1,ex2,hhigh,hv1i,Zav,Zdp,Zdn,Zrg,wq];done)))|((with_reducible apply Zbz (Zdq []) [] [9,10]);(focus kernel_rfl);(focus rfl);(focus kernel_rfl);(focus (simp only [Zrj,Zrr,Nat.reduceAdd];rfl)))))
   rename_i g9 g10;have hlj:(U'.take j).length=j:=by rw [Zrd];omega
   have hsplit:U'++post=U'.take j++((U'.drop j).take (n+1)++(U'.drop (j+n+1)++post)):=by
    have e1:U'=U'.take j++((U'.drop j).take (n+1)++U'.drop (j+n+1)):=by
     rw [show j+n+1=j+(n+1) by omega,←Ztv,Zsw,Zsw]
    rw [←Zr6 ((U'.drop j).take (n+1)),←Zr6,←e1]
   have esub:j+n+1 - j=n+1:=zo;obtain⟨W,hWd⟩:∃W,nv ((U'.drop j).take (n+1))=W:=⟨_,rfl⟩;have hstep:=fun(w'':List Nat) hw hwL2 hwv=>inv.step (w'':=w'') hvn lv zo hw hwL2 hwv hWV;rw [hWd] at hinit hWV hW hstep
   have hzz:∀d r,high=d*gN v (n - 1)+r→65536≤r→d < 65536∧d*gN v (n - 2)≤r*65536+gN U' (j+n - 2):=by
    intro d r h1 h2
    have hd:d < 65536:=by
     rcases Zrc d 65536 with h3 | h3
     ·exact h3
     ·exfalso;have h4:65536*gN v (n - 1)≤d*gN v (n - 1):=Zrk _ h3;omega
    have:=Zm1 hd gv2;omega
   refine Zai (ι:=Nat) (λd e' m'=>(e' 2=.pbox 2 g2 0∧e' 3=.pbox 3 g3 0∧e' 5=.pbox 5 g5 0∧e' 6=.own 18 svo∧e' 7=.pbox 7 g7 0∧e' 9=.pbox 9 g9 0∧e' 10=.pbox 10 g10 0∧e' 11=.fn 94 [.pbox 9 g9 0,.pbox 3 g3 0,.pbox 5 g5 0,.pbox 10 g10 0,.pbox 2 g2 0,.pbox 7 g7 0]) ∧
    m' 2=some (.box g2 34 [.view 44 sv 1 0 U.length] false)∧m' 3=some (.box g3 34 [lim v] false)∧m' 5=some (.box g5 3 [.v (.int .i64 n)] false)∧m' 7=some (.box g7 3 [.v (.int .i64 (j:Int))] false)∧m' 18=some (.row svo 70 1 (u16s q) 0)∧m' 44=some (.row sv 70 1 (u16s (U'++post)) 0) ∧
    m' 9=some (.box g9 89 [.v (.int .u64 (d:Int))] false)∧∃r:Nat,m' 10=some (.box g10 89 [.v (.int .u64 (r:Int))] false)∧high=d*gN v (n - 1)+r∧W/nv v≤d∧d≤high∧r < 131072) (λd=>d) (high/gN v (n - 1)) zr ?_ ?_
   ·rintro d e m ⟨⟨e2,e3,e5,e6,e7,e9,e10,e11⟩,m2,m3,m5,m7,m18,m44,m9,r,m10,hhi,hqd,hdh,hr2⟩
    have ct:=λhr=>Zly m sv g2 g3 g5 g7 g9 g10 U' post v d r j (by rw [hul];exact m2) m3 (by rw [hvn];exact m5) m7 m9 m10 m44 zo zo zo lv inv.uL hr;rw [hvn] at ct;by_cases hgo:r < 65536∧(65536≤d∨r*65536+gN U' (j+n - 2) < d*gN v (n - 2))
    ·obtain⟨hr,ht⟩:=hgo;have hb:(decide (65536≤d) || decide (r*65536+gN U' (j+n - 2) < d*gN v (n - 2)))=true:=by simpa using ht
     have hd1:1≤d:=by
      rcases Zr5 d with h | h
      ·subst h;omega
      ·exact h
     have ed:(d:Int) - 1=((d - 1:Nat):Int):=zo
     have hq2:W/nv v≤d - 1:=by
      rcases ht with h | h
      ·omega
      ·have h1:=kn_step hVt hW hwl2 hhi h;rw [←Zte hV] at h1;omega
     have hh2:high=(d - 1)*gN v (n - 1)+(r+gN v (n - 1)):=by
      obtain⟨d',rfl⟩:∃d',d=d'+1:=⟨d - 1,zo⟩;rw [Zum,hhi,Zri,Zsh];omega
     (repeat' (first|(with_reducible first|refine stp ?_|apply gx1|apply gx2|apply gx3|apply gx4|apply gx5|apply gx6|apply gx7|apply gy8|apply gz2|apply gz3|refine Zmy (ct hr) ?_)|(with_reducible refine Zb1 ?_;intro _)|((with_reducible refine gE ?_);(try simp (disch:=omega) only [go_sem,e2,e3,e5,e6,e7,e9,e10,e11,m2,m3,m5,m7,m18,m44,m9,m10,hb,ed,ex2,hvn,Zav])<;>first|rfl|omega)|with_reducible refine Zag zd ?_|((with_reducible apply gy1);iterate 3 focus rfl)|((with_reducible apply gy2);iterate 3 focus rfl)|((with_reducible apply gy3);iterate 2 focus rfl)|((with_reducible apply gy4);iterate 1 focus rfl)|((with_reducible apply gy5);iterate 4 focus rfl)|((with_reducible apply gy5c);iterate 4 focus rfl)|((with_reducible apply gy6);iterate 4 focus rfl)|((with_reducible apply Zfo);iterate 3 focus rfl)|((with_reducible apply Zfj);iterate 1 focus rfl)|((with_reducible apply gy7);iterate 1 focus rfl)|((with_reducible apply gy9);(focus ((with_reducible refine gE ?_);(try simp (disch:=omega) only [go_sem,e2,e3,e5,e6,e7,e9,e10,e11,m2,m3,m5,m7,m18,m44,m9,m10,hb,ed,ex2,hvn,Zav])<;>rfl)))|((with_reducible apply gz1);(focus first|rfl|(simp (disch:=omega) only [go_sem,e2,e3,e5,e6,e7,e9,e10,e11,m2,m3,m5,m7,m18,m44,m9,m10,hb,ed,ex2,hvn,Zav];done)))|((with_reducible apply Zbz (Zdq []) [8] []);(focus kernel_rfl);(focus rfl);(focus kernel_rfl);(focus (simp only [Zrj,Zrr,Nat.reduceAdd];rfl)))))
     exact⟨d - 1,⟨⟨gW e2,gW e3,gW e5,gW e6,gW e7,gW e9,gW e10,gW e11⟩,gW m2,gW m3,gW m5,gW m7,gW m18,gW m44,gC,_,gC,hh2,hq2,zo,zo⟩,zo⟩
    ·obtain⟨hd,hdv⟩:d < 65536∧d*gN v (n - 2)≤r*65536+gN U' (j+n - 2):=by
      rcases Zrc r 65536 with h | h
      ·have h2:¬(65536≤d∨r*65536+gN U' (j+n - 2) < d*gN v (n - 2)):=λh2=>hgo ⟨h,h2⟩;omega
      ·exact hzz d r hhi h
     have hb:(decide (65536≤d) || decide (r*65536+gN U' (j+n - 2) < d*gN v (n - 2)))=false:=by
      rw [Zth,Zs4,Zs4];omega
     have hnear:=kn_near hV hqd (kn_exit hVt hvl2 hW hhi hvt hd hdv);have csub:=Zks (K:=44) (sv:=sv) (σ:=m) (post:=U'.drop (j+n+1)++post) (v:=v) (d:=d) hlj hwl (by rw [←hsplit];exact m44) zo (by rw [←hsplit];omega) hwL lv hd;rcases Zrc r 65536 with hr | hr
     all_goals
      (repeat' (first|(with_reducible first|refine stp ?_|apply gx1|apply gx2|apply gx3|apply gx4|apply gx5|apply gx6|apply gx7|apply gy8|apply gz2|apply gz3|refine Zmy (ct hr) ?_)|(with_reducible refine Zb1 ?_;intro _)|((with_reducible refine gE ?_);(try simp (disch:=omega) only [go_sem,e2,e3,e5,e6,e7,e9,e10,e11,m2,m3,m5,m7,m18,m44,m9,m10,hb,ex2,hvn,Zav,Za4,esub,Zrg])<;>first|rfl|omega)|with_reducible refine Zag zd ?_|((with_reducible apply gy1);iterate 3 focus rfl)|((with_reducible apply gy2);iterate 3 focus rfl)|((with_reducible apply gy3);iterate 2 focus rfl)|((with_reducible apply gy4);iterate 1 focus rfl)|((with_reducible apply gy5);iterate 4 focus rfl)|((with_reducible apply gy5c);iterate 4 focus rfl)|((with_reducible apply gy6);iterate 4 focus rfl)|((with_reducible apply Zfo);iterate 3 focus rfl)|((with_reducible apply Zfj);iterate 1 focus rfl)|((with_reducible apply gy7);iterate 1 focus rfl)|((with_reducible apply gy9);(focus ((with_reducible refine gE ?_);(try simp (disch:=omega) only [go_sem,e2,e3,e5,e6,e7,e9,e10,e11,m2,m3,m5,m7,m18,m44,m9,m10,hb,ex2,hvn,Zav,Za4,esub,Zrg])<;>rfl)))|((with_reducible apply gz1);(focus first|rfl|(simp (disch:=omega) only [go_sem,e2,e3,e5,e6,e7,e9,e10,e11,m2,m3,m5,m7,m18,m44,m9,m10,hb,ex2,hvn,Zav,Za4,esub,Zrg];done)))|((with_reducible apply Zbz (Zdq []) [10] []);(focus kernel_rfl);(focus rfl);(focus kernel_rfl);(focus (simp only [Zrj,Zrr,Nat.reduceAdd];rfl)))))
      refine Zjj csub ?_
      rintro _ _ ⟨w',b,rfl,rfl,hwl',hwL',hb1,heq⟩
      rw [hWd] at heq;have hw'p:nv w' < 65536 ^ (n+1):=by have:=Zfk hwL';rwa [hwl'] at this
      have hcase:=subDone hV hw'p hb1 heq hnear;have ej2:(j:Int) - 1=(j:Int) - 1:=rfl;rcases hcase with⟨rfl,hdq,hwm⟩ | ⟨rfl,hdq⟩
      ·have inv':=hstep w' hwl' hwL' hwm;rw [←hdq] at inv';have hdm:d%65536=d:=Zsu hd
       (repeat' (first|(with_reducible first|refine stp ?_|apply gx1|apply gx2|apply gx3|apply gx4|apply gx5|apply gx6|apply gx7|apply gy8|apply gz2|apply gz3)|(with_reducible refine Zb1 ?_;intro _)|((with_reducible refine gE ?_);(try simp (disch:=omega) only [go_sem,e2,e3,e5,e6,e7,e9,e10,e11,m2,m3,m5,m7,m18,m44,m9,m10,hql,Zbj,hdm,Zty,Int.lt_irrefl])<;>first|rfl|omega)|with_reducible refine Zag zd ?_|((with_reducible apply gy1);iterate 3 focus rfl)|((with_reducible apply gy2);iterate 3 focus rfl)|((with_reducible apply gy3);iterate 2 focus rfl)|((with_reducible apply gy4);iterate 1 focus rfl)|((with_reducible apply gy5);iterate 4 focus rfl)|((with_reducible apply gy5c);iterate 4 focus rfl)|((with_reducible apply gy6);iterate 4 focus rfl)|((with_reducible apply Zfo);iterate 3 focus rfl)|((with_reducible apply Zfj);iterate 1 focus rfl)|((with_reducible apply gy7);iterate 1 focus rfl)|((with_reducible apply gy9);(focus ((with_reducible refine gE ?_);(try simp (disch:=omega) only [go_sem,e2,e3,e5,e6,e7,e9,e10,e11,m2,m3,m5,m7,m18,m44,m9,m10,hql,Zbj,hdm,Zty,Int.lt_irrefl])<;>rfl)))|((with_reducible apply gz1);(focus first|rfl|(simp (disch:=omega) only [go_sem,e2,e3,e5,e6,e7,e9,e10,e11,m2,m3,m5,m7,m18,m44,m9,m10,hql,Zbj,hdm,Zty,Int.lt_irrefl];done)))|((with_reducible apply Zbz (Zdq []) [10] []);(focus kernel_rfl);(focus rfl);(focus kernel_rfl);(focus (simp only [Zrj,Zrr,Nat.reduceAdd];rfl)))))
       exact⟨j,⟨zo,g2,g3,g5,_,svo,q.set j d,U'.take j++(w'++U'.drop (j+n+1)),⟨gW e2,gW e3,gW e5,gW e6,gC⟩,gW m2,gW m3,gW m5,gC,gC,by(simp (disch:=omega) only [go_sem,Zr6]<;>repeat' first|rfl|refine⟨?_,?_⟩),inv'⟩,zo⟩
      ·have crest:=fun(σ:Mem) h=>Zl0 (σ:=σ) (K:=44) (sv:=sv) (post:=U'.drop (j+n+1)++post) (v:=v) hlj hwl' h zo (by rw [hsplit] at hl;simp only [Zro] at hl ⊢;omega) hwL' lv;have hd1:1≤d:=by rw [hdq];exact Nat.le_add_left 1 _
       have ed:(d:Int) - 1=((d - 1:Nat):Int):=zo;have one:(0:Int) < ((1:Nat):Int):=zo
       (repeat' (first|(with_reducible first|refine stp ?_|apply gx1|apply gx2|apply gx3|apply gx4|apply gx5|apply gx6|apply gx7|apply gy8|apply gz2|apply gz3)|(with_reducible refine Zb1 ?_;intro _)|((with_reducible refine gE ?_);(try simp (disch:=omega) only [go_sem,e2,e3,e5,e6,e7,e9,e10,e11,m2,m3,m5,m7,m18,m44,m9,m10,ed,one,Zav,Za4,esub,Zrg])<;>first|rfl|omega)|with_reducible refine Zag zd ?_|((with_reducible apply gy1);iterate 3 focus rfl)|((with_reducible apply gy2);iterate 3 focus rfl)|((with_reducible apply gy3);iterate 2 focus rfl)|((with_reducible apply gy4);iterate 1 focus rfl)|((with_reducible apply gy5);iterate 4 focus rfl)|((with_reducible apply gy5c);iterate 4 focus rfl)|((with_reducible apply gy6);iterate 4 focus rfl)|((with_reducible apply Zfo);iterate 3 focus rfl)|((with_reducible apply Zfj);iterate 1 focus rfl)|((with_reducible apply gy7);iterate 1 focus rfl)|((with_reducible apply gy9);(focus ((with_reducible refine gE ?_);(try simp (disch:=omega) only [go_sem,e2,e3,e5,e6,e7,e9,e10,e11,m2,m3,m5,m7,m18,m44,m9,m10,ed,one,Zav,Za4,esub,Zrg])<;>rfl)))|((with_reducible apply gz1);(focus first|rfl|(simp (disch:=omega) only [go_sem,e2,e3,e5,e6,e7,e9,e10,e11,m2,m3,m5,m7,m18,m44,m9,m10,ed,one,Zav,Za4,esub,Zrg];done)))|((with_reducible apply Zbz (Zdq []) [8] []);(focus kernel_rfl);(focus rfl);(focus kernel_rfl);(focus (simp only [Zrj,Zrr,Nat.reduceAdd];rfl)))))
       refine Zjj (crest _ (gC)) ?_
       rintro _ _ ⟨w'',c,rfl,rfl,hwl'',hwL'',hc1,heq2⟩
       have hw''p:nv w'' < 65536 ^ (n+1):=by have:=Zfk hwL'';rwa [hwl''] at this
       have hVp:nv v≤65536 ^ (n+1):=by
        have h1:=Zfk lv;rw [hvn] at h1;have h2:65536 ^ n≤65536 ^ (n+1):=Zsy zo zo;omega
       have hwm:=resDone hV hVp hw''p hc1 (by rw [←hdq];exact heq) heq2;have inv':=hstep w'' hwl'' hwL'' hwm;have hdq2:d - 1=W/nv v:=by rw [hdq,Zum]
       rw [←hdq2] at inv';have hdm:(d - 1)%65536=d - 1:=Zsu zo
       (refine wkad (w_19 e2 e3 e5 e6 e7 e9 e10 e11 m2 m3 m5 m7 m18 m44 m9 m10 hql @Zbj hdm) w_t w_t (w_s ?_);intros)
       exact⟨j,⟨zo,g2,g3,g5,_,svo,q.set j (d - 1),U'.take j++(w''++U'.drop (j+n+1)),⟨gW e2,gW e3,gW e5,gW e6,gC⟩,gW m2,gW m3,gW m5,gC,gC,by(simp (disch:=omega) only [go_sem,Zr6]<;>repeat' first|rfl|refine⟨?_,?_⟩),inv'⟩,zo⟩
   ·exact⟨⟨gW e2,gW e3,gW e5,gW e6,gW e7,gC,gC,gC⟩,gW m2,gW m3,gW m5,gW m7,gW m18,gW m44,gC,_,gC,zo,hinit,zo,zo⟩
 ·refine⟨Zq0 _,_,_,_,_,_,List.replicate (U.length - n) 0,U,⟨gC,gC,gC,gC,gC⟩,gC,gC,gC,gC,gC,gW h44,⟨by rw [hvn];simp,Lm.zeros _,λ_ _=>Zf1 _ _,rfl,lU,?_,hlt⟩⟩;rw [Zr4 zs];simp [nv]
theorem Zp1 (i:Nat):i < 2 ^ len8 i:=by
 unfold len8;split
 ·rename_i h;subst h;decide
 ·exact Nat.lt_log2_self
theorem len16_lt (x:Nat):x < 2 ^ Zdu x:=by
 unfold Zdu;split
 ·have:=Zp1 (x/256);rw [Zst];have e:(2:Nat) ^ 8=256:=rfl;omega
 ·exact Zp1 x
theorem Zmg (a:List Nat):u16s a++[.v (.int .u16 0),.v (.int .u16 0)]=u16s (a++[0,0]):=by simp [u16s]
theorem Wk.three {a a' b b' c:AV} (h1:Wk a a') (h2:Wk b b'):Wk (.tup [a,b,c]) (.tup [a',b',c]):=by
 refine .tup _ _ rfl λj x y h3 h4=>?_
 match j with
 | 0=>simp at h3 h4;subst h3;subst h4;exact h1
 | 1=>simp at h3 h4;subst h3;subst h4;exact h2
 | 2=>simp at h3 h4;subst h3;subst h4;exact .refl _
 | j+3=>simp at h3
theorem Zlh {b s n:Nat} (h0:b≠0) (hn:(toL b).length=n) (hs:s=16 - Zdu (gN (toL b) (n - 1))):(toL (b*2 ^ s)).length=n:=by
 have h1:=(Zdl h0).1;have ht:=Zbm (Zba b) (n - 1);have hbd:=Zjp ht;have hlt:=len16_lt (gN (toL b) (n - 1));have hp:=Zuo s;have h3:(toL b).length≤(toL (b*2 ^ s)).length:=Za9 (Zt6 _ hp)
 have h4:(toL (b*2 ^ s)).length≤n:=by
  rw [Zal];have h5:=Za6 (toL b) (n - 1);rw [Za0,Zbe,show n - 1+1=n by omega,Zr4 zo] at h5;simp only [nv,Zta,Zr2] at h5;have h6:=Ze1 (Zba b) (n - 1);generalize gN (toL b) (n - 1)=t at *
  have h7:b < 65536 ^ (n - 1)*2 ^ Zdu t:=by
   have h10:65536 ^ (n - 1)*(t+1)≤65536 ^ (n - 1)*2 ^ Zdu t:=Ztn _ hlt;rw [Zrp,Ztu] at h10;omega
  have h8:b*2 ^ s < 65536 ^ (n - 1)*2 ^ Zdu t*2 ^ s:=Zu6 h7 hp
  have h9:2 ^ Zdu t*2 ^ s=65536:=by
   rw [←Zst,hs,show Zdu t+(16 - Zdu t)=16 by omega]
  rw [Zr1,h9,←Zs5,Nat.succ_eq_add_one,show n - 1+1=n by omega] at h8;exact h8
 omega
theorem Zpw (a b:List Nat) (ha:a.length≤2000000000000) (hb:b.length≤2000000000000) (la:Lm a) (lb:Lm b) (h0:nv b≠0):Pure prog 73 [lim a,lim b] (.tup [lim (toL (nv a/nv b)),lim (toL (nv a%nv b)),.v (.int .i64 0)]):=by
 have h1:=Zaq la;have h2:=Zaq lb;have va:=Za0 (nv a);have vb:=Za0 (nv b);have ma:=Zba (nv a);have mb:=Zba (nv b);obtain⟨hb1,hb2⟩:=Zdl h0;have cc:=natCmp (toL (nv a)) (toL (nv b)) zo zo ma mb;rw [va,vb] at cc;by_cases hlt:nv a < nv b
 ·rw [show toL (nv a/nv b)=[] by rw [Zuv hlt,Zay],Zsu hlt];refine Pure.wk ?_ (Wk.three (.nil 1) (.refl _));have hcm:cmpN (nv a) (nv b)=-1:=Zqv hlt;have cn:=Zl1 (toL (nv a)) zo ma;rw [va] at cn;refine Zab (tok:=0) (rs:=[.tmp 4,.tmp 5,.tmp 6]) func73 rfl ntmps73 results73 call73 zr zs ?_
  (refine wkvp (w_1 hcm) (w_4 (Za7 a zo la) (Za7 b zo lb) cc cn) (w_s ?_);intros)
  simp (disch:=omega) only [go_sem]
 ·have hcm:0≤cmpN (nv a) (nv b):=by unfold cmpN;rw [Zqw hlt];split<;>omega
  by_cases hone:(toL (nv b)).length=1
  ·have e0:nv b=gN (toL (nv b)) 0:=by
    have:=Za6 (toL (nv b)) 0;rw [Zbe,Zr4 zo,vb] at this
    simpa [nv] using this
   have gb:=Zbm mb 0;have cb:=Zpx (toL (nv a)) (gN (toL (nv b)) 0) zo ma zo gb;rw [va,←e0] at cb;have hr:=Zrv (nv a) (Zuh h0);have co:=natOf (nv a%nv b) zo;refine Zab (tok:=0) (rs:=[.tmp 4,.tmp 5,.tmp 6]) func73 rfl ntmps73 results73 call73 zr zs ?_;have wr:IntKind.u64.wrap ((nv a%nv b:Nat):Int)=((nv a%nv b:Nat):Int):=Zd1 (Zu5 _) zo
   (refine wkvp (w_3 hone (Eq.symm e0) wr) (w_5 (Za7 a zo la) (Za7 b zo lb) cc cb co) (w_s ?_);intros)
   simp (disch:=omega) only [go_sem]
  ·
   obtain⟨n,hn⟩:∃n,(toL (nv b)).length=n:=⟨_,rfl⟩;rw [hn] at hb1 hb2 hone h2;have ht:=Zbm mb (n - 1);have hbd:=Zjp ht;obtain⟨s,hs⟩:∃s,16 - Zdu (gN (toL (nv b)) (n - 1))=s:=⟨_,rfl⟩;have hs15:s≤15:=zo;have hvl:=Zlh h0 hn hs.symm;have ha0:nv a≠0:=zo;have hab:n≤(toL (nv a)).length:=by rw [←hn];exact Za9 zo
   have clz:=bitsLz16 (gN (toL (nv b)) (n - 1)) ht;rw [hs] at clz;have en:(n:Int) - 1=((n - 1:Nat):Int):=zo;have hp:=Zuo s;obtain⟨A,hA⟩:∃A,toL (nv a)=A:=⟨_,rfl⟩;rw [hA] at va ma h1 hab cc;have hVlen:A.length≤(toL (nv a*2 ^ s)).length:=by rw [←hA];exact Za9 (Zt6 _ hp)
   have hV2:nv a*2 ^ s < 65536 ^ (A.length+1):=by
    have h3:=Zfk ma;rw [va] at h3;have h4:(2:Nat) ^ s≤2 ^ 16:=Zsy zo zo;rw [Zs5];exact Zss (Zu6 h3 hp) (Ztn _ h4)
   have hVlen2:(toL (nv a*2 ^ s)).length≤A.length+1:=Zal.2 hV2
   have hdl:nv a*2 ^ s/65536 ^ (A.length+1 - n) < nv b*2 ^ s:=by
    rw [Zte (Nat.pow_pos zo)];have h3:=Zfk ma;rw [va] at h3
    have h5:65536 ^ (n - 1)≤nv b:=by
     rcases Zrc (nv b) (65536 ^ (n - 1)) with h | h
     ·have:=Zal.2 h;omega
     ·exact h
    have h6:65536 ^ A.length=65536 ^ (n - 1)*65536 ^ (A.length+1 - n):=by rw [←Zst];congr 1;omega
    have h7:65536 ^ (n - 1)*65536 ^ (A.length+1 - n)≤nv b*65536 ^ (A.length+1 - n):=Zrk _ h5;have h8:nv a < nv b*65536 ^ (A.length+1 - n):=zo;have h9:=Zu6 h8 hp
    rwa [Nat.mul_right_comm] at h9
   have qe:nv a*2 ^ s/(nv b*2 ^ s)=nv a/nv b:=Nat.mul_div_mul_right _ _ hp;have re:nv a*2 ^ s%(nv b*2 ^ s)=(nv a%nv b)*2 ^ s:=Nat.mul_mod_mul_right _ _ _;have cv:=natShl (toL (nv b)) s zo mb zo;rw [vb] at cv;refine Zab (tok:=0) (rs:=[.tmp 4,.tmp 5,.tmp 6]) func73 rfl ntmps73 results73 call73 zr zs ?_
   (refine wkvp (w_3 hn hA en) (w_4 (Za7 a zo la) (Za7 b zo lb) cc clz) (w_s ?_);intros)
   refine Zjj (Zkt _ A s zo ma zo (by rw [va];exact ha0)) ?_
   rintro _ _ ⟨sv,o,rfl,rfl,hol,hLo,hov⟩
   rw [va] at hov;rw [va];have hlen:=Zaq hLo;rw [hov] at hlen;obtain⟨L,hL⟩:∃L,o.take (toL (nv a*2 ^ s)).length++[0,0]=L:=⟨_,rfl⟩;have hLl:L.length=(toL (nv a*2 ^ s)).length+2:=by rw [←hL,Zro,Zrd];simp;omega
   have hot:o.take (toL (nv a*2 ^ s)).length=toL (nv a*2 ^ s):=by
    obtain⟨k,h3,h4⟩:=Zi5 hLo;rw [hov] at h4;have h5:k=(toL (nv a*2 ^ s)).length:=by rw [←h4,Zrd];omega
    rw [←h5,h4]
   have hLn:nv L=nv a*2 ^ s:=by rw [←hL,hot,Zdc,Za0];simp [nv]
   have hLL:Lm L:=by rw [←hL,hot];exact(Zba _).append λy hy=>by simp at hy;omega
   have hes:u16s o=u16s o:=rfl;have e3:((A.length:Nat):Int)+1=((A.length+1:Nat):Int):=zo
   (refine wkvp (w_6 hol @Zmg hL hLl e3 (Eq.symm hvl)) (w_1 cv) (w_s ?_);intros)
   have hUl:(L.take (A.length+1)).length=A.length+1:=by rw [Zrd];omega
   have hUn:nv (L.take (A.length+1))=nv a*2 ^ s:=by
    have h3:=Za6 L (A.length+1);rw [hLn] at h3;rcases Zr5 (nv (L.drop (A.length+1))) with h4 | h4
    ·rw [h4,Zta,Zr2] at h3;exact h3.symm
    ·have:=Zt6 (65536 ^ (A.length+1)) h4;omega
   rename_i sv2 sv';have vn:nv (toL (nv b*2 ^ s))=nv b*2 ^ s:=Za0 _
   have hb20:nv b*2 ^ s≠0:=by
    have:=Nat.mul_pos (Zuh h0) hp;omega
   have htop:=(Zdl hb20).2;rw [hvl] at htop;have hTD:(L.take (A.length+1))++(L.drop (A.length+1))=L:=Zsw _ _;have clong:=fun(σ:Mem) h44=>natLong σ sv' (L.take (A.length+1)) (L.drop (A.length+1)) (toL (nv b*2 ^ s)) n hvl h44 zo (by rw [hUl];omega) (by rw [hUl,Zs1];omega) (hLL.take _) (hLL.drop _) (Zba _) htop
    (by rw [hUl,←Zpv (hLL.take _),hUn,vn];exact hdl)
   rw [hUl,hUn,vn,qe,re] at clong;refine Zjj (clong _ (by rw [hTD];(simp (disch:=omega) only [go_sem,Zmg,hL]<;>repeat' first|rfl|refine⟨?_,?_⟩))) ?_
   rintro _ σ' ⟨U',rfl,h44',hUl',hUL',hUn'⟩
   have ct:=Za7 U' zo hUL';rw [hUn'] at ct;have htk:(U'++L.drop (A.length+1)).take (A.length+1)=U':=by rw [←hUl'];exact List.take_left
   rcases Zr5 s with hs0 | hs0
   ·subst hs0;have cr:=natShl (toL ((nv a%nv b)*2 ^ 0)) 0 (by have:=Zaq hUL';rw [hUn'] at this;omega) (Zba _) zo;rw [Za0,Nat.pow_zero,Ztu,Ztu] at cr;rw [Nat.pow_zero,Ztu] at ct;have ez:(0:Int) - ((0:Nat):Int)=((0:Nat):Int):=zo
    (repeat' (first|(with_reducible first|refine stp ?_|apply gx1|apply gx2|apply gx3|apply gx4|apply gx5|apply gx6|apply gx7|apply gw1 (ct)|refine gw0 (cr) ?_ ?_)|(with_reducible refine Zb1 ?_;intro _)|((with_reducible refine gE ?_);(try simp (disch:=omega) only [go_sem,h44',htk,Zrg,Ztk,Zsr,ez])<;>first|rfl|omega)|with_reducible refine Zag zd ?_))
    simp (disch:=omega) only [go_sem]
   ·have cr:=natShr (toL ((nv a%nv b)*2 ^ s)) s (by have:=Zaq hUL';rw [hUn'] at this;omega) (Zba _) hs0 zo;rw [Za0,Nat.mul_div_cancel _ hp] at cr;have ez:(0:Int) - (s:Int)=-(s:Int):=zo
    (repeat' (first|(with_reducible first|refine stp ?_|apply gx1|apply gx2|apply gx3|apply gx4|apply gx5|apply gx6|apply gx7|apply gw1 (ct)|refine gw0 (cr) ?_ ?_)|(with_reducible refine Zb1 ?_;intro _)|((with_reducible refine gE ?_);(try simp (disch:=omega) only [go_sem,h44',htk,Zrg,Ztk,Zsr,ez])<;>first|rfl|omega)|with_reducible refine Zag zd ?_))
    simp (disch:=omega) only [go_sem]
theorem natGcd (a b:List Nat) (ha:a.length≤2000000000000) (hb:b.length≤2000000000000) (la:Lm a) (lb:Lm b):Pure prog 47 [lim a,lim b] (lim (toL (Nat.gcd (nv a) (nv b)))):=by
 have h1:=Zaq la;have h2:=Zaq lb
 have cu:∀x:Nat,(toL x).length≤2000000000000→Pure prog 71 [lim (toL x)] (.tup [.v (.int .u64 (if x < 18446744073709551616 then (x:Int) else 0)),.v (.bool (decide (x < 18446744073709551616)))]):=by
  intro x hx;have:=natUint (toL x) zo (Zba x)
  rwa [Za0] at this
 have cd:∀x y:Nat,(toL x).length≤2000000000000→(toL y).length≤2000000000000→y≠0→Pure prog 73 [lim (toL x),lim (toL y)] (.tup [lim (toL (x/y)),lim (toL (x%y)),.v (.int .i64 0)]):=by
  intro x y hx hy h0;have:=Zpw (toL x) (toL y) hx hy (Zba x) (Zba y) (by rw [Za0];exact h0)
  rwa [Za0,Za0] at this
 refine Zab (tok:=0) (rs:=[.tmp 4]) func47 rfl ntmps47 results47 call47 zr zs ?_
 (refine wkvp w_t (w_2 (Zl1 a zo la) (Zl1 b zo lb)) (w_s ?_);intros)
 refine Zai (ι:=Nat) (λy e m=>∃x,(e 0=lim (toL x)∧e 1=lim (toL y))∧(toL x).length≤2000000000000∧(toL y).length≤2000000000000∧Nat.gcd x y=Nat.gcd (nv a) (nv b)) (λy=>y) (nv b) zr ?_ ?_
 ·rintro y e m ⟨x,⟨e0,e1⟩,hx,hy,hg⟩
  rcases Zr5 y with h0 | h0
  ·subst h0;have hl:=Zco.2 (rfl:(0:Nat)=0);rw [Nat.gcd_zero_right] at hg
   (refine wkvp (w_3 e0 e1 hl) w_t (w_s ?_);intros)
   simp (disch:=omega) only [go_sem,hg]
  ·have hl:0 < (toL y).length:=by
    have:=(Zdl (show y≠0 by omega)).1;omega
   by_cases hs:x < 18446744073709551616∧y < 18446744073709551616
   ·obtain⟨hsx,hsy⟩:=hs;have dx:decide (x < 18446744073709551616)=true:=Zqz hsx;have dy:decide (y < 18446744073709551616)=true:=Zqz hsy
    (repeat' (first|(with_reducible first|refine stp ?_|apply gx1|apply gx2|apply gx3|apply gx4|apply gx5|apply gx6|apply gx7|refine gw0 (cu x hx) ?_ ?_|refine gw0 (cu y hy) ?_ ?_)|(with_reducible refine Zb1 ?_;intro _)|((with_reducible refine gE ?_);(try simp (disch:=omega) only [go_sem,e0,e1,Zqv hsx,Zqv hsy,dx,dy])<;>first|rfl|omega)|with_reducible refine Zag zd ?_))
    refine Zai (ι:=Nat) (λY e m=>∃X:Nat,(e 5=.v (.int .u64 (X:Int))∧e 7=.v (.int .u64 (Y:Int)))∧X < 18446744073709551616∧Y < 18446744073709551616∧Nat.gcd X Y=Nat.gcd (nv a) (nv b)) (λY=>Y) y zr ?_ ?_
    ·rintro Y e m ⟨X,⟨e5,e7⟩,hX,hY,hg2⟩
     rcases Zr5 Y with h3 | h3
     ·subst h3;rw [Nat.gcd_zero_right] at hg2;have co:=natOf X hX;rw [hg2] at co;rw [hg2] at e5
      (refine wkvp (w_3 e5 e7 @Zty) (w_1 co) (w_s ?_);intros)
      simp (disch:=omega) only [go_sem]
     ·have hn:(Y:Int)≠0:=zo;have hm:=Zrv X h3
      (refine wkad (w_4 e5 e7 @Zdn hn) w_t w_t (w_s ?_);intros)
      exact⟨X%Y,⟨Y,⟨gC,gC⟩,hY,zo,by rw [←hg2,Zt7 X Y,Nat.gcd_rec Y X,Zt7]⟩,hm⟩
    ·exact⟨x,⟨gC,gC⟩,hsx,hsy,hg⟩
   ·have hm:=Zrv x h0;have hml:(toL (x%y)).length≤2000000000000:=Zrn (Za9 (Nat.le_of_lt hm)) hy
    have hdd:(decide (x < 18446744073709551616) && decide (y < 18446744073709551616))=false:=by
     rw [Bool.and_eq_false_iff,Zs4,Zs4];omega
    have hgg:Nat.gcd y (x%y)=Nat.gcd (nv a) (nv b):=by rw [←hg,Zt7 x y,Nat.gcd_rec y x,Zt7]
    by_cases hsx:x < 18446744073709551616
    ·have hsy:¬y < 18446744073709551616:=λh=>hs ⟨hsx,h⟩;have dx:decide (x < 18446744073709551616)=true:=Zqz hsx;have dy:decide (y < 18446744073709551616)=false:=Zqy hsy
     (repeat' (first|(with_reducible first|refine stp ?_|apply gx1|apply gx2|apply gx3|apply gx4|apply gx5|apply gx6|apply gx7|refine gw0 (cu x hx) ?_ ?_|refine gw0 (cu y hy) ?_ ?_|refine gw0 (cd x y hx hy zo) ?_ ?_)|(with_reducible refine Zb1 ?_;intro _)|((with_reducible refine gE ?_);(try simp (disch:=omega) only [go_sem,e0,e1,Zqv hsx,Zqw hsy,dx,dy])<;>first|rfl|omega)|with_reducible refine Zag zd ?_))
     exact⟨x%y,⟨y,⟨gW e1,gC⟩,hy,hml,hgg⟩,hm⟩
    ·have dx:decide (x < 18446744073709551616)=false:=Zqy hsx;by_cases hsy:y < 18446744073709551616
     ·have dy:decide (y < 18446744073709551616)=true:=Zqz hsy
      (repeat' (first|(with_reducible first|refine stp ?_|apply gx1|apply gx2|apply gx3|apply gx4|apply gx5|apply gx6|apply gx7|refine gw0 (cu x hx) ?_ ?_|refine gw0 (cu y hy) ?_ ?_|refine gw0 (cd x y hx hy zo) ?_ ?_)|(with_reducible refine Zb1 ?_;intro _)|((with_reducible refine gE ?_);(try simp (disch:=omega) only [go_sem,e0,e1,Zqw hsx,Zqv hsy,dx,dy])<;>first|rfl|omega)|with_reducible refine Zag zd ?_))
      exact⟨x%y,⟨y,⟨gW e1,gC⟩,hy,hml,hgg⟩,hm⟩
     ·have dy:decide (y < 18446744073709551616)=false:=Zqy hsy
      (repeat' (first|(with_reducible first|refine stp ?_|apply gx1|apply gx2|apply gx3|apply gx4|apply gx5|apply gx6|apply gx7|refine gw0 (cu x hx) ?_ ?_|refine gw0 (cu y hy) ?_ ?_|refine gw0 (cd x y hx hy zo) ?_ ?_)|(with_reducible refine Zb1 ?_;intro _)|((with_reducible refine gE ?_);(try simp (disch:=omega) only [go_sem,e0,e1,Zqw hsx,Zqw hsy,dx,dy])<;>first|rfl|omega)|with_reducible refine Zag zd ?_))
      exact⟨x%y,⟨y,⟨gW e1,gC⟩,hy,hml,hgg⟩,hm⟩
 ·exact⟨nv a,⟨gC,gC⟩,zo,zo,rfl⟩
theorem Zdo (l:List Nat) (hs:l.length≤10000000000000) (hl:Lm l):Pure prog 79 [lim l] (lim (toL (nv l))):=by
 refine Zab (tok:=0) (rs:=[.tmp 2]) func79 rfl ntmps79 results79 call79 zr zs ?_
 (refine wkvp w_t w_t (w_s ?_);intros)
 refine Zai (ι:=Nat) (λk e m=>k≤l.length∧e 0=lim l∧e 3=.v (.int .i64 (k:Int))∧∀j,k≤j→gN l j=0) (λk=>k) l.length zr ?_ ?_
 ·rintro k e m ⟨hk,e0,e3,hz⟩
  have gl:=Zbm hl (k - 1);have hln:(l.take k).length=k:=by rw [Zrd];omega
  by_cases h0:k=0
  ·subst h0;have:=Zhl hl hk hz (.inl rfl)
   (refine wkvp (w_3 e0 e3 @Zej) w_t (w_s ?_);intros)
   simp (disch:=omega) only [go_sem];rw [←this];rfl
  ·by_cases h1:gN l (k - 1)=0
   ·(refine wkvp (w_2 e0 e3) w_t (w_s ?_);intros)
    exact⟨k - 1,⟨zo,gW e0,by(simp (disch:=omega) only [go_sem,e3];congr 2;omega),λj hj=>by
     rcases Zrc j k with h2 | h2
     ·rw [show j=k - 1 by omega];exact h1
     ·exact hz j h2⟩,zo⟩
   ·have:=Zhl hl hk hz (.inr zo)
    (refine wkvp (w_4 e0 e3 @Zej hln) w_t (w_s ?_);intros)
    simp (disch:=omega) only [go_sem,this]
 ·exact⟨Zq0 _,gC,gC,λj hj=>Zem hj⟩
theorem Zlq (n:Nat) (hn:n < 18446744073709551616):Pure prog 66 [.v (.int .u64 (n:Int))] (lim (toL n)):=by
 have b1:=(Zal (n:=n) (k:=4)).2 hn;refine Zab (tok:=0) (rs:=[.tmp 2]) func66 rfl ntmps66 results66 call66 zr zs ?_
 (refine wkvp w_t w_t (w_s ?_);intros)
 refine Zki (Frz.nilOwn (d:=3) 11 1 70 (gC)) ?_;refine Zai (ι:=Nat) (λk e m=>k≤n∧e 0=.v (.int .u64 (k:Int))∧∃sv l,e 3=.own 11 sv∧m 11=some (.row sv 70 1 (u16s l) 0)∧l++toL k=toL n) (λk=>k) n zr ?_ ?_
 ·rintro k e m ⟨hk,e0,sv,l,e3,em,hl⟩
  by_cases hk0:k=0
  ·subst hk0;rw [Zay,Zso] at hl
   (refine wkvp (w_3 e0 e3 @Zty) w_t (w_s ?_);intros)
   simp (disch:=omega) only [go_sem,em,hl]
  ·have b2:l.length≤(toL n).length:=by rw [←hl];simp
   have hne:k≠0:=hk0;have r1:(k:Int).tmod 65536=((k%65536:Nat):Int):=Zdn k 65536;have r2:(k:Int).tdiv 65536=((k/65536:Nat):Int):=Zdp k 65536;have r3:k%65536%65536=k%65536:=Nat.mod_mod _ _
   (refine wkvp (w_7 e0 e3 em r1 r2 @Zbj r3) w_t (w_s ?_);intros)
   refine⟨k/65536,⟨zo,gW e0,_,l++[k%65536],gC,gC,?_⟩,zo⟩;rw [←hl,Zd3 hk0];simp
 ·exact⟨Zq0 _,gC,_,[],gC,gC,by simp⟩
theorem Zmr (l:List Nat) (hs:l.length≤4) (hl:Lm l):Pure prog 88 [lim l] (.v (.int .u64 (nv l:Nat))):=by
 refine Zab (tok:=0) (rs:=[.tmp 2]) func88 rfl ntmps88 results88 call88 zr zs ?_
 (refine wkvp w_t w_t (w_s ?_);intros)
 refine Zai (ι:=Nat) (λk e m=>k≤l.length∧e 0=lim l∧e 4=.v (.int .i64 ((k:Int) - 1))∧e 3=.v (.int .u64 (nv (l.drop k):Nat))) (λk=>k) l.length zr ?_ ?_
 ·rintro k e m ⟨hk,e0,e4,e3⟩
  by_cases h0:k=0
  ·subst h0;rw [Zsr] at e3
   (refine wkvp (w_3 e0 e4 e3) w_t (w_s ?_);intros)
   simp (disch:=omega) only [go_sem]
  ·have gl:=Zbm hl (k - 1);have b1:=Zfk (hl.drop k);have b2:65536 ^ (l.drop k).length≤65536 ^ 3:=Zsy zo (by rw [Zs1];omega);have e1:(nv (l.drop k):Int)*65536=((nv (l.drop k)*65536:Nat):Int):=zo
   (refine wkvp (w_5 e0 e4 e3 e1 @Zav) w_t (w_s ?_);intros)
   refine⟨k - 1,⟨zo,gW e0,by(simp (disch:=omega) only [go_sem,e4];congr 2;omega),?_⟩,zo⟩;simp (disch:=omega) only [go_sem];rw [Zbe l (k - 1),show k - 1+1=k by omega];congr 3;omega
 ·exact⟨Zq0 _,gC,gC,by(simp (disch:=omega) only [go_sem,List.drop_length]<;>repeat' first|rfl|refine⟨?_,?_⟩)⟩
theorem Zhf (l:List Nat) (i:Nat) (hs:l.length≤10000000000000) (hl:Lm l):Pure prog 98 [lim l,.v (.int .i64 (i:Int))] (.v (.int .i64 (gN l i:Nat))):=by
 have gl:=Zbm hl i;refine Zab (tok:=0) (rs:=[.tmp 4]) func98 rfl ntmps98 results98 call98 zr zs ?_;by_cases h:i < l.length
 ·(refine wkvp w_t w_t (w_s ?_);intros)
  simp (disch:=omega) only [go_sem]
 ·have g0:gN l i=0:=Zem zo
  (refine wkvp w_t w_t (w_s ?_);intros)
  simp (disch:=omega) only [go_sem,g0];rfl
theorem refCmp (a b:List Nat) (ha:a.length≤10000000000000) (hb:b.length≤10000000000000) (la:Lm a) (lb:Lm b):Pure prog 97 [lim a,lim b] (.v (.int .i64 (cmpN (nv a) (nv b)))):=by
 have cl:=λi=>Zhf a i ha la;have cr:=λi=>Zhf b i hb lb;refine Zab (tok:=0) (rs:=[.tmp 4]) func97 rfl ntmps97 results97 call97 zr zs ?_;have hmx:max (a.length:Int) (b.length:Int)=((max a.length b.length:Nat):Int):=zo;obtain⟨M,hM⟩:∃M,max a.length b.length=M:=⟨_,rfl⟩
 (refine wkvp (w_2 hmx hM) w_t (w_s ?_);intros)
 refine Zai (ι:=Nat) (λk e m=>k≤M∧e 0=lim a∧e 1=lim b∧e 5=.v (.int .i64 ((k:Int) - 1))∧nv (a.drop k)=nv (b.drop k)) (λk=>k) M zr ?_ ?_
 ·rintro k e m ⟨hk,e0,e1,e5,hz⟩
  by_cases h0:k=0
  ·subst h0;rw [Zsr,Zsr] at hz
   (refine wkvp (w_3 e0 e1 e5) w_t (w_s ?_);intros)
   simp (disch:=omega) only [go_sem,cmpN,hz,Nat.lt_irrefl,Zrl]
  ·obtain⟨j,rfl⟩:∃j,k=j+1:=⟨k - 1,zo⟩;have ej:((j+1:Nat):Int) - 1=(j:Int):=zo;rw [ej] at e5;have ga:=Zbm la j;have gb:=Zbm lb j;by_cases p1:gN a j < gN b j
   ·have:=Zm0 la lb hz p1
    (refine wkvp (w_3 e0 e1 e5) (w_2 (cl j) (cr j)) (w_s ?_);intros)
    simp (disch:=omega) only [go_sem,cmpN,Zqv this]
   ·by_cases p2:gN b j < gN a j
    ·have:=Zm0 lb la hz.symm p2;have this2:¬nv a < nv b:=zo
     (refine wkvp (w_3 e0 e1 e5) (w_2 (cl j) (cr j)) (w_s ?_);intros)
     simp (disch:=omega) only [go_sem,cmpN,Zqv this,Zqw this2]
    ·(refine wkvp (w_3 e0 e1 e5) (w_2 (cl j) (cr j)) (w_s ?_);intros)
     refine⟨j,⟨zo,gW e0,gW e1,gW e5,?_⟩,zo⟩;rw [Zbe,Zbe b,hz];omega
 ·refine⟨Zq0 _,gC,gC,gC,?_⟩;rw [Zr4 zo,Zr4 zo]
theorem refSub (a b:List Nat) (ha:a.length≤10000000000000) (hb:b.length≤10000000000000) (la:Lm a) (lb:Lm b) :
 Pure prog 90 [lim a,lim b] (.tup [lim (if nv a < nv b then [] else toL (nv a - nv b)),.v (.int .i64 (if nv a < nv b then 2 else 0))]):=by
 have cl:=λi=>Zhf a i ha la;have cr:=λi=>Zhf b i hb lb;have cc:=refCmp a b ha hb la lb;by_cases hlt:nv a < nv b
 ·rw [Zqv hlt,Zqv hlt];refine Pure.wk ?_ (okTup rfl);refine Zab (tok:=0) (rs:=[.tmp 4,.tmp 5]) func90 rfl ntmps90 results90 call90 zr zs ?_;have hc:cmpN (nv a) (nv b)=-1:=by unfold cmpN;rw [Zqv hlt]
  (refine wkvp (w_1 hc) (w_1 cc) (w_s ?_);intros)
  simp (disch:=omega) only [go_sem]
 ·rw [Zqw hlt,Zqw hlt];have hc:0≤cmpN (nv a) (nv b):=by unfold cmpN;rw [Zqw hlt];split<;>omega
  refine Zab (tok:=0) (rs:=[.tmp 4,.tmp 5]) func90 rfl ntmps90 results90 call90 zr zs ?_
  (refine wkvp w_t (w_1 cc) (w_s ?_);intros)
  refine Zki (Frz.nilOwn (d:=6) 37 1 70 (gC)) ?_;refine Zai (ι:=Nat) (λk e m=>k≤a.length∧(e 0=lim a∧e 1=lim b∧e 8=.v (.int .i64 (k:Int)))∧∃sv o r,(e 6=.own 37 sv∧e 7=.v (.int .i64 (r:Nat))∧m 37=some (.row sv 70 1 (u16s o) 0))∧o.length=k∧Lm o∧r≤1∧nv o+nv (b.take k)=nv (a.take k)+65536 ^ k*r) (λk=>a.length - k) 0 zr ?_ ?_
  ·rintro k e m ⟨hk,⟨e0,e1,e8⟩,sv,o,r,⟨e6,e7,em⟩,hol,hLo,hr,hv⟩
   have ga:=Zbm la k;have gb:=Zbm lb k;by_cases hlt2:k < a.length
   ·have step:∀(d r':Nat),d+r+gN b k=gN a k+65536*r'→d < 65536→r'≤1→(o++[d]).length=k+1∧Lm (o++[d])∧r'≤1∧nv (o++[d])+nv (b.take (k+1))=nv (a.take (k+1))+65536 ^ (k+1)*r':=by
     intro d r' hd h3 h4;have:=sub_step hv hd;have nvs:nv (o++[d])=nv o+65536 ^ k*d:=by rw [Zdc,hol];simp [nv]
     rw [nvs,Zaw,Zaw,Zs5];exact⟨by simp [hol],hLo.append (Lm.one h3),h4,this⟩
    by_cases hneg:gN a k < gN b k+r
    ·have hs:=step (gN a k+65536 - gN b k - r) 1 zo zo zo;have w:(gN a k:Int) - gN b k - r+65536=((gN a k+65536 - gN b k - r:Nat):Int):=zo
     (refine wkvp (w_8 e0 e1 e8 e6 e7 em hol w) (w_2 (cl k) (cr k)) (w_s ?_);intros)
     exact⟨k+1,⟨zo,⟨gW e0,gW e1,gV e8⟩,_,_,1,⟨gC,gC,gC⟩,hs⟩,zo⟩
    ·have hs:=step (gN a k - gN b k - r) 0 zo zo zo;have w:(gN a k:Int) - gN b k - r=((gN a k - gN b k - r:Nat):Int):=zo
     (refine wkvp (w_8 e0 e1 e8 e6 e7 em hol w) (w_2 (cl k) (cr k)) (w_s ?_);intros)
     exact⟨k+1,⟨zo,⟨gW e0,gW e1,gV e8⟩,_,_,0,⟨gC,gC,gC⟩,hs⟩,zo⟩
   ·have hka:k=a.length:=zo;have hbs:=Za6 b k;have hno:=Zfk hLo;rw [hol] at hno;rw [Zb3 (l:=a) zo] at hv
    have hno2:nv o=nv a - nv b:=by
     have hbd:nv (b.drop k)=0:=by
      rcases Zr5 (nv (b.drop k)) with h3 | h3
      ·exact h3
      ·have h4:=Zt6 (65536 ^ k) h3;have h5:=Zfk la;rw [←hka] at h5;omega
     rw [hbd,Zta,Zr2] at hbs
     have hr0:r=0:=by
      rcases Zr5 r with h3 | h3
      ·exact h3
      ·have:r=1:=zo;subst this;omega
     subst hr0;omega
    (repeat' (first|(with_reducible first|refine stp ?_|apply gx1|apply gx2|apply gx3|apply gx4|apply gx5|apply gx6|apply gx7|apply gw1 (Zdo o zo hLo))|(with_reducible refine Zb1 ?_;intro _)|((with_reducible refine gE ?_);(try simp (disch:=omega) only [go_sem,e0,e1,e8,e6,e7,em])<;>first|rfl|omega)|with_reducible refine Zag zd ?_))
    simp (disch:=omega) only [go_sem,hno2]
  ·exact⟨Zre _,⟨gC,gC,gC⟩,_,[],0,⟨gC,gC,gC⟩,rfl,Lm.nil,zo,by simp [nv]⟩
def valL (l:List Nat):Bool:=decide (l.length=0) || !decide (gN l (l.length - 1)=0)
theorem valL_iff {l:List Nat} (h:Lm l):valL l=true↔l=toL (nv l):=by
 unfold valL;constructor
 ·intro h1;refine canon h ?_;simp only [Zsk,Zrs,Zsp,Zs4] at h1;rcases h1 with h1 | h1
  ·exact .inl (Zti h1)
  ·exact .inr zo
 ·intro h1;by_cases h0:nv l=0
  ·rw [h0,Zay] at h1;subst h1;rfl
  ·obtain⟨h2,h3⟩:=Zdl h0;rw [←h1] at h2 h3;simp only [Zsk,Zrs,Zsp,Zs4];exact .inr zo
theorem Zmq (l:List Nat) (hs:l.length≤10000000000000) (hl:Lm l):Pure prog 63 [lim l] (.v (.bool (valL l))):=by
 refine Zab (tok:=0) (rs:=[.tmp 2]) func63 rfl ntmps63 results63 call63 zr zs ?_;have gl:=Zbm hl (l.length - 1);unfold valL;by_cases h0:l.length=0
 ·(refine wkvp (w_1 h0) w_t (w_s ?_);intros)
  simp (disch:=omega) only [go_sem,h0]
 ·by_cases h1:gN l (l.length - 1)=0
  ·(refine wkvp (w_2 h1 @Zty) w_t (w_s ?_);intros)
   simp (disch:=omega) only [go_sem,h0,h1]
  ·(refine wkvp w_t w_t (w_s ?_);intros)
   simp (disch:=omega) only [go_sem,h0,h1]
theorem refSameN (a b:List Nat) (ha:a.length≤10000000000000) (hb:b.length≤10000000000000) (la:Lm a) (lb:Lm b):Pure prog 64 [lim a,lim b] (.v (.bool (decide (a=b)))):=by
 refine Zab (tok:=0) (rs:=[.tmp 4]) func64 rfl ntmps64 results64 call64 zr zs ?_;by_cases hl:a.length=b.length
 ·(refine wkvp (w_1 hl) w_t (w_s ?_);intros)
  refine Zai (ι:=Nat) (λk e m=>k≤a.length∧(e 0=lim a∧e 1=lim b∧e 5=.v (.int .i64 (k:Int)))∧∀j,j < k→gN a j=gN b j) (λk=>a.length - k) 0 zr ?_ ?_
  ·rintro k e m ⟨hk,⟨e0,e1,e5⟩,hs⟩
   by_cases hlt:k < a.length
   ·by_cases p:gN a k=gN b k
    ·(refine wkad (w_3 e0 e1 e5) w_t w_t (w_s ?_);intros)
     exact⟨k+1,⟨zo,⟨gW e0,gW e1,gV e5⟩,λj hj=>by
      rcases Zrc j k with h1 | h1
      ·exact hs j h1
      ·rw [show j=k by omega];exact p⟩,zo⟩
    ·have hne:decide (a=b)=false:=Zqy λh=>p (by rw [h])
     (refine wkad (w_3 e0 e1 e5) w_t w_t (w_s ?_);intros)
     simp (disch:=omega) only [go_sem,hne]
   ·have he:decide (a=b)=true:=Zqz (List.ext_getElem hl λj h1 h2=>by
     have:=hs j zo
     rwa [gN_at h1,gN_at h2] at this)
    (refine wkad (w_3 e0 e1 e5) w_t w_t (w_s ?_);intros)
    simp (disch:=omega) only [go_sem,he]
  ·exact⟨Zre _,⟨gC,gC,gC⟩,λj hj=>zo⟩
 ·have hne:decide (a=b)=false:=Zqy λh=>hl (by rw [h])
  (refine wkvp w_t w_t (w_s ?_);intros)
  simp (disch:=omega) only [go_sem,hne]
theorem refMul (a b:List Nat) (ha:a.length≤4000000000000) (hb:b.length≤4000000000000) (la:Lm a) (lb:Lm b):Pure prog 91 [lim a,lim b] (lim (toL (nv a*nv b))):=by
 have cr:=λi=>Zhf b i zo lb;refine Zab (tok:=0) (rs:=[.tmp 4]) func91 rfl ntmps91 results91 call91 zr zs ?_
 (refine wkvp (w_2 @Zav @Za4) w_t (w_s ?_);intros)
 refine Zai (ι:=Nat) (λi e m=>i≤a.length∧(e 0=lim a∧e 1=lim b∧e 6=.v (.int .i64 i))∧∃sv o,(e 5=.own 16 sv∧m 16=some (.row sv 70 1 (u16s o) 0))∧o.length=a.length+b.length+1∧Lm o∧(∀j,i+b.length≤j→gN o j=0)∧nv o=nv (a.take i)*nv b) (λi=>a.length - i) 0 zr ?_ ?_
 ·rintro i e m ⟨hi,⟨e0,e1,e6⟩,sv,o,⟨e5,em⟩,hol,hLo,hz,hv⟩
  by_cases hlt:i < a.length
  ·have gx:=Zbm la i
   (refine wkvp (w_7 e0 e1 e6 e5 em hol @Zav) w_t (w_s ?_);intros)
   refine Zai (ι:=Nat) (λk e' m'=>k≤b.length+1∧(e' 0=lim a∧e' 1=lim b∧e' 6=.v (.int .i64 i)∧e' 8=.v (.int .i64 k)∧e' 5=.own 16 sv)∧∃o' c,(e' 7=.v (.int .u64 (c:Nat))∧m' 16=some (.row sv 70 1 (u16s o') 0))∧o'.length=a.length+b.length+1∧Lm o'∧c < 65536∧(b.length < k→c=0)∧(∀j,i+max b.length k≤j→gN o' j=0)∧nv o'+65536 ^ (i+k)*c=nv o+65536 ^ i*nv (b.take k)*gN a i) (λk=>b.length+1 - k) 0 zr ?_ ?_
   ·rintro k e m ⟨hk,⟨e0,e1,e6,e8,e5⟩,o',c,⟨e7,em⟩,hol',hLo',hc,hcz,hz',hv'⟩
    have gy:=Zbm lb k;have go:=Zbm hLo' (i+k);have bd:=Zm1 gx gy;by_cases hgo:k < b.length∨0 < c
    ·have hkb:k≤b.length:=by
      rcases hgo with h | h
      ·omega
      ·rcases Zrc b.length k with h2 | h2
       ·have:=hcz h2;omega
       ·exact h2
     have hs:=mul_step (x:=gN a i) (y:=gN b k) rfl (Zpu (o:=o') (j:=i+k) zo _) hv';rw [←mul_part,←Zaw,←Zs5,Nat.succ_eq_add_one,Nat.add_assoc i] at hs;have ecomm:gN o' (i+k)+gN a i*gN b k+c=c+(gN o' (i+k)+gN a i*gN b k):=zo
     have hcz2:b.length < k+1→(c+(gN o' (i+k)+gN a i*gN b k))/65536=0:=by
      intro h;have g1:gN b k=0:=Zem zo;have g2:=hz' (i+k) zo;rw [g1,g2];omega
     have w1:(c+(gN o' (i+k)+gN a i*gN b k))/65536 < 65536:=zo;have w2:(c+(gN o' (i+k)+gN a i*gN b k))%65536 < 65536:=zo;generalize hxy:gN a i*gN b k=xy at *;have r1:((c+(gN o' (i+k)+xy):Nat):Int).tmod 65536=(((c+(gN o' (i+k)+xy))%65536:Nat):Int):=Zdn _ 65536;have r2:((c+(gN o' (i+k)+xy):Nat):Int).tdiv 65536=(((c+(gN o' (i+k)+xy))/65536:Nat):Int):=Zdp _ 65536;have r3:(c+(gN o' (i+k)+xy))%65536%65536=(c+(gN o' (i+k)+xy))%65536:=Nat.mod_mod _ _;have hzz:∀j,i+max b.length (k+1)≤j→gN (o'.set (i+k) ((c+(gN o' (i+k)+xy))%65536)) j=0:=λj hj=>by
      rw [Zel zo,Zqw zo];exact hz' j zo
     by_cases h3:k < b.length
     ·(refine wkad (w_16 e0 e1 e6 e8 e5 e7 em hol' @Zav @Zf8 @Zbj hxy ecomm r1 r2 r3) (w_1 (cr k)) (w_1 (w_d 9 [(14,.v (.int .i64 (gN b k:Nat)))] [] [])) (w_s ?_);intros)
      exact⟨k+1,⟨zo,⟨gW e0,gW e1,gW e6,gS,gW e5⟩,_,_,⟨gC,gC⟩,by simpa using hol',hLo'.set _ w2,w1,hcz2,hzz,hs⟩,zo⟩
     ·have hc1:0 < c:=zo;(focus (refine wkad (w_16 e0 e1 e6 e8 e5 e7 em hol' @Zav @Zf8 @Zbj hxy ecomm r1 r2 r3) (w_1 (cr k)) (w_1 (w_d 9 [(14,.v (.int .i64 (gN b k:Nat)))] [] [])) ?_;(repeat' first|exact w_t|apply w_l);all_goals intros));exact⟨k+1,⟨zo,⟨gW e0,gW e1,gW e6,gS,gW e5⟩,_,_,⟨gC,gC⟩,by simpa using hol',hLo'.set _ w2,w1,hcz2,hzz,hs⟩,zo⟩
    ·have hc0:c=0:=zo;subst hc0;rw [Zb3 (l:=b) zo,Zta,Zr2] at hv';(focus (refine wkad (w_8 e0 e1 e6 e8 e5 e7 em @Zty) w_t w_t ?_;(repeat' first|exact w_t|apply w_l);all_goals intros));refine⟨i+1,⟨zo,⟨gW e0,gW e1,gS⟩,sv,o',⟨gW e5,gW em⟩,hol',hLo',λj hj=>hz' j zo,?_⟩,zo⟩;rw [hv',hv,Zaw,Zri];congr 1;simp only [Zr1,Zrm,Ztx]
   ·exact⟨zo,⟨gW e0,gW e1,gW e6,gC,gW e5⟩,_,0,⟨gC,gW em⟩,hol,hLo,zo,λ_=>rfl,λj hj=>hz j zo,by simp [nv]⟩
  ·have hiA:i=a.length:=zo;subst hiA;rw [Zb3 (Zq0 _)] at hv
   (repeat' (first|(with_reducible first|refine stp ?_|apply gx1|apply gx2|apply gx3|apply gx4|apply gx5|apply gx6|apply gx7|apply gw1 (Zdo o zo hLo))|(with_reducible refine Zb1 ?_;intro _)|((with_reducible refine gE ?_);(try simp (disch:=omega) only [go_sem,e0,e1,e6,e5,em,hol])<;>first|rfl|omega)|with_reducible refine Zag zd ?_))
   simp (disch:=omega) only [go_sem,hv]
 ·exact⟨Zre _,⟨gC,gC,gC⟩,_,List.replicate (a.length+b.length+1) 0,⟨gC,gC⟩,by simp,Lm.zeros _,λj hj=>Zf1 _ _,by simp [nv,Zmz]⟩
theorem refDigit (R B:Nat) (hR:(toL R).length≤3000000000000) (hB:(toL B).length≤2000000000000) (h0:0 < B) (hlt:R < B*65536):Pure prog 89 [lim (toL R),lim (toL B)] (.v (.int .u64 ((R/B:Nat):Int))):=by
 refine Zab (tok:=0) (rs:=[.tmp 4]) func89 rfl ntmps89 results89 call89 zr zs ?_
 (refine wkvp w_t w_t (w_s ?_);intros)
 refine Zai (ι:=Nat × Nat) (λp e m=>(e 0=lim (toL R)∧e 1=lim (toL B)∧e 5=.v (.int .u64 (p.1:Int))∧e 6=.v (.int .u64 (p.2:Int)))∧p.1≤p.2∧p.2≤65535∧B*p.1≤R∧R < B*(p.2+1)) (λp=>p.2 - p.1) (0,65535) zr ?_ ?_
 ·rintro ⟨lo,hi⟩ e m ⟨⟨e0,e1,e5,e6⟩,h1,h2,h3,h4⟩
  simp only at e5 e6 h1 h2 h3 h4;by_cases hlh:lo < hi
  ·obtain⟨mid,hmid⟩:∃mid,(lo+hi+1)/2=mid:=⟨_,rfl⟩;have r2:((lo+hi+1:Nat):Int).tdiv 2=((mid:Nat):Int):=by rw [←hmid];exact Zdp _ 2
   have co:=Zlq mid zo;have lm:(toL mid).length≤4:=Zal.2 zo;have cm:=refMul (toL B) (toL mid) zo zo (Zba _) (Zba _);rw [Za0,Za0] at cm
   have lbm:(toL (B*mid)).length≤10000000000000:=by
    have h5:(toL (B*mid)).length≤(toL B).length+4:=by
     rw [Zal,Zst];have h6:=Zal.1 (Zq0 (toL B).length);exact Nat.mul_lt_mul'' h6 zo
    omega
   have cc:=refCmp (toL (B*mid)) (toL R) lbm zo (Zba _) (Zba _);rw [Za0,Za0] at cc;by_cases hle:B*mid≤R
   ·have hc:cmpN (B*mid) R≤0:=by unfold cmpN;split;omega;split<;>omega
    (refine wkvp (w_8 e0 e1 e5 e6 @Zav @Za4 r2 hc) (w_3 co cm cc) (w_s ?_);intros)
    exact⟨(mid,hi),⟨⟨gW e0,gW e1,gC,gW e6⟩,zo,h2,hle,h4⟩,by simp only;omega⟩
   ·have hc:0 < cmpN (B*mid) R:=by unfold cmpN;rw [Zqw zo,Zqv zo];omega
    have em1:(mid:Int) - 1=((mid - 1:Nat):Int):=zo
    (refine wkvp (w_9 e0 e1 e5 e6 @Zav @Za4 r2 hc em1) (w_3 co cm cc) (w_s ?_);intros)
    exact⟨(lo,mid - 1),⟨⟨gW e0,gW e1,gW e5,gC⟩,by simp only;omega,by simp only;omega,h3,by simp only;rw [show mid - 1+1=mid by omega];omega⟩,by simp only;omega⟩
  ·have hh:lo=hi:=zo;subst hh;have hd:R/B=lo:=Nat.div_eq_of_lt_le (by rw [Zrm];exact h3) (by rw [Zrm];exact h4)
   (refine wkvp (w_4 e0 e1 e5 e6) w_t (w_s ?_);intros)
   simp (disch:=omega) only [go_sem,hd]
 ·exact⟨⟨gC,gC,gC,gC⟩,by simp,by simp,by simp,by simpa using hlt⟩
theorem Zj7 (x:Nat) (l:List Nat):AV.v (.int .u16 (x:Int)) :: u16s l=u16s (x :: l):=rfl
theorem Zpb (a b:List Nat) (ha:a.length≤2000000000000) (hb:b.length≤2000000000000) (la:Lm a) (lb:Lm b) (h0:nv b≠0):Pure prog 80 [lim a,lim b] (.tup [lim (toL (nv a/nv b)),lim (toL (nv a%nv b)),.v (.int .i64 0)]):=by
 have h1:=Zaq la;have h2:=Zaq lb;have va:=Za0 (nv a);have vb:=Za0 (nv b);have ma:=Zba (nv a);have mb:=Zba (nv b);have hb1:=(Zdl h0).1;have hbp:=Zuh h0;by_cases h4:(toL (nv a)).length≤4∧(toL (nv b)).length≤4
 ·obtain⟨h4a,h4b⟩:=h4;have ca:=Zmr (toL (nv a)) h4a ma;have cb:=Zmr (toL (nv b)) h4b mb;rw [va] at ca;rw [vb] at cb;have hA:=Zal.1 h4a;have hB:=Zal.1 h4b;have hq:=Zu8 (nv a) (nv b);have hr:=Nat.mod_le (nv a) (nv b);have cq:=Zlq (nv a/nv b) zo;have cr:=Zlq (nv a%nv b) zo;have wq:IntKind.u64.wrap ((nv a/nv b:Nat):Int)=((nv a/nv b:Nat):Int):=Zd1 (Zu5 _) (by
   have:((nv a/nv b:Nat):Int)≤(nv a:Int):=Int.ofNat_le.2 hq;omega)
  have hn:((nv b:Nat):Int)≠0:=zo;refine Zab (tok:=0) (rs:=[.tmp 4,.tmp 5,.tmp 6]) func80 rfl ntmps80 results80 call80 zr zs ?_
  (refine wkad (w_4 @Zdp @Zdn wq hn) (w_6 (Zdo a zo la) (Zdo b zo lb) ca cb cq cr) w_t (w_s ?_);intros)
  simp (disch:=omega) only [go_sem]
 ·have h4':((toL (nv a)).length≤4)→4 < (toL (nv b)).length:=λh=>by
   rcases Zrc 4 (toL (nv b)).length with h3 | h3
   ·exact h3
   ·exact absurd ⟨h,h3⟩ h4
  obtain⟨A,hA⟩:∃A,toL (nv a)=A:=⟨_,rfl⟩;rw [hA] at va ma h1 h4';refine Zab (tok:=0) (rs:=[.tmp 4,.tmp 5,.tmp 6]) func80 rfl ntmps80 results80 call80 zr zs ?_;rcases Zrc 4 A.length with h5 | h5
  rotate_left
  have h6:=h4' h5;all_goals
   (refine wkvp (w_1 hA) (w_2 (Zdo a zo la) (Zdo b zo lb)) (w_s ?_);intros)
   rw [hA];refine Zki (Frz.trans (Frz.nil (d:=7) 1 (gC)) (Frz.nil (d:=8) 1 (gC))) ?_;refine r_loopF (ι:=Nat) (λk e m=>k≤A.length∧(e 0=lim A∧e 1=lim (toL (nv b))∧e 9=.v (.int .i64 ((k:Int) - 1)))∧∃ql R,(e 7=lim ql∧e 8=lim (toL R))∧ql.length=A.length - k∧Lm ql∧R < nv b∧nv (A.drop k)=nv ql*nv b+R) (λk=>k) A.length zr ?_ ?_
   ·rintro k e m ⟨hk,⟨e0,e1,e9⟩,ql,R,⟨e7,e8⟩,hql,hqL,hR,hv⟩
    by_cases hk0:k=0
    ·subst hk0;rw [Zsr,va] at hv;have hq:nv ql=nv a/nv b:=by rw [hv,Zrm,Nat.mul_add_div hbp,Zuv hR,Zr2]
     have hr:R=nv a%nv b:=by rw [hv,Zrm,Nat.mul_add_mod,Zsu hR]
     have cn:=Zdo ql zo hqL;rw [hq] at cn;rw [hr] at e8
     (refine wkvp (w_5 e0 e1 e9 e7 e8) (w_1 cn) (w_s ?_);intros)
     simp (disch:=omega) only [go_sem]
    ·obtain⟨j,rfl⟩:∃j,k=j+1:=⟨k - 1,zo⟩;have ej:((j+1:Nat):Int) - 1=(j:Int):=zo;rw [ej] at e9;have gx:=Zbm ma j;have hRl:(toL R).length≤(toL (nv b)).length:=Za9 zo;have cn:=Zdo (gN A j :: toL R) (by simp;omega) (λy hy=>by
      rcases List.mem_cons.1 hy with rfl | hy
      ·exact gx
      ·exact Zba R y hy)
     have en:nv (gN A j :: toL R)=gN A j+65536*R:=by rw [nv,Za0]
     rw [en] at cn;have hX:gN A j+65536*R < nv b*65536:=zo;obtain⟨X,hXd⟩:∃X,gN A j+65536*R=X:=⟨_,rfl⟩;rw [hXd] at cn hX
     have hXl:(toL X).length≤(toL (nv b)).length+1:=by
      rw [Zal,Zs5];exact Zss hX (Zrk _ (Nat.le_of_lt (Zal.1 (Zq0 (toL (nv b)).length))))
     have cd:=refDigit X (nv b) zo zo hbp hX;have hd:X/nv b < 65536:=by rw [Zte hbp,Zrm];exact hX
     have hdm:=Zs2 X (nv b);have hml:=Zrv X hbp;have co:=Zlq (X/nv b) zo;have ld:(toL (X/nv b)).length≤1:=Zal.2 zo;have cm:=refMul (toL (nv b)) (toL (X/nv b)) zo zo (Zba _) (Zba _);rw [Za0,Za0] at cm;have hle:nv b*(X/nv b)≤X:=zo;have cs:=refSub (toL X) (toL (nv b*(X/nv b))) zo (Zrn (Za9 hle) zo) (Zba _) (Zba _);rw [Za0,Za0,Zqw zo,Zqw zo,show X - nv b*(X/nv b)=X%nv b by omega] at cs;have hcut:X/nv b%65536=X/nv b:=Zsu hd
     (repeat' (first|(with_reducible first|refine stp ?_|apply gx1|apply gx2|apply gx3|apply gx4|apply gx5|apply gx6|apply gx7|apply gw1 (cn)|refine gw0 (cd) ?_ ?_|refine gw0 (co) ?_ ?_|refine gw0 (cm) ?_ ?_|refine gw0 (cs) ?_ ?_)|(with_reducible refine Zb1 ?_;intro _)|((with_reducible refine gE ?_);(try simp (disch:=omega) only [go_sem,e0,e1,e9,e7,e8,Zj7,Zbj,hcut])<;>first|rfl|omega)|with_reducible refine Zag zd ?_))
     refine⟨j,_,Frz.own (d:=7) (gC) (gC),⟨zo,⟨gW e0,gW e1,gC⟩,X/nv b :: ql,X%nv b,⟨by(simp (disch:=omega) only [go_sem,Zj7]<;>repeat' first|rfl|refine⟨?_,?_⟩),gC⟩,by simp [hql];omega,?_,hml,?_⟩,zo⟩
     ·intro y hy;rcases List.mem_cons.1 hy with rfl | hy
      ·exact hd
      ·exact hqL y hy
     ·rw [Zbe,hv,nv,Zri,Zrp 65536,←hXd];rw [←hXd] at hdm;rw [Zrm] at hdm;have:65536*(nv ql*nv b)=65536*nv ql*nv b:=by rw [Zr1]
      omega
   ·exact⟨Zq0 _,⟨gC,gC,gC⟩,[],0,⟨by(simp (disch:=omega) only [go_sem,Zmh]<;>repeat' first|rfl|refine⟨?_,?_⟩),by(simp (disch:=omega) only [go_sem,Zay,Zmh]<;>repeat' first|rfl|refine⟨?_,?_⟩)⟩,by simp,Lm.nil,hbp,by rw [Zr4 (Zq0 _)];simp [nv]⟩
theorem refGcd (a b:List Nat) (ha:a.length≤2000000000000) (hb:b.length≤2000000000000) (la:Lm a) (lb:Lm b):Pure prog 65 [lim a,lim b] (lim (toL (Nat.gcd (nv a) (nv b)))):=by
 have h1:=Zaq la;have h2:=Zaq lb
 have cd:∀x y:Nat,(toL x).length≤2000000000000→(toL y).length≤2000000000000→y≠0→Pure prog 80 [lim (toL x),lim (toL y)] (.tup [lim (toL (x/y)),lim (toL (x%y)),.v (.int .i64 0)]):=by
  intro x y hx hy h0;have:=Zpb (toL x) (toL y) hx hy (Zba x) (Zba y) (by rw [Za0];exact h0)
  rwa [Za0,Za0] at this
 refine Zab (tok:=0) (rs:=[.tmp 4]) func65 rfl ntmps65 results65 call65 zr zs ?_
 (refine wkvp w_t (w_2 (Zdo a zo la) (Zdo b zo lb)) (w_s ?_);intros)
 refine Zai (ι:=Nat) (λy e m=>∃x,(e 0=lim (toL x)∧e 1=lim (toL y))∧(toL x).length≤2000000000000∧(toL y).length≤2000000000000∧Nat.gcd x y=Nat.gcd (nv a) (nv b)) (λy=>y) (nv b) zr ?_ ?_
 ·rintro y e m ⟨x,⟨e0,e1⟩,hx,hy,hg⟩
  rcases Zr5 y with h0 | h0
  ·subst h0;have hl:=Zco.2 (rfl:(0:Nat)=0);rw [Nat.gcd_zero_right] at hg
   (refine wkvp (w_3 e0 e1 hl) w_t (w_s ?_);intros)
   simp (disch:=omega) only [go_sem,hg]
  ·have hl:0 < (toL y).length:=by
    have:=(Zdl (show y≠0 by omega)).1;omega
   have hm:=Zrv x h0;have hml:(toL (x%y)).length≤2000000000000:=Zrn (Za9 (Nat.le_of_lt hm)) hy;have hgg:Nat.gcd y (x%y)=Nat.gcd (nv a) (nv b):=by rw [←hg,Zt7 x y,Nat.gcd_rec y x,Zt7]
   (refine wkvp (w_2 e0 e1) (w_1 (cd x y hx hy zo)) (w_s ?_);intros)
   exact⟨x%y,⟨y,⟨gW e1,gC⟩,hy,hml,hgg⟩,hm⟩
 ·exact⟨nv a,⟨gC,gC⟩,zo,zo,rfl⟩
theorem szB:szOf prog 4=some 1:=by kernel_rfl
theorem zB:Zbd prog 4=some (.bool false):=by kernel_rfl
theorem Ze7:szOf prog 34=some 1:=by kernel_rfl
theorem zNat:Zbd prog 34=some (.slice none 0 0):=by kernel_rfl
theorem Ze8:szOf prog 36=some 2:=by kernel_rfl
theorem zInt:Zbd prog 36=some (.agg #[.bool false,.slice none 0 0]):=by kernel_rfl
theorem Ze6:szOf prog 38=some 3:=by kernel_rfl
theorem zRat:Zbd prog 38=some (.agg #[.bool false,.slice none 0 0,.slice none 0 0]):=by kernel_rfl
abbrev intA (s:Bool) (n:Nat):AV:=.agg [.v (.bool s),lim (toL n)]
def zI (s:Bool) (n:Nat):Int:=if s then -(n:Int) else n
abbrev intZ (z:Int):AV:=intA (decide (z < 0)) z.natAbs
theorem Zg3 {n:Nat}:(0 < (toL n).length)↔0 < n:=by
 have:=@Zco n;omega
attribute [go_sem] underlying36 underlying38 underlying28 underlying94 szB zB zNat zInt zRat
attribute [local go_sem] Ze7 Ze8 Ze6
def cmpZ (a b:Int):Int:=if a < b then -1 else if b < a then 1 else 0
inductive Vk:AV→AV→Prop
 | refl (a:AV):Vk a a
 | nil (m:Nat):Vk (.v (.slice none 0 0)) (.sl m [])
 | agg (xs ys:List AV) (hl:xs.length=ys.length) (h:∀(j:Nat) (a b:AV),xs[j]?=some a→ys[j]?=some b→Vk a b):Vk (.agg xs) (.agg ys)
 | tup (xs ys:List AV) (hl:xs.length=ys.length) (h:∀(j:Nat) (a b:AV),xs[j]?=some a→ys[j]?=some b→Vk a b):Vk (.tup xs) (.tup ys)
 | sl (m:Nat) (es es':List AV) (hl:es.length=es'.length) (hm:∀e∈es',e.cells.length=m) (hok:∀e∈es',e.ok=true) (hf:(flat es).length=(flat es').length) (h:∀(j:Nat) (a b:AV),(flat es)[j]?=some a→(flat es')[j]?=some b→Vk a b):Vk (.sl m es) (.sl m es')
theorem Vk.rd {w:World} {imm:Imm} {a b:AV} (h:Vk a b):∀{x:Value},Rd w imm a x→Rd w imm b x:=by
 induction h with
 | refl a=>exact λh=>h
 | nil m =>
   intro x h;cases h;exact .sl m [] none 0 (λ_=>undef) zs zs (Zq0 _) zs zs (by simp [flat])
 | agg xs ys hl _ ih =>
   intro x h
   cases h with
   | agg _ vs hl2 hr =>
     refine .agg ys vs zo λj b x h1 h2=>?_;have hj:j < xs.length:=by rw [hl];exact(List.getElem?_eq_some_iff.1 h1).1
     exact ih j xs[j] b (Zqx hj) h1 (hr j xs[j] x (Zqx hj) h2)
 | tup xs ys hl _ ih =>
   intro x h
   cases h with
   | tup _ vs hl2 hr =>
     refine .tup ys vs zo λj b x h1 h2=>?_;have hj:j < xs.length:=by rw [hl];exact(List.getElem?_eq_some_iff.1 h1).1
     exact ih j xs[j] b (Zqx hj) h1 (hr j xs[j] x (Zqx hj) h2)
 | sl m es es' hl hm hok hf _ ih =>
   intro x h;obtain⟨A,cap,f,rfl,hcap,_,_,hn,hA,hr⟩:=(Rs.pure h).sl_inv;rw [hl];refine .sl m es' A cap f hm hok zo (λh=>hn zo) (λj hj=>hA j (by rw [hl];exact hj)) λj b hb=>?_;have hj:j < (flat es).length:=by rw [hf];exact(List.getElem?_eq_some_iff.1 hb).1
   exact ih j _ b (Zqx hj) hb (hr j _ (Zqx hj))
def VkL (xs ys:List AV):Prop:=xs.length=ys.length∧∀(j:Nat) (a b:AV),xs[j]?=some a→ys[j]?=some b→Vk a b
theorem VkL.nil:VkL [] []:=⟨rfl,λj a b h=>by simp at h⟩
theorem VkL.cons {a b:AV} {xs ys:List AV} (h:Vk a b) (t:VkL xs ys):VkL (a :: xs) (b :: ys):=by
 refine⟨by simp [t.1],λj x y h1 h2=>?_⟩
 cases j with
 | zero=>simp at h1 h2;subst h1;subst h2;exact h
 | succ j=>exact t.2 j x y (by simpa using h1) (by simpa using h2)
theorem VkL.refl (xs:List AV):VkL xs xs:=⟨rfl,λj a b h1 h2=>by rw [h1] at h2;cases h2;exact .refl _⟩
theorem Vk.tupL {xs ys:List AV} (h:VkL xs ys):Vk (.tup xs) (.tup ys):=.tup xs ys h.1 h.2
theorem pure_vk {P:Program} {f:FuncId} {args args':List AV} {r r':AV} (h:Pure P f args' r) (ha:VkL args args') (hw:Vk r r'):Pure P f args r':=by
 refine⟨h.1,λw imm vs h1 h2 h3=>(h.2 w imm vs h1 (by rw [←ha.1];exact h2) λj b x e1 e2=>?_).mono λe w' he=>?_⟩
 ·have hj:j < args.length:=by rw [ha.1];exact(List.getElem?_eq_some_iff.1 e1).1
  exact(ha.2 j args[j] b (Zqx hj) e1).rd (h3 j args[j] x (Zqx hj) e2)
 ·obtain⟨x,imm',e1,e2,e3⟩:=he;exact⟨x,imm',e1,hw.rd e2,e3⟩
theorem Ze0 {P:Program} {f:FuncId} {args:List AV} {r r':AV} (h:Pure P f args r) (hw:Vk r r'):Pure P f args r':=pure_vk h (.refl _) hw
theorem Zm7 (n m:Nat):(toL (n*m)).length≤(toL n).length+(toL m).length:=by
 rw [Zal,Zst];exact Nat.mul_lt_mul'' (Zal.1 (Zq0 _)) (Zal.1 (Zq0 _))
theorem lg_add (n m:Nat):(toL (n+m)).length≤max ((toL n).length) ((toL m).length)+1:=by
 rw [Zal,Zs5];have h1:=Zal.1 (Nat.le_max_left ((toL n).length) ((toL m).length));have h2:=Zal.1 (Nat.le_max_right ((toL n).length) ((toL m).length));generalize 65536 ^ max ((toL n).length) ((toL m).length)=p at *;omega
theorem Zho {n m:Nat} (h:n≤m):(toL n).length≤(toL m).length:=Za9 h
theorem Zm6:(toL 1).length=1:=by rw [Zd3 zo];simp [Zay]
abbrev ratQ (q:Rat):AV:=.agg [.v (.bool (decide (q.num < 0))),lim (toL q.num.natAbs),lim (toL q.den)]
abbrev ratA (s:Bool) (n d:Nat):AV:=.agg [.v (.bool s),lim (toL n),lim (toL d)]
def Sz (q:Rat) (k:Nat):Prop:=(toL q.num.natAbs).length≤k∧(toL q.den).length≤k
theorem Sz.mono {q:Rat} {k j:Nat} (h:Sz q k) (hk:k≤j):Sz q j:=⟨Zrn h.1 hk,Zrn h.2 hk⟩
theorem Sz.mk {z:Int} {m k:Nat} (hz:(toL z.natAbs).length≤k) (hm:(toL m).length≤k) (hk:1≤k):Sz (mkRat z m) k:=by
 unfold Sz;rw [Rat.num_mkRat,Rat.den_mkRat];by_cases h:m=0
 ·rw [Zqv h,Zqv h];refine⟨?_,by rw [Zm6];exact hk⟩;show(toL 0).length≤k;rw [Zay];simp
 ·rw [Zqw h,Zqw h];refine⟨Zrn (Zho ?_) hz,Zrn (Zho (Zu8 _ _)) hm⟩;have hd:((Nat.gcd m z.natAbs:Nat):Int) ∣ z:=Int.ofNat_dvd_left.2 (Nat.gcd_dvd_right _ _);have hg:0 < Nat.gcd m z.natAbs:=Nat.gcd_pos_of_pos_left _ zo;generalize Nat.gcd m z.natAbs=g at *;obtain⟨c,hc⟩:=hd;rw [hc,Zvf _ zo,Zto,Zup];exact Nat.le_mul_of_pos_left _ hg
theorem Zjl (a b:Int):(a+b).natAbs≤a.natAbs+b.natAbs:=zo
theorem Sz.pos {q:Rat} {k:Nat} (h:Sz q k):1≤k:=by
 have h1:=Zg3.2 q.den_pos;have h2:=h.2;omega
theorem Zm8 (a b:Rat) {j k:Nat} (ha:Sz a j) (hb:Sz b k):(toL (a.num*b.den).natAbs).length≤j+k:=by
 rw [Zto,Zup];exact Zrn (Zm7 _ _) (Zu7 ha.1 hb.2)
theorem Sz.mul {a b:Rat} {j k:Nat} (ha:Sz a j) (hb:Sz b k):Sz (a*b) (j+k):=by
 rw [Rat.mul_def'];refine Sz.mk ?_ (Zrn (Zm7 _ _) (Zu7 ha.2 hb.2)) (by have:=ha.pos;omega);rw [Zto];exact Zrn (Zm7 _ _) (Zu7 ha.1 hb.1)
theorem Sz.add {a b:Rat} {j k:Nat} (ha:Sz a j) (hb:Sz b k):Sz (a+b) (j+k+1):=by
 rw [Rat.add_def'];refine Sz.mk ?_ (Zrn (Zm7 _ _) (by have:=ha.2;have:=hb.2;omega)) zo;have h1:=Zm8 a b ha hb;have h2:=Zm8 b a hb ha;have h3:=Zho (Zjl (a.num*b.den) (b.num*a.den));have h4:=lg_add (a.num*b.den).natAbs (b.num*a.den).natAbs;omega
theorem Sz.neg {a:Rat} {j:Nat} (ha:Sz a j):Sz (-a) j:=by
 unfold Sz;rw [Rat.neg_num,Rat.neg_den,Int.natAbs_neg];exact ha
theorem Sz.sub {a b:Rat} {j k:Nat} (ha:Sz a j) (hb:Sz b k):Sz (a - b) (j+k+1):=by
 rw [Rat.sub_eq_add_neg];exact ha.add hb.neg
theorem Sz.inv {a:Rat} {j:Nat} (ha:Sz a j):Sz (a⁻¹) j:=by
 unfold Sz;rw [Rat.num_inv,Rat.den_inv];by_cases h:a.num=0
 ·rw [Zqv h,h];refine⟨?_,by rw [Zm6];exact ha.pos⟩;have:(Int.sign 0*(a.den:Int)).natAbs=0:=by simp
  rw [this];show(toL 0).length≤j;rw [Zay];simp
 ·rw [Zqw h];refine⟨?_,ha.1⟩;rw [Zto,Zup,Int.natAbs_sign_of_ne_zero h,Zsh];exact ha.2
theorem Sz.int {z:Int} {k:Nat} (h:(toL z.natAbs).length≤k) (hk:1≤k):Sz (z:Rat) k:=⟨h,by show(toL 1).length≤k;rw [Zm6];exact hk⟩
def cmpQ (a b:Rat):Int:=if a < b then -1 else if b < a then 1 else 0
def sumC (z w:Int):Nat→List AV
 | 0=>[.v (.bool false),.v (.slice none 0 0)]
 | 1=>[.v (.bool (decide (z < 0))),lim (toL z.natAbs)]
 | _=>[.v (.bool (decide (z+w < 0))),lim (toL (z+w).natAbs)]
theorem u16s_c (x:Nat) (l:List Nat):u16s (x :: l)=AV.v (.int .u16 (x:Int)) :: u16s l:=rfl
theorem szShape:szOf prog 94=some 2:=by kernel_rfl
theorem zShape:Zbd prog 94=some (.agg #[.int .i64 0,.int .u16 0]):=by kernel_rfl
theorem eqShape:eqTy prog 94=true:=by kernel_rfl
attribute [go_sem] szShape zShape
attribute [local go_sem] eqShape
theorem ratOne (n:Nat) (hn:(toL n).length≤1000000000000):Pure prog 46 [lim (toL n)] (.v (.bool (decide (n=1)))):=by
 by_cases h0:n=0
 ·subst h0;rw [Zay];refine pI func46 rfl ntmps46 results46 call46 ?_
  (refine wkvp w_t w_t (w_s ?_);intros)
  simp (disch:=omega) only [go_sem,Bool.and_self]
 ·have hd:decide (n=1)=(((((toL (n/65536)).length+1:Nat):Int) == 1) && (((n%65536:Nat):Int) == 1)):=by
   have hp:=@Zg3 (n/65536);rw [Zrt];simp only [Zrs,Zrh,Zsq];omega
  rw [Zd3 zo,hd];refine pI func46 rfl ntmps46 results46 call46 ?_
  (refine wkvp (w_1 @u16s_c) w_t (w_s ?_);intros)
  simp (disch:=omega) only [go_sem]
section
attribute [local go_sem] underlying34 underlying3 underlying70 underlying89 underlying4 underlying36 underlying38 underlying28 sz3 by3 z3 szL byL zL szB zB Ze7 zNat Ze8 zInt Ze6 zRat
end
section
attribute [local go_sem] underlying34 underlying3 underlying70 underlying89 underlying4 underlying36 underlying38 underlying28 sz3 by3 z3 szL byL zL szB zB Ze7 zNat Ze8 zInt Ze6 zRat
end
section
attribute [local go_sem] underlying34 underlying3 underlying70 underlying89 underlying4 underlying36 underlying38 underlying28 sz3 by3 z3 szL byL zL szB zB Ze7 zNat Ze8 zInt Ze6 zRat
end
structure RQ where
 s:Bool
 l:List Nat
 d:List Nat
def RQ.lm (r:RQ) (k:Nat):Prop:=Lm r.l∧Lm r.d∧r.l.length≤k∧r.d.length≤k
abbrev RQ.av (r:RQ):AV:=.agg [.v (.bool r.s),lim r.l,lim r.d]
def RQ.zok (s:Bool) (l:List Nat):Bool:=valL l && !(s && decide (l.length=0))
def RQ.ok (r:RQ):Bool:=RQ.zok r.s r.l && valL r.d && (Nat.gcd (nv r.l) (nv r.d) == 1) && decide (0 < r.d.length)
def RQ.q (r:RQ):Rat:=mkRat (zI r.s (nv r.l)) (nv r.d)
theorem Zld {a b:Nat}:toL a=toL b↔a=b:=⟨λh=>by rw [←Za0 a,h,Za0],λh=>by rw [h]⟩
theorem zRight (s:Bool) (l:List Nat) (hs:l.length≤1000000000000) (hl:Lm l):Pure prog 62 [.agg [.v (.bool s),lim l]] (.v (.bool (RQ.zok s l))):=by
 have cv:=Zmq l zo hl;unfold RQ.zok;generalize valL l=v at *;cases v
 ·refine pI func62 rfl ntmps62 results62 call62 ?_
  (refine wkvp (w_1 @Zr3) (w_1 cv) (w_s ?_);intros)
  simp (disch:=omega) only [go_sem,Zr3]
 ·cases s
  ·refine pI func62 rfl ntmps62 results62 call62 ?_
   (refine wkvp (w_1 @Zr3) (w_1 cv) (w_s ?_);intros)
   simp (disch:=omega) only [go_sem,Zr3]
  ·by_cases h0:l.length=0
   ·refine pI func62 rfl ntmps62 results62 call62 ?_
    (refine wkvp (w_2 h0 @Zty) (w_1 cv) (w_s ?_);intros)
    simp (disch:=omega) only [go_sem,h0]
   ·refine pI func62 rfl ntmps62 results62 call62 ?_
    (refine wkvp w_t (w_1 cv) (w_s ?_);intros)
    simp (disch:=omega) only [go_sem,h0,Zqy h0]
theorem qRight (s:Bool) (l d:List Nat) (h1:Lm l) (h2:Lm d) (h3:l.length≤1000000000000) (h4:d.length≤1000000000000):Pure prog 39 [.agg [.v (.bool s),lim l,lim d]] (.v (.bool (RQ.ok ⟨s,l,d⟩))):=by
 have cz:=zRight s l h3 h1;have cv:=Zmq d zo h2;have cg:=refGcd l d zo zo h1 h2
 have hgl:(toL (Nat.gcd (nv l) (nv d))).length≤1000000000000:=by
  have l1:=Zaq h1;have l2:=Zaq h2;by_cases hd:nv d=0
  ·rw [hd,Nat.gcd_zero_right];omega
  ·exact Zrn (Zho (Nat.gcd_le_right _ zo)) zo
 have cs:=refSameN (toL (Nat.gcd (nv l) (nv d))) (toL 1) zo (by rw [Zm6];omega) (Zba _) (Zba _);rw [show decide (toL (Nat.gcd (nv l) (nv d))=toL 1)=(Nat.gcd (nv l) (nv d) == 1) from by rw [Zrt,Zrs,Zsq];exact Zld] at cs;unfold RQ.ok;generalize RQ.zok s l=v at *;simp only;generalize Nat.gcd (nv l) (nv d)=g at *;cases v
 ·refine pI func39 rfl ntmps39 results39 call39 ?_
  (refine wkvp (w_1 @Zr3) (w_1 cz) (w_s ?_);intros)
  simp (disch:=omega) only [go_sem,Zr3]
 ·generalize valL d=v at *;cases v
  ·refine pI func39 rfl ntmps39 results39 call39 ?_
   (refine wkvp (w_1 @Zr3) (w_2 cz cv) (w_s ?_);intros)
   simp (disch:=omega) only [go_sem,Zr3]
  ·by_cases hg:g=1
   ·have hgb:(g == 1)=true:=by rw [Zsq];exact hg
    rw [hgb] at cs ⊢;by_cases hd:0 < d.length
    ·rw [Zqz hd];refine pI func39 rfl ntmps39 results39 call39 ?_
     (refine wkvp w_t (w_5 cz cv cg (Zlq 1 zo) cs) (w_s ?_);intros)
     simp (disch:=omega) only [go_sem]
    ·rw [Zqy hd];refine pI func39 rfl ntmps39 results39 call39 ?_
     (refine wkvp w_t (w_5 cz cv cg (Zlq 1 zo) cs) (w_s ?_);intros)
     simp (disch:=omega) only [go_sem,Zux]
   ·have hgb:(g == 1)=false:=by rw [beq_eq_false_iff_ne];exact hg
    rw [hgb] at cs ⊢;refine pI func39 rfl ntmps39 results39 call39 ?_
    (refine wkvp (w_2 @Zux @Zr3) (w_5 cz cv cg (Zlq 1 zo) cs) (w_s ?_);intros)
    simp (disch:=omega) only [go_sem,Zux,Zr3]
section
variable {N n:Nat} {cs:List AV}
theorem agN16:Zer prog 70=false:=by kernel_rfl
theorem cs16:prog.cellsOf 70=1:=by kernel_rfl
theorem shNat (h:Zbs prog N n 34 cs):∃l:List Nat,cs=[lim l]∧Lm l∧l.length≤N:=by
 obtain⟨bs,rfl,hl,hq⟩:=Zc0 (g:=λk:Nat=>[AV.v (.int .u16 (k:Int))]) (Q:=λk=>k < 65536) underlying34 h λm x hx=>by
  obtain⟨i,rfl,hw⟩:=Zfr underlying70 hx;have:=wf_u16 hw;exact⟨i.toNat,by rw [Zvg this.1],zo⟩
 refine⟨bs,?_,hq,hl⟩;rw [cs16];have:(bs.map λb:Nat=>Zca prog 70 [AV.v (.int .u16 (b:Int))])=u16s bs:=Zt4 λb _=>Zj3 agN16 _;rw [this]
theorem shInt (h:Zbs prog N n 36 cs):∃(s:Bool) (l:List Nat),cs=[.v (.bool s),lim l]∧Lm l∧l.length≤N:=by
 obtain⟨m,rfl,hs⟩:=Zcp underlying36 zk h;obtain⟨x,y,rfl,h1,hs⟩:=hs.inv;obtain⟨z,y,rfl,h2,hs⟩:=hs.inv;obtain rfl:=hs.inv0;obtain⟨s,rfl⟩:=Znv underlying4 h1;obtain⟨l,rfl,h3,h4⟩:=shNat h2;exact⟨s,l,rfl,h3,h4⟩
theorem shRat (h:Zbs prog N n 38 cs):∃r:RQ,cs=[.v (.bool r.s),lim r.l,lim r.d]∧r.lm N:=by
 obtain⟨m,rfl,hs⟩:=Zcp underlying38 zk h;obtain⟨x,y,rfl,h1,hs⟩:=hs.inv;obtain⟨z,y,rfl,h2,hs⟩:=hs.inv;obtain rfl:=hs.inv0;obtain⟨s,l,rfl,h3,h4⟩:=shInt h1;obtain⟨d,rfl,h5,h6⟩:=shNat h2;exact⟨⟨s,l,d⟩,rfl,h3,h5,h4,h6⟩
structure RP where
 x:RQ
 y:RQ
abbrev RP.av (p:RP):AV:=.agg [.v (.bool p.x.s),lim p.x.l,lim p.x.d,.v (.bool p.y.s),lim p.y.l,lim p.y.d]
def RP.lm (p:RP) (k:Nat):Prop:=p.x.lm k∧p.y.lm k
end
end Go.Proofs.Ytaedgaikloifgaa
namespace Go.Pol
structure KO {α:Type} (D:α→Prop) (lt:α→α→Prop):Prop where
 irr:∀x,¬lt x x
 tr:∀x y z,lt x y→lt y z→lt x z
 tri:∀x y,D x→D y→lt x y∨x=y∨lt y x
section
variable {α:Type} {D:α→Prop} {lt:α→α→Prop} [DecidableEq α]
def cof:List (Rat × α)→α→Rat
 | [],_=>0
 | t :: p,x=>(if t.2=x then t.1 else 0)+cof p x
end
section
variable {α:Type} {D:α→Prop} {lt:α→α→Prop}
def addP (lt:α→α→Prop) [DecidableRel lt]:List (Rat × α)→List (Rat × α)→List (Rat × α)
 | [],q=>q
 | s :: p,[]=>s :: p
 | s :: p,t :: q =>
   if lt t.2 s.2 then s :: addP lt p (t :: q)
   else if lt s.2 t.2 then t :: addP lt (s :: p) q
   else if s.1+t.1=0 then addP lt p q
   else (s.1+t.1,s.2) :: addP lt p q
termination_by p q=>p.length+q.length
def Srt (D:α→Prop) (lt:α→α→Prop) (p:List (Rat × α)):Prop:=(∀t∈p,t.1≠0∧D t.2)∧p.Pairwise (λs t=>lt t.2 s.2)
end
section
variable {α:Type} {D:α→Prop} {lt:α→α→Prop} [DecidableEq α]
end
section
variable {α:Type} {D:α→Prop} {lt:α→α→Prop} [DecidableRel lt]
theorem Zjm {p q:List (Rat × α)} {t:Rat × α} (h:t∈addP lt p q):∃s∈p++q,t.2=s.2:=by
 fun_induction addP lt p q with
 | case1 q=>exact⟨t,by simpa using h,rfl⟩
 | case2 s p=>exact⟨t,by simpa using h,rfl⟩
 | case3 s p u q h1 ih =>
   rcases List.mem_cons.1 h with rfl | h
   ·exact⟨t,by simp,rfl⟩
   ·obtain⟨v,hv,e⟩:=ih h;exact⟨v,by simp only [Zt5,Zsi,Zs8] at hv ⊢;rcases hv with hv | hv | hv<;>simp [hv],e⟩
 | case4 s p u q h1 h2 ih =>
   rcases List.mem_cons.1 h with rfl | h
   ·exact⟨t,by simp,rfl⟩
   ·obtain⟨v,hv,e⟩:=ih h;exact⟨v,by simp only [Zt5,Zsi,Zs8] at hv ⊢;rcases hv with hv | hv | hv<;>simp [hv],e⟩
 | case5 s p u q h1 h2 h3 ih =>
   obtain⟨v,hv,e⟩:=ih h;exact⟨v,by simp only [Zt5,Zsi,Zs8] at hv ⊢;rcases hv with hv | hv<;>simp [hv],e⟩
 | case6 s p u q h1 h2 h3 ih =>
   rcases List.mem_cons.1 h with rfl | h
   ·exact⟨s,by simp,rfl⟩
   ·obtain⟨v,hv,e⟩:=ih h;exact⟨v,by simp only [Zt5,Zsi,Zs8] at hv ⊢;rcases hv with hv | hv<;>simp [hv],e⟩
end
section
variable {α:Type} {D:α→Prop} {lt:α→α→Prop} [DecidableEq α] [DecidableRel lt]
end
section
variable {α:Type} {D:α→Prop} {lt:α→α→Prop}
theorem Srt.nil:Srt D lt ([]:List (Rat × α)):=⟨by simp,.nil⟩
theorem Srt.tail {t:Rat × α} {p:List (Rat × α)} (h:Srt D lt (t :: p)):Srt D lt p:=⟨λu hu=>h.1 u (.tail _ hu),(List.pairwise_cons.1 h.2).2⟩
theorem Srt.cons {t:Rat × α} {p:List (Rat × α)} (h:Srt D lt p) (h1:t.1≠0) (h2:D t.2) (h3:∀u∈p,lt u.2 t.2):Srt D lt (t :: p) :=
 ⟨λu hu=>by rcases List.mem_cons.1 hu with rfl | hu;exact⟨h1,h2⟩;exact h.1 u hu,List.pairwise_cons.2 ⟨h3,h.2⟩⟩
theorem Srt.dom {p:List (Rat × α)} (h:Srt D lt p):∀t∈p,D t.2:=λt ht=>(h.1 t ht).2
theorem Srt.head_lt {t:Rat × α} {p:List (Rat × α)} (h:Srt D lt (t :: p)):∀u∈p,lt u.2 t.2:=(List.pairwise_cons.1 h.2).1
end
section
variable {α:Type} {D:α→Prop} {lt:α→α→Prop} [DecidableRel lt]
theorem Znj (o:KO D lt) {p q:List (Rat × α)} (hp:Srt D lt p) (hq:Srt D lt q):Srt D lt (addP lt p q):=by
 fun_induction addP lt p q with
 | case1 q=>exact hq
 | case2 s p=>exact hp
 | case3 s p u q h1 ih =>
   refine(ih hp.tail hq).cons (hp.1 s (.head _)).1 (hp.1 s (.head _)).2 λv hv=>?_;obtain⟨w,hw,e⟩:=Zjm hv;rw [e];rcases List.mem_append.1 hw with hw | hw
   ·exact hp.head_lt w hw
   ·rcases List.mem_cons.1 hw with rfl | hw
    ·exact h1
    ·exact o.tr _ _ _ (hq.head_lt w hw) h1
 | case4 s p u q h1 h2 ih =>
   refine(ih hp hq.tail).cons (hq.1 u (.head _)).1 (hq.1 u (.head _)).2 λv hv=>?_;obtain⟨w,hw,e⟩:=Zjm hv;rw [e];rcases List.mem_append.1 hw with hw | hw
   ·rcases List.mem_cons.1 hw with rfl | hw
    ·exact h2
    ·exact o.tr _ _ _ (hp.head_lt w hw) h2
   ·exact hq.head_lt w hw
 | case5 s p u q h1 h2 h3 ih=>exact ih hp.tail hq.tail
 | case6 s p u q h1 h2 h3 ih =>
   have es:s.2=u.2:=by rcases o.tri s.2 u.2 (hp.dom s (.head _)) (hq.dom u (.head _)) with h | h | h;exact absurd h h2;exact h;exact absurd h h1
   refine(ih hp.tail hq.tail).cons h3 (hp.1 s (.head _)).2 λv hv=>?_;obtain⟨w,hw,e⟩:=Zjm hv;rw [e];rcases List.mem_append.1 hw with hw | hw
   ·exact hp.head_lt w hw
   ·show lt w.2 s.2;rw [es];exact hq.head_lt w hw
end
section
variable {α:Type} {D:α→Prop} {lt:α→α→Prop} [DecidableEq α]
end
section
variable {α:Type} {D:α→Prop} {lt:α→α→Prop}
def Zg4 (m:α→α→α) (p:List (Rat × α)) (t:Rat × α):List (Rat × α):=p.map λs=>(s.1*t.1,m s.2 t.2)
structure KM (D:α→Prop) (lt:α→α→Prop) (m:α→α→α):Prop where
 comm:∀x y,m x y=m y x
 dom:∀x y,D x→D y→D (m x y)
 mono:∀x y z,D x→D y→D z→lt x y→lt (m x z) (m y z)
theorem Zox {m:α→α→α} (k:KM D lt m) {p:List (Rat × α)} {t:Rat × α} (hp:Srt D lt p) (h1:t.1≠0) (h2:D t.2):Srt D lt (Zg4 m p t):=by
 refine⟨λu hu=>?_,?_⟩
 ·obtain⟨s,hs,rfl⟩:=List.mem_map.1 hu;have:=hp.1 s hs;exact⟨by show s.1*t.1≠0;intro h0;rcases Rat.mul_eq_zero.1 h0 with h | h;exact this.1 h;exact h1 h,k.dom _ _ this.2 h2⟩
 ·refine List.pairwise_map.2 (hp.2.imp_of_mem λ{a b} ha hb hl=>k.mono _ _ _ (hp.dom b hb) (hp.dom a ha) h2 hl)
end
section
variable {α:Type} {D:α→Prop} {lt:α→α→Prop} [DecidableEq α]
def cofM (m:α→α→α) (p:List (Rat × α)):List (Rat × α)→α→Rat
 | [],_=>0
 | t :: q,x=>cof (Zg4 m p t) x+cofM m p q x
end
section
variable {α:Type} {D:α→Prop} {lt:α→α→Prop}
def mulR (lt:α→α→Prop) [DecidableRel lt] (m:α→α→α) (p q:List (Rat × α)):List (Rat × α):=q.foldl (λout t=>addP lt out (Zg4 m p t)) []
end
section
variable {α:Type} {D:α→Prop} {lt:α→α→Prop} [DecidableRel lt]
theorem Zk4 (o:KO D lt) {m:α→α→α} (k:KM D lt m) {p:List (Rat × α)} (hp:Srt D lt p):∀(q out:List (Rat × α)),Srt D lt q→Srt D lt out→Srt D lt (q.foldl (λout t=>addP lt out (Zg4 m p t)) out)
 | [],_,_,ho=>ho
 | t :: q,_,hq,ho=>Zk4 o k hp q _ hq.tail (Znj o ho (Zox k hp (hq.1 t (.head _)).1 (hq.1 t (.head _)).2))
end
section
variable {α:Type} {D:α→Prop} {lt:α→α→Prop} [DecidableEq α] [DecidableRel lt]
end
section
variable {α:Type} {D:α→Prop} {lt:α→α→Prop} [DecidableRel lt]
theorem mulR_srt (o:KO D lt) {m:α→α→α} (k:KM D lt m) {p q:List (Rat × α)} (hp:Srt D lt p) (hq:Srt D lt q):Srt D lt (mulR lt m p q):=Zk4 o k hp q [] hq .nil
end
section
variable {α:Type} {D:α→Prop} {lt:α→α→Prop} [DecidableEq α] [DecidableRel lt]
end
section
variable {α:Type} {D:α→Prop} {lt:α→α→Prop}
def sumH (lt:α→α→Prop) [DecidableRel lt]:List (List (Rat × α))→List (Rat × α)
 | []=>[]
 | [p]=>p
 | p :: q :: l=>addP lt (sumH lt ((p :: q :: l).take ((p :: q :: l).length/2))) (sumH lt ((p :: q :: l).drop ((p :: q :: l).length/2)))
termination_by l=>l.length
decreasing_by all_goals (simp only [Zrd,Zs1,Zrj];omega)
end
section
variable {α:Type} {D:α→Prop} {lt:α→α→Prop} [DecidableEq α]
def cofL:List (List (Rat × α))→α→Rat
 | [],_=>0
 | p :: l,x=>cof p x+cofL l x
end
section
variable {α:Type} {D:α→Prop} {lt:α→α→Prop} [DecidableRel lt]
end
section
variable {α:Type} {D:α→Prop} {lt:α→α→Prop} [DecidableEq α] [DecidableRel lt]
end
section
variable {α:Type} {D:α→Prop} {lt:α→α→Prop}
def mulH (lt:α→α→Prop) [DecidableRel lt] (m:α→α→α) (p q:List (Rat × α)):List (Rat × α):=sumH lt (p.map λt=>Zg4 m q t)
end
section
variable {α:Type} {D:α→Prop} {lt:α→α→Prop} [DecidableEq α] [DecidableRel lt]
end
section
variable {α:Type} {D:α→Prop} {lt:α→α→Prop} [DecidableRel lt]
end
def evl {α:Type} (φ:α→Rat):List (Rat × α)→Rat
 | []=>0
 | t :: p=>t.1*φ t.2+evl φ p
section
variable {α:Type} {D:α→Prop} {lt:α→α→Prop} [DecidableRel lt]
end
section
variable {α:Type} {D:α→Prop} {lt:α→α→Prop}
def Zmm (a:Rat) (p:List (Rat × α)):List (Rat × α):=p.map λs=>(s.1*a,s.2)
theorem Zkd {a:Rat} {p:List (Rat × α)} (hp:Srt D lt p) (h:a≠0):Srt D lt (Zmm a p):=by
 refine⟨λu hu=>?_,List.pairwise_map.2 hp.2⟩;obtain⟨s,hs,rfl⟩:=List.mem_map.1 hu;have:=hp.1 s hs;exact⟨by show s.1*a≠0;intro h0;rcases Rat.mul_eq_zero.1 h0 with h1 | h1;exact this.1 h1;exact h h1,this.2⟩
end
section
variable {α:Type} [DecidableEq α]
end
section
variable {α:Type} {D:α→Prop} {lt:α→α→Prop} [DecidableEq α] [DecidableRel lt]
end
section
variable {α:Type} {lt:α→α→Prop} [DecidableRel lt]
end
section
variable {α:Type} {D:α→Prop} {lt:α→α→Prop} [DecidableRel lt]
def subP (lt:α→α→Prop) [DecidableRel lt] (p q:List (Rat × α)):List (Rat × α):=addP lt p (Zmm (-1) q)
theorem neg1:(-1:Rat)≠0:=by decide
end
section
variable {α:Type} {D:α→Prop} {lt:α→α→Prop} [DecidableEq α] [DecidableRel lt]
end
section
variable {α:Type} {lt:α→α→Prop} [DecidableRel lt]
theorem Zkx {p q:List (Rat × α)} {t:Rat × α} (h:t∈addP lt p q):t∈p∨t∈q∨∃s∈p,∃u∈q,t=(s.1+u.1,s.2):=by
 fun_induction addP lt p q with
 | case1 q=>exact .inr (.inl h)
 | case2 s p=>exact .inl h
 | case3 s p u q h1 ih =>
   rcases List.mem_cons.1 h with rfl | h
   ·exact .inl (.head _)
   ·rcases ih h with h | h | ⟨a,ha,b,hb,e⟩
    ·exact .inl (.tail _ h)
    ·exact .inr (.inl h)
    ·exact .inr (.inr ⟨a,.tail _ ha,b,hb,e⟩)
 | case4 s p u q h1 h2 ih =>
   rcases List.mem_cons.1 h with rfl | h
   ·exact .inr (.inl (.head _))
   ·rcases ih h with h | h | ⟨a,ha,b,hb,e⟩
    ·exact .inl h
    ·exact .inr (.inl (.tail _ h))
    ·exact .inr (.inr ⟨a,ha,b,.tail _ hb,e⟩)
 | case5 s p u q h1 h2 h3 ih =>
   rcases ih h with h | h | ⟨a,ha,b,hb,e⟩
   ·exact .inl (.tail _ h)
   ·exact .inr (.inl (.tail _ h))
   ·exact .inr (.inr ⟨a,.tail _ ha,b,.tail _ hb,e⟩)
 | case6 s p u q h1 h2 h3 ih =>
   rcases List.mem_cons.1 h with rfl | h
   ·exact .inr (.inr ⟨s,.head _,u,.head _,rfl⟩)
   ·rcases ih h with h | h | ⟨a,ha,b,hb,e⟩
    ·exact .inl (.tail _ h)
    ·exact .inr (.inl (.tail _ h))
    ·exact .inr (.inr ⟨a,.tail _ ha,b,.tail _ hb,e⟩)
end
def BQ (D B:Nat) (q:Rat):Prop:=q.den ∣ D∧q.num.natAbs≤B*q.den
theorem Zm3 {z:Int} {m:Nat} (hm:m≠0) {D B:Nat} (hd:m ∣ D*Nat.gcd z.natAbs m) (hb:z.natAbs≤B*m):BQ D B (mkRat z m):=by
 have h0:0 < Nat.gcd z.natAbs m:=Nat.gcd_pos_of_pos_right _ (Zuh hm);obtain⟨c,hc⟩:=Nat.gcd_dvd_right z.natAbs m;obtain⟨a,ha⟩:=Nat.gcd_dvd_left z.natAbs m;unfold BQ;rw [Rat.num_mkRat,Rat.den_mkRat,Zqw hm,Zt7 m z.natAbs];generalize Nat.gcd z.natAbs m=g at *;have e1:m/g=c:=by rw [hc];exact Nat.mul_div_cancel_left _ h0
 have e2:(z/(g:Int)).natAbs=a:=by
  rcases Int.natAbs_eq z with h | h
  ·rw [h,ha,show((g*a:Nat):Int)=(g:Int)*(a:Int) from by simp,Zvf _ zo];simp
  ·rw [h,ha,show -((g*a:Nat):Int)=(g:Int)*(-(a:Int)) from by simp [Int.mul_neg],Zvf _ zo];simp
 rw [e1,Zqw hm,e2];constructor
 ·rw [hc,Zrm D] at hd;exact Nat.dvd_of_mul_dvd_mul_left h0 hd
 ·rw [ha,hc,show B*(g*c)=g*(B*c) from by simp only [Ztx]] at hb;exact Nat.le_of_mul_le_mul_left hb h0
theorem BQ.mono {D B E C:Nat} {q:Rat} (h:BQ D B q) (hd:D ∣ E) (hb:B≤C):BQ E C q:=⟨Nat.dvd_trans h.1 hd,Zrn h.2 (Zrk _ hb)⟩
theorem BQ.mul {D B E C:Nat} {a b:Rat} (h:BQ D B a) (k:BQ E C b):BQ (D*E) (B*C) (a*b):=by
 rw [Rat.mul_def'];refine Zm3 (Nat.mul_ne_zero a.den_nz b.den_nz) (Nat.dvd_trans (Nat.mul_dvd_mul h.1 k.1) (Zuw _ _)) ?_;rw [Zto]
 calc _≤(B*a.den)*(C*b.den):=Zun h.2 k.2
  _=B*C*(a.den*b.den):=by simp only [Zr1,Ztx]
theorem BQ.add {D B C:Nat} {a b:Rat} (h:BQ D B a) (k:BQ D C b):BQ D (B+C) (a+b):=by
 obtain⟨x,hx⟩:=h.1;obtain⟨y,hy⟩:=k.1;have e:a+b=mkRat (a.num*b.den+b.num*a.den) (a.den*b.den):=Rat.add_def' a b;rw [e];refine Zm3 (Nat.mul_ne_zero a.den_nz b.den_nz) ?_ ?_
 ·
  rw [←Nat.gcd_mul_left];refine Nat.dvd_gcd ?_ (Nat.dvd_mul_left _ _)
  have e2:((D*(a.num*b.den+b.num*a.den).natAbs:Nat):Int)=((D:Int)*(a.num*b.den+b.num*a.den)).natAbs:=by
   rw [Zto];simp
  have e3:D*(a.num*b.den+b.num*a.den).natAbs=((D:Int)*(a.num*b.den+b.num*a.den)).natAbs:=zo;rw [e3]
  have e4:(D:Int)*(a.num*b.den+b.num*a.den)=((a.den*b.den:Nat):Int)*(x*a.num+y*b.num):=by
   have h1:(D:Int)=a.den*x:=by rw [hx];simp
   have h2:(D:Int)=b.den*y:=by rw [hy];simp
   rw [Int.mul_add,Int.mul_add,show((a.den*b.den:Nat):Int)=(a.den:Int)*b.den from by simp];congr 1
   ·rw [h1];simp only [Int.mul_assoc,Int.mul_left_comm,Int.mul_comm]
   ·rw [h2];simp only [Int.mul_assoc,Int.mul_left_comm,Int.mul_comm]
  rw [e4,Zto,Zup];exact Zuw _ _
 ·have h1:=h.2;have h2:=k.2
  calc _≤(a.num*b.den).natAbs+(b.num*a.den).natAbs:=zo
   _=a.num.natAbs*b.den+b.num.natAbs*a.den:=by rw [Zto,Zto,Zup,Zup]
   _≤(B*a.den)*b.den+(C*b.den)*a.den:=Zu7 (Zrk _ h1) (Zrk _ h2)
   _=(B+C)*(a.den*b.den):=by rw [Zri];simp only [Zr1,Zrm b.den]
theorem BQ.neg {D B:Nat} {a:Rat} (h:BQ D B a):BQ D B (-a):=by
 refine⟨h.1,?_⟩;show(-a.num).natAbs≤B*a.den;rw [Int.natAbs_neg];exact h.2
theorem BQ.int (z:Int) {D B:Nat} (h:z.natAbs≤B):BQ D B (z:Rat):=⟨⟨D,(Zsh D).symm⟩,by show z.natAbs≤B*1;omega⟩
end Go.Pol
