/- Contracts of the functions that the law reaches, and the rules by which they are walked. They say what a call hands back for every input within the bounds that each names; no other condition. -/
import Derived.Test.YtaedgaikloifgaaGreatDoorBd4
import Derived.Shelf.SlSortCmp.PdqK
import Derived.Test.YtaedgaikloifgaaGreatDoorRows
set_option linter.unusedSimpArgs false
set_option linter.unusedVariables false
set_option maxRecDepth 20000
set_option maxHeartbeats 16000000
namespace Go.Pg
open Go Go.RowKit
theorem blw_grow {w w':World} (h:Blw w.heap.size w w'):∃q os,w'=Go.Sort.grow (w.drewN q) os:=by
 refine⟨w'.drawn - w.drawn,w'.heap.extract w.heap.size w'.heap.size,?_⟩;obtain⟨⟨h1,h2,h3,h4,h5⟩,h6⟩:=h;obtain⟨hp,tp,dr,os,op⟩:=w;obtain⟨hp',tp',dr',os',op'⟩:=w';simp only at h1 h2 h3 h4 h5 h6;subst h1;subst h2;subst h3;unfold Go.Sort.grow World.drewN;simp only [World.mk.injEq,and_true,true_and];refine⟨?_,zo⟩;apply Array.ext_getElem?;intro i;rw [Array.getElem?_append];by_cases hi:i < hp.size
 ·rw [Zv6 hi];exact h5 i hi
 ·rw [Zv5 hi,Array.getElem?_extract];by_cases hj:i < hp'.size
  ·rw [Zv6 zo];congr 1;omega
  ·rw [Zv5 zo,Zzg zo]
section
variable {α:Type} [Inhabited α] {enc:α→List Value} {k:Nat} {w:World} {b m:Nat} {d:Array α} {os:Array Obj}
theorem Zs9:(Go.Proofs.sortWorldK enc k w b 0 m d os).heap.size=w.heap.size+os.size:=by
 simp [Go.Proofs.sortWorldK,Go.Sort.grow,Go.Sort.putRowK,Go.Sort.putRow,Go.Sort.mapBlock,Go.Sort.ahead]
theorem Zlq {i:Nat} (hi:i < w.heap.size) (hb:i≠b):(Go.Proofs.sortWorldK enc k w b 0 m d os).heap[i]?=w.heap[i]?:=by
 simp only [Go.Proofs.sortWorldK,Go.Sort.grow,Go.Sort.putRowK,Go.Sort.putRow,Go.Sort.mapBlock,Go.Sort.ahead];rw [Array.getElem?_append,Zv6 (by simpa using hi),ZAa,Zv5 (Zyg hb)]
theorem sw_row {cur:Array Value} {e:TypeId} (hh:w.heap[b]?=some (.cells cur e (0,0))):(Go.Proofs.sortWorldK enc k w b 0 m d os).heap[b]?=some (.cells (Go.Sort.putCells id 0 (Go.Sort.flatK enc k d) cur) e (0,0)):=by
 have hb:b < w.heap.size:=(Array.getElem?_eq_some_iff.1 hh).1;simp only [Go.Proofs.sortWorldK,Go.Sort.grow,Go.Sort.putRowK,Go.Sort.putRow,Go.Sort.mapBlock,Go.Sort.ahead];rw [Array.getElem?_append,Zv6 (by simpa using hb),ZAa,Zv6 rfl,hh];rfl
theorem sw_grown (hb:b < w.heap.size):w.grownBy (Go.Proofs.sortWorldK enc k w b 0 m d os) (some b) :=
 ⟨rfl,rfl,rfl,by rw [Zs9];omega,λi hi hne=>Zlq hi λe=>hne (by rw [e])⟩
theorem sw_drawn:w.drawn≤(Go.Proofs.sortWorldK enc k w b 0 m d os).drawn:=ZAu _ _
end
def Zcv (xs:List Value) (k n i:Nat):List Value:=(xs.drop ((if i < n then i else 0)*k)).take k
theorem Zpv {xs:List Value} {k n:Nat} (hl:xs.length=n*k) (hn:0 < n) (i:Nat):(Zcv xs k n i).length=k:=by
 unfold Zcv;rw [Zws,Zys,hl];have h:(if i < n then i else 0)+1≤n:=by split<;>omega
 have:=Zww k h;rw [Zw0,Zx0] at this;omega
theorem Zho {xs:List Value} {k n:Nat} {i j:Nat} (hj:j < k):(Zcv xs k n i)[j]?=xs[(if i < n then i else 0)*k+j]?:=by
 unfold Zcv;rw [Zxv,Zv6 hj,Zyi]
theorem Zrs {P:Program} {ρ:Go.Shelf.Ren} (L:Go.Proofs.SlLaysF0.n14 P ρ) {k:Nat} (aE:∀w,(isAgg (ρ.t 24)).run P w=.ok true w) (zE:∀w,(Go.sizeOf (ρ.t 24)).run P w=.ok k w) (hk0:0 < k)
 {β:Type} (f:β→List AV) (cmp:β→β→Int) {ty:TypeId} {g:FuncId} {σ:Mem} {K:Nat} {sv:Value} (l:List β) (hf:∀x,(f x).length=k) (hK:σ K=some (.row sv ty k (l.map λx=>.agg (f x)) 0)) (hl:l.length < 4611686018427387904)
 (h1:∀x y,cmp x x=0∧(cmp x y < 0↔0 < cmp y x)) (h2:∀x y z,cmp x y≤0→cmp y z≤0→cmp x z≤0)
 (hc:∀x∈l,∀y∈l,Pure P g [.agg (f x),.agg (f y)] (.v (.int .i64 (cmp x y)))) (he:∀(vs:Array Value) (w:World),(callFunc (ρ.f 14) vs).run P w=.ok (.enter (ρ.f 14) vs) w) (lim:Nat) (hlim:lim < 4611686018427387904)
 (hnil:∀(p:Option Addr) (cap:Nat) (w:World),Calls P (ρ.f 14) #[.slice p 0 cap,.int .i64 0,.int .i64 0,.int .i64 lim,.func (.func g) #[] #[]] w λe w'=>e=.returned (.tuple #[])∧w'=w) :
 ACall P (ρ.f 14) [.own K sv,.v (.int .i64 0),.v (.int .i64 l.length),.v (.int .i64 lim),.fn g []] σ λr σ'=>∃l':List β,l'.Perm l∧l'.Pairwise (λx y=>cmp x y≤0)∧r=.tup []∧σ'=upd σ K (some (.row sv ty k (l'.map λx=>.agg (f x)) 0)):=by
 refine⟨he,λc w imm vs hm hlen hr=>?_⟩
 obtain⟨v0,v2,v3,v4,v1,rfl⟩:∃v0 v2 v3 v4 v1,vs=#[v0,v2,v3,v4,v1]:=by
  have h2:vs.size=5:=by simpa using hlen.symm
  exact⟨vs[0],vs[1],vs[2],vs[3],vs[4],by
   refine Array.ext (by simp [h2]) λi h3 h4=>?_
   match i,(by omega:i < 5) with
   | 0,_=>rfl
   | 1,_=>rfl
   | 2,_=>rfl
   | 3,_=>rfl
   | 4,_=>rfl⟩
 have r0:=hr 0 _ v0 rfl rfl;have r1:=hr 4 _ v1 rfl rfl;obtain rfl:=r0.own_inv;obtain rfl:=(hr 1 _ v2 rfl rfl).v_inv;obtain rfl:=(hr 2 _ v3 rfl rfl).v_inv;obtain rfl:=(hr 3 _ v4 rfl rfl).v_inv;obtain⟨cv,rfl,hcl,-⟩:=r1.fn_inv;obtain rfl:cv=#[]:=Array.eq_empty_of_size_eq_zero (by simpa using hcl.symm);obtain⟨xs,hown,hmm,hok,hrd,hpl,hp,hq⟩:=hm.ok.ent K _ hK;rw [Zv9] at hown;have nop:∀ad,imm ad→v0.ownBlock≠some ad.block:=λad ha h=>by have:=hp ad ha h;omega
 by_cases hn:l.length=0
 ·obtain⟨p,cap,rfl⟩:∃p cap,v0=.slice p 0 cap:=by
   rcases hown.2 with⟨h,-⟩ | ⟨b,cap,cur,h,-⟩
   ·exact⟨_,_,h⟩
   ·rw [hn] at h;exact⟨_,_,h⟩
  obtain rfl:=List.length_eq_zero_iff.1 hn;refine(hnil p cap w).mono λe w' h=>?_;obtain⟨rfl,rfl⟩:=h;have e1:upd σ K (some (.row (.slice p 0 cap) ty k (([]:List β).map λx=>.agg (f x)) 0))=σ:=funext λj=>by
   rw [Zak];split
   ·rename_i hj;rw [hj,hK]
   ·rfl
  exact⟨.tup [],_,imm,_,rfl,⟨[],.nil,.nil,rfl,rfl⟩,.pure (.tup [] #[] rfl λj a x h1 _=>by simp at h1),by rw [e1];exact hm,Keeps.refl _ _⟩
 have hn:0 < l.length:=Zx9 hn;rcases hown.2 with⟨-,h⟩ | ⟨b,cap,cur,rfl,hB,hh,hnc,hcm,hcs,htake⟩
 ·omega
 obtain⟨n,hnd⟩:∃n,n=l.length:=⟨_,rfl⟩;rw [←hnd] at hn hown hnc htake hl;have ixl:∀i,(if i < n then i else 0) < l.length:=λi=>by split<;>omega
 obtain⟨el,hel⟩:∃el:Nat→β,el=λi=>l[if i < n then i else 0]'(ixl i):=⟨_,rfl⟩;have el_mem:∀i,el i∈l:=λi=>by rw [hel];exact Zwq _
 have hk:=λi=>Zpv (xs:=xs) (k:=k) hown.1 hn i;have hfl:∀i j,j < k→(flat (l.map λx=>AV.agg (f x)))[(if i < n then i else 0)*k+j]?=(f (el i))[j]?:=λi j hj=>by
  rw [Zdf hmm _ _ hj (by rw [Zv9];exact ixl i),Zwp,Zw9,Zwb (ixl i),hel];rfl
 have rdx:∀i,Rd w imm (.agg (f (el i))) (.agg (Zcv xs k n i).toArray):=λi=>by
  refine .agg _ _ (by rw [hf,ZAm,hk]) λj a x g1 g2=>?_;have hj:j < k:=by rw [←hf (el i)];exact(List.getElem?_eq_some_iff.1 g1).1
  rw [Zx1,Zho hj] at g2;exact hrd _ a x (by rw [hfl i j hj];exact g1) g2
 have h1':∀x,∀v∈Zcv xs k n x,v.oneCell'=true:=λi v hv=>by
  obtain⟨j,hj,rfl⟩:=List.mem_iff_getElem.1 hv;rw [hk] at hj;have g2:(Zcv xs k n i)[j]?=some _:=Zwb (by rw [hk];exact hj);rw [Zho hj] at g2;have hlt:j < (f (el i)).length:=by rw [hf];exact hj
  have g1:=hfl i j hj;rw [Zwb hlt] at g1;exact(hrd _ _ _ g1 g2).one_of (Zmi hok _ (Zyp g1))
 have hcell:∀(m:Nat) (dk:Array Nat) (os:Array Obj) (ad:Addr),imm ad→(Go.Proofs.sortWorldK (Zcv xs k n) k w b 0 m dk os).cell? ad=w.cell? ad:=λm dk os ad ha=>World.cell?_of_block (Zlq (hm.ok.lt ad ha) λe=>nop ad ha (by rw [←e];rfl))
 have hO:Go.Sort.SWO (Go.Proofs.ltOf λi j=>cmp (el i) (el j)):=by
  refine⟨λx=>?_,λx y z g1 g2=>?_,λx y z g1 g2=>?_⟩
  ·simp [Go.Proofs.ltOf,(h1 (el x) (el x)).1]
  ·simp only [Go.Proofs.ltOf,Zw4] at g1 g2 ⊢;rcases Zzf (cmp (el x) (el z)) 0 with h | h | h
   ·exact h
   ·have a1:=(h1 (el x) (el y)).2.1 g1;have a2:=h2 (el y) (el z) (el x) zo (by have:=(h1 (el z) (el x)).2;have:=(h1 (el x) (el z)).2;omega);omega
   ·have a1:=(h1 (el x) (el y)).2.1 g1;have a2:=h2 (el y) (el z) (el x) zo (by have:=(h1 (el z) (el x)).2.2 h;omega);omega
  ·simp only [Go.Proofs.ltOf,Zy3,Int.not_lt] at g1 g2 ⊢;have a1:cmp (el y) (el x)≤0:=by have:=(h1 (el x) (el y)).2;have:=(h1 (el y) (el x)).2;omega
   have a2:cmp (el z) (el y)≤0:=by have:=(h1 (el y) (el z)).2;have:=(h1 (el z) (el y)).2;omega
   have a3:=h2 (el z) (el y) (el x) a2 a1;have:=(h1 (el x) (el z)).2;have:=(h1 (el z) (el x)).2;omega
 have hcmp:Go.Proofs.CmpLays P g #[] (Zcv xs k n) k (λi j=>cmp (el i) (el j)) b 0 (Array.range n).size w:=λm os dk hs x y=>by
  refine((hc _ (el_mem x) _ (el_mem y)).2 (Go.Proofs.sortWorldK (Zcv xs k n) k w b 0 m dk os) imm _ ⟨λad ha=>⟨by rw [Zs9];have:=hm.ok.lt ad ha;omega,hm.ok.spot ad ha⟩,(hm.tbB.same λi hi=>Zlq (Zxt hi hm.lt) zo).out⟩ rfl λj a z g1 g2=>?_).mono λe w' h=>?_
  ·match j with
   | 0=>simp at g1 g2;subst g1;subst g2;exact(rdx x).keep (λ_ h=>h) (hcell m dk os)
   | 1=>simp at g1 g2;subst g1;subst g2;exact(rdx y).keep (λ_ h=>h) (hcell m dk os)
   | j+2=>simp at g1
  ·obtain⟨x,i2,rfl,hx,-,-,hb⟩:=h;cases hx;exact⟨rfl,blw_grow hb⟩
 have hxl:xs.length=n*k:=hown.1;have hcl:n*k≤cur.size:=by rw [hcs];exact Zww _ hnc
 have curx:∀j,j < n*k→cur[j]?=xs[j]?:=λj hj=>by rw [←htake,Zxv,Zv6 hj,Zyt]
 have dk:∀(d:Array Nat),d.size=n→∀j,j < n*k→d[j/k]! < n→(Go.Sort.flatK (Zcv xs k n) k d)[j]! = (xs[d[j/k]!*k+j%k]?).getD default:=λd hd j hj hlt=>by
  rw [Go.Sort.get_flatK _ _ _ _ (by rw [hd];exact hj),List.getElem!_eq_getElem?_getD,Zho (Zxb _ hk0),Zv6 hlt]
 have rng:∀i,i < n→(Array.range n)[i]! = i:=λi hi=>by rw [getElem!_pos _ i (by simpa using hi)];simp
 have dvl:∀j,j < n*k→j/k < n:=λj hj=>(Zyz hk0).2 hj
 have hH:Go.Sort.HoldsK (Zcv xs k n) k w b 0 (Array.range n):=by
  intro j hj;rw [Go.Sort.size_flatK,Array.size_range] at hj;have hj2:=dvl j hj;have e1:=dk (Array.range n) zs j hj (by rw [rng _ hj2];exact hj2);rw [rng _ hj2,Zw2 (j/k) k,Zx8] at e1;refine⟨?_,by simp [World.frozen?,hh]⟩;rw [Zwz];have:w.cell? ⟨b,j,none⟩=cur[j]?:=by simp [World.cell?,hh]
  rw [this,curx j hj,e1,Zwb zo];rfl
 have hblk:b < w.heap.size:=(Array.getElem?_eq_some_iff.1 hh).1;have hcall:=Go.Proofs.AnyQ.pdqsortCmpFunc_all L k aE zE (Zcv xs k n) (λi j=>cmp (el i) (el j)) g #[] hO b 0 cap (Array.range n) w (hc _ (el_mem 0) _ (el_mem 0)).1 hcmp ⟨hk,h1',hH,hblk⟩ (n+1) 0 n lim (Array.range n) w zo rfl (Go.Proofs.SWK.start hH) (Zwk _) zs (by rw [Array.size_range];exact hl) hlim (.inl rfl);rw [Array.size_range] at hcall;rw [←hnd];refine hcall.mono λe w' h=>?_;obtain⟨rfl,n1,os,rfl⟩:=h;have hps:=Go.Sort.pdq_sorts (Go.Proofs.ltOf λi j=>cmp (el i) (el j)) hO (Array.range n) 0 n lim true true (Zwk _) zs (.inl rfl)
 obtain⟨hpm,hsd⟩:=hps;generalize Go.Sort.pdq (Go.Proofs.ltOf λi j=>cmp (el i) (el j)) (Array.range n) 0 n lim true true=d' at hpm hsd;have hds:d'.size=n:=by rw [hpm.1,Array.size_range]
 have hperm:d'.toList.Perm (List.range n):=by
  have h3:=hpm.2.2;rw [show d'.extract 0 n=d' from by rw [←hds];simp,show(Array.range n).extract 0 n=Array.range n from by simp] at h3
  simpa using h3
 have hmap:(List.range n).map el=l:=by
  refine List.ext_getElem (by simp [hnd]) λi g1 g2=>?_;rw [ZAi,List.getElem_range,hel];simp only [hnd];congr 1;rw [Zv6 g2]
 have hdl:∀i,i < n→d'[i]! < n:=λi hi=>by
  rw [getElem!_pos _ i zo];have:d'[i]∈d'.toList:=by rw [Array.mem_toList_iff];exact Array.getElem_mem _
  exact List.mem_range.1 (hperm.mem_iff.1 this)
 obtain⟨l',hl'⟩:∃l',l'=d'.toList.map el:=⟨_,rfl⟩;have hll:l'.length=n:=by rw [hl',Zv9,Zyn,hds]
 obtain⟨cur',hcur'⟩:∃c',c'=Go.Sort.putCells id 0 (Go.Sort.flatK (Zcv xs k n) k d') cur:=⟨_,rfl⟩;have hcs':cur'.size=cap*k:=by rw [hcur',Go.Sort.putCells,Array.size_mapIdx,hcs]
 have hmm':∀x∈l'.map (λx=>AV.agg (f x)),x.cells.length=k:=λx hx=>by
  obtain⟨y,-,rfl⟩:=List.mem_map.1 hx;exact hf y
 have hok':∀x∈l'.map (λx=>AV.agg (f x)),x.ok=true:=λx hx=>by
  obtain⟨y,hy,rfl⟩:=List.mem_map.1 hx;rw [hl'] at hy;obtain⟨i,-,rfl⟩:=List.mem_map.1 hy;exact hok _ (List.mem_map.2 ⟨_,el_mem i,rfl⟩)
 have hsw:=sw_row (enc:=Zcv xs k n) (k:=k) (m:=n1) (d:=d') (os:=os) hh;rw [←hcur'] at hsw;obtain⟨mx,kp⟩:=Zde hm (sw_grown (enc:=Zcv xs k n) (k:=k) (m:=n1) (d:=d') (os:=os) hblk) sw_drawn (λg' hg'=>by cases hg';exact hB) (hcell n1 d' os) K (.row (.slice (some ⟨b,0,none⟩) n cap) ty k (l'.map λx=>.agg (f x)) 0)
  ⟨cur'.toList.take (n*k),⟨by rw [Zws,Zyn,hcs',Zv9,hll];exact Zx7 (Zww _ hnc),.inr ⟨b,cap,cur',by rw [Zv9,hll],hB,hsw,by rw [Zv9,hll];exact hnc,hcm,hcs',by rw [Zv9,hll]⟩⟩,hmm',hok',λj a x g1 g2=>by
   have hj:j < n*k:=by
    have:=(List.getElem?_eq_some_iff.1 g2).1;rw [Zws] at this;omega
   rw [Zxv,Zv6 hj,Zyt,hcur',Go.Sort.putCells,Array.getElem?_mapIdx,curx j hj,Zwb (by rw [hxl];exact hj)] at g2;simp only [Zxm,Option.some.injEq,Zwk,true_and,Zwz,Zyx,Go.Sort.size_flatK,hds,hj,Zw1,id] at g2;have hj2:=dvl j hj;rw [dk d' hds j hj (hdl _ hj2)] at g2;have hjm:=Zxb j hk0
   have hdt:d'.toList[j/k]?=some d'[j/k]!:=by
    have hjd:j/k < d'.size:=by rw [hds];exact hj2
    rw [Zyt,Zw6 hjd,getElem!_pos d' (j/k) hjd]
   have hfg:=Zdf hmm' (j/k) (j%k) hjm (by rw [Zv9,hll];exact hj2);rw [Zw2 (j/k) k,Zx8,g1,Zwp,Zw9,hl',Zw9,hdt] at hfg;have g3:=hfl (d'[j/k]!) (j%k) hjm;rw [Zv6 (hdl _ hj2)] at g3;have g4:(f (el d'[j/k]!))[j%k]?=some a:=hfg.symm
   have hxj:d'[j/k]!*k+j%k < xs.length:=by
    rw [hxl];have:=Zww k (show d'[j/k]!+1≤n from hdl _ hj2);rw [Zw0,Zx0] at this;omega
   rw [Zwb hxj] at g2;refine(hrd (d'[j/k]!*k+j%k) a x (by rw [g3];exact g4) (by rw [Zwb hxj,←g2];rfl)).keep (λ_ h=>h) (hcell n1 d' os),Zwk _,λad ha h=>absurd h (nop ad ha),λg off _ h=>absurd h zo⟩
  (λj e2 bb hj hje hb=>⟨λe=>hj (hm.ok.apart j K e2 _ bb hje hK hb (by rw [e];rfl)),λe=>hj (hm.ok.apart j K e2 _ bb hje hK hb e)⟩)
 refine⟨.tup [],_,imm,_,rfl,⟨l',?_,?_,rfl,rfl⟩,.pure (.tup [] #[] rfl λj a x h1 _=>by simp at h1),mx,kp⟩
 ·rw [hl'];have:=hperm.map el
  rwa [hmap] at this
 ·rw [hl',List.pairwise_map];refine List.pairwise_iff_getElem.2 λi j g1 g2 hij=>?_;have:=hsd i j (Zwk _) hij (by simpa [hds] using g2);rw [Zyn] at g1 g2;rw [getElem!_pos d' i g1,getElem!_pos d' j g2] at this;simp only [Go.Proofs.ltOf,Zy3,Int.not_lt] at this;simp only [Array.getElem_toList];have h3:=(h1 (el d'[i]) (el d'[j])).2;have h4:=(h1 (el d'[j]) (el d'[i])).2;omega
section
variable {P:Program} {n:Nat} {Q:AE→List Deferred→St→Prop} {ds:List Deferred} {st:St}
theorem Zha {x y:Code} (hf:Zaz n x=true) (h:Zat P 0 n x (AE.then (λst'=>XW P n y Q [] st') (λae st'=>Q ae [] st')) st):XW P n (.seq x y) Q [] st :=
 Zsx (xw_pre hf (Zsu x st (λae st' h=>by cases ae<;>exact h) h))
theorem xw_frz {code:Code} {st':St} (hF:Frz n st st') (h:XW P n code Q ds st'):XW P n code Q ds st:=λc a w imm ha hr=>by
 obtain⟨imm',hr'⟩:=hF c _ w imm hr;exact h c a w imm' ha hr'
theorem Zsy {g p:Nat} {aS bd:Code} {f:FuncId} {caps:List AV} (kD kL:Nat) (hkk:kD≠kL) (hg:st.env g=.fn f caps) (hp:p < n) (ha:(Zaz n aS && Zie aS)=true) (hb:(Zaz n bd && Zie bd)=true)
 (h:∀(D l:Nat) (RR RB:Obj),(∀(σ:Mem) (x:AV) (R:AV→Mem→Prop),σ (kL+1000)=some (.obj l RR) →
  Zat P 0 n aS (λae s1=>ae=.normal∧s1.mem (kL+1000+1000)=some (.obj l RR) ∧
   Zat P 0 n bd (λae s2=>ae=.normal∧s2.mem (kL+1000+1000)=some (.obj l RB)∧Zv4 R (.v (.bool true)) (upd s2.mem (kL+1000+1000) (some (.obj l RR))))
    ⟨s1.env,upd s1.mem (kL+1000+1000) (some (.obj l RB))⟩) ⟨upd (λt=>(st.env t).bare.sh) p x.sh,Pg.lents σ⟩→YCall P l [x] σ R) →
  ACall P f (.v (.func (.yield l) #[] #[]) :: caps) (upd (upd st.mem kD (some (.obj D (.deferred (some []))))) kL (some (.obj l RR))) λr σ' =>
   σ' kL=some (.obj l RR)∧Q .normal (mkD D :: ds) ⟨st.env,upd σ' kL none⟩):XW P n (.rangeFunc (.tmp g) #[p] aS bd) Q ds st :=
 xw_range kD kL hkk hg λD l rt fn hbare hsz=>h D l (.loop (recR fn rt p aS bd D)) (.loop (recB fn rt p aS bd D)) λσ x R hσ hc =>
  Zol hσ (λt w imm=>(AV.sub_sh _).1 w imm _ (hbare t w imm)) hsz hp ha hb hc
end
end Go.Pg
namespace Go.Proofs.YtaedgaikloifgaaGreatDoor
open Go Go.RowKit Go.Pg Go.Proofs.Tryz
attribute [-bool_to_prop] Bool.and_eq_decide Bool.or_eq_decide Bool.decide_beq_decide decide_eq_decide
theorem sz3:szOf prog 3=some 1:=by kernel_rfl
theorem by3:Zij prog 3=some 8:=by kernel_rfl
theorem z3:Za6 prog 3=some (.int .i64 0):=by kernel_rfl
theorem szL:szOf prog 133=some 1:=by kernel_rfl
theorem byL:Zij prog 133=some 2:=by kernel_rfl
theorem zL:Za6 prog 133=some (.int .u16 0):=by kernel_rfl
theorem szQ:szOf prog 106=some 1:=by kernel_rfl
theorem zQ:Za6 prog 106=some (.int .u64 0):=by kernel_rfl
attribute [go_sem] underlying37 underlying3 underlying133 underlying155 underlying106 underlying21 sz3 by3 z3 szL byL zL
theorem Zax (l:List Nat) (hs:l.length≤10000000000000) (hl:Lm l):Pure prog 133 [lim l] (lim (toL (nv l))):=by
 refine Zaa (tok:=0) (rs:=[.tmp 2]) func133 rfl ntmps133 results133 call133 zr zs ?_
 (refine wkvp w_t w_t (w_s ?_);intros)
 refine Zai (ι:=Nat) (λk e m=>k≤l.length∧e 0=lim l∧e 3=.v (.int .i64 (k:Int))∧∀j,k≤j→gN l j=0) (λk=>k) l.length zr ?_ ?_
 ·rintro k e m ⟨hk,e0,e3,hz⟩
  have gl:=Zbi hl (k - 1);by_cases h0:k=0
  ·subst h0
   (refine wkvp (w_2 e0 e3) w_t (w_s ?_);intros)
   have:=Zj4 hl hk hz (.inl rfl);simp (disch:=omega) only [go_sem];rw [←this];rfl
  ·by_cases h1:gN l (k - 1)=0
   ·(refine wkvp (w_2 e0 e3) w_t (w_s ?_);intros)
    exact⟨k - 1,⟨zo,gW e0,by simp (disch:=omega) only [go_sem,e3];congr 2;omega,λj hj=>by
     rcases Zwr j k with h2 | h2
     ·rw [show j=k - 1 by omega];exact h1
     ·exact hz j h2⟩,zo⟩
   ·(refine wkvp (w_2 e0 e3) w_t (w_s ?_);intros)
    have:=Zj4 hl hk hz (.inr zo);simp (disch:=omega) only [go_sem,this]
 ·exact⟨Zwa _,gC,gC,λj hj=>Zd5 hj⟩
theorem slN {l:List Nat} (h:l=[]):lim l=.sl 1 []:=by subst h;rfl
theorem Zmb (l:List Nat) (hs:l.length≤10000000000000) (hl:Lm l):Pure prog 128 [lim l] (lim (toL (nv l))):=by
 have h1:=Zap hl;by_cases h0:toL (nv l)=[]
 ·rw [slN h0];refine Pure.wk (r:=.v (.slice none 0 0)) ?_ (.nil 1);have h2:(toL (nv l)).length=0:=by rw [h0];rfl
  refine Zaa (tok:=0) (rs:=[.tmp 2]) func128 rfl ntmps128 results128 call128 zr zs ?_
  (refine wkvp (w_1 h2) (w_1 (Zax l hs hl)) (w_s ?_);intros)
  simp (disch:=omega) only [go_sem]
 ·have h2:0 < (toL (nv l)).length:=List.length_pos_iff.2 h0;refine Zaa (tok:=0) (rs:=[.tmp 2]) func128 rfl ntmps128 results128 call128 zr zs ?_
  (refine wkvp w_t (w_1 (Zax l hs hl)) (w_s ?_);intros)
  simp (disch:=omega) only [go_sem,Zxj,List.drop_replicate,ZAb,Zwa]
theorem natOf (n:Nat) (hn:n < 18446744073709551616):Pure prog 126 [.v (.int .u64 (n:Int))] (lim (toL n)):=by
 by_cases h0:n=0
 ·subst h0;rw [slN Zaq];refine Pure.wk (r:=.v (.slice none 0 0)) ?_ (.nil 1);refine Zaa (tok:=0) (rs:=[.tmp 2]) func126 rfl ntmps126 results126 call126 zr zs ?_
  (refine wkvp w_t w_t (w_s ?_);intros)
  refine Zai (ι:=Nat) (λk e m=>e 0=.v (.int .u64 0)∧e 3=.v (.slice none 0 0)) (λk=>k) 0 zr ?_ ?_
  ·rintro k e m ⟨e0,e3⟩
   (refine wkvp (w_2 e0 e3) w_t (w_s ?_);intros)
   simp (disch:=omega) only [go_sem]
  ·exact⟨by simp (disch:=omega) only [go_sem];rfl,gC⟩
 ·refine Zaa (tok:=0) (rs:=[.tmp 2]) func126 rfl ntmps126 results126 call126 zr zs ?_
  (refine wkvp w_t w_t (w_s ?_);intros)
  refine Zai (ι:=Nat) (λk e m=>k≤n∧e 0=.v (.int .u64 (k:Int))∧((k=n∧e 3=.v (.slice none 0 0))∨(k < n∧∃sv l,e 3=.own 12 sv∧m 12=some (.row sv 133 1 (u16s l) 0)∧l++toL k=toL n))) (λk=>k) n zr ?_ ?_
  ·rintro k e m ⟨hk,e0,hor⟩
   by_cases hk0:k=0
   ·subst hk0;rcases hor with⟨h1,_⟩ | ⟨_,sv,l,e3,em,hl⟩
    ·omega
    ·(refine wkvp (w_2 e0 e3) w_t (w_s ?_);intros)
     simp (disch:=omega) only [go_sem,em];rw [Zaq,Zxl] at hl;rw [hl]
   ·rcases hor with⟨rfl,e3⟩ | ⟨_,sv,l,e3,em,hl⟩
    ·(refine wkvp (w_3 e0 e3 @Za8) w_t (w_s ?_);intros)
     refine⟨k/65536,⟨zo,gW e0,.inr ⟨zo,_,[k%65536],gC,gC,?_⟩⟩,zo⟩;rw [Zdx hk0];rfl
    ·have b1:=(Zad (n:=n) (k:=4)).2 hn;have b2:l.length≤(toL n).length:=by rw [←hl];simp
     (refine wkvp (w_4 e0 e3 em @Za8) w_t (w_s ?_);intros)
     refine⟨k/65536,⟨zo,gW e0,.inr ⟨zo,_,l++[k%65536],gC,gC,?_⟩⟩,zo⟩;rw [←hl,Zdx hk0];simp
  ·exact⟨Zwa _,gC,.inl ⟨rfl,gC⟩⟩
def cmpN (a b:Nat):Int:=if a < b then -1 else if b < a then 1 else 0
theorem Zqt (a b:List Nat) (ha:a.length≤10000000000000) (hb:b.length≤10000000000000) (la:Lm a) (lb:Lm b):Pure prog 173 [lim a,lim b] (.v (.int .i64 (cmpN (nv a) (nv b)))):=by
 have h1:=Zap la;have h2:=Zap lb;have va:=Zam (nv a);have vb:=Zam (nv b);have ma:=Zan (nv a);have mb:=Zan (nv b);refine Zaa (tok:=0) (rs:=[.tmp 4]) func173 rfl ntmps173 results173 call173 zr zs ?_;by_cases hlt:(toL (nv a)).length < (toL (nv b)).length
 ·have:nv a < nv b:=by
   rcases Zwr (nv a) (nv b) with h | h
   ·exact h
   ·have:=Zas h;omega
  (refine wkvp w_t (w_2 (Zax a ha la) (Zax b hb lb)) (w_s ?_);intros)
  simp (disch:=omega) only [go_sem,cmpN,Zv6 this]
 ·by_cases hgt:(toL (nv b)).length < (toL (nv a)).length
  ·have:nv b < nv a:=by
    rcases Zwr (nv b) (nv a) with h | h
    ·exact h
    ·have:=Zas h;omega
   have this2:¬nv a < nv b:=zo
   (refine wkvp w_t (w_2 (Zax a ha la) (Zax b hb lb)) (w_s ?_);intros)
   simp (disch:=omega) only [go_sem,cmpN,Zv6 this,Zv5 this2]
  ·(refine wkvp w_t (w_2 (Zax a ha la) (Zax b hb lb)) (w_s ?_);intros)
   refine Zai (ι:=Nat) (λk e m=>k≤(toL (nv a)).length∧e 0=lim (toL (nv a))∧e 1=lim (toL (nv b))∧e 5=.v (.int .i64 ((k:Int) - 1))∧nv ((toL (nv a)).drop k)=nv ((toL (nv b)).drop k)) (λk=>k) (toL (nv a)).length zr ?_ ?_
   ·rintro k e m ⟨hk,e0,e1,e5,hz⟩
    by_cases h0:k=0
    ·subst h0;rw [Zxy,Zxy,va,vb] at hz
     (refine wkvp (w_3 e0 e1 e5) w_t (w_s ?_);intros)
     simp (disch:=omega) only [go_sem,cmpN,hz,Nat.lt_irrefl,Zwt]
    ·have hk1:k - 1+1=k:=zo;have ga:=Zbi ma (k - 1);have gb:=Zbi mb (k - 1);by_cases p1:gN (toL (nv a)) (k - 1) < gN (toL (nv b)) (k - 1)
     ·have:=Zqs (k:=k - 1) ma mb (by rw [hk1];exact hz) p1;rw [va,vb] at this
      (refine wkad (w_3 e0 e1 e5) w_t w_t (w_s ?_);intros)
      simp (disch:=omega) only [go_sem,cmpN,Zv6 this]
     ·by_cases p2:gN (toL (nv b)) (k - 1) < gN (toL (nv a)) (k - 1)
      ·have:=Zqs (k:=k - 1) mb ma (by rw [hk1];exact hz.symm) p2;rw [va,vb] at this;have this2:¬nv a < nv b:=zo
       (refine wkad (w_3 e0 e1 e5) w_t w_t (w_s ?_);intros)
       simp (disch:=omega) only [go_sem,cmpN,Zv6 this,Zv5 this2]
      ·(refine wkad (w_3 e0 e1 e5) w_t w_t (w_s ?_);intros)
       refine⟨k - 1,⟨zo,gW e0,gW e1,by simp (disch:=omega) only [go_sem,e5];congr 2;omega,?_⟩,zo⟩;rw [Zbs,Zbs (toL (nv b)),hk1,hz];omega
   ·refine⟨Zwa _,gC,gC,gC,?_⟩;rw [Zxn (Zwa _),Zxn zo]
theorem natAdd (a b:List Nat) (ha:a.length≤10000000000000) (hb:b.length≤10000000000000) (la:Lm a) (lb:Lm b):Pure prog 180 [lim a,lim b] (lim (toL (nv a+nv b))):=by
 have h1:=Zap la;have h2:=Zap lb;have va:=Zam (nv a);have vb:=Zam (nv b);have ma:=Zan (nv a);have mb:=Zan (nv b)
 obtain⟨A,B,hA,hB,hle,hAl,hLA,hLB,hAB,hm⟩:∃A B,A=(if (toL (nv a)).length < (toL (nv b)).length then toL (nv b) else toL (nv a))∧B=(if (toL (nv a)).length < (toL (nv b)).length then toL (nv a) else toL (nv b))∧B.length≤A.length∧A.length≤10000000000000∧Lm A∧Lm B∧nv A+nv B=nv a+nv b∧A.length≤(toL (nv a+nv b)).length:=by
  by_cases hlt:(toL (nv a)).length < (toL (nv b)).length
  ·exact⟨_,_,(Zv6 hlt).symm,(Zv6 hlt).symm,zo,zo,mb,ma,zo,Zas zo⟩
  ·exact⟨_,_,(Zv5 hlt).symm,(Zv5 hlt).symm,zo,zo,ma,mb,zo,Zas zo⟩
 refine Zaa (tok:=0) (rs:=[.tmp 4]) func180 rfl ntmps180 results180 call180 zr zs ?_;rcases Zwr (toL (nv a)).length (toL (nv b)).length with hlt | hge
 rotate_left
 have hlt:¬(toL (nv a)).length < (toL (nv b)).length:=zo;all_goals
  (first|rw [Zv6 hlt] at hA hB|rw [Zv5 hlt] at hA hB)
  (refine wkvp w_t (w_2 (Zax a ha la) (Zax b hb lb)) (w_s ?_);intros)
  rw [←hA]
  try rw [←hB]
  refine Zai (ι:=Nat) (λk e m=>k≤A.length∧e 0=lim A∧e 1=lim B∧e 26=lim A∧e 27=.v (.int .i64 A.length)∧e 28=.v (.int .i64 k)∧∃sv o c,e 5=.own 25 sv∧e 6=.v (.int .u32 (c:Nat))∧m 25=some (.row sv 133 1 (u16s o) 0)∧o.length=A.length∧Lm o∧c≤1∧nv (o.take k)+65536 ^ k*c=nv (A.take k)+nv (B.take k)) (λk=>A.length - k) 0 zr ?_ ?_
  ·rintro k e m ⟨hk,e0,e1,e26,e27,e28,sv,o,c,e5,e6,em,hol,hLo,hc,hv⟩
   have ga:=Zbi hLA k;have gb:=Zbi hLB k;have hs:=Zmt (x:=gN A k) (y:=gN B k) hv;have w1:(c+gN A k+gN B k)/65536≤1:=zo;have w2:(c+gN A k+gN B k)%65536 < 65536:=zo;by_cases hlt2:k < A.length
   ·rw [←Zc1 (o:=o) zo,←Zxs,←Zar,←Zar] at hs;by_cases hkb:k < B.length
    ·(refine wkvp (w_11 e0 e1 e26 e27 e28 e5 e6 em hol @Zaw @Za8) w_t (w_s ?_);intros)
     exact⟨k+1,⟨zo,gW e0,gW e1,gW e26,gW e27,gV e28,_,_,_,gW e5,gC,gC,by simpa using hol,hLo.set k w2,w1,hs⟩,zo⟩
    ·have g0:gN B k=0:=Zd5 zo;simp only [g0,Zxa] at hs w1 w2
     (refine wkvp (w_11 e0 e1 e26 e27 e28 e5 e6 em hol @Zaw @Za8) w_t (w_s ?_);intros)
     exact⟨k+1,⟨zo,gW e0,gW e1,gW e26,gW e27,gV e28,_,_,_,gW e5,gC,gC,by simpa using hol,hLo.set k w2,w1,hs⟩,zo⟩
   ·have hkA:k=A.length:=zo;subst hkA;rw [Zba (Zwa _),Zba hle,Zba zo,hAB] at hv;by_cases hc0:c=0
    ·subst hc0;rw [Zyk,Zxa] at hv
     (refine wkvp (w_9 e0 e1 e26 e27 e28 e5 e6 em hol) w_t (w_s ?_);intros)
     simp (disch:=omega) only [go_sem,em];rw [canon' hLo (by rw [hv];omega),hv]
    ·have hc1:c=1:=zo;subst hc1
     (refine wkvp (w_10 e0 e1 e26 e27 e28 e5 e6 em hol @Za8) w_t (w_s ?_);intros)
     simp (disch:=omega) only [go_sem];have h3:nv (o++[1])=nv a+nv b:=by rw [Zdd,hol];simpa [nv] using hv
     rw [←h3,←canon (hLo.append (Lm.one zo)) (.inr (by simp [gN]))]
  ·refine⟨Zwk _,gC,gC,gC,gC,gC,_,List.replicate A.length 0,0,gC,gC,gC,by simp,Lm.zeros _,zo,by simp [nv]⟩
theorem okTup {a:AV} {n:Int} (h:a=.v (.slice none 0 0)):Wk (.tup [a,.v (.int .i64 n)]) (.tup [lim [],.v (.int .i64 n)]):=by
 subst h;exact Wk.pair (.nil 1)
theorem natSub (a b:List Nat) (ha:a.length≤10000000000000) (hb:b.length≤10000000000000) (la:Lm a) (lb:Lm b) :
 Pure prog 181 [lim a,lim b] (.tup [lim (if nv a < nv b then [] else toL (nv a - nv b)),.v (.int .i64 (if nv a < nv b then 2 else 0))]):=by
 by_cases hlt:nv a < nv b
 ·rw [Zv6 hlt,Zv6 hlt];refine Pure.wk ?_ (okTup rfl);refine Zaa (tok:=0) (rs:=[.tmp 4,.tmp 5]) func181 rfl ntmps181 results181 call181 zr zs ?_;have hc:cmpN (nv a) (nv b)=-1:=by unfold cmpN;rw [Zv6 hlt]
  (refine wkvp (w_1 hc) (w_1 (Zqt a b ha hb la lb)) (w_s ?_);intros)
  simp (disch:=omega) only [go_sem]
 ·rw [Zv5 hlt,Zv5 hlt];have h1:=Zap la;have va:=Zam (nv a);have vb:=Zam (nv b);have ma:=Zan (nv a);have mb:=Zan (nv b);have h2:(toL (nv b)).length≤(toL (nv a)).length:=Zas zo;have hc:0≤cmpN (nv a) (nv b):=by unfold cmpN;rw [Zv5 hlt];split<;>omega
  generalize hA:toL (nv a)=A at *;generalize hB:toL (nv b)=B at *;refine Zaa (tok:=0) (rs:=[.tmp 4,.tmp 5]) func181 rfl ntmps181 results181 call181 zr zs ?_
  (refine wkvp (w_2 hA hB) (w_3 (Zqt a b ha hb la lb) (Zax a ha la) (Zax b hb lb)) (w_s ?_);intros)
  rw [hA,hB];refine Zai (ι:=Nat) (λk e m=>k≤A.length∧(e 1=lim B∧e 22=lim A∧e 23=.v (.int .i64 A.length)∧e 24=.v (.int .i64 k))∧∃sv o r,(e 6=.own 21 sv∧e 7=.v (.int .i32 (r:Nat))∧m 21=some (.row sv 133 1 (u16s o) 0))∧o.length=A.length∧Lm o∧r≤1∧nv (o.take k)+nv (B.take k)=nv (A.take k)+65536 ^ k*r) (λk=>A.length - k) 0 zr ?_ ?_
  ·rintro k e m ⟨hk,⟨e1,e22,e23,e24⟩,sv,o,r,⟨e6,e7,em⟩,hol,hLo,hr,hv⟩
   have ga:=Zbi ma k;have gb:=Zbi mb k;by_cases hlt2:k < A.length
   ·have step:∀(d r':Nat),d+r+gN B k=gN A k+65536*r'→d < 65536→r'≤1→(o.set k d).length=A.length∧Lm (o.set k d)∧r'≤1∧nv ((o.set k d).take (k+1))+nv (B.take (k+1))=nv (A.take (k+1))+65536 ^ (k+1)*r':=by
     intro d r' hd h3 h4;have:=Zp7 hv hd;rw [Zc1 zo,Zar,Zar,Zxs];exact⟨by simpa using hol,hLo.set k h3,h4,this⟩
    by_cases hneg:gN A k < r+gN B k
    ·have hs:=step (gN A k+65536 - r - gN B k) 1 zo zo zo;have w:(gN A k:Int) - r - gN B k+65536=((gN A k+65536 - r - gN B k:Nat):Int):=zo;by_cases hkb:k < B.length
     ·(refine wkvp (w_9 e1 e22 e23 e24 e6 e7 em hol w) w_t (w_s ?_);intros)
      exact⟨k+1,⟨zo,gV (And.intro e1 (And.intro e22 (And.intro e23 e24))),sv,_,1,gW e6,hs⟩,zo⟩
     ·have g0:gN B k=0:=Zd5 zo;simp only [g0,Zyx,Zxa] at hs w hneg;have w:(gN A k:Int) - r+65536=((gN A k+65536 - r:Nat):Int):=zo
      (refine wkvp (w_9 e1 e22 e23 e24 e6 e7 em hol w) w_t (w_s ?_);intros)
      exact⟨k+1,⟨zo,gV (And.intro e1 (And.intro e22 (And.intro e23 e24))),sv,_,1,gW e6,hs⟩,zo⟩
    ·have hs:=step (gN A k - r - gN B k) 0 zo zo zo;have w:(gN A k:Int) - r - gN B k=((gN A k - r - gN B k:Nat):Int):=zo;by_cases hkb:k < B.length
     ·(refine wkvp (w_9 e1 e22 e23 e24 e6 e7 em hol w) w_t (w_s ?_);intros)
      exact⟨k+1,⟨zo,gV (And.intro e1 (And.intro e22 (And.intro e23 e24))),sv,_,0,by(simp (disch:=omega) only [go_sem,e6,Zx5]<;>repeat' first|rfl|refine⟨?_,?_⟩),hs⟩,zo⟩
     ·have g0:gN B k=0:=Zd5 zo;simp only [g0,Zyx,Zxa] at hs hneg;have w:(gN A k:Int) - r=((gN A k - r:Nat):Int):=zo
      (refine wkvp (w_9 e1 e22 e23 e24 e6 e7 em hol w) w_t (w_s ?_);intros)
      exact⟨k+1,⟨zo,gV (And.intro e1 (And.intro e22 (And.intro e23 e24))),sv,_,0,by(simp (disch:=omega) only [go_sem,e6,Zx5]<;>repeat' first|rfl|refine⟨?_,?_⟩),hs⟩,zo⟩
   ·have hkA:k=A.length:=zo;subst hkA;rw [Zba zo,Zba (Zwa _),Zba h2,va,vb] at hv;have hno:=Zg6 hLo;rw [hol] at hno
    have hr0:r=0:=by
     rcases Zxg r with h3 | h3
     ·exact h3
     ·have:r=1:=zo;subst this;omega
    subst hr0;have hno2:nv o=nv a - nv b:=zo
    (refine wkax (w_8 e1 e22 e23 e24 e6 e7 em hol) w_t w_t (w_1 (Zax o zo hLo)) w_t w_t w_y (w_r 0) (w_s ?_);intros)
    simp (disch:=omega) only [go_sem,hno2]
  ·exact⟨Zwk _,gC,_,List.replicate A.length 0,0,⟨gC,gC,gC⟩,by simp,Lm.zeros _,zo,by simp [nv]⟩
theorem natMul (a b:List Nat) (ha:a.length≤4000000000000) (hb:b.length≤4000000000000) (la:Lm a) (lb:Lm b):Pure prog 86 [lim a,lim b] (lim (toL (nv a*nv b))):=by
 have h1:=Zap la;have h2:=Zap lb;have va:=Zam (nv a);have vb:=Zam (nv b);have ma:=Zan (nv a);have mb:=Zan (nv b);by_cases h0:nv a=0∨nv b=0
 ·have hz:nv a*nv b=0:=Nat.mul_eq_zero.2 h0;rw [slN (show toL (nv a*nv b)=[] by rw [hz,Zaq])];refine Pure.wk (r:=.v (.slice none 0 0)) ?_ (.nil 1);refine Zaa (tok:=0) (rs:=[.tmp 4]) func86 rfl ntmps86 results86 call86 zr zs ?_;by_cases h3:nv a=0
  ·have h4:=Zbc.2 h3
   (refine wkvp (w_1 h4) (w_2 (Zax a zo la) (Zax b zo lb)) (w_s ?_);intros)
   simp (disch:=omega) only [go_sem]
  ·have h4:(toL (nv a)).length≠0:=λh=>h3 (Zbc.1 h);have h5:=Zbc.2 (h0.resolve_left h3)
   (refine wkvp (w_1 h5) (w_2 (Zax a zo la) (Zax b zo lb)) (w_s ?_);intros)
   simp (disch:=omega) only [go_sem]
 ·have h3:(toL (nv a)).length≠0:=λh=>h0 (.inl (Zbc.1 h));have h4:(toL (nv b)).length≠0:=λh=>h0 (.inr (Zbc.1 h));generalize hA:toL (nv a)=A at *;generalize hB:toL (nv b)=B at *;refine Zaa (tok:=0) (rs:=[.tmp 4]) func86 rfl ntmps86 results86 call86 zr zs ?_
  (refine wkvp (w_3 hA hB @Zaw) (w_2 (Zax a zo la) (Zax b zo lb)) (w_s ?_);intros)
  rw [hA,hB];refine Zai (ι:=Nat) (λi e m=>i≤A.length∧(e 1=lim B∧e 29=lim A∧e 30=.v (.int .i64 A.length)∧e 31=.v (.int .i64 i))∧∃sv o,(e 5=.own 28 sv∧m 28=some (.row sv 133 1 (u16s o) 0))∧o.length=A.length+B.length∧Lm o∧(∀j,i+B.length≤j→gN o j=0)∧nv o=nv (A.take i)*nv B) (λi=>A.length - i) 0 zr ?_ ?_
  ·rintro i e m ⟨hi,⟨e1,e29,e30,e31⟩,sv,o,⟨e5,em⟩,hol,hLo,hz,hv⟩
   by_cases hlt:i < A.length
   ·have gx:=Zbi ma i
    (refine wkvp (w_8 e1 e29 e30 e31 e5 em hol @Zaw) w_t (w_s ?_);intros)
    refine Zai (ι:=Nat) (λk e' m'=>k≤B.length∧(e' 1=lim B∧e' 29=lim A∧e' 30=.v (.int .i64 A.length)∧e' 31=.v (.int .i64 i)∧e' 36=lim B∧e' 37=.v (.int .i64 B.length)∧e' 38=.v (.int .i64 k)∧e' 6=.v (.int .i64 i)∧e' 7=.v (.int .u16 (gN A i:Nat))∧e' 5=.own 28 sv)∧∃o' c,(e' 8=.v (.int .u32 (c:Nat))∧m' 28=some (.row sv 133 1 (u16s o') 0))∧o'.length=A.length+B.length∧Lm o'∧c < 65536∧(∀j,i+B.length≤j→gN o' j=0)∧nv o'+65536 ^ (i+k)*c=nv o+65536 ^ i*nv (B.take k)*gN A i) (λk=>B.length - k) 0 zr ?_ ?_
    ·rintro k e m ⟨hk,⟨e1,e29,e30,e31,e36,e37,e38,e6,e7,e5⟩,o',c,⟨e8,em⟩,hol',hLo',hc,hz',hv'⟩
     have gy:=Zbi mb k;have go:=Zbi hLo' (i+k);have bd:=Znt gx gy;by_cases hkb:k < B.length
     ·have hs:=Zqu (x:=gN A i) (y:=gN B k) rfl (Zno (o:=o') (j:=i+k) zo _) hv';rw [←Zqv,←Zar,←Zxs,Nat.succ_eq_add_one,ZAn i] at hs;have w1:(c+(gN o' (i+k)+gN A i*gN B k))/65536 < 65536:=zo;have w2:(c+(gN o' (i+k)+gN A i*gN B k))%65536 < 65536:=zo;generalize hxy:gN A i*gN B k=xy at *
      (refine wkvp (w_17 e1 e29 e30 e31 e36 e37 e38 e6 e7 e5 e8 em hol' @Zaw @Zhk @Za8 hxy) w_t (w_s ?_);intros)
      refine⟨k+1,⟨zo,gV (And.intro e1 (And.intro e29 (And.intro e30 (And.intro e31 (And.intro e36 (And.intro e37 (And.intro e38 (And.intro e6 (And.intro e7 e5))))))))),_,_,⟨gC,gC⟩,by simpa using hol',hLo'.set _ w2,w1,λj hj=>?_,hs⟩,zo⟩;rw [Zfk zo,Zv5 zo];exact hz' j hj
     ·have hkB:k=B.length:=zo;subst hkB;rw [Zba (Zwa _)] at hv';have g0:=hz' (i+B.length) (Zwa _);have h5:=Zno (o:=o') (j:=i+B.length) zo c;rw [g0,Zyk,Zxa] at h5;have hcc:c%65536=c:=Zx6 hc
      (refine wkvp (w_16 e1 e29 e30 e31 e36 e37 e38 e6 e7 e5 e8 em hol' @Zaw @Za8 hcc) w_t (w_s ?_);intros)
      refine⟨i+1,⟨zo,gV (And.intro e1 (And.intro e29 (And.intro e30 e31))),sv,_,⟨gW e5,gC⟩,by simpa using hol',hLo'.set _ hc,λj hj=>?_,?_⟩,zo⟩
      ·rw [Zfk zo,Zv5 zo];exact hz' j zo
      ·rw [h5,hv',hv,Zar,Zw0];congr 1;simp only [Zxf,Zw2,Zze]
    ·exact⟨Zwk _,gW (And.intro e1 (And.intro e29 (And.intro e30 (And.intro e31 e5)))),_,0,⟨gC,gW em⟩,hol,hLo,zo,hz,by simp [nv]⟩
   ·have hiA:i=A.length:=zo;subst hiA;rw [Zba (Zwa _),va,vb] at hv
    (refine wkax (w_7 e1 e29 e30 e31 e5 em hol) w_t w_t (w_1 (Zax o zo hLo)) w_t w_t w_y (w_r 0) (w_s ?_);intros)
    simp (disch:=omega) only [go_sem,hv]
  ·exact⟨Zwk _,gC,_,List.replicate (A.length+B.length) 0,⟨gC,gC⟩,by simp,Lm.zeros _,λj hj=>Zgz _ _,by simp [nv,Zl9]⟩
attribute [go_sem] underlying9 underlying5 underlying147
theorem Zoh (x:Nat) (hx:x < 65536):Pure prog 174 [.v (.int .u16 (x:Int))] (.v (.int .i64 (Ze0 x:Nat))):=by
 refine Zaa (tok:=0) (rs:=[.tmp 2]) func174 rfl ntmps174 results174 call174 zr zs ?_;by_cases h:256≤x
 ·have b:=Zid (i:=x/256) zo;have e:Ze0 x=8+len8 (x/256):=Zv6 h
  (repeat' (first|(apply o_tab (g:=len8) (n:=256) zk zk zo)|(with_reducible first|refine stp ?_|apply gx1|apply gx2|apply gx3|apply gx4|apply gx5|apply gx6|apply gx7)|(with_reducible refine Zbt ?_;intro _)|((with_reducible refine gE ?_);(try simp (disch:=omega) only [go_sem])<;>first|rfl|omega)|with_reducible refine Zae zd ?_))
  simp (disch:=omega) only [go_sem,e,Int.natCast_add,Int.cast_ofNat_Int]
 ·have b:=Zid (i:=x) zo;have e:Ze0 x=len8 x:=Zv5 h
  (repeat' (first|(apply o_tab (g:=len8) (n:=256) zk zk zo)|(with_reducible first|refine stp ?_|apply gx1|apply gx2|apply gx3|apply gx4|apply gx5|apply gx6|apply gx7)|(with_reducible refine Zbt ?_;intro _)|((with_reducible refine gE ?_);(try simp (disch:=omega) only [go_sem])<;>first|rfl|omega)|with_reducible refine Zae zd ?_))
  simp (disch:=omega) only [go_sem,e,Zwc]
theorem bitsLz16 (x:Nat) (hx:x < 65536):Pure prog 177 [.v (.int .u16 (x:Int))] (.v (.int .i64 ((16 - Ze0 x:Nat):Int))):=by
 refine Zaa (tok:=0) (rs:=[.tmp 2]) func177 rfl ntmps177 results177 call177 zr zs ?_;have b:=Zh0 hx;have w:(16:Int) - (Ze0 x:Int)=((16 - Ze0 x:Nat):Int):=zo
 (refine wkvp (w_1 w) (w_1 (Zoh x hx)) (w_s ?_);intros)
 simp (disch:=omega) only [go_sem]
def Zms (n:Nat):Nat:=if n=0 then 0 else 16*((toL n).length - 1)+Ze0 (gN (toL n) ((toL n).length - 1))
theorem Zg2 {n:Nat}:Zms n=0↔n=0:=by
 constructor
 ·intro h;unfold Zms at h;split at h
  ·assumption
  ·rename_i h0;have h1:=Zdw h0;have:=(Zh0 (Zbi (Zan n) ((toL n).length - 1))).2 h1.2;omega
 ·rintro rfl;rfl
theorem natBits (l:List Nat) (hs:l.length≤10000000000000) (hl:Lm l):Pure prog 127 [lim l] (.v (.int .i64 (Zms (nv l):Nat))):=by
 have h1:=Zap hl;refine Zaa (tok:=0) (rs:=[.tmp 2]) func127 rfl ntmps127 results127 call127 zr zs ?_;by_cases h0:nv l=0
 ·have h2:=Zbc.2 h0;have h3:=Zg2.2 h0
  (refine wkvp (w_1 h2) (w_1 (Zax l hs hl)) (w_s ?_);intros)
  simp (disch:=omega) only [go_sem,h3];rfl
 ·obtain⟨h2,h3⟩:=Zdw h0;have hb:Zms (nv l)=16*((toL (nv l)).length - 1)+Ze0 (gN (toL (nv l)) ((toL (nv l)).length - 1)):=Zv5 h0;have b:=Zh0 (Zbi (Zan (nv l)) ((toL (nv l)).length - 1));have w:(16:Int)*(((toL (nv l)).length:Int) - 1)+(Ze0 (gN (toL (nv l)) ((toL (nv l)).length - 1)):Nat)=(Zms (nv l):Nat):=zo
  (repeat' (first|(with_reducible first|refine stp ?_|apply gx1|apply gx2|apply gx3|apply gx4|apply gx5|apply gx6|apply gx7|refine gw0 (Zax l hs hl) ?_ ?_|refine gw0 (Zoh (gN (toL (nv l)) ((toL (nv l)).length - 1)) (Zbi (Zan (nv l)) _)) ?_ ?_)|(with_reducible refine Zbt ?_;intro _)|((with_reducible refine gE ?_);(try simp (disch:=omega) only [go_sem,w])<;>first|rfl|omega)|with_reducible refine Zae zd ?_))
  simp (disch:=omega) only [go_sem,w]
theorem Zuw (a:List Nat) (d:Nat) (ha:a.length≤10000000000000) (la:Lm a) (hd0:0 < d) (hd:d < 65536):Pure prog 176 [lim a,.v (.int .u16 (d:Int))] (.tup [lim (toL (nv a/d)),.v (.int .u16 ((nv a%d:Nat):Int))]):=by
 refine Zaa (tok:=0) (rs:=[.tmp 4,.tmp 5]) func176 rfl ntmps176 results176 call176 zr zs ?_
 (refine wkvp w_t w_t (w_s ?_);intros)
 refine Zai (ι:=Nat) (λk e m=>k≤a.length∧(e 0=lim a∧e 1=.v (.int .u16 (d:Int))∧e 8=.v (.int .i64 ((k:Int) - 1)))∧∃sv q r,(e 6=.own 11 sv∧e 7=.v (.int .u32 (r:Nat))∧m 11=some (.row sv 133 1 (u16s q) 0))∧q.length=a.length∧Lm q∧r < d∧(∀j,j < k→gN q j=0)∧nv (a.drop k)=d*nv (q.drop k)+r) (λk=>k) a.length zr ?_ ?_
 ·rintro k e m ⟨hk,⟨e0,e1,e8⟩,sv,q,r,⟨e6,e7,em⟩,hql,hLq,hr,hz,hv⟩
  by_cases h0:k=0
  ·subst h0;rw [Zxy,Zxy] at hv;have h2:nv a/d=nv q:=by rw [hv,Nat.mul_add_div hd0,ZAh hr,Zxa]
   have h3:nv a%d=r:=by rw [hv,Nat.mul_add_mod,Zx6 hr]
   (refine wkax (w_7 e0 e1 e8 e6 e7 em hql) w_t w_t (w_1 (Zax q zo hLq)) w_t w_t w_y (w_r 0) (w_s ?_);intros)
   simp (disch:=omega) only [go_sem,h2,h3]
  ·have ga:=Zbi la (k - 1);have hd1:=div_step (x:=gN a (k - 1)) rfl hv
   have w1:(r*65536+gN a (k - 1))/d < 65536:=by
    rw [Zyz hd0];have:(r+1)*65536≤d*65536:=Zww _ hr;rw [Zw2 65536 d];omega
   have w2:(r*65536+gN a (k - 1))%d < d:=Zxb _ hd0;have hk1:k - 1+1=k:=zo;have hrr:r < 65536:=zo;have w3:((r*65536+gN a (k - 1))/d)%65536=(r*65536+gN a (k - 1))/d:=Zx6 w1
   (refine wkvp (w_11 e0 e1 e8 e6 e7 em hql @Zer @Zeq @Za8 w3) w_t (w_s ?_);intros)
   refine⟨k - 1,⟨zo,⟨gW e0,gW e1,by(simp (disch:=omega) only [go_sem,e8];congr 2;omega)⟩,sv,_,_,⟨gW e6,gC,gC⟩,by simpa using hql,hLq.set _ w1,w2,λj hj=>?_,?_⟩,zo⟩
   ·rw [Zfk zo,Zv5 zo];exact hz j zo
   ·rw [Zbs,hk1,hd1,Zbs (q.set _ _),hk1,Zfk zo,Zv6 rfl,List.drop_set_of_lt zo]
 ·exact⟨Zwa _,gC,_,List.replicate a.length 0,0,⟨gC,gC,gC⟩,by simp,Lm.zeros _,hd0,λj hj=>Zgz _ _,by rw [Zxn (Zwa _),Zxn zs];simp [nv]⟩
theorem Zuv (l:List Nat) (hs:l.length≤10000000000000) (hl:Lm l):Pure prog 89 [lim l] (.tup [.v (.int .u64 (if nv l < 18446744073709551616 then (nv l:Int) else 0)),.v (.bool (decide (nv l < 18446744073709551616)))]):=by
 have h1:=Zap hl;have hk:=Zad (n:=nv l) (k:=4);have va:=Zam (nv l);have ma:=Zan (nv l);refine Zaa (tok:=0) (rs:=[.tmp 2,.tmp 3]) func89 rfl ntmps89 results89 call89 zr zs ?_;by_cases hb:nv l < 18446744073709551616
 ·have h4:=hk.2 hb;generalize hA:toL (nv l)=A at *
  (refine wkvp (w_1 hA) (w_1 (Zax l hs hl)) (w_s ?_);intros)
  rw [hA];refine Zai (ι:=Nat) (λk e m=>k≤A.length∧(e 12=lim A∧e 13=.v (.int .i64 A.length)∧e 14=.v (.int .i64 k)∧e 4=.v (.int .u64 (nv (A.take k):Nat)))) (λk=>A.length - k) 0 zr ?_ ?_
  ·rintro k e m ⟨hk,⟨e12,e13,e14,e4⟩⟩
   have ga:=Zbi ma k;by_cases hlt:k < A.length
   ·have b1:nv (A.take k) < 65536 ^ k:=Zxt (Zg6 (ma.take k)) (Zyl zo (by rw [Zws];omega));rw [Zng] at b1;have w:=orS_64 (n:=nv (A.take k)) (x:=gN A k) (s:=16*k) b1 zo ga;rw [←Zng,←Zar,Zng] at w
    have w2:shlI .u64 (gN A k:Int) ((16:Int)*(k:Int))=((gN A k*2 ^ (16*k):Nat):Int):=by
     have e:(16:Int)*(k:Int)=((16*k:Nat):Int):=zo;rw [e];refine shl_64 zo ?_;have:(2:Nat) ^ (16*k)≤2 ^ 48:=Zyl zo zo;have h5:gN A k*2 ^ (16*k)≤65535*2 ^ 48:=Zyq zo this;omega
    (refine wkvp (w_6 e12 e13 e14 e4 w2 w) w_t (w_s ?_);intros)
    exact⟨k+1,⟨zo,gV (And.intro e12 (And.intro e13 (And.intro e14 e4)))⟩,zo⟩
   ·rw [Zba zo,va] at e4
    (refine wkvp (w_4 e12 e13 e14 e4) w_t (w_s ?_);intros)
    simp (disch:=omega) only [go_sem,Zv6 hb,Zv8 hb]
  ·exact⟨Zwk _,gC⟩
 ·have h4:4 < (toL (nv l)).length:=by
   rcases Zwr 4 (toL (nv l)).length with h | h
   ·exact h
   ·exact absurd (hk.1 h) hb
  (refine wkvp w_t (w_1 (Zax l hs hl)) (w_s ?_);intros)
  simp (disch:=omega) only [go_sem,Zv5 hb,Zv7 hb]
abbrev iv (n:Int):AV:=.v (.int .i64 n)
abbrev strA (s:ByteArray):AV:=.v (.string s)
abbrev ivs (l:List Int):AV:=.sl 1 (l.map iv)
abbrev Vt:=Int × Int × Int
abbrev Vt.av (v:Vt):AV:=.agg [iv v.1,iv v.2.1,iv v.2.2]
theorem getD_mem {α:Type} {l:List α} {j:Nat} {d:α} (h:j < l.length):l.getD j d∈l:=by
 rw [Zwp,Zwb h];exact Zwq h
theorem Zaf {α:Type} (f:α→AV) {l:List α} {k:Nat} (h:k < l.length):(l.map f).getD k .u=f l[k]:=by
 rw [Zwp,Zw9,Zwb h];rfl
theorem Zec:szOf prog 31=some 1:=by kernel_rfl
theorem zErr:Za6 prog 31=some (.int .i64 0):=by kernel_rfl
theorem Zdl:szOf prog 9=some 1:=by kernel_rfl
theorem Zdu:Zij prog 9=some 16:=by kernel_rfl
theorem zStr:Za6 prog 9=some (.string ByteArray.empty):=by kernel_rfl
theorem szU8:szOf prog 5=some 1:=by kernel_rfl
theorem byU8:Zij prog 5=some 1:=by kernel_rfl
theorem zU8:Za6 prog 5=some (.int .u8 0):=by kernel_rfl
theorem Zeb:szOf prog 25=some 2:=by kernel_rfl
theorem zFig:Za6 prog 25=some (.agg #[.slice none 0 0,.slice none 0 0]):=by kernel_rfl
theorem szPt:szOf prog 98=some 6:=by kernel_rfl
theorem zPt:Za6 prog 98=some (.agg #[.bool false,.slice none 0 0,.slice none 0 0,.bool false,.slice none 0 0,.slice none 0 0]):=by kernel_rfl
theorem Zcg:szOf prog 43=some 6:=by kernel_rfl
theorem Zcj:Zij prog 43=some 104:=by kernel_rfl
theorem Zd6:Za6 prog 43=some (.agg #[.int .i64 0,.string ByteArray.empty,.slice none 0 0,.bool false,.slice none 0 0,.slice none 0 0]):=by kernel_rfl
theorem Zch:szOf prog 45=some 5:=by kernel_rfl
theorem Zck:Zij prog 45=some 88:=by kernel_rfl
theorem Zd7:Za6 prog 45=some (.agg #[.int .i64 0,.slice none 0 0,.bool false,.slice none 0 0,.slice none 0 0]):=by kernel_rfl
theorem Zd9:szOf prog 35=some 1:=by kernel_rfl
theorem zSlI:Za6 prog 35=some (.slice none 0 0):=by kernel_rfl
theorem Zd8:szOf prog 22=some 1:=by kernel_rfl
theorem zSlS:Za6 prog 22=some (.slice none 0 0):=by kernel_rfl
theorem Zea:szOf prog 23=some 1:=by kernel_rfl
theorem zSlF:Za6 prog 23=some (.slice none 0 0):=by kernel_rfl
theorem Zvx (x:Nat) (hx:x < 256):Pure prog 171 [.v (.int .u64 (x:Int))] (iv (len8 x:Nat)):=by
 refine Zaa (tok:=0) (rs:=[.tmp 2]) func171 rfl ntmps171 results171 call171 zr zs ?_;have b:=Zid (i:=x) zo
 (repeat' (first|(apply o_tab (g:=len8) (n:=256) zk zk zo)|(with_reducible first|refine stp ?_|apply gx1|apply gx2|apply gx3|apply gx4|apply gx5|apply gx6|apply gx7)|(with_reducible refine Zbt ?_;intro _)|((with_reducible refine gE ?_);(try simp (disch:=omega) only [go_sem])<;>first|rfl|omega)|with_reducible refine Zae zd ?_))
 simp (disch:=omega) only [go_sem,Zwc]
theorem bitsLen (x:Nat) (hx:x < 256):Pure prog 121 [.v (.int .u64 (x:Int))] (iv (len8 x:Nat)):=by
 have c:=Zvx x hx;generalize ((len8 x:Nat):Int)=r at *;refine pI func121 rfl ntmps121 results121 call121 ?_
 (refine wkap w_t (w_1 c) (w_r 0) (w_s ?_);intros)
 all_goals exact gL
def expOk (x:Int):Bool:=!decide (x < 0) && !decide (1048576 < x)
def rightB (l:List Int):Bool:=decide (l.length≤64) && !(l.getLast?.getD 1 == 0) && l.all expOk
def Sm (l:List Int):Prop:=l.length≤1000∧∀j,0≤gI l j∧gI l j≤16777216
def sumT (l:List Int):Nat→Int
 | 0=>0
 | k+1=>sumT l k+gI l k
def expI (l:List Int) (v:Int):Int:=if v < 0 then 0 else gI l v.toNat
theorem toNat_lt {l:List Int} {v:Int} (h0:0≤v) (h:v < l.length):v.toNat < l.length:=zo
def sgn (n:Int):Int:=if n < 0 then -1 else if 0 < n then 1 else 0
attribute [go_sem] underlying35
def trimN (l:List Int):Nat→Nat
 | 0=>0
 | n+1=>if gI l n=0 then trimN l n else n+1
def trimI (l:List Int):List Int:=l.take (trimN l l.length)
def zipI (F:Int→Int→Int) (a b:List Int):List Int:=(List.range (max a.length b.length)).map λi=>F (gI a i) (gI b i)
def upto (n k:Nat) (F:Nat→Int):List AV:=(List.range n).map λi=>AV.v (.int .i64 (if i < k then F i else 0))
def Wd (l:List Int):Prop:=l.length≤1000∧∀j,-4503599627370496≤gI l j∧gI l j≤4503599627370496
def divI (a b:List Int):Bool:=(List.range a.length).all λi=>decide (gI a i≤gI b i)
def copI (a b:List Int):Bool:=(List.range a.length).all λi=>decide (gI a i=0∨gI b i=0)
def outL (F:Nat→Int) (k:Nat):List AV:=(List.range k).map λi=>AV.v (.int .i64 (F i))
def quoI (a b:List Int):List Int:=if divI b a=true then trimI (zipI (· - ·) a b) else []
def quoR (a b:List Int):List Int:=if divI b a=true then trimI ((List.range a.length).map λi=>gI a i - gI b i) else []
attribute [go_sem] underlying4
def normI (l:List Int):List Int:=if rightB (trimI l)=true then trimI l else []
def lt1 (x y:Int):Int:=if x < y then -1 else 1
def lexC (a b:List Int):Nat→Int
 | 0=>0
 | n+1=>if gI a n=gI b n then lexC a b n else lt1 (gI a n) (gI b n)
def cmpI (a b:List Int) (o:Int):Int :=
 if o=1∧sumT a a.length≠sumT b b.length then lt1 (sumT a a.length) (sumT b b.length) else lexC a b (max a.length b.length)
def low (x:Int):Bool:=!decide (262144 < x)
def rightL (ls:List (List Int)):Bool:=ls.all λl=>rightB l && l.all low
def gLs (ls:List (List Int)) (k:Nat):List Int:=ls.getD k []
theorem natRight (a:List Nat) (n:Nat) (ha:a.length≤10000000000000) (la:Lm a) (hn:n≤1048576):Pure prog 195 [lim a,.v (.int .i64 (n:Int))] (lim (toL (nv a/2 ^ n))):=by
 have hns:n=16*(n/16)+n%16:=zo;have q1:(n:Int).tdiv 16=((n/16:Nat):Int):=Zer n 16;have q2:(n:Int).tmod 16=((n%16:Nat):Int):=Zeq n 16;have hs:n%16 < 16:=Zxb _ zo;rw [hns,Zr6,Zuu la,←hns];generalize n/16=l at *;generalize n%16=s at *;by_cases hl:a.length≤l
 ·have hz:toL (nv (a.drop l)/2 ^ s)=[]:=by rw [Zxn hl];simp [nv,Zaq]
  rw [slN hz];refine Pure.wk (r:=.v (.slice none 0 0)) ?_ (.nil 1);refine Zaa (tok:=0) (rs:=[.tmp 4]) func195 rfl ntmps195 results195 call195 zr zs ?_
  (refine wkvp (w_2 q1 q2) w_t (w_s ?_);intros)
  simp (disch:=omega) only [go_sem]
 ·have hc:(a.length:Int) - (l:Int)=((a.length - l:Nat):Int):=zo;refine Zaa (tok:=0) (rs:=[.tmp 4]) func195 rfl ntmps195 results195 call195 zr zs ?_
  (refine wkvp (w_3 q1 q2 hc) w_t (w_s ?_);intros)
  refine Zai (ι:=Nat) (λk e m=>k≤a.length - l∧(e 0=lim a∧e 5=.v (.int .i64 (l:Int))∧e 6=.v (.int .i64 (s:Int))∧e 24=.v (.int .i64 (a.length - l:Nat))∧e 25=.v (.int .i64 (k:Int)))∧∃sv o,(e 7=.own 22 sv∧m 22=some (.row sv 133 1 (u16s o) 0))∧o.length=a.length - l∧Lm o∧nv (o.take k)=(nv (a.drop l)/2 ^ s)%65536 ^ k) (λk=>a.length - l - k) 0 zr ?_ ?_
  ·rintro k e m ⟨hk,⟨e0,e5,e6,e24,e25⟩,sv,o,⟨e7,em⟩,hol,hLo,hv⟩
   by_cases hlt:k < a.length - l
   ·have ga:=Zbi la (k+l);have gb:=Zbi la (k+l+1)
    have hd:((gN a (k+l)+65536*gN a (k+l+1))/2 ^ s)%65536=(nv (a.drop l)/65536 ^ k/2 ^ s)%65536:=by
     rw [Zuu (la.drop l),Zzl,Zbs,Zbs a (l+k+1),shr_dig zo,Zyu l k]
    have hst:=shr_step hv hd;have w0:((gN a (k+l)+65536*gN a (k+l+1))/2 ^ s)%65536 < 65536:=Zxb _ zo;have sh:=λx=>shr_32 (x:=x) (s:=s) zo;by_cases hmore:k+l+1 < a.length
    ·(repeat' (first|(with_reducible first|refine stp ?_|apply gx1|apply gx2|apply gx3|apply gx4|apply gx5|apply gx6|apply gx7)|(with_reducible refine Zbt ?_;intro _)|((with_reducible refine gE ?_);(try simp (disch:=omega) only [go_sem,e0,e5,e6,e24,e25,e7,em,hol,Zaw,Zbk,Za8,or16_32',sh])<;>first|rfl|omega)|with_reducible refine Zae zd ?_))
     exact⟨k+1,⟨zo,gV (And.intro e0 (And.intro e5 (And.intro e6 (And.intro e24 e25)))),sv,_,⟨gW e7,gC⟩,by simpa using hol,hLo.set _ w0,by rw [Zc1 zo];exact hst⟩,zo⟩
    ·have g0:gN a (k+l+1)=0:=Zd5 zo;simp only [g0,Zyk,Zxa] at hst w0
     (refine wkvp (w_12 e0 e5 e6 e24 e25 e7 em hol @Zaw @Zbk @Za8 sh) w_t (w_s ?_);intros)
     exact⟨k+1,⟨zo,gV (And.intro e0 (And.intro e5 (And.intro e6 (And.intro e24 e25)))),sv,_,⟨gW e7,gC⟩,by simpa using hol,hLo.set _ w0,by rw [Zc1 zo];exact hst⟩,zo⟩
   ·rw [Zba zo] at hv;have h5:=Zg6 (la.drop l);rw [Zys] at h5;have hk2:k=a.length - l:=zo;rw [Zx6 (ZAy (Zz2 _ _) (by rw [hk2];exact h5))] at hv
    (refine wkax (w_8 e0 e5 e6 e24 e25 e7 em hol) w_t w_t (w_1 (Zax o zo hLo)) w_t w_t w_y (w_r 0) (w_s ?_);intros)
    simp (disch:=omega) only [go_sem,hv]
  ·exact⟨Zwk _,gC,_,List.replicate (a.length - l) 0,⟨gC,gC⟩,by simp,Lm.zeros _,by simp [nv,Nat.mod_one]⟩
theorem Zr8 (σ:Mem) (K:Nat) (sv:Value) (l:List Nat) (hs:l.length≤10000000000000) (hl:Lm l) (hσ:σ K=some (.row sv 133 1 (u16s l) 0)) :
 ACall prog 133 [.own K sv] σ λr σ'=>r=.view K sv 1 0 (toL (nv l)).length∧σ'=σ:=by
 refine Zbq (tok:=0) (rs:=[.tmp 2]) func133 rfl ntmps133 results133 call133 zr zs ?_
 (refine wkvp (w_1 hσ) w_t (w_s ?_);intros)
 refine Zai (ι:=Nat) (λk e m=>k≤l.length∧e 0=.own K sv∧e 3=.v (.int .i64 (k:Int))∧m=σ∧∀j,k≤j→gN l j=0) (λk=>k) l.length zr ?_ ?_
 ·rintro k e m ⟨hk,e0,e3,rfl,hz⟩
  have gl:=Zbi hl (k - 1);have fin:(k=0∨0 < gN l (k - 1))→k=(toL (nv l)).length:=λh=>by
   rw [←Zj4 hl hk hz h,Zws,Zx7 hk]
  by_cases h0:k=0
  ·subst h0;have f:=fin (.inl rfl)
   (refine wkvp (w_3 e0 e3 hσ) w_t (w_s ?_);intros)
   simp (disch:=omega) only [go_sem,←f]
  ·by_cases h1:gN l (k - 1)=0
   ·(refine wkvp (w_3 e0 e3 hσ) w_t (w_s ?_);intros)
    exact⟨k - 1,⟨zo,gW e0,by(simp (disch:=omega) only [go_sem,e3];congr 2;omega),rfl,λj hj=>by
     rcases Zwr j k with h2 | h2
     ·rw [show j=k - 1 by omega];exact h1
     ·exact hz j h2⟩,zo⟩
   ·have f:=fin (.inr zo)
    (refine wkvp (w_3 e0 e3 hσ) w_t (w_s ?_);intros)
    simp (disch:=omega) only [go_sem,←f,Zyx]
 ·exact⟨Zwa _,gC,gC,rfl,λj hj=>Zd5 hj⟩
theorem Znq (σ:Mem) (a:List Nat) (n:Nat) (ha:a.length≤4000000000000) (la:Lm a) (hn:n≤1048576) (h0:nv a≠0) :
 ACall prog 178 [lim a,.v (.int .i64 (n:Int))] σ λr σ'=>∃sv o,r=.view 44 sv 1 0 (toL (nv a*2 ^ n)).length∧σ'=upd σ 44 (some (.row sv 133 1 (u16s o) 0))∧o.length=(toL (nv a)).length+n/16+1∧Lm o∧nv o=nv a*2 ^ n:=by
 have hns:n=16*(n/16)+n%16:=zo;have q1:(n:Int).tdiv 16=((n/16:Nat):Int):=Zer n 16;have q2:(n:Int).tmod 16=((n%16:Nat):Int):=Zeq n 16;have hs:n%16 < 16:=Zxb _ zo
 have hnv:nv a*2 ^ n=nv a*2 ^ (n%16)*65536 ^ (n/16):=by
  have:=Zr5 (a:=nv a) (l:=n/16) (s:=n%16)
  rwa [←hns] at this
 have h1:=Zap la;have h2:=(Zdw h0).1;have va:=Zam (nv a);have ma:=Zan (nv a);have h16:n/16≤65536:=zo;clear hns;generalize hl:n/16=l at *;generalize hss:n%16=s at *;generalize hA:toL (nv a)=A at *;refine Zbq (tok:=0) (rs:=[.tmp 4]) func178 rfl ntmps178 results178 call178 zr zs ?_
 (refine wkvp (w_5 q1 q2 hA @Zaw @Zbk) (w_1 (Zax a zo la)) (w_s ?_);intros)
 rw [hA];have e1:((A.length+l:Nat):Int)+3=((A.length+l+3:Nat):Int):=zo
 (refine wkvp (w_4 hA @Zaw @Zbk e1) w_t (w_s ?_);intros)
 refine Zai (ι:=Nat) (λk e m=>k≤A.length∧(e 5=.v (.int .i64 (l:Int))∧e 6=.v (.int .i64 (s:Int))∧e 45=lim A∧e 46=.v (.int .i64 A.length)∧e 47=.v (.int .i64 (k:Int)))∧∃sv o,(e 7=.own 44 sv∧m=upd σ 44 (some (.row sv 133 1 (u16s o) 0)))∧o.length=A.length+l+1∧Lm o∧gN o (k+l) < 2 ^ s∧(∀j,k+l < j→gN o j=0)∧nv o=nv (A.take k)*2 ^ s*65536 ^ l) (λk=>A.length - k) 0 zr ?_ ?_
 ·rintro k e m ⟨hk,⟨e5,e6,e45,e46,e47⟩,sv,o,⟨e7,rfl⟩,hol,hLo,hg,hz,hv⟩
  by_cases hlt:k < A.length
  ·have gx:=Zbi ma k
   have p16:(2:Nat) ^ s≤32768:=by
    have:(2:Nat) ^ s≤2 ^ 15:=Zyl zo zo;omega
   have bx:gN A k*2 ^ s≤65535*32768:=Zyq zo p16;have sh:=shl_32 (x:=gN A k) (s:=s) zo zo;have lo:=low_mul (x:=gN A k) (s:=s) zo;have hlo:(gN A k*2 ^ s)%65536 < 65536:=Zxb _ zo;rw [lo] at hlo;have hor:=or_16 (b:=gN o (k+l)) zo hg hlo;rw [←lo] at hor
   have hhi:gN A k*2 ^ s/65536 < 2 ^ s:=by
    rw [Zyz zo,Zw2];exact Nat.mul_lt_mul_of_pos_left gx (ZAg s)
   have hsum:gN o (k+l)+(gN A k*2 ^ s)%65536 < 65536:=by
    rw [lo];have h5:(gN A k%2 ^ (16 - s)+1)*2 ^ s≤2 ^ (16 - s)*2 ^ s:=Zww _ (Zxb _ (ZAg _));rw [←Zya,ZAf zo,Zw0,Zx0] at h5;omega
   have hcut:gN A k*2 ^ s/65536%65536=gN A k*2 ^ s/65536:=Zx6 zo
   (refine wkvp (w_14 e5 e6 e45 e46 e47 e7 hol @Zaw @Zbk @Za8 sh hor hcut @l_set) w_t (w_s ?_);intros)
   refine⟨k+1,⟨zo,gV (And.intro e5 (And.intro e6 (And.intro e45 (And.intro e46 e47)))),sv,_,⟨gW e7,by(simp (disch:=omega) only [go_sem,Zhc]<;>repeat' first|rfl|refine⟨?_,?_⟩)⟩,by simpa using hol,(hLo.set _ hsum).set _ zo,?_,λj hj=>?_,?_⟩,zo⟩
   ·rw [Zfk (by simp;omega),Zv6 zo];exact hhi
   ·rw [Zfk (by simp;omega),Zv5 zo,Zfk zo,Zv5 zo];exact hz j zo
   ·have h3:=Zno (o:=o) (j:=k+l) zo (gN o (k+l)+(gN A k*2 ^ s)%65536);have h4:=Zno (o:=o.set (k+l) (gN o (k+l)+(gN A k*2 ^ s)%65536)) (j:=k+l+1) (by simp;omega) (gN A k*2 ^ s/65536);rw [Zfk zo,Zv5 zo,hz (k+l+1) zo,Zyk,Zxa] at h4;rw [h4,Zar,Zw0,Zw0,←hv]
    have h5:65536 ^ (k+l)*(gN A k*2 ^ s%65536)+65536 ^ (k+l+1)*(gN A k*2 ^ s/65536)=65536 ^ k*gN A k*2 ^ s*65536 ^ l:=by
     rw [Zxs,Zxf (65536 ^ (k+l)),←Zw3,Nat.mod_add_div,Zya];simp only [Zxf,Zze,Zw2]
    rw [Zw3] at h3;omega
  ·have hkA:k=A.length:=zo;subst hkA;rw [Zba (Zwa _),va,←hnv] at hv;have ct:=Zr8 (upd σ 44 (some (.row sv 133 1 (u16s o) 0))) 44 sv o zo hLo (by simp only [Zak,Zw1]);rw [hv] at ct
   (repeat' (first|(with_reducible first|refine stp ?_|apply gx1|apply gx2|apply gx3|apply gx4|apply gx5|apply gx6|apply gx7|refine Zk6 (ct) ?_)|(with_reducible refine Zbt ?_;intro _)|((with_reducible refine gE ?_);(try simp (disch:=omega) only [go_sem,e5,e6,e45,e46,e47,e7])<;>first|rfl|omega)|with_reducible refine Zae zd ?_))
   simp (disch:=omega) only [go_sem];exact⟨sv,o,rfl,rfl,hol,hLo,hv⟩
 ·refine⟨Zwk _,gC,_,List.replicate (A.length+l+1) 0,⟨gC,gC⟩,by simp,Lm.zeros _,?_,λj _=>Zgz _ _,by simp [nv,Zl9]⟩;rw [Zgz];exact ZAg s
theorem natShl (a:List Nat) (n:Nat) (ha:a.length≤4000000000000) (la:Lm a) (hn:n≤1048576):Pure prog 178 [lim a,.v (.int .i64 (n:Int))] (lim (toL (nv a*2 ^ n))):=by
 by_cases h0:nv a=0
 ·have h2:=Zbc.2 h0;rw [slN (show toL (nv a*2 ^ n)=[] by rw [h0,Nat.zero_mul,Zaq])];refine Pure.wk (r:=.v (.slice none 0 0)) ?_ (.nil 1);refine Zaa (tok:=0) (rs:=[.tmp 4]) func178 rfl ntmps178 results178 call178 zr zs ?_
  (refine wkvp (w_1 h2) (w_1 (Zax a zo la)) (w_s ?_);intros)
  simp (disch:=omega) only [go_sem]
 ·refine Zl3 (Znq Zah a n ha la hn h0) λr σ' ⟨sv,o,hr,hσ,hol,hLo,hv⟩=>?_;subst hr;subst hσ;have hlen:=Zap hLo;rw [hv] at hlen;refine⟨by simp (disch:=omega) only [go_sem],?_⟩;simp (disch:=omega) only [go_sem,Zwz];obtain⟨k,h1,h2⟩:=Zlo hLo;rw [hv] at h2;have h3:k=(toL (nv a*2 ^ n)).length:=by rw [←h2,Zws];omega
  rw [←h3,h2]
theorem natShr (a:List Nat) (n:Nat) (ha:a.length≤4000000000000) (la:Lm a) (h0:0 < n) (hn:n≤1048576):Pure prog 178 [lim a,.v (.int .i64 (-(n:Int)))] (lim (toL (nv a/2 ^ n))):=by
 by_cases hz:nv a=0
 ·have h2:=Zbc.2 hz;rw [slN (show toL (nv a/2 ^ n)=[] by rw [hz,Nat.zero_div,Zaq])];refine Pure.wk (r:=.v (.slice none 0 0)) ?_ (.nil 1);refine Zaa (tok:=0) (rs:=[.tmp 4]) func178 rfl ntmps178 results178 call178 zr zs ?_
  (refine wkvp (w_1 h2) (w_1 (Zax a zo la)) (w_s ?_);intros)
  simp (disch:=omega) only [go_sem]
 ·have h2:=(Zdw hz).1;have h1:=Zap la;have hr:=natRight (toL (nv a)) n zo (Zan _) hn;rw [Zam] at hr;have w:(0:Int) - -(n:Int)=(n:Int):=zo;refine Zaa (tok:=0) (rs:=[.tmp 4]) func178 rfl ntmps178 results178 call178 zr zs ?_
  (refine wkvp (w_1 w) (w_2 (Zax a zo la) hr) (w_s ?_);intros)
  simp (disch:=omega) only [go_sem]
theorem Zpe (σ:Mem) (K:Nat) (sv:Value) (pre w post v:List Nat) (d:Nat) (hσ:σ K=some (.row sv 133 1 (u16s (pre++(w++post))) 0)) (hwv:w.length=v.length+1) (hsz:(pre++(w++post)).length≤10000000000000) (lw:Lm w) (lv:Lm v) (hd:d < 65536) :
 ACall prog 197 [.view K sv 1 pre.length w.length,lim v,.v (.int .u32 (d:Int))] σ λr σ'=>∃(w':List Nat) (b:Nat),r=.v (.bool (decide (0 < (b:Int))))∧σ'=upd σ K (some (.row sv 133 1 (u16s (pre++(w'++post))) 0))∧w'.length=w.length∧Lm w'∧b≤1∧nv w'+d*nv v=nv w+65536 ^ w.length*b:=by
 have hsz2:pre.length+(w.length+post.length)≤10000000000000:=by simpa using hsz
 refine Zbq (tok:=0) (rs:=[.tmp 6]) func197 rfl ntmps197 results197 call197 zr zs ?_
 (refine wkvp w_t w_t (w_s ?_);intros)
 refine Zai (ι:=Nat) (λk e m=>k≤w.length∧(e 0=.view K sv 1 pre.length w.length∧e 1=lim v∧e 2=.v (.int .u32 (d:Int))∧e 12=.v (.int .i64 w.length)∧e 13=.v (.int .i64 (k:Int)))∧∃w' c r,(e 7=.v (.int .u32 (c:Nat))∧e 8=.v (.int .i32 (r:Nat))∧m=upd σ K (some (.row sv 133 1 (u16s (pre++(w'++post))) 0)))∧w'.length=w.length∧Lm w'∧c < 65536∧(v.length < k→c=0)∧r≤1∧(∀j,k≤j→gN w' j=gN w j)∧nv (w'.take k)+d*nv (v.take k)=nv (w.take k)+65536 ^ k*(c+r)) (λk=>w.length - k) 0 zr ?_ ?_
 ·rintro k e m ⟨hk,⟨e0,e1,e2,e12,e13⟩,w',c,r,⟨e7,e8,rfl⟩,hwl,hLw,hc,hcz,hr,hsame,hv⟩
  by_cases hlt:k < w.length
  ·have gw:=Zbi lw k;have gv:=Zbi lv k;have hgw:=hsame k (Zwa _);have mid:=gN_mid (pre:=pre) (post:=post) (show k < w'.length by omega);have smid:=λx=>Zti (pre:=pre) (post:=post) (show k < w'.length by omega) x;have hln:(pre++(w'++post)).length=pre.length+(w'.length+post.length):=by simp
   have bd:=Znt hd gv;have step:∀(x r' c1:Nat),c1=c+d*gN v k→x+c1%65536+r=gN w k+65536*r'→x < 65536→r'≤1 →
    (w'.set k x).length=w.length∧Lm (w'.set k x)∧c1/65536 < 65536∧(v.length < k+1→c1/65536=0)∧r'≤1∧(∀j,k+1≤j→gN (w'.set k x) j=gN w j)∧nv ((w'.set k x).take (k+1))+d*nv (v.take (k+1))=nv (w.take (k+1))+65536 ^ (k+1)*(c1/65536+r'):=by
    intro x r' c1 h1 h2 h3 h4;have h5:=Zoq hv h1 h2;refine⟨by simpa using hwl,hLw.set k h3,zo,λh6=>?_,h4,λj hj=>?_,?_⟩
    ·have:gN v k=0:=Zd5 zo;rw [this,Zyk] at h1;omega
    ·rw [Zfk zo,Zv5 zo];exact hsame j zo
    ·rw [Zc1 zo,Zar,Zar,Zxs];exact h5
   by_cases hkv:k < v.length
   ·generalize hxy:d*gN v k=xy at *;by_cases hneg:gN w k < (c+xy)%65536+r
    ·have hs:=step (gN w k+65536 - (c+xy)%65536 - r) 1 (c+xy) rfl zo zo zo;have wv:(gN w k:Int) - ((c+xy)%65536:Nat) - r+65536=((gN w k+65536 - (c+xy)%65536 - r:Nat):Int):=zo;have wm:(gN w k+65536 - (c+xy)%65536 - r)%65536=gN w k+65536 - (c+xy)%65536 - r:=Zx6 zo
     (refine wkvp (w_18 e0 e1 e2 e12 e13 e7 e8 hln hwl mid smid hgw @Zaw @Zhk @Za8 hxy wv wm) w_t (w_s ?_);intros)
     exact⟨k+1,⟨zo,gV (And.intro e0 (And.intro e1 (And.intro e2 (And.intro e12 e13)))),_,_,1,⟨gC,gC,by(simp (disch:=omega) only [go_sem,Zhc]<;>repeat' first|rfl|refine⟨?_,?_⟩)⟩,hs⟩,zo⟩
    ·have hs:=step (gN w k - (c+xy)%65536 - r) 0 (c+xy) rfl zo zo zo;have wv:(gN w k:Int) - ((c+xy)%65536:Nat) - r=((gN w k - (c+xy)%65536 - r:Nat):Int):=zo;have wm:(gN w k - (c+xy)%65536 - r)%65536=gN w k - (c+xy)%65536 - r:=Zx6 zo
     (refine wkvp (w_18 e0 e1 e2 e12 e13 e7 e8 hln hwl mid smid hgw @Zaw @Zhk @Za8 hxy wv wm) w_t (w_s ?_);intros)
     exact⟨k+1,⟨zo,gV (And.intro e0 (And.intro e1 (And.intro e2 (And.intro e12 e13)))),_,_,0,⟨gC,gC,by(simp (disch:=omega) only [go_sem,Zhc]<;>repeat' first|rfl|refine⟨?_,?_⟩)⟩,hs⟩,zo⟩
   ·have g0:gN v k=0:=Zd5 zo;have hcm:c%65536=c:=Zx6 hc;simp only [g0,Zyk,Zxa] at step;by_cases hneg:gN w k < c+r
    ·have hs:=step (gN w k+65536 - c - r) 1 c rfl zo zo zo;have wv:(gN w k:Int) - (c:Nat) - r+65536=((gN w k+65536 - c - r:Nat):Int):=zo;have wm:(gN w k+65536 - c - r)%65536=gN w k+65536 - c - r:=Zx6 zo
     (refine wkvp (w_16 e0 e1 e2 e12 e13 e7 e8 hln hwl mid smid hgw @Za8 hcm wv wm) w_t (w_s ?_);intros)
     exact⟨k+1,⟨zo,gV (And.intro e0 (And.intro e1 (And.intro e2 (And.intro e12 e13)))),_,_,1,⟨gC,gC,by(simp (disch:=omega) only [go_sem,Zhc]<;>repeat' first|rfl|refine⟨?_,?_⟩)⟩,hs⟩,zo⟩
    ·have hs:=step (gN w k - c - r) 0 c rfl zo zo zo;have wv:(gN w k:Int) - (c:Nat) - r=((gN w k - c - r:Nat):Int):=zo;have wm:(gN w k - c - r)%65536=gN w k - c - r:=Zx6 zo
     (refine wkvp (w_16 e0 e1 e2 e12 e13 e7 e8 hln hwl mid smid hgw @Za8 hcm wv wm) w_t (w_s ?_);intros)
     exact⟨k+1,⟨zo,gV (And.intro e0 (And.intro e1 (And.intro e2 (And.intro e12 e13)))),_,_,0,⟨gC,gC,by(simp (disch:=omega) only [go_sem,Zhc]<;>repeat' first|rfl|refine⟨?_,?_⟩)⟩,hs⟩,zo⟩
  ·have hkw:k=w.length:=zo;subst hkw;have hc0:=hcz zo;subst hc0;rw [Zba zo,Zba zo,Zba (Zwa _),Zwz] at hv
   (refine wkvp (w_7 e0 e1 e2 e12 e13 e7 e8) w_t (w_s ?_);intros)
   simp (disch:=omega) only [go_sem];refine⟨w',r,?_,?_,hwl,hLw,hr,hv⟩<;>rfl
 ·exact⟨Zwk _,gC,w,0,0,⟨gC,gC,by rw [Zp4 hσ]⟩,rfl,lw,zo,λ_=>rfl,zo,λ_ _=>rfl,by simp [nv]⟩
theorem Zr9 (σ:Mem) (K:Nat) (sv:Value) (pre w post v:List Nat) (hσ:σ K=some (.row sv 133 1 (u16s (pre++(w++post))) 0)) (hwv:v.length≤w.length) (hsz:(pre++(w++post)).length≤10000000000000) (lw:Lm w) (lv:Lm v) :
 ACall prog 198 [.view K sv 1 pre.length w.length,lim v] σ λr σ'=>∃(w':List Nat) (c:Nat),r=.tup []∧σ'=upd σ K (some (.row sv 133 1 (u16s (pre++(w'++post))) 0))∧w'.length=w.length∧Lm w'∧c≤1∧nv w'+65536 ^ w.length*c=nv w+nv v:=by
 have hsz2:pre.length+(w.length+post.length)≤10000000000000:=by simpa using hsz
 refine Zbq (tok:=0) (rs:=[]) func198 rfl ntmps198 results198 call198 zr zs ?_
 (refine wkvp w_t w_t (w_s ?_);intros)
 refine Zai (ι:=Nat) (λk e m=>k≤w.length∧(e 0=.view K sv 1 pre.length w.length∧e 1=lim v∧e 7=.v (.int .i64 w.length)∧e 8=.v (.int .i64 (k:Int)))∧∃w' c,(e 4=.v (.int .u32 (c:Nat))∧m=upd σ K (some (.row sv 133 1 (u16s (pre++(w'++post))) 0)))∧w'.length=w.length∧Lm w'∧c≤1∧(∀j,k≤j→gN w' j=gN w j)∧nv (w'.take k)+65536 ^ k*c=nv (w.take k)+nv (v.take k)) (λk=>w.length - k) 0 zr ?_ ?_
 ·rintro k e m ⟨hk,⟨e0,e1,e7,e8⟩,w',c,⟨e4,rfl⟩,hwl,hLw,hc,hsame,hv⟩
  by_cases hlt:k < w.length
  ·have gw:=Zbi lw k;have gv:=Zbi lv k;have hgw:=hsame k (Zwa _);have mid:=gN_mid (pre:=pre) (post:=post) (show k < w'.length by omega);have smid:=λx=>Zti (pre:=pre) (post:=post) (show k < w'.length by omega) x;have hln:(pre++(w'++post)).length=pre.length+(w'.length+post.length):=by simp
   have hs:=Zmt (x:=gN w k) (y:=gN v k) hv;have w1:(c+gN w k+gN v k)/65536≤1:=zo;have w2:(c+gN w k+gN v k)%65536 < 65536:=zo;have hsm:∀x j,k+1≤j→gN (w'.set k x) j=gN w j:=λx j hj=>by
    rw [Zfk zo,Zv5 zo];exact hsame j zo
   rw [←Zc1 (o:=w') zo,←Zxs,←Zar,←Zar] at hs;by_cases hkv:k < v.length
   ·(refine wkvp (w_12 e0 e1 e7 e8 e4 hln hwl mid smid hgw @Zaw @Za8) w_t (w_s ?_);intros)
    exact⟨k+1,⟨zo,gV (And.intro e0 (And.intro e1 (And.intro e7 e8))),_,_,⟨gC,by(simp (disch:=omega) only [go_sem,Zhc]<;>repeat' first|rfl|refine⟨?_,?_⟩)⟩,by simpa using hwl,hLw.set k w2,w1,hsm _,hs⟩,zo⟩
   ·have g0:gN v k=0:=Zd5 zo;simp only [g0,Zxa] at hs w1 w2
    (refine wkvp (w_12 e0 e1 e7 e8 e4 hln hwl mid smid hgw @Zaw @Za8) w_t (w_s ?_);intros)
    exact⟨k+1,⟨zo,gV (And.intro e0 (And.intro e1 (And.intro e7 e8))),_,_,⟨gC,by(simp (disch:=omega) only [go_sem,Zhc]<;>repeat' first|rfl|refine⟨?_,?_⟩)⟩,by simpa using hwl,hLw.set k w2,w1,hsm _,hs⟩,zo⟩
  ·have hkw:k=w.length:=zo;subst hkw;rw [Zba zo,Zba (Zwa _),Zba hwv] at hv
   (refine wkvp (w_5 e0 e1 e7 e8 e4) w_t (w_s ?_);intros)
   simp (disch:=omega) only [go_sem];refine⟨w',c,?_,hwl,hLw,hc,hv⟩<;>rfl
 ·exact⟨Zwk _,gC,w,0,⟨gC,by rw [Zp4 hσ]⟩,rfl,lw,zo,λ_ _=>rfl,by simp [nv]⟩
theorem Zpd (σ:Mem) (sv:Value) (g2 g3 g5 g7 g9 g10:Nat) (U post v:List Nat) (d r j:Nat) (h2:σ 2=some (.box g2 37 [.view 44 sv 1 0 U.length] false)) (h3:σ 3=some (.box g3 37 [lim v] false)) (h5:σ 5=some (.box g5 3 [.v (.int .i64 v.length)] false))
 (h7:σ 7=some (.box g7 3 [.v (.int .i64 (j:Int))] false)) (h9:σ 9=some (.box g9 106 [.v (.int .u64 (d:Int))] false)) (h10:σ 10=some (.box g10 106 [.v (.int .u64 (r:Int))] false)) (h44:σ 44=some (.row sv 133 1 (u16s (U++post)) 0))
 (hn:2≤v.length) (hj:j+v.length < U.length) (hsz:U.length+post.length≤10000000000000) (lv:Lm v) (lU:Lm U) (hr:r < 65536) :
 ACall prog 196 [.pbox 9 g9 0,.pbox 3 g3 0,.pbox 5 g5 0,.pbox 10 g10 0,.pbox 2 g2 0,.pbox 7 g7 0] σ λx σ'=>x=.v (.bool (decide (65536≤d) || decide (r*65536+gN U (j+v.length - 2) < d*gN v (v.length - 2))))∧σ'=σ:=by
 refine Zbq (tok:=0) (rs:=[.tmp 6]) func196 rfl ntmps196 results196 call196 zr zs ?_;by_cases hd:65536≤d
 ·(refine wkad (w_7 h2 h3 h5 h7 h9 h10 h44) w_t w_t (w_s ?_);intros)
  simp (disch:=omega) only [go_sem,Zv8 hd]
 ·have gv:=Zbi lv (v.length - 2);have gu:=Zbi lU (j+v.length - 2);have bd:=Znt (x:=d) zo gv;have e1:(v.length:Int) - 2=((v.length - 2:Nat):Int):=zo;have e2:((j+v.length:Nat):Int) - 2=((j+v.length - 2:Nat):Int):=zo;have hg:gN (U++post) (j+v.length - 2)=gN U (j+v.length - 2):=Zps zo;have hl:(U++post).length=U.length+post.length:=Zwy;generalize hxy:d*gN v (v.length - 2)=xy at *;by_cases ht:r*65536+gN U (j+v.length - 2) < xy
  ·(refine wkad (w_15 h2 h3 h5 h7 h9 h10 h44 e1 e2 hg hl @Zaw @Zhk hxy @Zwz) w_t w_t (w_s ?_);intros)
   simp (disch:=omega) only [go_sem,Zv8 ht]
  ·(refine wkad (w_15 h2 h3 h5 h7 h9 h10 h44 e1 e2 hg hl @Zaw @Zhk hxy @Zwz) w_t w_t (w_s ?_);intros)
   simp (disch:=omega) only [go_sem,Zv7 hd,Zv7 ht]
attribute [go_sem] szQ zQ
theorem Zl8 {P:Program} {t d f:Nat} {args:List AV} {K:St→Prop} {e:Nat→AV} {m:Mem} {R:AV→Mem→Prop} (c:ACall P f args m R) (h:∀r σ',R r σ'→K ⟨upd e d r,σ'⟩):aRes P t (some d) (.call f args) K ⟨e,m⟩:=c.mono h
theorem Znp {σ:Mem} {K:Nat} {sv:Value} {pre w post v:List Nat} {d i len:Nat} (hi:pre.length=i) (hw:w.length=len) (hσ:σ K=some (.row sv 133 1 (u16s (pre++(w++post))) 0)) (hwv:len=v.length+1) (hsz:(pre++(w++post)).length≤10000000000000) (lw:Lm w) (lv:Lm v) (hd:d < 65536) :
 ACall prog 197 [.view K sv 1 i len,lim v,.v (.int .u32 (d:Int))] σ λr σ'=>∃(w':List Nat) (b:Nat),r=.v (.bool (decide (0 < (b:Int))))∧σ'=upd σ K (some (.row sv 133 1 (u16s (pre++(w'++post))) 0))∧w'.length=len∧Lm w'∧b≤1∧nv w'+d*nv v=nv w+65536 ^ len*b:=by
 subst hi;subst hw;exact Zpe σ K sv pre w post v d hσ hwv hsz lw lv hd
theorem Zpf {σ:Mem} {K:Nat} {sv:Value} {pre w post v:List Nat} {i len:Nat} (hi:pre.length=i) (hw:w.length=len) (hσ:σ K=some (.row sv 133 1 (u16s (pre++(w++post))) 0)) (hwv:v.length≤len) (hsz:(pre++(w++post)).length≤10000000000000) (lw:Lm w) (lv:Lm v) :
 ACall prog 198 [.view K sv 1 i len,lim v] σ λr σ'=>∃(w':List Nat) (c:Nat),r=.tup []∧σ'=upd σ K (some (.row sv 133 1 (u16s (pre++(w'++post))) 0))∧w'.length=len∧Lm w'∧c≤1∧nv w'+65536 ^ len*c=nv w+nv v:=by
 subst hi;subst hw;exact Zr9 σ K sv pre w post v hσ hwv hsz lw lv
structure LongInv (U v q U':List Nat) (k:Nat):Prop where
 ql:q.length=U.length - v.length
 qL:Lm q
 qz:∀j,j < k→gN q j=0
 ul:U'.length=U.length
 uL:Lm U'
 eq:nv U'+nv v*nv (q.drop k)*65536 ^ k=nv U
 lt:nv (U'.drop k) < nv v
theorem LongInv.step {U v q U' w'':List Nat} {j n:Nat} (h:LongInv U v q U' (j+1)) (hn:v.length=n) (lv:Lm v) (hj:j+n < U.length) (hw:w''.length=n+1) (hwL:Lm w'')
 (hwv:nv w''=nv ((U'.drop j).take (n+1))%nv v) (hd:nv ((U'.drop j).take (n+1))/nv v < 65536) :
 LongInv U v (q.set j (nv ((U'.drop j).take (n+1))/nv v)) (U'.take j++(w''++U'.drop (j+n+1))) j:=by
 have hV:0 < nv v:=ZAy (Zwk _) h.lt;have hz:=drop_zero lv hn h.lt;rw [Zzl,show j+1+n=j+n+1 by omega] at hz;have hql:=h.ql;have hul:=h.ul;have hlj:(U'.take j).length=j:=by rw [Zws];omega
 have hj1:nv (U'.drop j)=nv ((U'.drop j).take (n+1)):=by
  have:=Zbm (U'.drop j) (n+1);rw [Zzl,show j+(n+1)=j+n+1 by omega,hz] at this;omega
 have hw2:nv (w''++U'.drop (j+n+1))=nv w'':=by rw [Zdd,hz];omega
 have hdr:nv ((U'.take j++(w''++U'.drop (j+n+1))).drop j)=nv w'':=by
  rw [List.drop_append_of_le_length zo,Zxn zo,ZAv,hw2]
 refine⟨by simpa using hql,h.qL.set j hd,λi hi=>?_,by simp;omega,(h.uL.take j).append (hwL.append (h.uL.drop _)),?_,by rw [hdr,hwv];exact Zxb _ hV⟩
 ·rw [Zfk zo,Zv5 zo];exact h.qz i zo
 ·have h1:=h.eq;have h2:=Zbm U' j;have h3:=Zx8 (nv ((U'.drop j).take (n+1))) (nv v);rw [Zdd,hlj,hw2,hwv,Zbs (q.set j _),Zfk zo,Zv6 rfl,List.drop_set_of_lt zo];rw [←h1,h2,hj1,Zw3,Zw0,Zxs];generalize nv ((U'.drop j).take (n+1))=W at *;generalize nv (q.drop (j+1))=Q at *
  have e1:nv v*(W/nv v)*65536 ^ j+65536 ^ j*(W%nv v)=65536 ^ j*W:=by
   rw [Zw2 (nv v*(W/nv v)),←Zw3,h3]
  have e2:nv v*(65536*Q)*65536 ^ j=nv v*Q*(65536 ^ j*65536):=by
   simp only [Zxf,Zze,Zw2]
  omega
theorem natLong (σ:Mem) (sv:Value) (U post v:List Nat) (n:Nat) (hvn:v.length=n) (h44:σ 44=some (.row sv 133 1 (u16s (U++post)) 0)) (hn:2≤n) (hlen:n < U.length) (hsz:U.length+post.length≤10000000000000) (lU:Lm U) (lp:Lm post) (lv:Lm v)
 (hvt:0 < gN v (n - 1)) (hlt:nv (U.drop (U.length - n)) < nv v) :
 ACall prog 179 [.view 44 sv 1 0 U.length,lim v] σ λr σ'=>∃U':List Nat,r=lim (toL (nv U/nv v))∧σ' 44=some (.row sv 133 1 (u16s (U'++post)) 0)∧U'.length=U.length∧Lm U'∧nv U'=nv U%nv v:=by
 have hc:(U.length:Int) - (n:Int)=((U.length - n:Nat):Int):=zo;refine Zbq (tok:=0) (rs:=[.tmp 4]) func179 rfl ntmps179 results179 call179 zr zs ?_
 (refine wkvp (w_2 hvn hc) w_t (w_s ?_);intros)
 refine Zai (ι:=Nat) (λk e m=>k≤U.length - n∧∃g2 g3 g5 g7 svo q U',(e 2=.pbox 2 g2 0∧e 3=.pbox 3 g3 0∧e 5=.pbox 5 g5 0∧e 6=.own 18 svo∧e 7=.pbox 7 g7 0)∧m 2=some (.box g2 37 [.view 44 sv 1 0 U.length] false)∧m 3=some (.box g3 37 [lim v] false)∧m 5=some (.box g5 3 [.v (.int .i64 n)] false)∧m 7=some (.box g7 3 [.v (.int .i64 ((k:Int) - 1))] false) ∧
  m 18=some (.row svo 133 1 (u16s q) 0)∧m 44=some (.row sv 133 1 (u16s (U'++post)) 0)∧LongInv U v q U' k) (λk=>k) (U.length - n) zr ?_ ?_
 ·rintro k e m ⟨hk,g2,g3,g5,g7,svo,q,U',⟨e2,e3,e5,e6,e7⟩,m2,m3,m5,m7,m18,m44,inv⟩
  have hql:=inv.ql;rw [hvn] at hql;have hul:=inv.ul;rcases Zxg k with h0 | h0
  ·subst h0;have h1:=inv.eq;have h2:=inv.lt;rw [Zxy] at h1 h2;rw [Nat.pow_zero,Zy0] at h1;have hq:nv U/nv v=nv q:=by rw [←h1,Zyu,Nat.mul_add_div zo,ZAh h2,Zxa]
   have hr:nv U'=nv U%nv v:=by rw [←h1,Zyu,Nat.mul_add_mod,Zx6 h2]
   (repeat' (first|(with_reducible first|refine stp ?_|apply gx1|apply gx2|apply gx3|apply gx4|apply gx5|apply gx6|apply gx7|apply gw1 (Zax q zo inv.qL))|(with_reducible refine Zbt ?_;intro _)|((with_reducible refine gE ?_);(try simp (disch:=omega) only [go_sem,e2,e3,e5,e6,e7,m2,m3,m5,m7,m18,m44])<;>first|rfl|omega)|with_reducible refine Zae zd ?_))
   simp (disch:=omega) only [go_sem,hq];refine⟨U',?_,hul,inv.uL,hr⟩;simp (disch:=omega) only [go_sem,m44]
  ·obtain⟨j,rfl⟩:∃j,k=j+1:=⟨k - 1,zo⟩;have ej:((j+1:Nat):Int) - 1=(j:Int):=zo;rw [ej] at m7;have g0:=Zbi inv.uL (j+n);have g1:=Zbi inv.uL (j+n - 1);have g2':=Zbi inv.uL (j+n - 2);have gv1:=Zbi lv (n - 1);have gv2:=Zbi lv (n - 2);have hl:(U'++post).length=U'.length+post.length:=Zwy;have x0:gN (U'++post) (j+n)=gN U' (j+n):=Zps zo;have x1:gN (U'++post) (j+n - 1)=gN U' (j+n - 1):=Zps zo;have ex1:((j+n:Nat):Int) - 1=((j+n - 1:Nat):Int):=zo;have ex2:(n:Int) - 1=((n - 1:Nat):Int):=zo;have hwl:((U'.drop j).take (n+1)).length=n+1:=by rw [Zws,Zys];omega
   have hwL:Lm ((U'.drop j).take (n+1)):=(inv.uL.drop j).take _;have wg:∀i,i≤n→gN ((U'.drop j).take (n+1)) i=gN U' (j+i):=λi hi=>by rw [gN_take zo,Zvc]
   have hW:=nv_top3 hwl hn;rw [wg n (Zwa _),wg (n - 1) zo,wg (n - 2) zo,show j+(n - 1)=j+n - 1 by omega,show j+(n - 2)=j+n - 2 by omega] at hW;have hwl2:=Zgv hwL (n - 2);have hVt:=nv_top2 hvn hn;have hvl2:=Zgv lv (n - 2);have hV:0 < nv v:=ZAy (Zwk _) inv.lt
   have htop:gN U' (j+n)≤gN v (n - 1):=by
    have:=top_le (inv.uL.drop (j+1)) lv hvn hn inv.lt
    rwa [Zvc,show j+1+(n - 1)=j+n by omega] at this
   have hWV:nv ((U'.drop j).take (n+1))/nv v < 65536:=by
    rw [Zyz hV];have h1:=Zbm (U'.drop j) (n+1);have h2:=Zbs U' j;have h3:=inv.lt;have h4:=Zbi inv.uL j;omega
   obtain⟨high,hhigh⟩:∃h,gN U' (j+n)*65536+gN U' (j+n - 1)=h:=⟨_,rfl⟩;rw [hhigh] at hW;have hinit:=kn_init (Nat.pow_pos zo) hVt hW hwl2 g2' hvt (Nat.div_mul_le_self (nv ((U'.drop j).take (n+1))) (nv v));have hhd:=Zx8 high (gN v (n - 1));have hhr:=Zxb high hvt;have hhq:=Zz2 high (gN v (n - 1));rw [Zw2] at hhd;have hv1i:(gN v (n - 1):Int)≠0:=zo
   have hq1:(high:Int)/(gN v (n - 1):Int)≤4294967296:=by
    have:((high/gN v (n - 1):Nat):Int)≤4294967296:=zo;exact this
   have wq:IntKind.u64.wrap ((high/gN v (n - 1):Nat):Int)=((high/gN v (n - 1):Nat):Int):=Ze1 (Zyw _) zo
   (repeat' (first|(with_reducible first|refine stp ?_|apply gx1|apply gx2|apply gx3|apply gx4|apply gx5|apply gx6|apply gx7|apply gy8|apply gz2|apply gz3)|(with_reducible refine Zbt ?_;intro _)|((with_reducible refine gE ?_);(try simp (disch:=omega) only [go_sem,e2,e3,e5,e6,e7,m2,m3,m5,m7,m18,m44,hl,hul,hvn,x0,x1,ex1,ex2,hhigh,hv1i,Zaw,Zer,Zeq,Zwz,wq])<;>first|rfl|omega)|with_reducible refine Zae zd ?_|((with_reducible apply gy1);iterate 3 focus rfl)|((with_reducible apply gy2);iterate 3 focus rfl)|((with_reducible apply gy3);iterate 2 focus rfl)|((with_reducible apply gy4);iterate 1 focus rfl)|((with_reducible apply gy5);iterate 4 focus rfl)|((with_reducible apply gy5c);iterate 4 focus rfl)|((with_reducible apply gy6);iterate 4 focus rfl)|((with_reducible apply Zdq);iterate 3 focus rfl)|((with_reducible apply Zdn);iterate 1 focus rfl)|((with_reducible apply gy7);iterate 1 focus rfl)|((with_reducible apply gy9);(focus ((with_reducible refine gE ?_);(try simp (disch:=omega) only [go_sem,e2,e3,e5,e6,e7,m2,m3,m5,m7,m18,m44,hl,hul,hvn,x0,x1,ex1,ex2,hhigh,hv1i,Zaw,Zer,Zeq,Zwz,wq])<;>rfl)))|((with_reducible apply gz1);(focus first|rfl|(simp (disch:=omega) only [go_sem,e2,e3,e5,e6,e7,m2,m3,m5,m7,m18,m44,hl,hul,hvn,x0,x1,ex1,ex2,hhigh,hv1i,Zaw,Zer,Zeq,Zwz,wq];done)))|((with_reducible apply Zal (Za3 []) [] [9,10]);(focus kernel_rfl);(focus rfl);(focus kernel_rfl);(focus (simp only [Zwd,Zwi,Nat.reduceAdd];rfl)))))
   rename_i g9 g10;have hlj:(U'.take j).length=j:=by rw [Zws];omega
   have hsplit:U'++post=U'.take j++((U'.drop j).take (n+1)++(U'.drop (j+n+1)++post)):=by
    have e1:U'=U'.take j++((U'.drop j).take (n+1)++U'.drop (j+n+1)):=by
     rw [show j+n+1=j+(n+1) by omega,←Zzl,Zyh,Zyh]
    rw [←Zxe ((U'.drop j).take (n+1)),←Zxe,←e1]
   have esub:j+n+1 - j=n+1:=zo;obtain⟨W,hWd⟩:∃W,nv ((U'.drop j).take (n+1))=W:=⟨_,rfl⟩;have hstep:=fun(w'':List Nat) hw hwL2 hwv=>inv.step (w'':=w'') hvn lv zo hw hwL2 hwv hWV;rw [hWd] at hinit hWV hW hstep
   have hzz:∀d r,high=d*gN v (n - 1)+r→65536≤r→d < 65536∧d*gN v (n - 2)≤r*65536+gN U' (j+n - 2):=by
    intro d r h1 h2
    have hd:d < 65536:=by
     rcases Zwr d 65536 with h3 | h3
     ·exact h3
     ·exfalso;have h4:65536*gN v (n - 1)≤d*gN v (n - 1):=Zww _ h3;omega
    have:=Znt hd gv2;omega
   refine Zai (ι:=Nat) (λd e' m'=>(e' 2=.pbox 2 g2 0∧e' 3=.pbox 3 g3 0∧e' 5=.pbox 5 g5 0∧e' 6=.own 18 svo∧e' 7=.pbox 7 g7 0∧e' 9=.pbox 9 g9 0∧e' 10=.pbox 10 g10 0∧e' 11=.fn 196 [.pbox 9 g9 0,.pbox 3 g3 0,.pbox 5 g5 0,.pbox 10 g10 0,.pbox 2 g2 0,.pbox 7 g7 0]) ∧
    m' 2=some (.box g2 37 [.view 44 sv 1 0 U.length] false)∧m' 3=some (.box g3 37 [lim v] false)∧m' 5=some (.box g5 3 [.v (.int .i64 n)] false)∧m' 7=some (.box g7 3 [.v (.int .i64 (j:Int))] false)∧m' 18=some (.row svo 133 1 (u16s q) 0)∧m' 44=some (.row sv 133 1 (u16s (U'++post)) 0) ∧
    m' 9=some (.box g9 106 [.v (.int .u64 (d:Int))] false)∧∃r:Nat,m' 10=some (.box g10 106 [.v (.int .u64 (r:Int))] false)∧high=d*gN v (n - 1)+r∧W/nv v≤d∧d≤high∧r < 131072) (λd=>d) (high/gN v (n - 1)) zr ?_ ?_
   ·rintro d e m ⟨⟨e2,e3,e5,e6,e7,e9,e10,e11⟩,m2,m3,m5,m7,m18,m44,m9,r,m10,hhi,hqd,hdh,hr2⟩
    have ct:=λhr=>Zpd m sv g2 g3 g5 g7 g9 g10 U' post v d r j (by rw [hul];exact m2) m3 (by rw [hvn];exact m5) m7 m9 m10 m44 zo zo zo lv inv.uL hr;rw [hvn] at ct;by_cases hgo:r < 65536∧(65536≤d∨r*65536+gN U' (j+n - 2) < d*gN v (n - 2))
    ·obtain⟨hr,ht⟩:=hgo;have hb:(decide (65536≤d) || decide (r*65536+gN U' (j+n - 2) < d*gN v (n - 2)))=true:=by simpa using ht
     have hd1:1≤d:=by
      rcases Zxg d with h | h
      ·subst h;omega
      ·exact h
     have ed:(d:Int) - 1=((d - 1:Nat):Int):=zo
     have hq2:W/nv v≤d - 1:=by
      rcases ht with h | h
      ·omega
      ·have h1:=kn_step hVt hW hwl2 hhi h;rw [←Zyz hV] at h1;omega
     have hh2:high=(d - 1)*gN v (n - 1)+(r+gN v (n - 1)):=by
      obtain⟨d',rfl⟩:∃d',d=d'+1:=⟨d - 1,zo⟩;rw [ZAe,hhi,Zw0,Zx0];omega
     (repeat' (first|(with_reducible first|refine stp ?_|apply gx1|apply gx2|apply gx3|apply gx4|apply gx5|apply gx6|apply gx7|apply gy8|apply gz2|apply gz3|refine Zk6 (ct hr) ?_)|(with_reducible refine Zbt ?_;intro _)|((with_reducible refine gE ?_);(try simp (disch:=omega) only [go_sem,e2,e3,e5,e6,e7,e9,e10,e11,m2,m3,m5,m7,m18,m44,m9,m10,hb,ed,ex2,hvn,Zaw])<;>first|rfl|omega)|with_reducible refine Zae zd ?_|((with_reducible apply gy1);iterate 3 focus rfl)|((with_reducible apply gy2);iterate 3 focus rfl)|((with_reducible apply gy3);iterate 2 focus rfl)|((with_reducible apply gy4);iterate 1 focus rfl)|((with_reducible apply gy5);iterate 4 focus rfl)|((with_reducible apply gy5c);iterate 4 focus rfl)|((with_reducible apply gy6);iterate 4 focus rfl)|((with_reducible apply Zdq);iterate 3 focus rfl)|((with_reducible apply Zdn);iterate 1 focus rfl)|((with_reducible apply gy7);iterate 1 focus rfl)|((with_reducible apply gy9);(focus ((with_reducible refine gE ?_);(try simp (disch:=omega) only [go_sem,e2,e3,e5,e6,e7,e9,e10,e11,m2,m3,m5,m7,m18,m44,m9,m10,hb,ed,ex2,hvn,Zaw])<;>rfl)))|((with_reducible apply gz1);(focus first|rfl|(simp (disch:=omega) only [go_sem,e2,e3,e5,e6,e7,e9,e10,e11,m2,m3,m5,m7,m18,m44,m9,m10,hb,ed,ex2,hvn,Zaw];done)))|((with_reducible apply Zal (Za3 []) [8] []);(focus kernel_rfl);(focus rfl);(focus kernel_rfl);(focus (simp only [Zwd,Zwi,Nat.reduceAdd];rfl)))))
     exact⟨d - 1,⟨⟨gW e2,gW e3,gW e5,gW e6,gW e7,gW e9,gW e10,gW e11⟩,gW m2,gW m3,gW m5,gW m7,gW m18,gW m44,gC,_,gC,hh2,hq2,zo,zo⟩,zo⟩
    ·obtain⟨hd,hdv⟩:d < 65536∧d*gN v (n - 2)≤r*65536+gN U' (j+n - 2):=by
      rcases Zwr r 65536 with h | h
      ·have h2:¬(65536≤d∨r*65536+gN U' (j+n - 2) < d*gN v (n - 2)):=λh2=>hgo ⟨h,h2⟩;omega
      ·exact hzz d r hhi h
     have hb:(decide (65536≤d) || decide (r*65536+gN U' (j+n - 2) < d*gN v (n - 2)))=false:=by
      rw [Zzo,Zy3,Zy3];omega
     have hnear:=kn_near hV hqd (kn_exit hVt hvl2 hW hhi hvt hd hdv);have csub:=Znp (K:=44) (sv:=sv) (σ:=m) (post:=U'.drop (j+n+1)++post) (v:=v) (d:=d) hlj hwl (by rw [←hsplit];exact m44) zo (by rw [←hsplit];omega) hwL lv hd;rcases Zwr r 65536 with hr | hr
     all_goals
      (repeat' (first|(with_reducible first|refine stp ?_|apply gx1|apply gx2|apply gx3|apply gx4|apply gx5|apply gx6|apply gx7|apply gy8|apply gz2|apply gz3|refine Zk6 (ct hr) ?_)|(with_reducible refine Zbt ?_;intro _)|((with_reducible refine gE ?_);(try simp (disch:=omega) only [go_sem,e2,e3,e5,e6,e7,e9,e10,e11,m2,m3,m5,m7,m18,m44,m9,m10,hb,ex2,hvn,Zaw,Zbk,esub,Zwz])<;>first|rfl|omega)|with_reducible refine Zae zd ?_|((with_reducible apply gy1);iterate 3 focus rfl)|((with_reducible apply gy2);iterate 3 focus rfl)|((with_reducible apply gy3);iterate 2 focus rfl)|((with_reducible apply gy4);iterate 1 focus rfl)|((with_reducible apply gy5);iterate 4 focus rfl)|((with_reducible apply gy5c);iterate 4 focus rfl)|((with_reducible apply gy6);iterate 4 focus rfl)|((with_reducible apply Zdq);iterate 3 focus rfl)|((with_reducible apply Zdn);iterate 1 focus rfl)|((with_reducible apply gy7);iterate 1 focus rfl)|((with_reducible apply gy9);(focus ((with_reducible refine gE ?_);(try simp (disch:=omega) only [go_sem,e2,e3,e5,e6,e7,e9,e10,e11,m2,m3,m5,m7,m18,m44,m9,m10,hb,ex2,hvn,Zaw,Zbk,esub,Zwz])<;>rfl)))|((with_reducible apply gz1);(focus first|rfl|(simp (disch:=omega) only [go_sem,e2,e3,e5,e6,e7,e9,e10,e11,m2,m3,m5,m7,m18,m44,m9,m10,hb,ex2,hvn,Zaw,Zbk,esub,Zwz];done)))|((with_reducible apply Zal (Za3 []) [10] []);(focus kernel_rfl);(focus rfl);(focus kernel_rfl);(focus (simp only [Zwd,Zwi,Nat.reduceAdd];rfl)))))
      refine Zl8 csub ?_
      rintro _ _ ⟨w',b,rfl,rfl,hwl',hwL',hb1,heq⟩
      rw [hWd] at heq;have hw'p:nv w' < 65536 ^ (n+1):=by have:=Zg6 hwL';rwa [hwl'] at this
      have hcase:=subDone hV hw'p hb1 heq hnear;have ej2:(j:Int) - 1=(j:Int) - 1:=rfl;rcases hcase with⟨rfl,hdq,hwm⟩ | ⟨rfl,hdq⟩
      ·have inv':=hstep w' hwl' hwL' hwm;rw [←hdq] at inv';have hdm:d%65536=d:=Zx6 hd
       (repeat' (first|(with_reducible first|refine stp ?_|apply gx1|apply gx2|apply gx3|apply gx4|apply gx5|apply gx6|apply gx7|apply gy8|apply gz2|apply gz3)|(with_reducible refine Zbt ?_;intro _)|((with_reducible refine gE ?_);(try simp (disch:=omega) only [go_sem,e2,e3,e5,e6,e7,e9,e10,e11,m2,m3,m5,m7,m18,m44,m9,m10,hql,Za8,hdm,Zx5,Int.lt_irrefl])<;>first|rfl|omega)|with_reducible refine Zae zd ?_|((with_reducible apply gy1);iterate 3 focus rfl)|((with_reducible apply gy2);iterate 3 focus rfl)|((with_reducible apply gy3);iterate 2 focus rfl)|((with_reducible apply gy4);iterate 1 focus rfl)|((with_reducible apply gy5);iterate 4 focus rfl)|((with_reducible apply gy5c);iterate 4 focus rfl)|((with_reducible apply gy6);iterate 4 focus rfl)|((with_reducible apply Zdq);iterate 3 focus rfl)|((with_reducible apply Zdn);iterate 1 focus rfl)|((with_reducible apply gy7);iterate 1 focus rfl)|((with_reducible apply gy9);(focus ((with_reducible refine gE ?_);(try simp (disch:=omega) only [go_sem,e2,e3,e5,e6,e7,e9,e10,e11,m2,m3,m5,m7,m18,m44,m9,m10,hql,Za8,hdm,Zx5,Int.lt_irrefl])<;>rfl)))|((with_reducible apply gz1);(focus first|rfl|(simp (disch:=omega) only [go_sem,e2,e3,e5,e6,e7,e9,e10,e11,m2,m3,m5,m7,m18,m44,m9,m10,hql,Za8,hdm,Zx5,Int.lt_irrefl];done)))|((with_reducible apply Zal (Za3 []) [10] []);(focus kernel_rfl);(focus rfl);(focus kernel_rfl);(focus (simp only [Zwd,Zwi,Nat.reduceAdd];rfl)))))
       exact⟨j,⟨zo,g2,g3,g5,_,svo,q.set j d,U'.take j++(w'++U'.drop (j+n+1)),⟨gW e2,gW e3,gW e5,gW e6,gC⟩,gW m2,gW m3,gW m5,gC,gC,by(simp (disch:=omega) only [go_sem,Zxe]<;>repeat' first|rfl|refine⟨?_,?_⟩),inv'⟩,zo⟩
      ·have crest:=fun(σ:Mem) h=>Zpf (σ:=σ) (K:=44) (sv:=sv) (post:=U'.drop (j+n+1)++post) (v:=v) hlj hwl' h zo (by rw [hsplit] at hl;simp only [Zwy] at hl ⊢;omega) hwL' lv;have hd1:1≤d:=by rw [hdq];exact Nat.le_add_left 1 _
       have ed:(d:Int) - 1=((d - 1:Nat):Int):=zo;have one:(0:Int) < ((1:Nat):Int):=zo
       (repeat' (first|(with_reducible first|refine stp ?_|apply gx1|apply gx2|apply gx3|apply gx4|apply gx5|apply gx6|apply gx7|apply gy8|apply gz2|apply gz3)|(with_reducible refine Zbt ?_;intro _)|((with_reducible refine gE ?_);(try simp (disch:=omega) only [go_sem,e2,e3,e5,e6,e7,e9,e10,e11,m2,m3,m5,m7,m18,m44,m9,m10,ed,one,Zaw,Zbk,esub,Zwz])<;>first|rfl|omega)|with_reducible refine Zae zd ?_|((with_reducible apply gy1);iterate 3 focus rfl)|((with_reducible apply gy2);iterate 3 focus rfl)|((with_reducible apply gy3);iterate 2 focus rfl)|((with_reducible apply gy4);iterate 1 focus rfl)|((with_reducible apply gy5);iterate 4 focus rfl)|((with_reducible apply gy5c);iterate 4 focus rfl)|((with_reducible apply gy6);iterate 4 focus rfl)|((with_reducible apply Zdq);iterate 3 focus rfl)|((with_reducible apply Zdn);iterate 1 focus rfl)|((with_reducible apply gy7);iterate 1 focus rfl)|((with_reducible apply gy9);(focus ((with_reducible refine gE ?_);(try simp (disch:=omega) only [go_sem,e2,e3,e5,e6,e7,e9,e10,e11,m2,m3,m5,m7,m18,m44,m9,m10,ed,one,Zaw,Zbk,esub,Zwz])<;>rfl)))|((with_reducible apply gz1);(focus first|rfl|(simp (disch:=omega) only [go_sem,e2,e3,e5,e6,e7,e9,e10,e11,m2,m3,m5,m7,m18,m44,m9,m10,ed,one,Zaw,Zbk,esub,Zwz];done)))|((with_reducible apply Zal (Za3 []) [8] []);(focus kernel_rfl);(focus rfl);(focus kernel_rfl);(focus (simp only [Zwd,Zwi,Nat.reduceAdd];rfl)))))
       refine Zl8 (crest _ (gC)) ?_
       rintro _ _ ⟨w'',c,rfl,rfl,hwl'',hwL'',hc1,heq2⟩
       have hw''p:nv w'' < 65536 ^ (n+1):=by have:=Zg6 hwL'';rwa [hwl''] at this
       have hVp:nv v≤65536 ^ (n+1):=by
        have h1:=Zg6 lv;rw [hvn] at h1;have h2:65536 ^ n≤65536 ^ (n+1):=Zyl zo zo;omega
       have hwm:=resDone hV hVp hw''p hc1 (by rw [←hdq];exact heq) heq2;have inv':=hstep w'' hwl'' hwL'' hwm;have hdq2:d - 1=W/nv v:=by rw [hdq,ZAe]
       rw [←hdq2] at inv';have hdm:(d - 1)%65536=d - 1:=Zx6 zo
       (refine wkad (w_19 e2 e3 e5 e6 e7 e9 e10 e11 m2 m3 m5 m7 m18 m44 m9 m10 hql @Za8 hdm) w_t w_t (w_s ?_);intros)
       exact⟨j,⟨zo,g2,g3,g5,_,svo,q.set j (d - 1),U'.take j++(w''++U'.drop (j+n+1)),⟨gW e2,gW e3,gW e5,gW e6,gC⟩,gW m2,gW m3,gW m5,gC,gC,by(simp (disch:=omega) only [go_sem,Zxe]<;>repeat' first|rfl|refine⟨?_,?_⟩),inv'⟩,zo⟩
   ·exact⟨⟨gW e2,gW e3,gW e5,gW e6,gW e7,gC,gC,gC⟩,gW m2,gW m3,gW m5,gW m7,gW m18,gW m44,gC,_,gC,zo,hinit,zo,zo⟩
 ·refine⟨Zwa _,_,_,_,_,_,List.replicate (U.length - n) 0,U,⟨gC,gC,gC,gC,gC⟩,gC,gC,gC,gC,gC,gW h44,⟨by rw [hvn];simp,Lm.zeros _,λ_ _=>Zgz _ _,rfl,lU,?_,hlt⟩⟩;rw [Zxn zs];simp [nv]
theorem Zu3 (i:Nat):i < 2 ^ len8 i:=by
 unfold len8;split
 ·rename_i h;subst h;decide
 ·exact Nat.lt_log2_self
theorem len16_lt (x:Nat):x < 2 ^ Ze0 x:=by
 unfold Ze0;split
 ·have:=Zu3 (x/256);rw [Zya];have e:(2:Nat) ^ 8=256:=rfl;omega
 ·exact Zu3 x
theorem Zp5 (a:List Nat):u16s a++[.v (.int .u16 0),.v (.int .u16 0)]=u16s (a++[0,0]):=by simp [u16s]
theorem Wk.three {a a' b b' c:AV} (h1:Wk a a') (h2:Wk b b'):Wk (.tup [a,b,c]) (.tup [a',b',c]):=by
 refine .tup _ _ rfl λj x y h3 h4=>?_
 match j with
 | 0=>simp at h3 h4;subst h3;subst h4;exact h1
 | 1=>simp at h3 h4;subst h3;subst h4;exact h2
 | 2=>simp at h3 h4;subst h3;subst h4;exact .refl _
 | j+3=>simp at h3
theorem Zos {b s n:Nat} (h0:b≠0) (hn:(toL b).length=n) (hs:s=16 - Ze0 (gN (toL b) (n - 1))):(toL (b*2 ^ s)).length=n:=by
 have h1:=(Zdw h0).1;have ht:=Zbi (Zan b) (n - 1);have hbd:=Zh0 ht;have hlt:=len16_lt (gN (toL b) (n - 1));have hp:=ZAg s;have h3:(toL b).length≤(toL (b*2 ^ s)).length:=Zas (Zzp _ hp)
 have h4:(toL (b*2 ^ s)).length≤n:=by
  rw [Zad];have h5:=Zbm (toL b) (n - 1);rw [Zam,Zbs,show n - 1+1=n by omega,Zxn zo] at h5;simp only [nv,Zyk,Zxa] at h5;have h6:=Zgv (Zan b) (n - 1);generalize gN (toL b) (n - 1)=t at *
  have h7:b < 65536 ^ (n - 1)*2 ^ Ze0 t:=by
   have h10:65536 ^ (n - 1)*(t+1)≤65536 ^ (n - 1)*2 ^ Ze0 t:=Zy8 _ hlt;rw [Zw3,Zy0] at h10;omega
  have h8:b*2 ^ s < 65536 ^ (n - 1)*2 ^ Ze0 t*2 ^ s:=ZA0 h7 hp
  have h9:2 ^ Ze0 t*2 ^ s=65536:=by
   rw [←Zya,hs,show Ze0 t+(16 - Ze0 t)=16 by omega]
  rw [Zxf,h9,←Zxs,Nat.succ_eq_add_one,show n - 1+1=n by omega] at h8;exact h8
 omega
theorem Znr (a b:List Nat) (ha:a.length≤2000000000000) (hb:b.length≤2000000000000) (la:Lm a) (lb:Lm b) (h0:nv b≠0):Pure prog 131 [lim a,lim b] (.tup [lim (toL (nv a/nv b)),lim (toL (nv a%nv b)),.v (.int .i64 0)]):=by
 have h1:=Zap la;have h2:=Zap lb;have va:=Zam (nv a);have vb:=Zam (nv b);have ma:=Zan (nv a);have mb:=Zan (nv b);obtain⟨hb1,hb2⟩:=Zdw h0;have cc:=Zqt (toL (nv a)) (toL (nv b)) zo zo ma mb;rw [va,vb] at cc;by_cases hlt:nv a < nv b
 ·rw [show toL (nv a/nv b)=[] by rw [ZAh hlt,Zaq],Zx6 hlt];refine Pure.wk ?_ (Wk.three (.nil 1) (.refl _));have hcm:cmpN (nv a) (nv b)=-1:=Zv6 hlt;have cn:=Zmb (toL (nv a)) zo ma;rw [va] at cn;refine Zaa (tok:=0) (rs:=[.tmp 4,.tmp 5,.tmp 6]) func131 rfl ntmps131 results131 call131 zr zs ?_
  (refine wkvp (w_1 hcm) (w_4 (Zax a zo la) (Zax b zo lb) cc cn) (w_s ?_);intros)
  simp (disch:=omega) only [go_sem]
 ·have hcm:0≤cmpN (nv a) (nv b):=by unfold cmpN;rw [Zv5 hlt];split<;>omega
  by_cases hone:(toL (nv b)).length=1
  ·have e0:nv b=gN (toL (nv b)) 0:=by
    have:=Zbm (toL (nv b)) 0;rw [Zbs,Zxn zo,vb] at this
    simpa [nv] using this
   have gb:=Zbi mb 0;have cb:=Zuw (toL (nv a)) (gN (toL (nv b)) 0) zo ma zo gb;rw [va,←e0] at cb;have hr:=Zxb (nv a) (Zx9 h0);have co:=natOf (nv a%nv b) zo;refine Zaa (tok:=0) (rs:=[.tmp 4,.tmp 5,.tmp 6]) func131 rfl ntmps131 results131 call131 zr zs ?_;have wr:IntKind.u64.wrap ((nv a%nv b:Nat):Int)=((nv a%nv b:Nat):Int):=Ze1 (Zyw _) zo
   (refine wkvp (w_3 hone (Eq.symm e0) wr) (w_5 (Zax a zo la) (Zax b zo lb) cc cb co) (w_s ?_);intros)
   simp (disch:=omega) only [go_sem]
  ·
   obtain⟨n,hn⟩:∃n,(toL (nv b)).length=n:=⟨_,rfl⟩;rw [hn] at hb1 hb2 hone h2;have ht:=Zbi mb (n - 1);have hbd:=Zh0 ht;obtain⟨s,hs⟩:∃s,16 - Ze0 (gN (toL (nv b)) (n - 1))=s:=⟨_,rfl⟩;have hs15:s≤15:=zo;have hvl:=Zos h0 hn hs.symm;have ha0:nv a≠0:=zo;have hab:n≤(toL (nv a)).length:=by rw [←hn];exact Zas zo
   have clz:=bitsLz16 (gN (toL (nv b)) (n - 1)) ht;rw [hs] at clz;have en:(n:Int) - 1=((n - 1:Nat):Int):=zo;have hp:=ZAg s;obtain⟨A,hA⟩:∃A,toL (nv a)=A:=⟨_,rfl⟩;rw [hA] at va ma h1 hab cc;have hVlen:A.length≤(toL (nv a*2 ^ s)).length:=by rw [←hA];exact Zas (Zzp _ hp)
   have hV2:nv a*2 ^ s < 65536 ^ (A.length+1):=by
    have h3:=Zg6 ma;rw [va] at h3;have h4:(2:Nat) ^ s≤2 ^ 16:=Zyl zo zo;rw [Zxs];exact Zxt (ZA0 h3 hp) (Zy8 _ h4)
   have hVlen2:(toL (nv a*2 ^ s)).length≤A.length+1:=Zad.2 hV2
   have hdl:nv a*2 ^ s/65536 ^ (A.length+1 - n) < nv b*2 ^ s:=by
    rw [Zyz (Nat.pow_pos zo)];have h3:=Zg6 ma;rw [va] at h3
    have h5:65536 ^ (n - 1)≤nv b:=by
     rcases Zwr (nv b) (65536 ^ (n - 1)) with h | h
     ·have:=Zad.2 h;omega
     ·exact h
    have h6:65536 ^ A.length=65536 ^ (n - 1)*65536 ^ (A.length+1 - n):=by rw [←Zya];congr 1;omega
    have h7:65536 ^ (n - 1)*65536 ^ (A.length+1 - n)≤nv b*65536 ^ (A.length+1 - n):=Zww _ h5;have h8:nv a < nv b*65536 ^ (A.length+1 - n):=zo;have h9:=ZA0 h8 hp
    rwa [Nat.mul_right_comm] at h9
   have qe:nv a*2 ^ s/(nv b*2 ^ s)=nv a/nv b:=Nat.mul_div_mul_right _ _ hp;have re:nv a*2 ^ s%(nv b*2 ^ s)=(nv a%nv b)*2 ^ s:=Nat.mul_mod_mul_right _ _ _;have cv:=natShl (toL (nv b)) s zo mb zo;rw [vb] at cv;refine Zaa (tok:=0) (rs:=[.tmp 4,.tmp 5,.tmp 6]) func131 rfl ntmps131 results131 call131 zr zs ?_
   (refine wkvp (w_3 hn hA en) (w_4 (Zax a zo la) (Zax b zo lb) cc clz) (w_s ?_);intros)
   refine Zl8 (Znq _ A s zo ma zo (by rw [va];exact ha0)) ?_
   rintro _ _ ⟨sv,o,rfl,rfl,hol,hLo,hov⟩
   rw [va] at hov;rw [va];have hlen:=Zap hLo;rw [hov] at hlen;obtain⟨L,hL⟩:∃L,o.take (toL (nv a*2 ^ s)).length++[0,0]=L:=⟨_,rfl⟩;have hLl:L.length=(toL (nv a*2 ^ s)).length+2:=by rw [←hL,Zwy,Zws];simp;omega
   have hot:o.take (toL (nv a*2 ^ s)).length=toL (nv a*2 ^ s):=by
    obtain⟨k,h3,h4⟩:=Zlo hLo;rw [hov] at h4;have h5:k=(toL (nv a*2 ^ s)).length:=by rw [←h4,Zws];omega
    rw [←h5,h4]
   have hLn:nv L=nv a*2 ^ s:=by rw [←hL,hot,Zdd,Zam];simp [nv]
   have hLL:Lm L:=by rw [←hL,hot];exact(Zan _).append λy hy=>by simp at hy;omega
   have hes:u16s o=u16s o:=rfl;have e3:((A.length:Nat):Int)+1=((A.length+1:Nat):Int):=zo
   (refine wkvp (w_6 hol @Zp5 hL hLl e3 (Eq.symm hvl)) (w_1 cv) (w_s ?_);intros)
   have hUl:(L.take (A.length+1)).length=A.length+1:=by rw [Zws];omega
   have hUn:nv (L.take (A.length+1))=nv a*2 ^ s:=by
    have h3:=Zbm L (A.length+1);rw [hLn] at h3;rcases Zxg (nv (L.drop (A.length+1))) with h4 | h4
    ·rw [h4,Zyk,Zxa] at h3;exact h3.symm
    ·have:=Zzp (65536 ^ (A.length+1)) h4;omega
   rename_i sv2 sv';have vn:nv (toL (nv b*2 ^ s))=nv b*2 ^ s:=Zam _
   have hb20:nv b*2 ^ s≠0:=by
    have:=Nat.mul_pos (Zx9 h0) hp;omega
   have htop:=(Zdw hb20).2;rw [hvl] at htop;have hTD:(L.take (A.length+1))++(L.drop (A.length+1))=L:=Zyh _ _;have clong:=fun(σ:Mem) h44=>natLong σ sv' (L.take (A.length+1)) (L.drop (A.length+1)) (toL (nv b*2 ^ s)) n hvl h44 zo (by rw [hUl];omega) (by rw [hUl,Zys];omega) (hLL.take _) (hLL.drop _) (Zan _) htop
    (by rw [hUl,←Zuu (hLL.take _),hUn,vn];exact hdl)
   rw [hUl,hUn,vn,qe,re] at clong;refine Zl8 (clong _ (by rw [hTD];(simp (disch:=omega) only [go_sem,Zp5,hL]<;>repeat' first|rfl|refine⟨?_,?_⟩))) ?_
   rintro _ σ' ⟨U',rfl,h44',hUl',hUL',hUn'⟩
   have ct:=Zax U' zo hUL';rw [hUn'] at ct;have htk:(U'++L.drop (A.length+1)).take (A.length+1)=U':=by rw [←hUl'];exact List.take_left
   rcases Zxg s with hs0 | hs0
   ·subst hs0;have cr:=natShl (toL ((nv a%nv b)*2 ^ 0)) 0 (by have:=Zap hUL';rw [hUn'] at this;omega) (Zan _) zo;rw [Zam,Nat.pow_zero,Zy0,Zy0] at cr;rw [Nat.pow_zero,Zy0] at ct;have ez:(0:Int) - ((0:Nat):Int)=((0:Nat):Int):=zo
    (repeat' (first|(with_reducible first|refine stp ?_|apply gx1|apply gx2|apply gx3|apply gx4|apply gx5|apply gx6|apply gx7|apply gw1 (ct)|refine gw0 (cr) ?_ ?_)|(with_reducible refine Zbt ?_;intro _)|((with_reducible refine gE ?_);(try simp (disch:=omega) only [go_sem,h44',htk,Zwz,Zyx,Zxy,ez])<;>first|rfl|omega)|with_reducible refine Zae zd ?_))
    simp (disch:=omega) only [go_sem]
   ·have cr:=natShr (toL ((nv a%nv b)*2 ^ s)) s (by have:=Zap hUL';rw [hUn'] at this;omega) (Zan _) hs0 zo;rw [Zam,Nat.mul_div_cancel _ hp] at cr;have ez:(0:Int) - (s:Int)=-(s:Int):=zo
    (repeat' (first|(with_reducible first|refine stp ?_|apply gx1|apply gx2|apply gx3|apply gx4|apply gx5|apply gx6|apply gx7|apply gw1 (ct)|refine gw0 (cr) ?_ ?_)|(with_reducible refine Zbt ?_;intro _)|((with_reducible refine gE ?_);(try simp (disch:=omega) only [go_sem,h44',htk,Zwz,Zyx,Zxy,ez])<;>first|rfl|omega)|with_reducible refine Zae zd ?_))
    simp (disch:=omega) only [go_sem]
theorem natGcd (a b:List Nat) (ha:a.length≤2000000000000) (hb:b.length≤2000000000000) (la:Lm a) (lb:Lm b):Pure prog 130 [lim a,lim b] (lim (toL (Nat.gcd (nv a) (nv b)))):=by
 have h1:=Zap la;have h2:=Zap lb
 have cu:∀x:Nat,(toL x).length≤2000000000000→Pure prog 89 [lim (toL x)] (.tup [.v (.int .u64 (if x < 18446744073709551616 then (x:Int) else 0)),.v (.bool (decide (x < 18446744073709551616)))]):=by
  intro x hx;have:=Zuv (toL x) zo (Zan x)
  rwa [Zam] at this
 have cd:∀x y:Nat,(toL x).length≤2000000000000→(toL y).length≤2000000000000→y≠0→Pure prog 131 [lim (toL x),lim (toL y)] (.tup [lim (toL (x/y)),lim (toL (x%y)),.v (.int .i64 0)]):=by
  intro x y hx hy h0;have:=Znr (toL x) (toL y) hx hy (Zan x) (Zan y) (by rw [Zam];exact h0)
  rwa [Zam,Zam] at this
 refine Zaa (tok:=0) (rs:=[.tmp 4]) func130 rfl ntmps130 results130 call130 zr zs ?_
 (refine wkvp w_t (w_2 (Zmb a zo la) (Zmb b zo lb)) (w_s ?_);intros)
 refine Zai (ι:=Nat) (λy e m=>∃x,(e 0=lim (toL x)∧e 1=lim (toL y))∧(toL x).length≤2000000000000∧(toL y).length≤2000000000000∧Nat.gcd x y=Nat.gcd (nv a) (nv b)) (λy=>y) (nv b) zr ?_ ?_
 ·rintro y e m ⟨x,⟨e0,e1⟩,hx,hy,hg⟩
  rcases Zxg y with h0 | h0
  ·subst h0;have hl:=Zbc.2 (rfl:(0:Nat)=0);rw [Nat.gcd_zero_right] at hg
   (refine wkvp (w_3 e0 e1 hl) w_t (w_s ?_);intros)
   simp (disch:=omega) only [go_sem,hg]
  ·have hl:0 < (toL y).length:=by
    have:=(Zdw (show y≠0 by omega)).1;omega
   by_cases hs:x < 18446744073709551616∧y < 18446744073709551616
   ·obtain⟨hsx,hsy⟩:=hs;have dx:decide (x < 18446744073709551616)=true:=Zv8 hsx;have dy:decide (y < 18446744073709551616)=true:=Zv8 hsy
    (repeat' (first|(with_reducible first|refine stp ?_|apply gx1|apply gx2|apply gx3|apply gx4|apply gx5|apply gx6|apply gx7|refine gw0 (cu x hx) ?_ ?_|refine gw0 (cu y hy) ?_ ?_)|(with_reducible refine Zbt ?_;intro _)|((with_reducible refine gE ?_);(try simp (disch:=omega) only [go_sem,e0,e1,Zv6 hsx,Zv6 hsy,dx,dy])<;>first|rfl|omega)|with_reducible refine Zae zd ?_))
    refine Zai (ι:=Nat) (λY e m=>∃X:Nat,(e 5=.v (.int .u64 (X:Int))∧e 7=.v (.int .u64 (Y:Int)))∧X < 18446744073709551616∧Y < 18446744073709551616∧Nat.gcd X Y=Nat.gcd (nv a) (nv b)) (λY=>Y) y zr ?_ ?_
    ·rintro Y e m ⟨X,⟨e5,e7⟩,hX,hY,hg2⟩
     rcases Zxg Y with h3 | h3
     ·subst h3;rw [Nat.gcd_zero_right] at hg2;have co:=natOf X hX;rw [hg2] at co;rw [hg2] at e5
      (refine wkvp (w_3 e5 e7 @Zx5) (w_1 co) (w_s ?_);intros)
      simp (disch:=omega) only [go_sem]
     ·have hn:(Y:Int)≠0:=zo;have hm:=Zxb X h3
      (refine wkad (w_4 e5 e7 @Zeq hn) w_t w_t (w_s ?_);intros)
      exact⟨X%Y,⟨Y,⟨gC,gC⟩,hY,zo,by rw [←hg2,Zzq X Y,Nat.gcd_rec Y X,Zzq]⟩,hm⟩
    ·exact⟨x,⟨gC,gC⟩,hsx,hsy,hg⟩
   ·have hm:=Zxb x h0;have hml:(toL (x%y)).length≤2000000000000:=Zwj (Zas (Nat.le_of_lt hm)) hy
    have hdd:(decide (x < 18446744073709551616) && decide (y < 18446744073709551616))=false:=by
     rw [Bool.and_eq_false_iff,Zy3,Zy3];omega
    have hgg:Nat.gcd y (x%y)=Nat.gcd (nv a) (nv b):=by rw [←hg,Zzq x y,Nat.gcd_rec y x,Zzq]
    by_cases hsx:x < 18446744073709551616
    ·have hsy:¬y < 18446744073709551616:=λh=>hs ⟨hsx,h⟩;have dx:decide (x < 18446744073709551616)=true:=Zv8 hsx;have dy:decide (y < 18446744073709551616)=false:=Zv7 hsy
     (repeat' (first|(with_reducible first|refine stp ?_|apply gx1|apply gx2|apply gx3|apply gx4|apply gx5|apply gx6|apply gx7|refine gw0 (cu x hx) ?_ ?_|refine gw0 (cu y hy) ?_ ?_|refine gw0 (cd x y hx hy zo) ?_ ?_)|(with_reducible refine Zbt ?_;intro _)|((with_reducible refine gE ?_);(try simp (disch:=omega) only [go_sem,e0,e1,Zv6 hsx,Zv5 hsy,dx,dy])<;>first|rfl|omega)|with_reducible refine Zae zd ?_))
     exact⟨x%y,⟨y,⟨gW e1,gC⟩,hy,hml,hgg⟩,hm⟩
    ·have dx:decide (x < 18446744073709551616)=false:=Zv7 hsx;by_cases hsy:y < 18446744073709551616
     ·have dy:decide (y < 18446744073709551616)=true:=Zv8 hsy
      (repeat' (first|(with_reducible first|refine stp ?_|apply gx1|apply gx2|apply gx3|apply gx4|apply gx5|apply gx6|apply gx7|refine gw0 (cu x hx) ?_ ?_|refine gw0 (cu y hy) ?_ ?_|refine gw0 (cd x y hx hy zo) ?_ ?_)|(with_reducible refine Zbt ?_;intro _)|((with_reducible refine gE ?_);(try simp (disch:=omega) only [go_sem,e0,e1,Zv5 hsx,Zv6 hsy,dx,dy])<;>first|rfl|omega)|with_reducible refine Zae zd ?_))
      exact⟨x%y,⟨y,⟨gW e1,gC⟩,hy,hml,hgg⟩,hm⟩
     ·have dy:decide (y < 18446744073709551616)=false:=Zv7 hsy
      (repeat' (first|(with_reducible first|refine stp ?_|apply gx1|apply gx2|apply gx3|apply gx4|apply gx5|apply gx6|apply gx7|refine gw0 (cu x hx) ?_ ?_|refine gw0 (cu y hy) ?_ ?_|refine gw0 (cd x y hx hy zo) ?_ ?_)|(with_reducible refine Zbt ?_;intro _)|((with_reducible refine gE ?_);(try simp (disch:=omega) only [go_sem,e0,e1,Zv5 hsx,Zv5 hsy,dx,dy])<;>first|rfl|omega)|with_reducible refine Zae zd ?_))
      exact⟨x%y,⟨y,⟨gW e1,gC⟩,hy,hml,hgg⟩,hm⟩
 ·exact⟨nv a,⟨gC,gC⟩,zo,zo,rfl⟩
theorem Zdz (l:List Nat) (hs:l.length≤10000000000000) (hl:Lm l):Pure prog 107 [lim l] (lim (toL (nv l))):=by
 refine Zaa (tok:=0) (rs:=[.tmp 2]) func107 rfl ntmps107 results107 call107 zr zs ?_
 (refine wkvp w_t w_t (w_s ?_);intros)
 refine Zai (ι:=Nat) (λk e m=>k≤l.length∧e 0=lim l∧e 3=.v (.int .i64 (k:Int))∧∀j,k≤j→gN l j=0) (λk=>k) l.length zr ?_ ?_
 ·rintro k e m ⟨hk,e0,e3,hz⟩
  have gl:=Zbi hl (k - 1);have hln:(l.take k).length=k:=by rw [Zws];omega
  by_cases h0:k=0
  ·subst h0;have:=Zj4 hl hk hz (.inl rfl)
   (refine wkvp (w_3 e0 e3 @Zgd) w_t (w_s ?_);intros)
   simp (disch:=omega) only [go_sem];rw [←this];rfl
  ·by_cases h1:gN l (k - 1)=0
   ·(refine wkvp (w_2 e0 e3) w_t (w_s ?_);intros)
    exact⟨k - 1,⟨zo,gW e0,by(simp (disch:=omega) only [go_sem,e3];congr 2;omega),λj hj=>by
     rcases Zwr j k with h2 | h2
     ·rw [show j=k - 1 by omega];exact h1
     ·exact hz j h2⟩,zo⟩
   ·have:=Zj4 hl hk hz (.inr zo)
    (refine wkvp (w_4 e0 e3 @Zgd hln) w_t (w_s ?_);intros)
    simp (disch:=omega) only [go_sem,this]
 ·exact⟨Zwa _,gC,gC,λj hj=>Zd5 hj⟩
theorem Zi4 (n:Nat) (hn:n < 18446744073709551616):Pure prog 67 [.v (.int .u64 (n:Int))] (lim (toL n)):=by
 have b1:=(Zad (n:=n) (k:=4)).2 hn;refine Zaa (tok:=0) (rs:=[.tmp 2]) func67 rfl ntmps67 results67 call67 zr zs ?_
 (refine wkvp w_t w_t (w_s ?_);intros)
 refine Zez (Frz.nilOwn (d:=3) 11 1 133 (gC)) ?_;refine Zai (ι:=Nat) (λk e m=>k≤n∧e 0=.v (.int .u64 (k:Int))∧∃sv l,e 3=.own 11 sv∧m 11=some (.row sv 133 1 (u16s l) 0)∧l++toL k=toL n) (λk=>k) n zr ?_ ?_
 ·rintro k e m ⟨hk,e0,sv,l,e3,em,hl⟩
  by_cases hk0:k=0
  ·subst hk0;rw [Zaq,Zxl] at hl
   (refine wkvp (w_3 e0 e3 @Zx5) w_t (w_s ?_);intros)
   simp (disch:=omega) only [go_sem,em,hl]
  ·have b2:l.length≤(toL n).length:=by rw [←hl];simp
   have hne:k≠0:=hk0;have r1:(k:Int).tmod 65536=((k%65536:Nat):Int):=Zeq k 65536;have r2:(k:Int).tdiv 65536=((k/65536:Nat):Int):=Zer k 65536;have r3:k%65536%65536=k%65536:=Nat.mod_mod _ _
   (refine wkvp (w_7 e0 e3 em r1 r2 @Za8 r3) w_t (w_s ?_);intros)
   refine⟨k/65536,⟨zo,gW e0,_,l++[k%65536],gC,gC,?_⟩,zo⟩;rw [←hl,Zdx hk0];simp
 ·exact⟨Zwa _,gC,_,[],gC,gC,by simp⟩
theorem Zly (l:List Nat) (hs:l.length≤4) (hl:Lm l):Pure prog 153 [lim l] (.v (.int .u64 (nv l:Nat))):=by
 refine Zaa (tok:=0) (rs:=[.tmp 2]) func153 rfl ntmps153 results153 call153 zr zs ?_
 (refine wkvp w_t w_t (w_s ?_);intros)
 refine Zai (ι:=Nat) (λk e m=>k≤l.length∧e 0=lim l∧e 4=.v (.int .i64 ((k:Int) - 1))∧e 3=.v (.int .u64 (nv (l.drop k):Nat))) (λk=>k) l.length zr ?_ ?_
 ·rintro k e m ⟨hk,e0,e4,e3⟩
  by_cases h0:k=0
  ·subst h0;rw [Zxy] at e3
   (refine wkvp (w_3 e0 e4 e3) w_t (w_s ?_);intros)
   simp (disch:=omega) only [go_sem]
  ·have gl:=Zbi hl (k - 1);have b1:=Zg6 (hl.drop k);have b2:65536 ^ (l.drop k).length≤65536 ^ 3:=Zyl zo (by rw [Zys];omega);have e1:(nv (l.drop k):Int)*65536=((nv (l.drop k)*65536:Nat):Int):=zo
   (refine wkvp (w_5 e0 e4 e3 e1 @Zaw) w_t (w_s ?_);intros)
   refine⟨k - 1,⟨zo,gW e0,by(simp (disch:=omega) only [go_sem,e4];congr 2;omega),?_⟩,zo⟩;simp (disch:=omega) only [go_sem];rw [Zbs l (k - 1),show k - 1+1=k by omega];congr 3;omega
 ·exact⟨Zwa _,gC,gC,by(simp (disch:=omega) only [go_sem,List.drop_length]<;>repeat' first|rfl|refine⟨?_,?_⟩)⟩
theorem Zhg (l:List Nat) (i:Nat) (hs:l.length≤10000000000000) (hl:Lm l):Pure prog 151 [lim l,.v (.int .i64 (i:Int))] (.v (.int .i64 (gN l i:Nat))):=by
 have gl:=Zbi hl i;refine Zaa (tok:=0) (rs:=[.tmp 4]) func151 rfl ntmps151 results151 call151 zr zs ?_;by_cases h:i < l.length
 ·(refine wkvp w_t w_t (w_s ?_);intros)
  simp (disch:=omega) only [go_sem]
 ·have g0:gN l i=0:=Zd5 zo
  (refine wkvp w_t w_t (w_s ?_);intros)
  simp (disch:=omega) only [go_sem,g0];rfl
theorem Zts (a b:List Nat) (ha:a.length≤10000000000000) (hb:b.length≤10000000000000) (la:Lm a) (lb:Lm b):Pure prog 155 [lim a,lim b] (.v (.int .i64 (cmpN (nv a) (nv b)))):=by
 have cl:=λi=>Zhg a i ha la;have cr:=λi=>Zhg b i hb lb;refine Zaa (tok:=0) (rs:=[.tmp 4]) func155 rfl ntmps155 results155 call155 zr zs ?_;have hmx:max (a.length:Int) (b.length:Int)=((max a.length b.length:Nat):Int):=zo;obtain⟨M,hM⟩:∃M,max a.length b.length=M:=⟨_,rfl⟩
 (refine wkvp (w_2 hmx hM) w_t (w_s ?_);intros)
 refine Zai (ι:=Nat) (λk e m=>k≤M∧e 0=lim a∧e 1=lim b∧e 5=.v (.int .i64 ((k:Int) - 1))∧nv (a.drop k)=nv (b.drop k)) (λk=>k) M zr ?_ ?_
 ·rintro k e m ⟨hk,e0,e1,e5,hz⟩
  by_cases h0:k=0
  ·subst h0;rw [Zxy,Zxy] at hz
   (refine wkvp (w_3 e0 e1 e5) w_t (w_s ?_);intros)
   simp (disch:=omega) only [go_sem,cmpN,hz,Nat.lt_irrefl,Zwt]
  ·obtain⟨j,rfl⟩:∃j,k=j+1:=⟨k - 1,zo⟩;have ej:((j+1:Nat):Int) - 1=(j:Int):=zo;rw [ej] at e5;have ga:=Zbi la j;have gb:=Zbi lb j;by_cases p1:gN a j < gN b j
   ·have:=Zqs la lb hz p1
    (refine wkvp (w_3 e0 e1 e5) (w_2 (cl j) (cr j)) (w_s ?_);intros)
    simp (disch:=omega) only [go_sem,cmpN,Zv6 this]
   ·by_cases p2:gN b j < gN a j
    ·have:=Zqs lb la hz.symm p2;have this2:¬nv a < nv b:=zo
     (refine wkvp (w_3 e0 e1 e5) (w_2 (cl j) (cr j)) (w_s ?_);intros)
     simp (disch:=omega) only [go_sem,cmpN,Zv6 this,Zv5 this2]
    ·(refine wkvp (w_3 e0 e1 e5) (w_2 (cl j) (cr j)) (w_s ?_);intros)
     refine⟨j,⟨zo,gW e0,gW e1,gW e5,?_⟩,zo⟩;rw [Zbs,Zbs b,hz];omega
 ·refine⟨Zwa _,gC,gC,gC,?_⟩;rw [Zxn zo,Zxn zo]
theorem refAdd (a b:List Nat) (ha:a.length≤4000000000000) (hb:b.length≤4000000000000) (la:Lm a) (lb:Lm b):Pure prog 149 [lim a,lim b] (lim (toL (nv a+nv b))):=by
 have cl:=λi=>Zhg a i zo la;have cr:=λi=>Zhg b i zo lb;refine Zaa (tok:=0) (rs:=[.tmp 4]) func149 rfl ntmps149 results149 call149 zr zs ?_
 (refine wkvp w_t w_t (w_s ?_);intros)
 refine Zez (Frz.nilOwn (d:=5) 39 1 133 (gC)) ?_;refine Zai (ι:=Nat) (λk e m=>k≤max a.length b.length+1∧(e 0=lim a∧e 1=lim b∧e 7=.v (.int .i64 (k:Int)))∧∃sv o c,(e 5=.own 39 sv∧e 6=.v (.int .i64 (c:Nat))∧m 39=some (.row sv 133 1 (u16s o) 0))∧o.length=k∧Lm o∧c≤1∧(max a.length b.length < k→c=0)∧nv o+65536 ^ k*c=nv (a.take k)+nv (b.take k)) (λk=>max a.length b.length+1 - k) 0 zr ?_ ?_
 ·rintro k e m ⟨hk,⟨e0,e1,e7⟩,sv,o,c,⟨e5,e6,em⟩,hol,hLo,hc,hcz,hv⟩
  by_cases hgo:k < a.length∨k < b.length∨0 < c
  ·have ga:=Zbi la k;have gb:=Zbi lb k;have hs:=Zmt (x:=gN a k) (y:=gN b k) hv;rw [←Zar,←Zar,←Zxs] at hs;have ecomm:gN a k+gN b k+c=c+gN a k+gN b k:=zo;have w1:(c+gN a k+gN b k)/65536≤1:=zo;have w2:(c+gN a k+gN b k)%65536 < 65536:=Zxb _ zo;have r1:((c+gN a k+gN b k:Nat):Int).tmod 65536=(((c+gN a k+gN b k)%65536:Nat):Int):=Zeq _ 65536;have r2:((c+gN a k+gN b k:Nat):Int).tdiv 65536=(((c+gN a k+gN b k)/65536:Nat):Int):=Zer _ 65536;have r3:(c+gN a k+gN b k)%65536%65536=(c+gN a k+gN b k)%65536:=Nat.mod_mod _ _;have nvs:nv (o++[(c+gN a k+gN b k)%65536])=nv o+65536 ^ k*((c+gN a k+gN b k)%65536):=by rw [Zdd,hol];simp [nv]
   rw [←nvs] at hs
   have hz2:max a.length b.length < k+1→(c+gN a k+gN b k)/65536=0:=by
    intro h;have g1:gN a k=0:=Zd5 zo;have g2:gN b k=0:=Zd5 zo;omega
   have hkm:k≤max a.length b.length:=zo
   have fin:=fun(sv:Value) (e:Nat→AV) (m:Mem) (h1:e 0=lim a∧e 1=lim b∧e 7=.v (.int .i64 ((k+1:Nat):Int))) (h2:e 5=.own 39 sv∧e 6=.v (.int .i64 ((c+gN a k+gN b k)/65536:Nat))∧m 39=some (.row sv 133 1 (u16s (o++[(c+gN a k+gN b k)%65536])) 0)) =>
    show ∃k',(k'≤max a.length b.length+1∧(e 0=lim a∧e 1=lim b∧e 7=.v (.int .i64 (k':Int)))∧∃sv o c,(e 5=.own 39 sv∧e 6=.v (.int .i64 (c:Nat))∧m 39=some (.row sv 133 1 (u16s o) 0))∧o.length=k'∧Lm o∧c≤1∧(max a.length b.length < k'→c=0)∧nv o+65536 ^ k'*c=nv (a.take k')+nv (b.take k'))∧max a.length b.length+1 - k' < max a.length b.length+1 - k from
    ⟨k+1,⟨zo,h1,sv,_,_,h2,by simp [hol],hLo.append (Lm.one w2),w1,hz2,hs⟩,zo⟩
   by_cases h3:k < a.length
   ·(refine wkvp (w_14 e0 e1 e7 e5 e6 em hol @Zau @Zaw ecomm r1 r2 r3 @Za8) (w_2 (cl k) (cr k)) (w_s ?_);intros)
    exact fin _ _ _ ⟨gW e0,gW e1,gS⟩ ⟨gC,gC,gC⟩
   ·by_cases h4:k < b.length
    ·(refine wkvp (w_14 e0 e1 e7 e5 e6 em hol @Zau @Zaw ecomm r1 r2 r3 @Za8) (w_2 (cl k) (cr k)) (w_s ?_);intros)
     exact fin _ _ _ ⟨gW e0,gW e1,gS⟩ ⟨gC,gC,gC⟩
    ·have hc1:0 < c:=zo
     (refine wkvp (w_14 e0 e1 e7 e5 e6 em hol @Zau @Zaw ecomm r1 r2 r3 @Za8) (w_2 (cl k) (cr k)) (w_s ?_);intros)
     exact fin _ _ _ ⟨gW e0,gW e1,gS⟩ ⟨gC,gC,gC⟩
  ·have hc0:c=0:=zo;subst hc0;rw [Zba zo,Zba zo,Zyk,Zxa] at hv
   (repeat' (first|(with_reducible first|refine stp ?_|apply gx1|apply gx2|apply gx3|apply gx4|apply gx5|apply gx6|apply gx7|apply gw1 (Zdz o zo hLo))|(with_reducible refine Zbt ?_;intro _)|((with_reducible refine gE ?_);(try simp (disch:=omega) only [go_sem,e0,e1,e7,e5,e6,em])<;>first|rfl|omega)|with_reducible refine Zae zd ?_))
   simp (disch:=omega) only [go_sem,hv]
 ·exact⟨zo,⟨gC,gC,gC⟩,_,[],0,⟨gC,gC,gC⟩,rfl,Lm.nil,zo,λ_=>rfl,by simp [nv]⟩
theorem refSub (a b:List Nat) (ha:a.length≤10000000000000) (hb:b.length≤10000000000000) (la:Lm a) (lb:Lm b) :
 Pure prog 150 [lim a,lim b] (.tup [lim (if nv a < nv b then [] else toL (nv a - nv b)),.v (.int .i64 (if nv a < nv b then 2 else 0))]):=by
 have cl:=λi=>Zhg a i ha la;have cr:=λi=>Zhg b i hb lb;have cc:=Zts a b ha hb la lb;by_cases hlt:nv a < nv b
 ·rw [Zv6 hlt,Zv6 hlt];refine Pure.wk ?_ (okTup rfl);refine Zaa (tok:=0) (rs:=[.tmp 4,.tmp 5]) func150 rfl ntmps150 results150 call150 zr zs ?_;have hc:cmpN (nv a) (nv b)=-1:=by unfold cmpN;rw [Zv6 hlt]
  (refine wkvp (w_1 hc) (w_1 cc) (w_s ?_);intros)
  simp (disch:=omega) only [go_sem]
 ·rw [Zv5 hlt,Zv5 hlt];have hc:0≤cmpN (nv a) (nv b):=by unfold cmpN;rw [Zv5 hlt];split<;>omega
  refine Zaa (tok:=0) (rs:=[.tmp 4,.tmp 5]) func150 rfl ntmps150 results150 call150 zr zs ?_
  (refine wkvp w_t (w_1 cc) (w_s ?_);intros)
  refine Zez (Frz.nilOwn (d:=6) 37 1 133 (gC)) ?_;refine Zai (ι:=Nat) (λk e m=>k≤a.length∧(e 0=lim a∧e 1=lim b∧e 8=.v (.int .i64 (k:Int)))∧∃sv o r,(e 6=.own 37 sv∧e 7=.v (.int .i64 (r:Nat))∧m 37=some (.row sv 133 1 (u16s o) 0))∧o.length=k∧Lm o∧r≤1∧nv o+nv (b.take k)=nv (a.take k)+65536 ^ k*r) (λk=>a.length - k) 0 zr ?_ ?_
  ·rintro k e m ⟨hk,⟨e0,e1,e8⟩,sv,o,r,⟨e6,e7,em⟩,hol,hLo,hr,hv⟩
   have ga:=Zbi la k;have gb:=Zbi lb k;by_cases hlt2:k < a.length
   ·have step:∀(d r':Nat),d+r+gN b k=gN a k+65536*r'→d < 65536→r'≤1→(o++[d]).length=k+1∧Lm (o++[d])∧r'≤1∧nv (o++[d])+nv (b.take (k+1))=nv (a.take (k+1))+65536 ^ (k+1)*r':=by
     intro d r' hd h3 h4;have:=Zp7 hv hd;have nvs:nv (o++[d])=nv o+65536 ^ k*d:=by rw [Zdd,hol];simp [nv]
     rw [nvs,Zar,Zar,Zxs];exact⟨by simp [hol],hLo.append (Lm.one h3),h4,this⟩
    by_cases hneg:gN a k < gN b k+r
    ·have hs:=step (gN a k+65536 - gN b k - r) 1 zo zo zo;have w:(gN a k:Int) - gN b k - r+65536=((gN a k+65536 - gN b k - r:Nat):Int):=zo
     (refine wkvp (w_8 e0 e1 e8 e6 e7 em hol w) (w_2 (cl k) (cr k)) (w_s ?_);intros)
     exact⟨k+1,⟨zo,⟨gW e0,gW e1,gV e8⟩,_,_,1,⟨gC,gC,gC⟩,hs⟩,zo⟩
    ·have hs:=step (gN a k - gN b k - r) 0 zo zo zo;have w:(gN a k:Int) - gN b k - r=((gN a k - gN b k - r:Nat):Int):=zo
     (refine wkvp (w_8 e0 e1 e8 e6 e7 em hol w) (w_2 (cl k) (cr k)) (w_s ?_);intros)
     exact⟨k+1,⟨zo,⟨gW e0,gW e1,gV e8⟩,_,_,0,⟨gC,gC,gC⟩,hs⟩,zo⟩
   ·have hka:k=a.length:=zo;have hbs:=Zbm b k;have hno:=Zg6 hLo;rw [hol] at hno;rw [Zba (l:=a) zo] at hv
    have hno2:nv o=nv a - nv b:=by
     have hbd:nv (b.drop k)=0:=by
      rcases Zxg (nv (b.drop k)) with h3 | h3
      ·exact h3
      ·have h4:=Zzp (65536 ^ k) h3;have h5:=Zg6 la;rw [←hka] at h5;omega
     rw [hbd,Zyk,Zxa] at hbs
     have hr0:r=0:=by
      rcases Zxg r with h3 | h3
      ·exact h3
      ·have:r=1:=zo;subst this;omega
     subst hr0;omega
    (repeat' (first|(with_reducible first|refine stp ?_|apply gx1|apply gx2|apply gx3|apply gx4|apply gx5|apply gx6|apply gx7|apply gw1 (Zdz o zo hLo))|(with_reducible refine Zbt ?_;intro _)|((with_reducible refine gE ?_);(try simp (disch:=omega) only [go_sem,e0,e1,e8,e6,e7,em])<;>first|rfl|omega)|with_reducible refine Zae zd ?_))
    simp (disch:=omega) only [go_sem,hno2]
  ·exact⟨Zwk _,⟨gC,gC,gC⟩,_,[],0,⟨gC,gC,gC⟩,rfl,Lm.nil,zo,by simp [nv]⟩
def valL (l:List Nat):Bool:=decide (l.length=0) || !decide (gN l (l.length - 1)=0)
theorem Zln {l:List Nat} (h:Lm l):valL l=true↔l=toL (nv l):=by
 unfold valL;constructor
 ·intro h1;refine canon h ?_;simp only [Zx2,Zw4,Zyd,Zy3] at h1;rcases h1 with h1 | h1
  ·exact .inl (Zzb h1)
  ·exact .inr zo
 ·intro h1;by_cases h0:nv l=0
  ·rw [h0,Zaq] at h1;subst h1;rfl
  ·obtain⟨h2,h3⟩:=Zdw h0;rw [←h1] at h2 h3;simp only [Zx2,Zw4,Zyd,Zy3];exact .inr zo
theorem Zqg (l:List Nat) (hs:l.length≤10000000000000) (hl:Lm l):Pure prog 64 [lim l] (.v (.bool (valL l))):=by
 refine Zaa (tok:=0) (rs:=[.tmp 2]) func64 rfl ntmps64 results64 call64 zr zs ?_;have gl:=Zbi hl (l.length - 1);unfold valL;by_cases h0:l.length=0
 ·(refine wkvp (w_1 h0) w_t (w_s ?_);intros)
  simp (disch:=omega) only [go_sem,h0]
 ·by_cases h1:gN l (l.length - 1)=0
  ·(refine wkvp (w_2 h1 @Zx5) w_t (w_s ?_);intros)
   simp (disch:=omega) only [go_sem,h0,h1]
  ·(refine wkvp w_t w_t (w_s ?_);intros)
   simp (disch:=omega) only [go_sem,h0,h1]
theorem Zqh (a b:List Nat) (ha:a.length≤10000000000000) (hb:b.length≤10000000000000) (la:Lm a) (lb:Lm b):Pure prog 65 [lim a,lim b] (.v (.bool (decide (a=b)))):=by
 refine Zaa (tok:=0) (rs:=[.tmp 4]) func65 rfl ntmps65 results65 call65 zr zs ?_;by_cases hl:a.length=b.length
 ·(refine wkvp (w_1 hl) w_t (w_s ?_);intros)
  refine Zai (ι:=Nat) (λk e m=>k≤a.length∧(e 0=lim a∧e 1=lim b∧e 5=.v (.int .i64 (k:Int)))∧∀j,j < k→gN a j=gN b j) (λk=>a.length - k) 0 zr ?_ ?_
  ·rintro k e m ⟨hk,⟨e0,e1,e5⟩,hs⟩
   by_cases hlt:k < a.length
   ·by_cases p:gN a k=gN b k
    ·(refine wkad (w_3 e0 e1 e5) w_t w_t (w_s ?_);intros)
     exact⟨k+1,⟨zo,⟨gW e0,gW e1,gV e5⟩,λj hj=>by
      rcases Zwr j k with h1 | h1
      ·exact hs j h1
      ·rw [show j=k by omega];exact p⟩,zo⟩
    ·have hne:decide (a=b)=false:=Zv7 λh=>p (by rw [h])
     (refine wkad (w_3 e0 e1 e5) w_t w_t (w_s ?_);intros)
     simp (disch:=omega) only [go_sem,hne]
   ·have he:decide (a=b)=true:=Zv8 (List.ext_getElem hl λj h1 h2=>by
     have:=hs j zo
     rwa [gN_at h1,gN_at h2] at this)
    (refine wkad (w_3 e0 e1 e5) w_t w_t (w_s ?_);intros)
    simp (disch:=omega) only [go_sem,he]
  ·exact⟨Zwk _,⟨gC,gC,gC⟩,λj hj=>zo⟩
 ·have hne:decide (a=b)=false:=Zv7 λh=>hl (by rw [h])
  (refine wkvp w_t w_t (w_s ?_);intros)
  simp (disch:=omega) only [go_sem,hne]
theorem Ztr (a b:List Nat) (ha:a.length≤4000000000000) (hb:b.length≤4000000000000) (la:Lm a) (lb:Lm b):Pure prog 102 [lim a,lim b] (lim (toL (nv a*nv b))):=by
 have cr:=λi=>Zhg b i zo lb;refine Zaa (tok:=0) (rs:=[.tmp 4]) func102 rfl ntmps102 results102 call102 zr zs ?_
 (refine wkvp (w_2 @Zaw @Zbk) w_t (w_s ?_);intros)
 refine Zai (ι:=Nat) (λi e m=>i≤a.length∧(e 0=lim a∧e 1=lim b∧e 6=.v (.int .i64 i))∧∃sv o,(e 5=.own 16 sv∧m 16=some (.row sv 133 1 (u16s o) 0))∧o.length=a.length+b.length+1∧Lm o∧(∀j,i+b.length≤j→gN o j=0)∧nv o=nv (a.take i)*nv b) (λi=>a.length - i) 0 zr ?_ ?_
 ·rintro i e m ⟨hi,⟨e0,e1,e6⟩,sv,o,⟨e5,em⟩,hol,hLo,hz,hv⟩
  by_cases hlt:i < a.length
  ·have gx:=Zbi la i
   (refine wkvp (w_7 e0 e1 e6 e5 em hol @Zaw) w_t (w_s ?_);intros)
   refine Zai (ι:=Nat) (λk e' m'=>k≤b.length+1∧(e' 0=lim a∧e' 1=lim b∧e' 6=.v (.int .i64 i)∧e' 8=.v (.int .i64 k)∧e' 5=.own 16 sv)∧∃o' c,(e' 7=.v (.int .u64 (c:Nat))∧m' 16=some (.row sv 133 1 (u16s o') 0))∧o'.length=a.length+b.length+1∧Lm o'∧c < 65536∧(b.length < k→c=0)∧(∀j,i+max b.length k≤j→gN o' j=0)∧nv o'+65536 ^ (i+k)*c=nv o+65536 ^ i*nv (b.take k)*gN a i) (λk=>b.length+1 - k) 0 zr ?_ ?_
   ·rintro k e m ⟨hk,⟨e0,e1,e6,e8,e5⟩,o',c,⟨e7,em⟩,hol',hLo',hc,hcz,hz',hv'⟩
    have gy:=Zbi lb k;have go:=Zbi hLo' (i+k);have bd:=Znt gx gy;by_cases hgo:k < b.length∨0 < c
    ·have hkb:k≤b.length:=by
      rcases hgo with h | h
      ·omega
      ·rcases Zwr b.length k with h2 | h2
       ·have:=hcz h2;omega
       ·exact h2
     have hs:=Zqu (x:=gN a i) (y:=gN b k) rfl (Zno (o:=o') (j:=i+k) zo _) hv';rw [←Zqv,←Zar,←Zxs,Nat.succ_eq_add_one,ZAn i] at hs;have ecomm:gN o' (i+k)+gN a i*gN b k+c=c+(gN o' (i+k)+gN a i*gN b k):=zo
     have hcz2:b.length < k+1→(c+(gN o' (i+k)+gN a i*gN b k))/65536=0:=by
      intro h;have g1:gN b k=0:=Zd5 zo;have g2:=hz' (i+k) zo;rw [g1,g2];omega
     have w1:(c+(gN o' (i+k)+gN a i*gN b k))/65536 < 65536:=zo;have w2:(c+(gN o' (i+k)+gN a i*gN b k))%65536 < 65536:=zo;generalize hxy:gN a i*gN b k=xy at *;have r1:((c+(gN o' (i+k)+xy):Nat):Int).tmod 65536=(((c+(gN o' (i+k)+xy))%65536:Nat):Int):=Zeq _ 65536;have r2:((c+(gN o' (i+k)+xy):Nat):Int).tdiv 65536=(((c+(gN o' (i+k)+xy))/65536:Nat):Int):=Zer _ 65536;have r3:(c+(gN o' (i+k)+xy))%65536%65536=(c+(gN o' (i+k)+xy))%65536:=Nat.mod_mod _ _;have hzz:∀j,i+max b.length (k+1)≤j→gN (o'.set (i+k) ((c+(gN o' (i+k)+xy))%65536)) j=0:=λj hj=>by
      rw [Zfk zo,Zv5 zo];exact hz' j zo
     by_cases h3:k < b.length
     ·(refine wkad (w_16 e0 e1 e6 e8 e5 e7 em hol' @Zaw @Zhk @Za8 hxy ecomm r1 r2 r3) (w_1 (cr k)) (w_1 (w_d 9 [(14,.v (.int .i64 (gN b k:Nat)))] [] [])) (w_s ?_);intros)
      exact⟨k+1,⟨zo,⟨gW e0,gW e1,gW e6,gS,gW e5⟩,_,_,⟨gC,gC⟩,by simpa using hol',hLo'.set _ w2,w1,hcz2,hzz,hs⟩,zo⟩
     ·have hc1:0 < c:=zo;(focus (refine wkad (w_16 e0 e1 e6 e8 e5 e7 em hol' @Zaw @Zhk @Za8 hxy ecomm r1 r2 r3) (w_1 (cr k)) (w_1 (w_d 9 [(14,.v (.int .i64 (gN b k:Nat)))] [] [])) ?_;(repeat' first|exact w_t|apply w_l);all_goals intros));exact⟨k+1,⟨zo,⟨gW e0,gW e1,gW e6,gS,gW e5⟩,_,_,⟨gC,gC⟩,by simpa using hol',hLo'.set _ w2,w1,hcz2,hzz,hs⟩,zo⟩
    ·have hc0:c=0:=zo;subst hc0;rw [Zba (l:=b) zo,Zyk,Zxa] at hv';(focus (refine wkad (w_8 e0 e1 e6 e8 e5 e7 em @Zx5) w_t w_t ?_;(repeat' first|exact w_t|apply w_l);all_goals intros));refine⟨i+1,⟨zo,⟨gW e0,gW e1,gS⟩,sv,o',⟨gW e5,gW em⟩,hol',hLo',λj hj=>hz' j zo,?_⟩,zo⟩;rw [hv',hv,Zar,Zw0];congr 1;simp only [Zxf,Zw2,Zze]
   ·exact⟨zo,⟨gW e0,gW e1,gW e6,gC,gW e5⟩,_,0,⟨gC,gW em⟩,hol,hLo,zo,λ_=>rfl,λj hj=>hz j zo,by simp [nv]⟩
  ·have hiA:i=a.length:=zo;subst hiA;rw [Zba (Zwa _)] at hv
   (repeat' (first|(with_reducible first|refine stp ?_|apply gx1|apply gx2|apply gx3|apply gx4|apply gx5|apply gx6|apply gx7|apply gw1 (Zdz o zo hLo))|(with_reducible refine Zbt ?_;intro _)|((with_reducible refine gE ?_);(try simp (disch:=omega) only [go_sem,e0,e1,e6,e5,em,hol])<;>first|rfl|omega)|with_reducible refine Zae zd ?_))
   simp (disch:=omega) only [go_sem,hv]
 ·exact⟨Zwk _,⟨gC,gC,gC⟩,_,List.replicate (a.length+b.length+1) 0,⟨gC,gC⟩,by simp,Lm.zeros _,λj hj=>Zgz _ _,by simp [nv,Zl9]⟩
theorem refDigit (R B:Nat) (hR:(toL R).length≤3000000000000) (hB:(toL B).length≤2000000000000) (h0:0 < B) (hlt:R < B*65536):Pure prog 154 [lim (toL R),lim (toL B)] (.v (.int .u64 ((R/B:Nat):Int))):=by
 refine Zaa (tok:=0) (rs:=[.tmp 4]) func154 rfl ntmps154 results154 call154 zr zs ?_
 (refine wkvp w_t w_t (w_s ?_);intros)
 refine Zai (ι:=Nat × Nat) (λp e m=>(e 0=lim (toL R)∧e 1=lim (toL B)∧e 5=.v (.int .u64 (p.1:Int))∧e 6=.v (.int .u64 (p.2:Int)))∧p.1≤p.2∧p.2≤65535∧B*p.1≤R∧R < B*(p.2+1)) (λp=>p.2 - p.1) (0,65535) zr ?_ ?_
 ·rintro ⟨lo,hi⟩ e m ⟨⟨e0,e1,e5,e6⟩,h1,h2,h3,h4⟩
  simp only at e5 e6 h1 h2 h3 h4;by_cases hlh:lo < hi
  ·obtain⟨mid,hmid⟩:∃mid,(lo+hi+1)/2=mid:=⟨_,rfl⟩;have r2:((lo+hi+1:Nat):Int).tdiv 2=((mid:Nat):Int):=by rw [←hmid];exact Zer _ 2
   have co:=Zi4 mid zo;have lm:(toL mid).length≤4:=Zad.2 zo;have cm:=Ztr (toL B) (toL mid) zo zo (Zan _) (Zan _);rw [Zam,Zam] at cm
   have lbm:(toL (B*mid)).length≤10000000000000:=by
    have h5:(toL (B*mid)).length≤(toL B).length+4:=by
     rw [Zad,Zya];have h6:=Zad.1 (Zwa (toL B).length);exact Nat.mul_lt_mul'' h6 zo
    omega
   have cc:=Zts (toL (B*mid)) (toL R) lbm zo (Zan _) (Zan _);rw [Zam,Zam] at cc;by_cases hle:B*mid≤R
   ·have hc:cmpN (B*mid) R≤0:=by unfold cmpN;split;omega;split<;>omega
    (refine wkvp (w_8 e0 e1 e5 e6 @Zaw @Zbk r2 hc) (w_3 co cm cc) (w_s ?_);intros)
    exact⟨(mid,hi),⟨⟨gW e0,gW e1,gC,gW e6⟩,zo,h2,hle,h4⟩,by simp only;omega⟩
   ·have hc:0 < cmpN (B*mid) R:=by unfold cmpN;rw [Zv5 zo,Zv6 zo];omega
    have em1:(mid:Int) - 1=((mid - 1:Nat):Int):=zo
    (refine wkvp (w_9 e0 e1 e5 e6 @Zaw @Zbk r2 hc em1) (w_3 co cm cc) (w_s ?_);intros)
    exact⟨(lo,mid - 1),⟨⟨gW e0,gW e1,gW e5,gC⟩,by simp only;omega,by simp only;omega,h3,by simp only;rw [show mid - 1+1=mid by omega];omega⟩,by simp only;omega⟩
  ·have hh:lo=hi:=zo;subst hh;have hd:R/B=lo:=Nat.div_eq_of_lt_le (by rw [Zw2];exact h3) (by rw [Zw2];exact h4)
   (refine wkvp (w_4 e0 e1 e5 e6) w_t (w_s ?_);intros)
   simp (disch:=omega) only [go_sem,hd]
 ·exact⟨⟨gC,gC,gC,gC⟩,by simp,by simp,by simp,by simpa using hlt⟩
theorem Zmz (x:Nat) (l:List Nat):AV.v (.int .u16 (x:Int)) :: u16s l=u16s (x :: l):=rfl
theorem Znb (a b:List Nat) (ha:a.length≤2000000000000) (hb:b.length≤2000000000000) (la:Lm a) (lb:Lm b) (h0:nv b≠0):Pure prog 108 [lim a,lim b] (.tup [lim (toL (nv a/nv b)),lim (toL (nv a%nv b)),.v (.int .i64 0)]):=by
 have h1:=Zap la;have h2:=Zap lb;have va:=Zam (nv a);have vb:=Zam (nv b);have ma:=Zan (nv a);have mb:=Zan (nv b);have hb1:=(Zdw h0).1;have hbp:=Zx9 h0;by_cases h4:(toL (nv a)).length≤4∧(toL (nv b)).length≤4
 ·obtain⟨h4a,h4b⟩:=h4;have ca:=Zly (toL (nv a)) h4a ma;have cb:=Zly (toL (nv b)) h4b mb;rw [va] at ca;rw [vb] at cb;have hA:=Zad.1 h4a;have hB:=Zad.1 h4b;have hq:=Zz2 (nv a) (nv b);have hr:=Nat.mod_le (nv a) (nv b);have cq:=Zi4 (nv a/nv b) zo;have cr:=Zi4 (nv a%nv b) zo;have wq:IntKind.u64.wrap ((nv a/nv b:Nat):Int)=((nv a/nv b:Nat):Int):=Ze1 (Zyw _) (by
   have:((nv a/nv b:Nat):Int)≤(nv a:Int):=Int.ofNat_le.2 hq;omega)
  have hn:((nv b:Nat):Int)≠0:=zo;refine Zaa (tok:=0) (rs:=[.tmp 4,.tmp 5,.tmp 6]) func108 rfl ntmps108 results108 call108 zr zs ?_
  (refine wkad (w_4 @Zer @Zeq wq hn) (w_6 (Zdz a zo la) (Zdz b zo lb) ca cb cq cr) w_t (w_s ?_);intros)
  simp (disch:=omega) only [go_sem]
 ·have h4':((toL (nv a)).length≤4)→4 < (toL (nv b)).length:=λh=>by
   rcases Zwr 4 (toL (nv b)).length with h3 | h3
   ·exact h3
   ·exact absurd ⟨h,h3⟩ h4
  obtain⟨A,hA⟩:∃A,toL (nv a)=A:=⟨_,rfl⟩;rw [hA] at va ma h1 h4';refine Zaa (tok:=0) (rs:=[.tmp 4,.tmp 5,.tmp 6]) func108 rfl ntmps108 results108 call108 zr zs ?_;rcases Zwr 4 A.length with h5 | h5
  rotate_left
  have h6:=h4' h5;all_goals
   (refine wkvp (w_1 hA) (w_2 (Zdz a zo la) (Zdz b zo lb)) (w_s ?_);intros)
   rw [hA];refine Zez (Frz.trans (Frz.nil (d:=7) 1 (gC)) (Frz.nil (d:=8) 1 (gC))) ?_;refine r_loopF (ι:=Nat) (λk e m=>k≤A.length∧(e 0=lim A∧e 1=lim (toL (nv b))∧e 9=.v (.int .i64 ((k:Int) - 1)))∧∃ql R,(e 7=lim ql∧e 8=lim (toL R))∧ql.length=A.length - k∧Lm ql∧R < nv b∧nv (A.drop k)=nv ql*nv b+R) (λk=>k) A.length zr ?_ ?_
   ·rintro k e m ⟨hk,⟨e0,e1,e9⟩,ql,R,⟨e7,e8⟩,hql,hqL,hR,hv⟩
    by_cases hk0:k=0
    ·subst hk0;rw [Zxy,va] at hv;have hq:nv ql=nv a/nv b:=by rw [hv,Zw2,Nat.mul_add_div hbp,ZAh hR,Zxa]
     have hr:R=nv a%nv b:=by rw [hv,Zw2,Nat.mul_add_mod,Zx6 hR]
     have cn:=Zdz ql zo hqL;rw [hq] at cn;rw [hr] at e8
     (refine wkvp (w_5 e0 e1 e9 e7 e8) (w_1 cn) (w_s ?_);intros)
     simp (disch:=omega) only [go_sem]
    ·obtain⟨j,rfl⟩:∃j,k=j+1:=⟨k - 1,zo⟩;have ej:((j+1:Nat):Int) - 1=(j:Int):=zo;rw [ej] at e9;have gx:=Zbi ma j;have hRl:(toL R).length≤(toL (nv b)).length:=Zas zo;have cn:=Zdz (gN A j :: toL R) (by simp;omega) (λy hy=>by
      rcases List.mem_cons.1 hy with rfl | hy
      ·exact gx
      ·exact Zan R y hy)
     have en:nv (gN A j :: toL R)=gN A j+65536*R:=by rw [nv,Zam]
     rw [en] at cn;have hX:gN A j+65536*R < nv b*65536:=zo;obtain⟨X,hXd⟩:∃X,gN A j+65536*R=X:=⟨_,rfl⟩;rw [hXd] at cn hX
     have hXl:(toL X).length≤(toL (nv b)).length+1:=by
      rw [Zad,Zxs];exact Zxt hX (Zww _ (Nat.le_of_lt (Zad.1 (Zwa (toL (nv b)).length))))
     have cd:=refDigit X (nv b) zo zo hbp hX;have hd:X/nv b < 65536:=by rw [Zyz hbp,Zw2];exact hX
     have hdm:=Zx8 X (nv b);have hml:=Zxb X hbp;have co:=Zi4 (X/nv b) zo;have ld:(toL (X/nv b)).length≤1:=Zad.2 zo;have cm:=Ztr (toL (nv b)) (toL (X/nv b)) zo zo (Zan _) (Zan _);rw [Zam,Zam] at cm;have hle:nv b*(X/nv b)≤X:=zo;have cs:=refSub (toL X) (toL (nv b*(X/nv b))) zo (Zwj (Zas hle) zo) (Zan _) (Zan _);rw [Zam,Zam,Zv5 zo,Zv5 zo,show X - nv b*(X/nv b)=X%nv b by omega] at cs;have hcut:X/nv b%65536=X/nv b:=Zx6 hd
     (repeat' (first|(with_reducible first|refine stp ?_|apply gx1|apply gx2|apply gx3|apply gx4|apply gx5|apply gx6|apply gx7|apply gw1 (cn)|refine gw0 (cd) ?_ ?_|refine gw0 (co) ?_ ?_|refine gw0 (cm) ?_ ?_|refine gw0 (cs) ?_ ?_)|(with_reducible refine Zbt ?_;intro _)|((with_reducible refine gE ?_);(try simp (disch:=omega) only [go_sem,e0,e1,e9,e7,e8,Zmz,Za8,hcut])<;>first|rfl|omega)|with_reducible refine Zae zd ?_))
     refine⟨j,_,Frz.own (d:=7) (gC) (gC),⟨zo,⟨gW e0,gW e1,gC⟩,X/nv b :: ql,X%nv b,⟨by(simp (disch:=omega) only [go_sem,Zmz]<;>repeat' first|rfl|refine⟨?_,?_⟩),gC⟩,by simp [hql];omega,?_,hml,?_⟩,zo⟩
     ·intro y hy;rcases List.mem_cons.1 hy with rfl | hy
      ·exact hd
      ·exact hqL y hy
     ·rw [Zbs,hv,nv,Zw0,Zw3 65536,←hXd];rw [←hXd] at hdm;rw [Zw2] at hdm;have:65536*(nv ql*nv b)=65536*nv ql*nv b:=by rw [Zxf]
      omega
   ·exact⟨Zwa _,⟨gC,gC,gC⟩,[],0,⟨by(simp (disch:=omega) only [go_sem,Zp6]<;>repeat' first|rfl|refine⟨?_,?_⟩),by(simp (disch:=omega) only [go_sem,Zaq,Zp6]<;>repeat' first|rfl|refine⟨?_,?_⟩)⟩,by simp,Lm.nil,hbp,by rw [Zxn (Zwa _)];simp [nv]⟩
theorem refGcd (a b:List Nat) (ha:a.length≤2000000000000) (hb:b.length≤2000000000000) (la:Lm a) (lb:Lm b):Pure prog 66 [lim a,lim b] (lim (toL (Nat.gcd (nv a) (nv b)))):=by
 have h1:=Zap la;have h2:=Zap lb
 have cd:∀x y:Nat,(toL x).length≤2000000000000→(toL y).length≤2000000000000→y≠0→Pure prog 108 [lim (toL x),lim (toL y)] (.tup [lim (toL (x/y)),lim (toL (x%y)),.v (.int .i64 0)]):=by
  intro x y hx hy h0;have:=Znb (toL x) (toL y) hx hy (Zan x) (Zan y) (by rw [Zam];exact h0)
  rwa [Zam,Zam] at this
 refine Zaa (tok:=0) (rs:=[.tmp 4]) func66 rfl ntmps66 results66 call66 zr zs ?_
 (refine wkvp w_t (w_2 (Zdz a zo la) (Zdz b zo lb)) (w_s ?_);intros)
 refine Zai (ι:=Nat) (λy e m=>∃x,(e 0=lim (toL x)∧e 1=lim (toL y))∧(toL x).length≤2000000000000∧(toL y).length≤2000000000000∧Nat.gcd x y=Nat.gcd (nv a) (nv b)) (λy=>y) (nv b) zr ?_ ?_
 ·rintro y e m ⟨x,⟨e0,e1⟩,hx,hy,hg⟩
  rcases Zxg y with h0 | h0
  ·subst h0;have hl:=Zbc.2 (rfl:(0:Nat)=0);rw [Nat.gcd_zero_right] at hg
   (refine wkvp (w_3 e0 e1 hl) w_t (w_s ?_);intros)
   simp (disch:=omega) only [go_sem,hg]
  ·have hl:0 < (toL y).length:=by
    have:=(Zdw (show y≠0 by omega)).1;omega
   have hm:=Zxb x h0;have hml:(toL (x%y)).length≤2000000000000:=Zwj (Zas (Nat.le_of_lt hm)) hy;have hgg:Nat.gcd y (x%y)=Nat.gcd (nv a) (nv b):=by rw [←hg,Zzq x y,Nat.gcd_rec y x,Zzq]
   (refine wkvp (w_2 e0 e1) (w_1 (cd x y hx hy zo)) (w_s ?_);intros)
   exact⟨x%y,⟨y,⟨gW e1,gC⟩,hy,hml,hgg⟩,hm⟩
 ·exact⟨nv a,⟨gC,gC⟩,zo,zo,rfl⟩
theorem nAdd (n m:Nat) (hn:(toL n).length≤1000000000000) (hm:(toL m).length≤1000000000000):Pure prog 180 [lim (toL n),lim (toL m)] (lim (toL (n+m))):=by
 have:=natAdd (toL n) (toL m) zo zo (Zan _) (Zan _)
 rwa [Zam,Zam] at this
theorem nMul (n m:Nat) (hn:(toL n).length≤1000000000000) (hm:(toL m).length≤1000000000000):Pure prog 86 [lim (toL n),lim (toL m)] (lim (toL (n*m))):=by
 have:=natMul (toL n) (toL m) zo zo (Zan _) (Zan _)
 rwa [Zam,Zam] at this
theorem nCmp (n m:Nat) (hn:(toL n).length≤1000000000000) (hm:(toL m).length≤1000000000000):Pure prog 173 [lim (toL n),lim (toL m)] (.v (.int .i64 (cmpN n m))):=by
 have:=Zqt (toL n) (toL m) zo zo (Zan _) (Zan _)
 rwa [Zam,Zam] at this
theorem nSub (n m:Nat) (hn:(toL n).length≤1000000000000) (hm:(toL m).length≤1000000000000):Pure prog 181 [lim (toL n),lim (toL m)] (.tup [lim (if n < m then [] else toL (n - m)),.v (.int .i64 (if n < m then 2 else 0))]):=by
 have:=natSub (toL n) (toL m) zo zo (Zan _) (Zan _)
 rwa [Zam,Zam] at this
theorem Zph (n m:Nat) (hn:(toL n).length≤1000000000000) (hm:(toL m).length≤1000000000000) (h0:m≠0):Pure prog 131 [lim (toL n),lim (toL m)] (.tup [lim (toL (n/m)),lim (toL (n%m)),.v (.int .i64 0)]):=by
 have:=Znr (toL n) (toL m) zo zo (Zan _) (Zan _) (by rw [Zam];exact h0)
 rwa [Zam,Zam] at this
theorem nGcd (n m:Nat) (hn:(toL n).length≤1000000000000) (hm:(toL m).length≤1000000000000):Pure prog 130 [lim (toL n),lim (toL m)] (lim (toL (Nat.gcd n m))):=by
 have:=natGcd (toL n) (toL m) zo zo (Zan _) (Zan _)
 rwa [Zam,Zam] at this
theorem Zpg (n:Nat) (hn:(toL n).length≤1000000000000):Pure prog 128 [lim (toL n)] (lim (toL n)):=by
 have:=Zmb (toL n) zo (Zan _)
 rwa [Zam] at this
theorem nBits (n:Nat) (hn:(toL n).length≤1000000000000):Pure prog 127 [lim (toL n)] (.v (.int .i64 (Zms n:Nat))):=by
 have:=natBits (toL n) zo (Zan _)
 rwa [Zam] at this
theorem rAdd (n m:Nat) (hn:(toL n).length≤1000000000000) (hm:(toL m).length≤1000000000000):Pure prog 149 [lim (toL n),lim (toL m)] (lim (toL (n+m))):=by
 have:=refAdd (toL n) (toL m) zo zo (Zan _) (Zan _)
 rwa [Zam,Zam] at this
theorem rMul (n m:Nat) (hn:(toL n).length≤1000000000000) (hm:(toL m).length≤1000000000000):Pure prog 102 [lim (toL n),lim (toL m)] (lim (toL (n*m))):=by
 have:=Ztr (toL n) (toL m) zo zo (Zan _) (Zan _)
 rwa [Zam,Zam] at this
theorem rCmp (n m:Nat) (hn:(toL n).length≤1000000000000) (hm:(toL m).length≤1000000000000):Pure prog 155 [lim (toL n),lim (toL m)] (.v (.int .i64 (cmpN n m))):=by
 have:=Zts (toL n) (toL m) zo zo (Zan _) (Zan _)
 rwa [Zam,Zam] at this
theorem rSub (n m:Nat) (hn:(toL n).length≤1000000000000) (hm:(toL m).length≤1000000000000):Pure prog 150 [lim (toL n),lim (toL m)] (.tup [lim (if n < m then [] else toL (n - m)),.v (.int .i64 (if n < m then 2 else 0))]):=by
 have:=refSub (toL n) (toL m) zo zo (Zan _) (Zan _)
 rwa [Zam,Zam] at this
theorem Zl1 (n m:Nat) (hn:(toL n).length≤1000000000000) (hm:(toL m).length≤1000000000000) (h0:m≠0):Pure prog 108 [lim (toL n),lim (toL m)] (.tup [lim (toL (n/m)),lim (toL (n%m)),.v (.int .i64 0)]):=by
 have:=Znb (toL n) (toL m) zo zo (Zan _) (Zan _) (by rw [Zam];exact h0)
 rwa [Zam,Zam] at this
theorem rGcd (n m:Nat) (hn:(toL n).length≤1000000000000) (hm:(toL m).length≤1000000000000):Pure prog 66 [lim (toL n),lim (toL m)] (lim (toL (Nat.gcd n m))):=by
 have:=refGcd (toL n) (toL m) zo zo (Zan _) (Zan _)
 rwa [Zam,Zam] at this
theorem Zt7 (n:Nat) (hn:(toL n).length≤1000000000000):Pure prog 107 [lim (toL n)] (lim (toL n)):=by
 have:=Zdz (toL n) zo (Zan _)
 rwa [Zam] at this
theorem szB:szOf prog 4=some 1:=by kernel_rfl
theorem zB:Za6 prog 4=some (.bool false):=by kernel_rfl
theorem Zcb:szOf prog 37=some 1:=by kernel_rfl
theorem zNat:Za6 prog 37=some (.slice none 0 0):=by kernel_rfl
theorem Zcc:szOf prog 39=some 2:=by kernel_rfl
theorem zInt:Za6 prog 39=some (.agg #[.bool false,.slice none 0 0]):=by kernel_rfl
theorem Zca:szOf prog 41=some 3:=by kernel_rfl
theorem zRat:Za6 prog 41=some (.agg #[.bool false,.slice none 0 0,.slice none 0 0]):=by kernel_rfl
abbrev intA (s:Bool) (n:Nat):AV:=.agg [.v (.bool s),lim (toL n)]
def zI (s:Bool) (n:Nat):Int:=if s then -(n:Int) else n
abbrev intZ (z:Int):AV:=intA (decide (z < 0)) z.natAbs
theorem Zbd (z:Int):zI (decide (z < 0)) z.natAbs=z:=by
 unfold zI;by_cases h:z < 0
 ·rw [Zv6 (by simpa using h)];omega
 ·rw [Zv5 (by simpa using h)];omega
theorem Zds (s:Bool) (n:Nat):(zI s n).natAbs=n:=by cases s<;>simp [zI]
theorem zI_lt (s:Bool) (n:Nat):decide (zI s n < 0)=(s && decide (0 < n)):=by
 cases s
 ·simp [zI]
 ·simp only [zI,Zw1,Zyj];by_cases h:0 < n
  ·rw [Zv8 zo,Zv8 h]
  ·rw [Zv7 zo,Zv7 h]
theorem Zd1 (s:Bool) (n:Nat):intZ (zI s n)=.agg [.v (.bool (s && decide (0 < n))),lim (toL n)]:=by
 unfold intZ intA;rw [zI_lt,Zds]
theorem Za4 {n:Nat}:(0 < (toL n).length)↔0 < n:=by
 have:=@Zbc n;omega
end Go.Proofs.YtaedgaikloifgaaGreatDoor
