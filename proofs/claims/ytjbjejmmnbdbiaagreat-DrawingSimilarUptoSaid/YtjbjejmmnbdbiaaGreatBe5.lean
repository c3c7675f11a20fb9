/- Contracts of the functions that the law reaches, and the rules by which they are walked. They say what a call hands back for every input within the bounds that each names; no other condition. -/
import Derived.Test.YtjbjejmmnbdbiaaGreatBe4
import Derived.Shelf.SlSortCmp.PdqK
import Derived.Test.YtjbjejmmnbdbiaaGreatRows
set_option linter.unusedSimpArgs false
set_option linter.unusedVariables false
set_option maxRecDepth 20000
set_option maxHeartbeats 16000000
namespace Go.Pg
open Go Go.RowKit
theorem blw_grow {w w':World} (h:Blw w.heap.size w w'):∃q os,w'=Go.Sort.grow (w.drewN q) os:=by
 refine⟨w'.drawn - w.drawn,w'.heap.extract w.heap.size w'.heap.size,?_⟩;obtain⟨⟨h1,h2,h3,h4,h5⟩,h6⟩:=h;obtain⟨hp,tp,dr,os,op⟩:=w;obtain⟨hp',tp',dr',os',op'⟩:=w';simp only at h1 h2 h3 h4 h5 h6;subst h1;subst h2;subst h3;unfold Go.Sort.grow World.drewN;simp only [World.mk.injEq,and_true,true_and];refine⟨?_,zo⟩;apply Array.ext_getElem?;intro i;rw [Array.getElem?_append];by_cases hi:i < hp.size
 ·rw [Zyk hi];exact h5 i hi
 ·rw [Zyj hi,Array.getElem?_extract];by_cases hj:i < hp'.size
  ·rw [Zyk zo];congr 1;omega
  ·rw [Zyj zo,ZB1 zo]
section
variable {α:Type} [Inhabited α] {enc:α→List Value} {k:Nat} {w:World} {b m:Nat} {d:Array α} {os:Array Obj}
theorem Zu0:(Go.Proofs.sortWorldK enc k w b 0 m d os).heap.size=w.heap.size+os.size:=by
 simp [Go.Proofs.sortWorldK,Go.Sort.grow,Go.Sort.putRowK,Go.Sort.putRow,Go.Sort.mapBlock,Go.Sort.ahead]
theorem Zmj {i:Nat} (hi:i < w.heap.size) (hb:i≠b):(Go.Proofs.sortWorldK enc k w b 0 m d os).heap[i]?=w.heap[i]?:=by
 simp only [Go.Proofs.sortWorldK,Go.Sort.grow,Go.Sort.putRowK,Go.Sort.putRow,Go.Sort.mapBlock,Go.Sort.ahead];rw [Array.getElem?_append,Zyk (by simpa using hi),ZDa,Zyj (ZAu hb)]
theorem sw_row {cur:Array Value} {e:TypeId} (hh:w.heap[b]?=some (.cells cur e (0,0))):(Go.Proofs.sortWorldK enc k w b 0 m d os).heap[b]?=some (.cells (Go.Sort.putCells id 0 (Go.Sort.flatK enc k d) cur) e (0,0)):=by
 have hb:b < w.heap.size:=(Array.getElem?_eq_some_iff.1 hh).1;simp only [Go.Proofs.sortWorldK,Go.Sort.grow,Go.Sort.putRowK,Go.Sort.putRow,Go.Sort.mapBlock,Go.Sort.ahead];rw [Array.getElem?_append,Zyk (by simpa using hb),ZDa,Zyk rfl,hh];rfl
theorem sw_grown (hb:b < w.heap.size):w.grownBy (Go.Proofs.sortWorldK enc k w b 0 m d os) (some b) :=
 ⟨rfl,rfl,rfl,by rw [Zu0];omega,λi hi hne=>Zmj hi λe=>hne (by rw [e])⟩
theorem sw_drawn:w.drawn≤(Go.Proofs.sortWorldK enc k w b 0 m d os).drawn:=Nat.le_add_right _ _
end
def Zc3 (xs:List Value) (k n i:Nat):List Value:=(xs.drop ((if i < n then i else 0)*k)).take k
theorem Zq6 {xs:List Value} {k n:Nat} (hl:xs.length=n*k) (hn:0 < n) (i:Nat):(Zc3 xs k n i).length=k:=by
 unfold Zc3;rw [Zy1,ZA5,hl];have h:(if i < n then i else 0)+1≤n:=by split<;>omega
 have:=Zzf k h;rw [Zze,ZAj] at this;omega
theorem Zh0 {xs:List Value} {k n:Nat} {i j:Nat} (hj:j < k):(Zc3 xs k n i)[j]?=xs[(if i < n then i else 0)*k+j]?:=by
 unfold Zc3;rw [ZAe,Zyk hj,ZAx]
theorem Ztd {P:Program} {ρ:Go.Shelf.Ren} (L:Go.Proofs.SlLaysF0.n14 P ρ) {k:Nat} (aE:∀w,(isAgg (ρ.t 24)).run P w=.ok true w) (zE:∀w,(Go.sizeOf (ρ.t 24)).run P w=.ok k w) (hk0:0 < k)
 {β:Type} (f:β→List AV) (cmp:β→β→Int) {ty:TypeId} {g:FuncId} {σ:Mem} {K:Nat} {sv:Value} (l:List β) (hf:∀x,(f x).length=k) (hK:σ K=some (.row sv ty k (l.map λx=>.agg (f x)) 0)) (hl:l.length < 4611686018427387904)
 (h1:∀x y,cmp x x=0∧(cmp x y < 0↔0 < cmp y x)) (h2:∀x y z,cmp x y≤0→cmp y z≤0→cmp x z≤0)
 (hc:∀x∈l,∀y∈l,Pure P g [.agg (f x),.agg (f y)] (.v (.int .i64 (cmp x y)))) (he:∀(vs:Array Value) (w:World),(callFunc (ρ.f 14) vs).run P w=.ok (.enter (ρ.f 14) vs) w) (lim:Nat) (hlim:lim < 4611686018427387904)
 (hnil:∀(p:Option Addr) (cap:Nat) (w:World),Calls P (ρ.f 14) #[.slice p 0 cap,.int .i64 0,.int .i64 0,.int .i64 lim,.func (.func g) #[] #[]] w λe w'=>e=.returned (.tuple #[])∧w'=w) :
 ACall P (ρ.f 14) [.own K sv,.v (.int .i64 0),.v (.int .i64 l.length),.v (.int .i64 lim),.fn g []] σ λr σ'=>∃l':List β,l'.Perm l∧l'.Pairwise (λx y=>cmp x y≤0)∧r=.tup []∧σ'=upd σ K (some (.row sv ty k (l'.map λx=>.agg (f x)) 0)):=by
 refine⟨he,λc w imm vs hm hlen hr=>?_⟩
 obtain⟨v0,v2,v3,v4,v1,rfl⟩:∃v0 v2 v3 v4 v1,vs=#[v0,v2,v3,v4,v1]:=by
  have h2:vs.size=5:=by simpa using hlen.symm
  exact⟨vs[0],vs[1],vs[2],vs[3],vs[4],by
   refine Array.ext (by simp [h2]) λi h3 h4=>?_
   match i,(by omega:i < 5) with
   | 0,_=>rfl
   | 1,_=>rfl
   | 2,_=>rfl
   | 3,_=>rfl
   | 4,_=>rfl⟩
 have r0:=hr 0 _ v0 rfl rfl;have r1:=hr 4 _ v1 rfl rfl;obtain rfl:=r0.own_inv;obtain rfl:=(hr 1 _ v2 rfl rfl).v_inv;obtain rfl:=(hr 2 _ v3 rfl rfl).v_inv;obtain rfl:=(hr 3 _ v4 rfl rfl).v_inv;obtain⟨cv,rfl,hcl,-⟩:=r1.fn_inv;obtain rfl:cv=#[]:=Array.eq_empty_of_size_eq_zero (by simpa using hcl.symm);obtain⟨xs,hown,hmm,hok,hrd,hpl,hp,hq⟩:=hm.ok.ent K _ hK;rw [Zyn] at hown;have nop:∀ad,imm ad→v0.ownBlock≠some ad.block:=λad ha h=>by have:=hp ad ha h;omega
 by_cases hn:l.length=0
 ·obtain⟨p,cap,rfl⟩:∃p cap,v0=.slice p 0 cap:=by
   rcases hown.2 with⟨h,-⟩ | ⟨b,cap,cur,h,-⟩
   ·exact⟨_,_,h⟩
   ·rw [hn] at h;exact⟨_,_,h⟩
  obtain rfl:=List.length_eq_zero_iff.1 hn;refine(hnil p cap w).mono λe w' h=>?_;obtain⟨rfl,rfl⟩:=h;have e1:upd σ K (some (.row (.slice p 0 cap) ty k (([]:List β).map λx=>.agg (f x)) 0))=σ:=funext λj=>by
   rw [Zal];split
   ·rename_i hj;rw [hj,hK]
   ·rfl
  exact⟨.tup [],_,imm,_,rfl,⟨[],.nil,.nil,rfl,rfl⟩,.pure (.tup [] #[] rfl λj a x h1 _=>by simp at h1),by rw [e1];exact hm,Keeps.refl _ _⟩
 have hn:0 < l.length:=ZAz hn;rcases hown.2 with⟨-,h⟩ | ⟨b,cap,cur,rfl,hB,hh,hnc,hcm,hcs,htake⟩
 ·omega
 obtain⟨n,hnd⟩:∃n,n=l.length:=⟨_,rfl⟩;rw [←hnd] at hn hown hnc htake hl;have ixl:∀i,(if i < n then i else 0) < l.length:=λi=>by split<;>omega
 obtain⟨el,hel⟩:∃el:Nat→β,el=λi=>l[if i < n then i else 0]'(ixl i):=⟨_,rfl⟩;have el_mem:∀i,el i∈l:=λi=>by rw [hel];exact Zy6 _
 have hk:=λi=>Zq6 (xs:=xs) (k:=k) hown.1 hn i;have hfl:∀i j,j < k→(flat (l.map λx=>AV.agg (f x)))[(if i < n then i else 0)*k+j]?=(f (el i))[j]?:=λi j hj=>by
  rw [Zdq hmm _ _ hj (by rw [Zyn];exact ixl i),Zyu,Zzu,Zym (ixl i),hel];rfl
 have rdx:∀i,Rd w imm (.agg (f (el i))) (.agg (Zc3 xs k n i).toArray):=λi=>by
  refine .agg _ _ (by rw [hf,ZCw,hk]) λj a x g1 g2=>?_;have hj:j < k:=by rw [←hf (el i)];exact(List.getElem?_eq_some_iff.1 g1).1
  rw [ZAm,Zh0 hj] at g2;exact hrd _ a x (by rw [hfl i j hj];exact g1) g2
 have h1':∀x,∀v∈Zc3 xs k n x,v.oneCell'=true:=λi v hv=>by
  obtain⟨j,hj,rfl⟩:=List.mem_iff_getElem.1 hv;rw [hk] at hj;have g2:(Zc3 xs k n i)[j]?=some _:=Zym (by rw [hk];exact hj);rw [Zh0 hj] at g2;have hlt:j < (f (el i)).length:=by rw [hf];exact hj
  have g1:=hfl i j hj;rw [Zym hlt] at g1;exact(hrd _ _ _ g1 g2).one_of (Znf hok _ (ZA6 g1))
 have hcell:∀(m:Nat) (dk:Array Nat) (os:Array Obj) (ad:Addr),imm ad→(Go.Proofs.sortWorldK (Zc3 xs k n) k w b 0 m dk os).cell? ad=w.cell? ad:=λm dk os ad ha=>World.cell?_of_block (Zmj (hm.ok.lt ad ha) λe=>nop ad ha (by rw [←e];rfl))
 have hO:Go.Sort.SWO (Go.Proofs.ltOf λi j=>cmp (el i) (el j)):=by
  refine⟨λx=>?_,λx y z g1 g2=>?_,λx y z g1 g2=>?_⟩
  ·simp [Go.Proofs.ltOf,(h1 (el x) (el x)).1]
  ·simp only [Go.Proofs.ltOf,Zzi] at g1 g2 ⊢;rcases ZBp (cmp (el x) (el z)) 0 with h | h | h
   ·exact h
   ·have a1:=(h1 (el x) (el y)).2.1 g1;have a2:=h2 (el y) (el z) (el x) zo (by have:=(h1 (el z) (el x)).2;have:=(h1 (el x) (el z)).2;omega);omega
   ·have a1:=(h1 (el x) (el y)).2.1 g1;have a2:=h2 (el y) (el z) (el x) zo (by have:=(h1 (el z) (el x)).2.2 h;omega);omega
  ·simp only [Go.Proofs.ltOf,ZBe,Int.not_lt] at g1 g2 ⊢;have a1:cmp (el y) (el x)≤0:=by have:=(h1 (el x) (el y)).2;have:=(h1 (el y) (el x)).2;omega
   have a2:cmp (el z) (el y)≤0:=by have:=(h1 (el y) (el z)).2;have:=(h1 (el z) (el y)).2;omega
   have a3:=h2 (el z) (el y) (el x) a2 a1;have:=(h1 (el x) (el z)).2;have:=(h1 (el z) (el x)).2;omega
 have hcmp:Go.Proofs.CmpLays P g #[] (Zc3 xs k n) k (λi j=>cmp (el i) (el j)) b 0 (Array.range n).size w:=λm os dk hs x y=>by
  refine((hc _ (el_mem x) _ (el_mem y)).2 (Go.Proofs.sortWorldK (Zc3 xs k n) k w b 0 m dk os) imm _ ⟨λad ha=>⟨by rw [Zu0];have:=hm.ok.lt ad ha;omega,hm.ok.spot ad ha⟩,(hm.tbB.same λi hi=>Zmj (ZAq hi hm.lt) zo).out⟩ rfl λj a z g1 g2=>?_).mono λe w' h=>?_
  ·match j with
   | 0=>simp at g1 g2;subst g1;subst g2;exact(rdx x).keep (λ_ h=>h) (hcell m dk os)
   | 1=>simp at g1 g2;subst g1;subst g2;exact(rdx y).keep (λ_ h=>h) (hcell m dk os)
   | j+2=>simp at g1
  ·obtain⟨x,i2,rfl,hx,-,-,hb⟩:=h;cases hx;exact⟨rfl,blw_grow hb⟩
 have hxl:xs.length=n*k:=hown.1;have hcl:n*k≤cur.size:=by rw [hcs];exact Zzf _ hnc
 have curx:∀j,j < n*k→cur[j]?=xs[j]?:=λj hj=>by rw [←htake,ZAe,Zyk hj,ZBa]
 have dk:∀(d:Array Nat),d.size=n→∀j,j < n*k→d[j/k]! < n→(Go.Sort.flatK (Zc3 xs k n) k d)[j]! = (xs[d[j/k]!*k+j%k]?).getD default:=λd hd j hj hlt=>by
  rw [Go.Sort.get_flatK _ _ _ _ (by rw [hd];exact hj),List.getElem!_eq_getElem?_getD,Zh0 (Zzs _ hk0),Zyk hlt]
 have rng:∀i,i < n→(Array.range n)[i]! = i:=λi hi=>by rw [getElem!_pos _ i (by simpa using hi)];simp
 have dvl:∀j,j < n*k→j/k < n:=λj hj=>(ZBk hk0).2 hj
 have hH:Go.Sort.HoldsK (Zc3 xs k n) k w b 0 (Array.range n):=by
  intro j hj;rw [Go.Sort.size_flatK,Array.size_range] at hj;have hj2:=dvl j hj;have e1:=dk (Array.range n) zs j hj (by rw [rng _ hj2];exact hj2);rw [rng _ hj2,Zzj (j/k) k,ZAy] at e1;refine⟨?_,by simp [World.frozen?,hh]⟩;rw [Zzd];have:w.cell? ⟨b,j,none⟩=cur[j]?:=by simp [World.cell?,hh]
  rw [this,curx j hj,e1,Zym zo];rfl
 have hblk:b < w.heap.size:=(Array.getElem?_eq_some_iff.1 hh).1;have hcall:=Go.Proofs.AnyQ.pdqsortCmpFunc_all L k aE zE (Zc3 xs k n) (λi j=>cmp (el i) (el j)) g #[] hO b 0 cap (Array.range n) w (hc _ (el_mem 0) _ (el_mem 0)).1 hcmp ⟨hk,h1',hH,hblk⟩ (n+1) 0 n lim (Array.range n) w zo rfl (Go.Proofs.SWK.start hH) (Zyv _) zs (by rw [Array.size_range];exact hl) hlim (.inl rfl);rw [Array.size_range] at hcall;rw [←hnd];refine hcall.mono λe w' h=>?_;obtain⟨rfl,n1,os,rfl⟩:=h;have hps:=Go.Sort.pdq_sorts (Go.Proofs.ltOf λi j=>cmp (el i) (el j)) hO (Array.range n) 0 n lim true true (Zyv _) zs (.inl rfl)
 obtain⟨hpm,hsd⟩:=hps;generalize Go.Sort.pdq (Go.Proofs.ltOf λi j=>cmp (el i) (el j)) (Array.range n) 0 n lim true true=d' at hpm hsd;have hds:d'.size=n:=by rw [hpm.1,Array.size_range]
 have hperm:d'.toList.Perm (List.range n):=by
  have h3:=hpm.2.2;rw [show d'.extract 0 n=d' from by rw [←hds];simp,show(Array.range n).extract 0 n=Array.range n from by simp] at h3
  simpa using h3
 have hmap:(List.range n).map el=l:=by
  refine List.ext_getElem (by simp [hnd]) λi g1 g2=>?_;rw [List.getElem_map,List.getElem_range,hel];simp only [hnd];congr 1;rw [Zyk g2]
 have hdl:∀i,i < n→d'[i]! < n:=λi hi=>by
  rw [getElem!_pos _ i zo];have:d'[i]∈d'.toList:=by rw [Array.mem_toList_iff];exact Array.getElem_mem _
  exact List.mem_range.1 (hperm.mem_iff.1 this)
 obtain⟨l',hl'⟩:∃l',l'=d'.toList.map el:=⟨_,rfl⟩;have hll:l'.length=n:=by rw [hl',Zyn,ZBb,hds]
 obtain⟨cur',hcur'⟩:∃c',c'=Go.Sort.putCells id 0 (Go.Sort.flatK (Zc3 xs k n) k d') cur:=⟨_,rfl⟩;have hcs':cur'.size=cap*k:=by rw [hcur',Go.Sort.putCells,Array.size_mapIdx,hcs]
 have hmm':∀x∈l'.map (λx=>AV.agg (f x)),x.cells.length=k:=λx hx=>by
  obtain⟨y,-,rfl⟩:=List.mem_map.1 hx;exact hf y
 have hok':∀x∈l'.map (λx=>AV.agg (f x)),x.ok=true:=λx hx=>by
  obtain⟨y,hy,rfl⟩:=List.mem_map.1 hx;rw [hl'] at hy;obtain⟨i,-,rfl⟩:=List.mem_map.1 hy;exact hok _ (List.mem_map.2 ⟨_,el_mem i,rfl⟩)
 have hsw:=sw_row (enc:=Zc3 xs k n) (k:=k) (m:=n1) (d:=d') (os:=os) hh;rw [←hcur'] at hsw;obtain⟨mx,kp⟩:=Zdy hm (sw_grown (enc:=Zc3 xs k n) (k:=k) (m:=n1) (d:=d') (os:=os) hblk) sw_drawn (λg' hg'=>by cases hg';exact hB) (hcell n1 d' os) K (.row (.slice (some ⟨b,0,none⟩) n cap) ty k (l'.map λx=>.agg (f x)) 0)
  ⟨cur'.toList.take (n*k),⟨by rw [Zy1,ZBb,hcs',Zyn,hll];exact ZAk (Zzf _ hnc),.inr ⟨b,cap,cur',by rw [Zyn,hll],hB,hsw,by rw [Zyn,hll];exact hnc,hcm,hcs',by rw [Zyn,hll]⟩⟩,hmm',hok',λj a x g1 g2=>by
   have hj:j < n*k:=by
    have:=(List.getElem?_eq_some_iff.1 g2).1;rw [Zy1] at this;omega
   rw [ZAe,Zyk hj,ZBa,hcur',Go.Sort.putCells,Array.getElem?_mapIdx,curx j hj,Zym (by rw [hxl];exact hj)] at g2;simp only [Zz7,Option.some.injEq,Zyv,true_and,Zzd,ZBi,Go.Sort.size_flatK,hds,hj,Zzb,id] at g2;have hj2:=dvl j hj;rw [dk d' hds j hj (hdl _ hj2)] at g2;have hjm:=Zzs j hk0
   have hdt:d'.toList[j/k]?=some d'[j/k]!:=by
    have hjd:j/k < d'.size:=by rw [hds];exact hj2
    rw [ZBa,Zzl hjd,getElem!_pos d' (j/k) hjd]
   have hfg:=Zdq hmm' (j/k) (j%k) hjm (by rw [Zyn,hll];exact hj2);rw [Zzj (j/k) k,ZAy,g1,Zyu,Zzu,hl',Zzu,hdt] at hfg;have g3:=hfl (d'[j/k]!) (j%k) hjm;rw [Zyk (hdl _ hj2)] at g3;have g4:(f (el d'[j/k]!))[j%k]?=some a:=hfg.symm
   have hxj:d'[j/k]!*k+j%k < xs.length:=by
    rw [hxl];have:=Zzf k (show d'[j/k]!+1≤n from hdl _ hj2);rw [Zze,ZAj] at this;omega
   rw [Zym hxj] at g2;refine(hrd (d'[j/k]!*k+j%k) a x (by rw [g3];exact g4) (by rw [Zym hxj,←g2];rfl)).keep (λ_ h=>h) (hcell n1 d' os),Zyv _,λad ha h=>absurd h (nop ad ha),λg off _ h=>absurd h zo⟩
  (λj e2 bb hj hje hb=>⟨λe=>hj (hm.ok.apart j K e2 _ bb hje hK hb (by rw [e];rfl)),λe=>hj (hm.ok.apart j K e2 _ bb hje hK hb e)⟩)
 refine⟨.tup [],_,imm,_,rfl,⟨l',?_,?_,rfl,rfl⟩,.pure (.tup [] #[] rfl λj a x h1 _=>by simp at h1),mx,kp⟩
 ·rw [hl'];have:=hperm.map el
  rwa [hmap] at this
 ·rw [hl',List.pairwise_map];refine List.pairwise_iff_getElem.2 λi j g1 g2 hij=>?_;have:=hsd i j (Zyv _) hij (by simpa [hds] using g2);rw [ZBb] at g1 g2;rw [getElem!_pos d' i g1,getElem!_pos d' j g2] at this;simp only [Go.Proofs.ltOf,ZBe,Int.not_lt] at this;simp only [Array.getElem_toList];have h3:=(h1 (el d'[i]) (el d'[j])).2;have h4:=(h1 (el d'[j]) (el d'[i])).2;omega
section
variable {P:Program} {n:Nat} {Q:AE→List Deferred→St→Prop} {ds:List Deferred} {st:St}
theorem Zmf {x y:Code} (hf:Zaw n x=true) (h:Zav P 0 n x (AE.then (λst'=>XW P n y Q [] st') (λae st'=>Q ae [] st')) st):XW P n (.seq x y) Q [] st :=
 xw_seq (xw_pre hf (Zul x st (λae st' h=>by cases ae<;>exact h) h))
theorem xw_frz {code:Code} {st':St} (hF:Frz n st st') (h:XW P n code Q ds st'):XW P n code Q ds st:=λc a w imm ha hr=>by
 obtain⟨imm',hr'⟩:=hF c _ w imm hr;exact h c a w imm' ha hr'
theorem xw_loop {g p:Nat} {aS bd:Code} {f:FuncId} {caps:List AV} (kD kL:Nat) (hkk:kD≠kL) (hg:st.env g=.fn f caps) (hp:p < n) (ha:(Zaw n aS && Zix aS)=true) (hb:(Zaw n bd && Zix bd)=true)
 (h:∀(D l:Nat) (RR RB:Obj),(∀(σ:Mem) (x:AV) (R:AV→Mem→Prop),σ (kL+1000)=some (.obj l RR) →
  Zav P 0 n aS (λae s1=>ae=.normal∧s1.mem (kL+1000+1000)=some (.obj l RR) ∧
   Zav P 0 n bd (λae s2=>ae=.normal∧s2.mem (kL+1000+1000)=some (.obj l RB)∧Zyi R (.v (.bool true)) (upd s2.mem (kL+1000+1000) (some (.obj l RR))))
    ⟨s1.env,upd s1.mem (kL+1000+1000) (some (.obj l RB))⟩) ⟨upd (λt=>(st.env t).bare.sh) p x.sh,Pg.lents σ⟩→YCall P l [x] σ R) →
  ACall P f (.v (.func (.yield l) #[] #[]) :: caps) (upd (upd st.mem kD (some (.obj D (.deferred (some []))))) kL (some (.obj l RR))) λr σ' =>
   σ' kL=some (.obj l RR)∧Q .normal (mkD D :: ds) ⟨st.env,upd σ' kL none⟩):XW P n (.rangeFunc (.tmp g) #[p] aS bd) Q ds st :=
 xw_range kD kL hkk hg λD l rt fn hbare hsz=>h D l (.loop (recR fn rt p aS bd D)) (.loop (recB fn rt p aS bd D)) λσ x R hσ hc =>
  Zpk hσ (λt w imm=>(AV.sub_sh _).1 w imm _ (hbare t w imm)) hsz hp ha hb hc
end
end Go.Pg
namespace Go.Proofs.YtjbjejmmnbdbiaaGreat
open Go Go.RowKit Go.Pg Go.Proofs.Tryz
attribute [-bool_to_prop] Bool.and_eq_decide Bool.or_eq_decide Bool.decide_beq_decide decide_eq_decide
theorem sz3:szOf prog 3=some 1:=by kernel_rfl
theorem by3:Zea prog 3=some 8:=by kernel_rfl
theorem z3:Zaq prog 3=some (.int .i64 0):=by kernel_rfl
theorem szL:szOf prog 125=some 1:=by kernel_rfl
theorem byL:Zea prog 125=some 2:=by kernel_rfl
theorem zL:Zaq prog 125=some (.int .u16 0):=by kernel_rfl
theorem szQ:szOf prog 94=some 1:=by kernel_rfl
theorem zQ:Zaq prog 94=some (.int .u64 0):=by kernel_rfl
attribute [go_sem] underlying24 underlying3 underlying125 underlying171 underlying94 underlying21 sz3 by3 z3 szL byL zL
theorem Zay (l:List Nat) (hs:l.length≤10000000000000) (hl:Lm l):Pure prog 109 [lim l] (lim (toL (nv l))):=by
 refine Zaa (tok:=0) (rs:=[.tmp 2]) func109 rfl ntmps109 results109 call109 zr zs ?_
 (refine wkvp w_t w_t (w_s ?_);intros)
 refine Zab (ι:=Nat) (λk e m=>k≤l.length∧e 0=lim l∧e 3=.v (.int .i64 (k:Int))∧∀j,k≤j→gN l j=0) (λk=>k) l.length zr ?_ ?_
 ·rintro k e m ⟨hk,e0,e3,hz⟩
  have gl:=Zbn hl (k - 1);by_cases h0:k=0
  ·subst h0
   (refine wkvp (w_2 e0 e3) w_t (w_s ?_);intros)
   have:=Zkl hl hk hz (.inl rfl);simp (disch:=omega) only [go_sem];rw [←this];rfl
  ·by_cases h1:gN l (k - 1)=0
   ·(refine wkvp (w_2 e0 e3) w_t (w_s ?_);intros)
    exact⟨k - 1,⟨zo,gW e0,by simp (disch:=omega) only [go_sem,e3];congr 2;omega,λj hj=>by
     rcases Zy5 j k with h2 | h2
     ·rw [show j=k - 1 by omega];exact h1
     ·exact hz j h2⟩,zo⟩
   ·(refine wkvp (w_2 e0 e3) w_t (w_s ?_);intros)
    have:=Zkl hl hk hz (.inr zo);simp (disch:=omega) only [go_sem,this]
 ·exact⟨Zyp _,gC,gC,λj hj=>Zei hj⟩
theorem slN {l:List Nat} (h:l=[]):lim l=.sl 1 []:=by subst h;rfl
theorem Zm4 (l:List Nat) (hs:l.length≤10000000000000) (hl:Lm l):Pure prog 104 [lim l] (lim (toL (nv l))):=by
 have h1:=Zap hl;by_cases h0:toL (nv l)=[]
 ·rw [slN h0];refine Pure.wk (r:=.v (.slice none 0 0)) ?_ (.nil 1);have h2:(toL (nv l)).length=0:=by rw [h0];rfl
  refine Zaa (tok:=0) (rs:=[.tmp 2]) func104 rfl ntmps104 results104 call104 zr zs ?_
  (refine wkvp (w_1 h2) (w_1 (Zay l hs hl)) (w_s ?_);intros)
  simp (disch:=omega) only [go_sem]
 ·have h2:0 < (toL (nv l)).length:=List.length_pos_iff.2 h0;refine Zaa (tok:=0) (rs:=[.tmp 2]) func104 rfl ntmps104 results104 call104 zr zs ?_
  (refine wkvp w_t (w_1 (Zay l hs hl)) (w_s ?_);intros)
  simp (disch:=omega) only [go_sem,ZAl,List.drop_replicate,ZCp,Zyp]
theorem natOf (n:Nat) (hn:n < 18446744073709551616):Pure prog 102 [.v (.int .u64 (n:Int))] (lim (toL n)):=by
 by_cases h0:n=0
 ·subst h0;rw [slN Zau];refine Pure.wk (r:=.v (.slice none 0 0)) ?_ (.nil 1);refine Zaa (tok:=0) (rs:=[.tmp 2]) func102 rfl ntmps102 results102 call102 zr zs ?_
  (refine wkvp w_t w_t (w_s ?_);intros)
  refine Zab (ι:=Nat) (λk e m=>e 0=.v (.int .u64 0)∧e 3=.v (.slice none 0 0)) (λk=>k) 0 zr ?_ ?_
  ·rintro k e m ⟨e0,e3⟩
   (refine wkvp (w_2 e0 e3) w_t (w_s ?_);intros)
   simp (disch:=omega) only [go_sem]
  ·exact⟨by simp (disch:=omega) only [go_sem];rfl,gC⟩
 ·refine Zaa (tok:=0) (rs:=[.tmp 2]) func102 rfl ntmps102 results102 call102 zr zs ?_
  (refine wkvp w_t w_t (w_s ?_);intros)
  refine Zab (ι:=Nat) (λk e m=>k≤n∧e 0=.v (.int .u64 (k:Int))∧((k=n∧e 3=.v (.slice none 0 0))∨(k < n∧∃sv l,e 3=.own 12 sv∧m 12=some (.row sv 125 1 (u16s l) 0)∧l++toL k=toL n))) (λk=>k) n zr ?_ ?_
  ·rintro k e m ⟨hk,e0,hor⟩
   by_cases hk0:k=0
   ·subst hk0;rcases hor with⟨h1,_⟩ | ⟨_,sv,l,e3,em,hl⟩
    ·omega
    ·(refine wkvp (w_2 e0 e3) w_t (w_s ?_);intros)
     simp (disch:=omega) only [go_sem,em];rw [Zau,Zzz] at hl;rw [hl]
   ·rcases hor with⟨rfl,e3⟩ | ⟨_,sv,l,e3,em,hl⟩
    ·(refine wkvp (w_3 e0 e3 @Zbc) w_t (w_s ?_);intros)
     refine⟨k/65536,⟨zo,gW e0,.inr ⟨zo,_,[k%65536],gC,gC,?_⟩⟩,zo⟩;rw [Zeu hk0];rfl
    ·have b1:=(Zaf (n:=n) (k:=4)).2 hn;have b2:l.length≤(toL n).length:=by rw [←hl];simp
     (refine wkvp (w_4 e0 e3 em @Zbc) w_t (w_s ?_);intros)
     refine⟨k/65536,⟨zo,gW e0,.inr ⟨zo,_,l++[k%65536],gC,gC,?_⟩⟩,zo⟩;rw [←hl,Zeu hk0];simp
  ·exact⟨Zyp _,gC,.inl ⟨rfl,gC⟩⟩
def cmpN (a b:Nat):Int:=if a < b then -1 else if b < a then 1 else 0
theorem Zr8 (a b:List Nat) (ha:a.length≤10000000000000) (hb:b.length≤10000000000000) (la:Lm a) (lb:Lm b):Pure prog 151 [lim a,lim b] (.v (.int .i64 (cmpN (nv a) (nv b)))):=by
 have h1:=Zap la;have h2:=Zap lb;have va:=Zam (nv a);have vb:=Zam (nv b);have ma:=Zan (nv a);have mb:=Zan (nv b);refine Zaa (tok:=0) (rs:=[.tmp 4]) func151 rfl ntmps151 results151 call151 zr zs ?_;by_cases hlt:(toL (nv a)).length < (toL (nv b)).length
 ·have:nv a < nv b:=by
   rcases Zy5 (nv a) (nv b) with h | h
   ·exact h
   ·have:=Zat h;omega
  (refine wkvp w_t (w_2 (Zay a ha la) (Zay b hb lb)) (w_s ?_);intros)
  simp (disch:=omega) only [go_sem,cmpN,Zyk this]
 ·by_cases hgt:(toL (nv b)).length < (toL (nv a)).length
  ·have:nv b < nv a:=by
    rcases Zy5 (nv b) (nv a) with h | h
    ·exact h
    ·have:=Zat h;omega
   have this2:¬nv a < nv b:=zo
   (refine wkvp w_t (w_2 (Zay a ha la) (Zay b hb lb)) (w_s ?_);intros)
   simp (disch:=omega) only [go_sem,cmpN,Zyk this,Zyj this2]
  ·(refine wkvp w_t (w_2 (Zay a ha la) (Zay b hb lb)) (w_s ?_);intros)
   refine Zab (ι:=Nat) (λk e m=>k≤(toL (nv a)).length∧e 0=lim (toL (nv a))∧e 1=lim (toL (nv b))∧e 5=.v (.int .i64 ((k:Int) - 1))∧nv ((toL (nv a)).drop k)=nv ((toL (nv b)).drop k)) (λk=>k) (toL (nv a)).length zr ?_ ?_
   ·rintro k e m ⟨hk,e0,e1,e5,hz⟩
    by_cases h0:k=0
    ·subst h0;rw [ZAg,ZAg,va,vb] at hz
     (refine wkvp (w_3 e0 e1 e5) w_t (w_s ?_);intros)
     simp (disch:=omega) only [go_sem,cmpN,hz,Nat.lt_irrefl,Zy8]
    ·have hk1:k - 1+1=k:=zo;have ga:=Zbn ma (k - 1);have gb:=Zbn mb (k - 1);by_cases p1:gN (toL (nv a)) (k - 1) < gN (toL (nv b)) (k - 1)
     ·have:=Zr6 (k:=k - 1) ma mb (by rw [hk1];exact hz) p1;rw [va,vb] at this
      (refine wkad (w_3 e0 e1 e5) w_t w_t (w_s ?_);intros)
      simp (disch:=omega) only [go_sem,cmpN,Zyk this]
     ·by_cases p2:gN (toL (nv b)) (k - 1) < gN (toL (nv a)) (k - 1)
      ·have:=Zr6 (k:=k - 1) mb ma (by rw [hk1];exact hz.symm) p2;rw [va,vb] at this;have this2:¬nv a < nv b:=zo
       (refine wkad (w_3 e0 e1 e5) w_t w_t (w_s ?_);intros)
       simp (disch:=omega) only [go_sem,cmpN,Zyk this,Zyj this2]
      ·(refine wkad (w_3 e0 e1 e5) w_t w_t (w_s ?_);intros)
       refine⟨k - 1,⟨zo,gW e0,gW e1,by simp (disch:=omega) only [go_sem,e5];congr 2;omega,?_⟩,zo⟩;rw [Zbx,Zbx (toL (nv b)),hk1,hz];omega
   ·refine⟨Zyp _,gC,gC,gC,?_⟩;rw [Zz6 (Zyp _),Zz6 zo]
theorem natAdd (a b:List Nat) (ha:a.length≤10000000000000) (hb:b.length≤10000000000000) (la:Lm a) (lb:Lm b):Pure prog 158 [lim a,lim b] (lim (toL (nv a+nv b))):=by
 have h1:=Zap la;have h2:=Zap lb;have va:=Zam (nv a);have vb:=Zam (nv b);have ma:=Zan (nv a);have mb:=Zan (nv b)
 obtain⟨A,B,hA,hB,hle,hAl,hLA,hLB,hAB,hm⟩:∃A B,A=(if (toL (nv a)).length < (toL (nv b)).length then toL (nv b) else toL (nv a))∧B=(if (toL (nv a)).length < (toL (nv b)).length then toL (nv a) else toL (nv b))∧B.length≤A.length∧A.length≤10000000000000∧Lm A∧Lm B∧nv A+nv B=nv a+nv b∧A.length≤(toL (nv a+nv b)).length:=by
  by_cases hlt:(toL (nv a)).length < (toL (nv b)).length
  ·exact⟨_,_,(Zyk hlt).symm,(Zyk hlt).symm,zo,zo,mb,ma,zo,Zat zo⟩
  ·exact⟨_,_,(Zyj hlt).symm,(Zyj hlt).symm,zo,zo,ma,mb,zo,Zat zo⟩
 refine Zaa (tok:=0) (rs:=[.tmp 4]) func158 rfl ntmps158 results158 call158 zr zs ?_;rcases Zy5 (toL (nv a)).length (toL (nv b)).length with hlt | hge
 rotate_left
 have hlt:¬(toL (nv a)).length < (toL (nv b)).length:=zo;all_goals
  (first|rw [Zyk hlt] at hA hB|rw [Zyj hlt] at hA hB)
  (refine wkvp w_t (w_2 (Zay a ha la) (Zay b hb lb)) (w_s ?_);intros)
  rw [←hA]
  try rw [←hB]
  refine Zab (ι:=Nat) (λk e m=>k≤A.length∧e 0=lim A∧e 1=lim B∧e 26=lim A∧e 27=.v (.int .i64 A.length)∧e 28=.v (.int .i64 k)∧∃sv o c,e 5=.own 25 sv∧e 6=.v (.int .u32 (c:Nat))∧m 25=some (.row sv 125 1 (u16s o) 0)∧o.length=A.length∧Lm o∧c≤1∧nv (o.take k)+65536 ^ k*c=nv (A.take k)+nv (B.take k)) (λk=>A.length - k) 0 zr ?_ ?_
  ·rintro k e m ⟨hk,e0,e1,e26,e27,e28,sv,o,c,e5,e6,em,hol,hLo,hc,hv⟩
   have ga:=Zbn hLA k;have gb:=Zbn hLB k;have hs:=Zno (x:=gN A k) (y:=gN B k) hv;have w1:(c+gN A k+gN B k)/65536≤1:=zo;have w2:(c+gN A k+gN B k)%65536 < 65536:=zo;by_cases hlt2:k < A.length
   ·rw [←Zda (o:=o) zo,←ZAh,←Zar,←Zar] at hs;by_cases hkb:k < B.length
    ·(refine wkvp (w_11 e0 e1 e26 e27 e28 e5 e6 em hol @Zax @Zbc) w_t (w_s ?_);intros)
     exact⟨k+1,⟨zo,gW e0,gW e1,gW e26,gW e27,gV e28,_,_,_,gW e5,gC,gC,by simpa using hol,hLo.set k w2,w1,hs⟩,zo⟩
    ·have g0:gN B k=0:=Zei zo;simp only [g0,Zzm] at hs w1 w2
     (refine wkvp (w_11 e0 e1 e26 e27 e28 e5 e6 em hol @Zax @Zbc) w_t (w_s ?_);intros)
     exact⟨k+1,⟨zo,gW e0,gW e1,gW e26,gW e27,gV e28,_,_,_,gW e5,gC,gC,by simpa using hol,hLo.set k w2,w1,hs⟩,zo⟩
   ·have hkA:k=A.length:=zo;subst hkA;rw [Zbd (Zyp _),Zbd hle,Zbd zo,hAB] at hv;by_cases hc0:c=0
    ·subst hc0;rw [ZA0,Zzm] at hv
     (refine wkvp (w_9 e0 e1 e26 e27 e28 e5 e6 em hol) w_t (w_s ?_);intros)
     simp (disch:=omega) only [go_sem,em];rw [canon' hLo (by rw [hv];omega),hv]
    ·have hc1:c=1:=zo;subst hc1
     (refine wkvp (w_10 e0 e1 e26 e27 e28 e5 e6 em hol @Zbc) w_t (w_s ?_);intros)
     simp (disch:=omega) only [go_sem];have h3:nv (o++[1])=nv a+nv b:=by rw [Zdp,hol];simpa [nv] using hv
     rw [←h3,←canon (hLo.append (Lm.one zo)) (.inr (by simp [gN]))]
  ·refine⟨Zyv _,gC,gC,gC,gC,gC,_,List.replicate A.length 0,0,gC,gC,gC,by simp,Lm.zeros _,zo,by simp [nv]⟩
theorem okTup {a:AV} {n:Int} (h:a=.v (.slice none 0 0)):Wk (.tup [a,.v (.int .i64 n)]) (.tup [lim [],.v (.int .i64 n)]):=by
 subst h;exact Wk.pair (.nil 1)
theorem natSub (a b:List Nat) (ha:a.length≤10000000000000) (hb:b.length≤10000000000000) (la:Lm a) (lb:Lm b) :
 Pure prog 159 [lim a,lim b] (.tup [lim (if nv a < nv b then [] else toL (nv a - nv b)),.v (.int .i64 (if nv a < nv b then 2 else 0))]):=by
 by_cases hlt:nv a < nv b
 ·rw [Zyk hlt,Zyk hlt];refine Pure.wk ?_ (okTup rfl);refine Zaa (tok:=0) (rs:=[.tmp 4,.tmp 5]) func159 rfl ntmps159 results159 call159 zr zs ?_;have hc:cmpN (nv a) (nv b)=-1:=by unfold cmpN;rw [Zyk hlt]
  (refine wkvp (w_1 hc) (w_1 (Zr8 a b ha hb la lb)) (w_s ?_);intros)
  simp (disch:=omega) only [go_sem]
 ·rw [Zyj hlt,Zyj hlt];have h1:=Zap la;have va:=Zam (nv a);have vb:=Zam (nv b);have ma:=Zan (nv a);have mb:=Zan (nv b);have h2:(toL (nv b)).length≤(toL (nv a)).length:=Zat zo;have hc:0≤cmpN (nv a) (nv b):=by unfold cmpN;rw [Zyj hlt];split<;>omega
  generalize hA:toL (nv a)=A at *;generalize hB:toL (nv b)=B at *;refine Zaa (tok:=0) (rs:=[.tmp 4,.tmp 5]) func159 rfl ntmps159 results159 call159 zr zs ?_
  (refine wkvp (w_2 hA hB) (w_3 (Zr8 a b ha hb la lb) (Zay a ha la) (Zay b hb lb)) (w_s ?_);intros)
  rw [hA,hB];refine Zab (ι:=Nat) (λk e m=>k≤A.length∧(e 1=lim B∧e 22=lim A∧e 23=.v (.int .i64 A.length)∧e 24=.v (.int .i64 k))∧∃sv o r,(e 6=.own 21 sv∧e 7=.v (.int .i32 (r:Nat))∧m 21=some (.row sv 125 1 (u16s o) 0))∧o.length=A.length∧Lm o∧r≤1∧nv (o.take k)+nv (B.take k)=nv (A.take k)+65536 ^ k*r) (λk=>A.length - k) 0 zr ?_ ?_
  ·rintro k e m ⟨hk,⟨e1,e22,e23,e24⟩,sv,o,r,⟨e6,e7,em⟩,hol,hLo,hr,hv⟩
   have ga:=Zbn ma k;have gb:=Zbn mb k;by_cases hlt2:k < A.length
   ·have step:∀(d r':Nat),d+r+gN B k=gN A k+65536*r'→d < 65536→r'≤1→(o.set k d).length=A.length∧Lm (o.set k d)∧r'≤1∧nv ((o.set k d).take (k+1))+nv (B.take (k+1))=nv (A.take (k+1))+65536 ^ (k+1)*r':=by
     intro d r' hd h3 h4;have:=Zrh hv hd;rw [Zda zo,Zar,Zar,ZAh];exact⟨by simpa using hol,hLo.set k h3,h4,this⟩
    by_cases hneg:gN A k < r+gN B k
    ·have hs:=step (gN A k+65536 - r - gN B k) 1 zo zo zo;have w:(gN A k:Int) - r - gN B k+65536=((gN A k+65536 - r - gN B k:Nat):Int):=zo;by_cases hkb:k < B.length
     ·(refine wkvp (w_9 e1 e22 e23 e24 e6 e7 em hol w) w_t (w_s ?_);intros)
      exact⟨k+1,⟨zo,gV (And.intro e1 (And.intro e22 (And.intro e23 e24))),sv,_,1,gW e6,hs⟩,zo⟩
     ·have g0:gN B k=0:=Zei zo;simp only [g0,ZBi,Zzm] at hs w hneg;have w:(gN A k:Int) - r+65536=((gN A k+65536 - r:Nat):Int):=zo
      (refine wkvp (w_9 e1 e22 e23 e24 e6 e7 em hol w) w_t (w_s ?_);intros)
      exact⟨k+1,⟨zo,gV (And.intro e1 (And.intro e22 (And.intro e23 e24))),sv,_,1,gW e6,hs⟩,zo⟩
    ·have hs:=step (gN A k - r - gN B k) 0 zo zo zo;have w:(gN A k:Int) - r - gN B k=((gN A k - r - gN B k:Nat):Int):=zo;by_cases hkb:k < B.length
     ·(refine wkvp (w_9 e1 e22 e23 e24 e6 e7 em hol w) w_t (w_s ?_);intros)
      exact⟨k+1,⟨zo,gV (And.intro e1 (And.intro e22 (And.intro e23 e24))),sv,_,0,by(simp (disch:=omega) only [go_sem,e6,ZA7]<;>repeat' first|rfl|refine⟨?_,?_⟩),hs⟩,zo⟩
     ·have g0:gN B k=0:=Zei zo;simp only [g0,ZBi,Zzm] at hs hneg;have w:(gN A k:Int) - r=((gN A k - r:Nat):Int):=zo
      (refine wkvp (w_9 e1 e22 e23 e24 e6 e7 em hol w) w_t (w_s ?_);intros)
      exact⟨k+1,⟨zo,gV (And.intro e1 (And.intro e22 (And.intro e23 e24))),sv,_,0,by(simp (disch:=omega) only [go_sem,e6,ZA7]<;>repeat' first|rfl|refine⟨?_,?_⟩),hs⟩,zo⟩
   ·have hkA:k=A.length:=zo;subst hkA;rw [Zbd zo,Zbd (Zyp _),Zbd h2,va,vb] at hv;have hno:=Zhd hLo;rw [hol] at hno
    have hr0:r=0:=by
     rcases Zz0 r with h3 | h3
     ·exact h3
     ·have:r=1:=zo;subst this;omega
    subst hr0;have hno2:nv o=nv a - nv b:=zo
    (refine wkax (w_8 e1 e22 e23 e24 e6 e7 em hol) w_t w_t (w_1 (Zay o zo hLo)) w_t w_t w_y (w_r 0) (w_s ?_);intros)
    simp (disch:=omega) only [go_sem,hno2]
  ·exact⟨Zyv _,gC,_,List.replicate A.length 0,0,⟨gC,gC,gC⟩,by simp,Lm.zeros _,zo,by simp [nv]⟩
theorem natMul (a b:List Nat) (ha:a.length≤4000000000000) (hb:b.length≤4000000000000) (la:Lm a) (lb:Lm b):Pure prog 65 [lim a,lim b] (lim (toL (nv a*nv b))):=by
 have h1:=Zap la;have h2:=Zap lb;have va:=Zam (nv a);have vb:=Zam (nv b);have ma:=Zan (nv a);have mb:=Zan (nv b);by_cases h0:nv a=0∨nv b=0
 ·have hz:nv a*nv b=0:=Nat.mul_eq_zero.2 h0;rw [slN (show toL (nv a*nv b)=[] by rw [hz,Zau])];refine Pure.wk (r:=.v (.slice none 0 0)) ?_ (.nil 1);refine Zaa (tok:=0) (rs:=[.tmp 4]) func65 rfl ntmps65 results65 call65 zr zs ?_;by_cases h3:nv a=0
  ·have h4:=Zbf.2 h3
   (refine wkvp (w_1 h4) (w_2 (Zay a zo la) (Zay b zo lb)) (w_s ?_);intros)
   simp (disch:=omega) only [go_sem]
  ·have h4:(toL (nv a)).length≠0:=λh=>h3 (Zbf.1 h);have h5:=Zbf.2 (h0.resolve_left h3)
   (refine wkvp (w_1 h5) (w_2 (Zay a zo la) (Zay b zo lb)) (w_s ?_);intros)
   simp (disch:=omega) only [go_sem]
 ·have h3:(toL (nv a)).length≠0:=λh=>h0 (.inl (Zbf.1 h));have h4:(toL (nv b)).length≠0:=λh=>h0 (.inr (Zbf.1 h));generalize hA:toL (nv a)=A at *;generalize hB:toL (nv b)=B at *;refine Zaa (tok:=0) (rs:=[.tmp 4]) func65 rfl ntmps65 results65 call65 zr zs ?_
  (refine wkvp (w_3 hA hB @Zax) (w_2 (Zay a zo la) (Zay b zo lb)) (w_s ?_);intros)
  rw [hA,hB];refine Zab (ι:=Nat) (λi e m=>i≤A.length∧(e 1=lim B∧e 29=lim A∧e 30=.v (.int .i64 A.length)∧e 31=.v (.int .i64 i))∧∃sv o,(e 5=.own 28 sv∧m 28=some (.row sv 125 1 (u16s o) 0))∧o.length=A.length+B.length∧Lm o∧(∀j,i+B.length≤j→gN o j=0)∧nv o=nv (A.take i)*nv B) (λi=>A.length - i) 0 zr ?_ ?_
  ·rintro i e m ⟨hi,⟨e1,e29,e30,e31⟩,sv,o,⟨e5,em⟩,hol,hLo,hz,hv⟩
   by_cases hlt:i < A.length
   ·have gx:=Zbn ma i
    (refine wkvp (w_8 e1 e29 e30 e31 e5 em hol @Zax) w_t (w_s ?_);intros)
    refine Zab (ι:=Nat) (λk e' m'=>k≤B.length∧(e' 1=lim B∧e' 29=lim A∧e' 30=.v (.int .i64 A.length)∧e' 31=.v (.int .i64 i)∧e' 36=lim B∧e' 37=.v (.int .i64 B.length)∧e' 38=.v (.int .i64 k)∧e' 6=.v (.int .i64 i)∧e' 7=.v (.int .u16 (gN A i:Nat))∧e' 5=.own 28 sv)∧∃o' c,(e' 8=.v (.int .u32 (c:Nat))∧m' 28=some (.row sv 125 1 (u16s o') 0))∧o'.length=A.length+B.length∧Lm o'∧c < 65536∧(∀j,i+B.length≤j→gN o' j=0)∧nv o'+65536 ^ (i+k)*c=nv o+65536 ^ i*nv (B.take k)*gN A i) (λk=>B.length - k) 0 zr ?_ ?_
    ·rintro k e m ⟨hk,⟨e1,e29,e30,e31,e36,e37,e38,e6,e7,e5⟩,o',c,⟨e8,em⟩,hol',hLo',hc,hz',hv'⟩
     have gy:=Zbn mb k;have go:=Zbn hLo' (i+k);have bd:=Zou gx gy;by_cases hkb:k < B.length
     ·have hs:=Zr9 (x:=gN A i) (y:=gN B k) rfl (Zoo (o:=o') (j:=i+k) zo _) hv';rw [←Zsa,←Zar,←ZAh,Nat.succ_eq_add_one,ZCx i] at hs;have w1:(c+(gN o' (i+k)+gN A i*gN B k))/65536 < 65536:=zo;have w2:(c+(gN o' (i+k)+gN A i*gN B k))%65536 < 65536:=zo;generalize hxy:gN A i*gN B k=xy at *
      (refine wkvp (w_17 e1 e29 e30 e31 e36 e37 e38 e6 e7 e5 e8 em hol' @Zax @Zhw @Zbc hxy) w_t (w_s ?_);intros)
      refine⟨k+1,⟨zo,gV (And.intro e1 (And.intro e29 (And.intro e30 (And.intro e31 (And.intro e36 (And.intro e37 (And.intro e38 (And.intro e6 (And.intro e7 e5))))))))),_,_,⟨gC,gC⟩,by simpa using hol',hLo'.set _ w2,w1,λj hj=>?_,hs⟩,zo⟩;rw [Zfw zo,Zyj zo];exact hz' j hj
     ·have hkB:k=B.length:=zo;subst hkB;rw [Zbd (Zyp _)] at hv';have g0:=hz' (i+B.length) (Zyp _);have h5:=Zoo (o:=o') (j:=i+B.length) zo c;rw [g0,ZA0,Zzm] at h5;have hcc:c%65536=c:=ZAt hc
      (refine wkvp (w_16 e1 e29 e30 e31 e36 e37 e38 e6 e7 e5 e8 em hol' @Zax @Zbc hcc) w_t (w_s ?_);intros)
      refine⟨i+1,⟨zo,gV (And.intro e1 (And.intro e29 (And.intro e30 e31))),sv,_,⟨gW e5,gC⟩,by simpa using hol',hLo'.set _ hc,λj hj=>?_,?_⟩,zo⟩
      ·rw [Zfw zo,Zyj zo];exact hz' j zo
      ·rw [h5,hv',hv,Zar,Zze];congr 1;simp only [Zz3,Zzj,ZBz]
    ·exact⟨Zyv _,gW (And.intro e1 (And.intro e29 (And.intro e30 (And.intro e31 e5)))),_,0,⟨gC,gW em⟩,hol,hLo,zo,hz,by simp [nv]⟩
   ·have hiA:i=A.length:=zo;subst hiA;rw [Zbd (Zyp _),va,vb] at hv
    (refine wkax (w_7 e1 e29 e30 e31 e5 em hol) w_t w_t (w_1 (Zay o zo hLo)) w_t w_t w_y (w_r 0) (w_s ?_);intros)
    simp (disch:=omega) only [go_sem,hv]
  ·exact⟨Zyv _,gC,_,List.replicate (A.length+B.length) 0,⟨gC,gC⟩,by simp,Lm.zeros _,λj hj=>Zg6 _ _,by simp [nv,Zm2]⟩
attribute [go_sem] underlying9 underlying5 underlying172
theorem Zpg (x:Nat) (hx:x < 65536):Pure prog 152 [.v (.int .u16 (x:Int))] (.v (.int .i64 (Ze8 x:Nat))):=by
 refine Zaa (tok:=0) (rs:=[.tmp 2]) func152 rfl ntmps152 results152 call152 zr zs ?_;by_cases h:256≤x
 ·have b:=Ziv (i:=x/256) zo;have e:Ze8 x=8+len8 (x/256):=Zyk h
  (repeat' (first|(apply o_tab (g:=len8) (n:=256) zk zk zo)|(with_reducible first|refine stp ?_|apply gx1|apply gx2|apply gx3|apply gx4|apply gx5|apply gx6|apply gx7)|(with_reducible refine Zcg ?_;intro _)|((with_reducible refine gE ?_);(try simp (disch:=omega) only [go_sem])<;>first|rfl|omega)|with_reducible refine Zai zd ?_))
  simp (disch:=omega) only [go_sem,e,Int.natCast_add,Int.cast_ofNat_Int]
 ·have b:=Ziv (i:=x) zo;have e:Ze8 x=len8 x:=Zyj h
  (repeat' (first|(apply o_tab (g:=len8) (n:=256) zk zk zo)|(with_reducible first|refine stp ?_|apply gx1|apply gx2|apply gx3|apply gx4|apply gx5|apply gx6|apply gx7)|(with_reducible refine Zcg ?_;intro _)|((with_reducible refine gE ?_);(try simp (disch:=omega) only [go_sem])<;>first|rfl|omega)|with_reducible refine Zai zd ?_))
  simp (disch:=omega) only [go_sem,e,Zyw]
theorem bitsLz16 (x:Nat) (hx:x < 65536):Pure prog 155 [.v (.int .u16 (x:Int))] (.v (.int .i64 ((16 - Ze8 x:Nat):Int))):=by
 refine Zaa (tok:=0) (rs:=[.tmp 2]) func155 rfl ntmps155 results155 call155 zr zs ?_;have b:=Zii hx;have w:(16:Int) - (Ze8 x:Int)=((16 - Ze8 x:Nat):Int):=zo
 (refine wkvp (w_1 w) (w_1 (Zpg x hx)) (w_s ?_);intros)
 simp (disch:=omega) only [go_sem]
def Znn (n:Nat):Nat:=if n=0 then 0 else 16*((toL n).length - 1)+Ze8 (gN (toL n) ((toL n).length - 1))
theorem Zg9 {n:Nat}:Znn n=0↔n=0:=by
 constructor
 ·intro h;unfold Znn at h;split at h
  ·assumption
  ·rename_i h0;have h1:=Zeb h0;have:=(Zii (Zbn (Zan n) ((toL n).length - 1))).2 h1.2;omega
 ·rintro rfl;rfl
theorem natBits (l:List Nat) (hs:l.length≤10000000000000) (hl:Lm l):Pure prog 103 [lim l] (.v (.int .i64 (Znn (nv l):Nat))):=by
 have h1:=Zap hl;refine Zaa (tok:=0) (rs:=[.tmp 2]) func103 rfl ntmps103 results103 call103 zr zs ?_;by_cases h0:nv l=0
 ·have h2:=Zbf.2 h0;have h3:=Zg9.2 h0
  (refine wkvp (w_1 h2) (w_1 (Zay l hs hl)) (w_s ?_);intros)
  simp (disch:=omega) only [go_sem,h3];rfl
 ·obtain⟨h2,h3⟩:=Zeb h0;have hb:Znn (nv l)=16*((toL (nv l)).length - 1)+Ze8 (gN (toL (nv l)) ((toL (nv l)).length - 1)):=Zyj h0;have b:=Zii (Zbn (Zan (nv l)) ((toL (nv l)).length - 1));have w:(16:Int)*(((toL (nv l)).length:Int) - 1)+(Ze8 (gN (toL (nv l)) ((toL (nv l)).length - 1)):Nat)=(Znn (nv l):Nat):=zo
  (repeat' (first|(with_reducible first|refine stp ?_|apply gx1|apply gx2|apply gx3|apply gx4|apply gx5|apply gx6|apply gx7|refine gw0 (Zay l hs hl) ?_ ?_|refine gw0 (Zpg (gN (toL (nv l)) ((toL (nv l)).length - 1)) (Zbn (Zan (nv l)) _)) ?_ ?_)|(with_reducible refine Zcg ?_;intro _)|((with_reducible refine gE ?_);(try simp (disch:=omega) only [go_sem,w])<;>first|rfl|omega)|with_reducible refine Zai zd ?_))
  simp (disch:=omega) only [go_sem,w]
theorem Zwy (a:List Nat) (d:Nat) (ha:a.length≤10000000000000) (la:Lm a) (hd0:0 < d) (hd:d < 65536):Pure prog 154 [lim a,.v (.int .u16 (d:Int))] (.tup [lim (toL (nv a/d)),.v (.int .u16 ((nv a%d:Nat):Int))]):=by
 refine Zaa (tok:=0) (rs:=[.tmp 4,.tmp 5]) func154 rfl ntmps154 results154 call154 zr zs ?_
 (refine wkvp w_t w_t (w_s ?_);intros)
 refine Zab (ι:=Nat) (λk e m=>k≤a.length∧(e 0=lim a∧e 1=.v (.int .u16 (d:Int))∧e 8=.v (.int .i64 ((k:Int) - 1)))∧∃sv q r,(e 6=.own 11 sv∧e 7=.v (.int .u32 (r:Nat))∧m 11=some (.row sv 125 1 (u16s q) 0))∧q.length=a.length∧Lm q∧r < d∧(∀j,j < k→gN q j=0)∧nv (a.drop k)=d*nv (q.drop k)+r) (λk=>k) a.length zr ?_ ?_
 ·rintro k e m ⟨hk,⟨e0,e1,e8⟩,sv,q,r,⟨e6,e7,em⟩,hql,hLq,hr,hz,hv⟩
  by_cases h0:k=0
  ·subst h0;rw [ZAg,ZAg] at hv;have h2:nv a/d=nv q:=by rw [hv,Nat.mul_add_div hd0,ZC2 hr,Zzm]
   have h3:nv a%d=r:=by rw [hv,Nat.mul_add_mod,ZAt hr]
   (refine wkax (w_7 e0 e1 e8 e6 e7 em hql) w_t w_t (w_1 (Zay q zo hLq)) w_t w_t w_y (w_r 0) (w_s ?_);intros)
   simp (disch:=omega) only [go_sem,h2,h3]
  ·have ga:=Zbn la (k - 1);have hd1:=div_step (x:=gN a (k - 1)) rfl hv
   have w1:(r*65536+gN a (k - 1))/d < 65536:=by
    rw [ZBk hd0];have:(r+1)*65536≤d*65536:=Zzf _ hr;rw [Zzj 65536 d];omega
   have w2:(r*65536+gN a (k - 1))%d < d:=Zzs _ hd0;have hk1:k - 1+1=k:=zo;have hrr:r < 65536:=zo;have w3:((r*65536+gN a (k - 1))/d)%65536=(r*65536+gN a (k - 1))/d:=ZAt w1
   (refine wkvp (w_11 e0 e1 e8 e6 e7 em hql @Ze2 @Ze1 @Zbc w3) w_t (w_s ?_);intros)
   refine⟨k - 1,⟨zo,⟨gW e0,gW e1,by(simp (disch:=omega) only [go_sem,e8];congr 2;omega)⟩,sv,_,_,⟨gW e6,gC,gC⟩,by simpa using hql,hLq.set _ w1,w2,λj hj=>?_,?_⟩,zo⟩
   ·rw [Zfw zo,Zyj zo];exact hz j zo
   ·rw [Zbx,hk1,hd1,Zbx (q.set _ _),hk1,Zfw zo,Zyk rfl,List.drop_set_of_lt zo]
 ·exact⟨Zyp _,gC,_,List.replicate a.length 0,0,⟨gC,gC,gC⟩,by simp,Lm.zeros _,hd0,λj hj=>Zg6 _ _,by rw [Zz6 (Zyp _),Zz6 zs];simp [nv]⟩
theorem Zwx (l:List Nat) (hs:l.length≤10000000000000) (hl:Lm l):Pure prog 68 [lim l] (.tup [.v (.int .u64 (if nv l < 18446744073709551616 then (nv l:Int) else 0)),.v (.bool (decide (nv l < 18446744073709551616)))]):=by
 have h1:=Zap hl;have hk:=Zaf (n:=nv l) (k:=4);have va:=Zam (nv l);have ma:=Zan (nv l);refine Zaa (tok:=0) (rs:=[.tmp 2,.tmp 3]) func68 rfl ntmps68 results68 call68 zr zs ?_;by_cases hb:nv l < 18446744073709551616
 ·have h4:=hk.2 hb;generalize hA:toL (nv l)=A at *
  (refine wkvp (w_1 hA) (w_1 (Zay l hs hl)) (w_s ?_);intros)
  rw [hA];refine Zab (ι:=Nat) (λk e m=>k≤A.length∧(e 12=lim A∧e 13=.v (.int .i64 A.length)∧e 14=.v (.int .i64 k)∧e 4=.v (.int .u64 (nv (A.take k):Nat)))) (λk=>A.length - k) 0 zr ?_ ?_
  ·rintro k e m ⟨hk,⟨e12,e13,e14,e4⟩⟩
   have ga:=Zbn ma k;by_cases hlt:k < A.length
   ·have b1:nv (A.take k) < 65536 ^ k:=ZAq (Zhd (ma.take k)) (ZA1 zo (by rw [Zy1];omega));rw [Zoe] at b1;have w:=orS_64 (n:=nv (A.take k)) (x:=gN A k) (s:=16*k) b1 zo ga;rw [←Zoe,←Zar,Zoe] at w
    have w2:shlI .u64 (gN A k:Int) ((16:Int)*(k:Int))=((gN A k*2 ^ (16*k):Nat):Int):=by
     have e:(16:Int)*(k:Int)=((16*k:Nat):Int):=zo;rw [e];refine shl_64 zo ?_;have:(2:Nat) ^ (16*k)≤2 ^ 48:=ZA1 zo zo;have h5:gN A k*2 ^ (16*k)≤65535*2 ^ 48:=ZDd zo this;omega
    (refine wkvp (w_6 e12 e13 e14 e4 w2 w) w_t (w_s ?_);intros)
    exact⟨k+1,⟨zo,gV (And.intro e12 (And.intro e13 (And.intro e14 e4)))⟩,zo⟩
   ·rw [Zbd zo,va] at e4
    (refine wkvp (w_4 e12 e13 e14 e4) w_t (w_s ?_);intros)
    simp (disch:=omega) only [go_sem,Zyk hb,Zyo hb]
  ·exact⟨Zyv _,gC⟩
 ·have h4:4 < (toL (nv l)).length:=by
   rcases Zy5 4 (toL (nv l)).length with h | h
   ·exact h
   ·exact absurd (hk.1 h) hb
  (refine wkvp w_t (w_1 (Zay l hs hl)) (w_s ?_);intros)
  simp (disch:=omega) only [go_sem,Zyj hb,Zyl hb]
theorem natRight (a:List Nat) (n:Nat) (ha:a.length≤10000000000000) (la:Lm a) (hn:n≤1048576):Pure prog 203 [lim a,.v (.int .i64 (n:Int))] (lim (toL (nv a/2 ^ n))):=by
 have hns:n=16*(n/16)+n%16:=zo;have q1:(n:Int).tdiv 16=((n/16:Nat):Int):=Ze2 n 16;have q2:(n:Int).tmod 16=((n%16:Nat):Int):=Ze1 n 16;have hs:n%16 < 16:=Zzs _ zo;rw [hns,Ztw,Zww la,←hns];generalize n/16=l at *;generalize n%16=s at *;by_cases hl:a.length≤l
 ·have hz:toL (nv (a.drop l)/2 ^ s)=[]:=by rw [Zz6 hl];simp [nv,Zau]
  rw [slN hz];refine Pure.wk (r:=.v (.slice none 0 0)) ?_ (.nil 1);refine Zaa (tok:=0) (rs:=[.tmp 4]) func203 rfl ntmps203 results203 call203 zr zs ?_
  (refine wkvp (w_2 q1 q2) w_t (w_s ?_);intros)
  simp (disch:=omega) only [go_sem]
 ·have hc:(a.length:Int) - (l:Int)=((a.length - l:Nat):Int):=zo;refine Zaa (tok:=0) (rs:=[.tmp 4]) func203 rfl ntmps203 results203 call203 zr zs ?_
  (refine wkvp (w_3 q1 q2 hc) w_t (w_s ?_);intros)
  refine Zab (ι:=Nat) (λk e m=>k≤a.length - l∧(e 0=lim a∧e 5=.v (.int .i64 (l:Int))∧e 6=.v (.int .i64 (s:Int))∧e 24=.v (.int .i64 (a.length - l:Nat))∧e 25=.v (.int .i64 (k:Int)))∧∃sv o,(e 7=.own 22 sv∧m 22=some (.row sv 125 1 (u16s o) 0))∧o.length=a.length - l∧Lm o∧nv (o.take k)=(nv (a.drop l)/2 ^ s)%65536 ^ k) (λk=>a.length - l - k) 0 zr ?_ ?_
  ·rintro k e m ⟨hk,⟨e0,e5,e6,e24,e25⟩,sv,o,⟨e7,em⟩,hol,hLo,hv⟩
   by_cases hlt:k < a.length - l
   ·have ga:=Zbn la (k+l);have gb:=Zbn la (k+l+1)
    have hd:((gN a (k+l)+65536*gN a (k+l+1))/2 ^ s)%65536=(nv (a.drop l)/65536 ^ k/2 ^ s)%65536:=by
     rw [Zww (la.drop l),ZBu,Zbx,Zbx a (l+k+1),shr_dig zo,ZBh l k]
    have hst:=shr_step hv hd;have w0:((gN a (k+l)+65536*gN a (k+l+1))/2 ^ s)%65536 < 65536:=Zzs _ zo;have sh:=λx=>shr_32 (x:=x) (s:=s) zo;by_cases hmore:k+l+1 < a.length
    ·(repeat' (first|(with_reducible first|refine stp ?_|apply gx1|apply gx2|apply gx3|apply gx4|apply gx5|apply gx6|apply gx7)|(with_reducible refine Zcg ?_;intro _)|((with_reducible refine gE ?_);(try simp (disch:=omega) only [go_sem,e0,e5,e6,e24,e25,e7,em,hol,Zax,Zbo,Zbc,or16_32',sh])<;>first|rfl|omega)|with_reducible refine Zai zd ?_))
     exact⟨k+1,⟨zo,gV (And.intro e0 (And.intro e5 (And.intro e6 (And.intro e24 e25)))),sv,_,⟨gW e7,gC⟩,by simpa using hol,hLo.set _ w0,by rw [Zda zo];exact hst⟩,zo⟩
    ·have g0:gN a (k+l+1)=0:=Zei zo;simp only [g0,ZA0,Zzm] at hst w0
     (refine wkvp (w_12 e0 e5 e6 e24 e25 e7 em hol @Zax @Zbo @Zbc sh) w_t (w_s ?_);intros)
     exact⟨k+1,⟨zo,gV (And.intro e0 (And.intro e5 (And.intro e6 (And.intro e24 e25)))),sv,_,⟨gW e7,gC⟩,by simpa using hol,hLo.set _ w0,by rw [Zda zo];exact hst⟩,zo⟩
   ·rw [Zbd zo] at hv;have h5:=Zhd (la.drop l);rw [ZA5] at h5;have hk2:k=a.length - l:=zo;rw [ZAt (ZC1 (ZCu _ _) (by rw [hk2];exact h5))] at hv
    (refine wkax (w_8 e0 e5 e6 e24 e25 e7 em hol) w_t w_t (w_1 (Zay o zo hLo)) w_t w_t w_y (w_r 0) (w_s ?_);intros)
    simp (disch:=omega) only [go_sem,hv]
  ·exact⟨Zyv _,gC,_,List.replicate (a.length - l) 0,⟨gC,gC⟩,by simp,Lm.zeros _,by simp [nv,Nat.mod_one]⟩
theorem Zty (σ:Mem) (K:Nat) (sv:Value) (l:List Nat) (hs:l.length≤10000000000000) (hl:Lm l) (hσ:σ K=some (.row sv 125 1 (u16s l) 0)) :
 ACall prog 109 [.own K sv] σ λr σ'=>r=.view K sv 1 0 (toL (nv l)).length∧σ'=σ:=by
 refine Zbg (tok:=0) (rs:=[.tmp 2]) func109 rfl ntmps109 results109 call109 zr zs ?_
 (refine wkvp (w_1 hσ) w_t (w_s ?_);intros)
 refine Zab (ι:=Nat) (λk e m=>k≤l.length∧e 0=.own K sv∧e 3=.v (.int .i64 (k:Int))∧m=σ∧∀j,k≤j→gN l j=0) (λk=>k) l.length zr ?_ ?_
 ·rintro k e m ⟨hk,e0,e3,rfl,hz⟩
  have gl:=Zbn hl (k - 1);have fin:(k=0∨0 < gN l (k - 1))→k=(toL (nv l)).length:=λh=>by
   rw [←Zkl hl hk hz h,Zy1,ZAk hk]
  by_cases h0:k=0
  ·subst h0;have f:=fin (.inl rfl)
   (refine wkvp (w_3 e0 e3 hσ) w_t (w_s ?_);intros)
   simp (disch:=omega) only [go_sem,←f]
  ·by_cases h1:gN l (k - 1)=0
   ·(refine wkvp (w_3 e0 e3 hσ) w_t (w_s ?_);intros)
    exact⟨k - 1,⟨zo,gW e0,by(simp (disch:=omega) only [go_sem,e3];congr 2;omega),rfl,λj hj=>by
     rcases Zy5 j k with h2 | h2
     ·rw [show j=k - 1 by omega];exact h1
     ·exact hz j h2⟩,zo⟩
   ·have f:=fin (.inr zo)
    (refine wkvp (w_3 e0 e3 hσ) w_t (w_s ?_);intros)
    simp (disch:=omega) only [go_sem,←f,ZBi]
 ·exact⟨Zyp _,gC,gC,rfl,λj hj=>Zei hj⟩
theorem Zor (σ:Mem) (a:List Nat) (n:Nat) (ha:a.length≤4000000000000) (la:Lm a) (hn:n≤1048576) (h0:nv a≠0) :
 ACall prog 156 [lim a,.v (.int .i64 (n:Int))] σ λr σ'=>∃sv o,r=.view 44 sv 1 0 (toL (nv a*2 ^ n)).length∧σ'=upd σ 44 (some (.row sv 125 1 (u16s o) 0))∧o.length=(toL (nv a)).length+n/16+1∧Lm o∧nv o=nv a*2 ^ n:=by
 have hns:n=16*(n/16)+n%16:=zo;have q1:(n:Int).tdiv 16=((n/16:Nat):Int):=Ze2 n 16;have q2:(n:Int).tmod 16=((n%16:Nat):Int):=Ze1 n 16;have hs:n%16 < 16:=Zzs _ zo
 have hnv:nv a*2 ^ n=nv a*2 ^ (n%16)*65536 ^ (n/16):=by
  have:=Ztv (a:=nv a) (l:=n/16) (s:=n%16)
  rwa [←hns] at this
 have h1:=Zap la;have h2:=(Zeb h0).1;have va:=Zam (nv a);have ma:=Zan (nv a);have h16:n/16≤65536:=zo;clear hns;generalize hl:n/16=l at *;generalize hss:n%16=s at *;generalize hA:toL (nv a)=A at *;refine Zbg (tok:=0) (rs:=[.tmp 4]) func156 rfl ntmps156 results156 call156 zr zs ?_
 (refine wkvp (w_5 q1 q2 hA @Zax @Zbo) (w_1 (Zay a zo la)) (w_s ?_);intros)
 rw [hA];have e1:((A.length+l:Nat):Int)+3=((A.length+l+3:Nat):Int):=zo
 (refine wkvp (w_4 hA @Zax @Zbo e1) w_t (w_s ?_);intros)
 refine Zab (ι:=Nat) (λk e m=>k≤A.length∧(e 5=.v (.int .i64 (l:Int))∧e 6=.v (.int .i64 (s:Int))∧e 45=lim A∧e 46=.v (.int .i64 A.length)∧e 47=.v (.int .i64 (k:Int)))∧∃sv o,(e 7=.own 44 sv∧m=upd σ 44 (some (.row sv 125 1 (u16s o) 0)))∧o.length=A.length+l+1∧Lm o∧gN o (k+l) < 2 ^ s∧(∀j,k+l < j→gN o j=0)∧nv o=nv (A.take k)*2 ^ s*65536 ^ l) (λk=>A.length - k) 0 zr ?_ ?_
 ·rintro k e m ⟨hk,⟨e5,e6,e45,e46,e47⟩,sv,o,⟨e7,rfl⟩,hol,hLo,hg,hz,hv⟩
  by_cases hlt:k < A.length
  ·have gx:=Zbn ma k
   have p16:(2:Nat) ^ s≤32768:=by
    have:(2:Nat) ^ s≤2 ^ 15:=ZA1 zo zo;omega
   have bx:gN A k*2 ^ s≤65535*32768:=ZDd zo p16;have sh:=shl_32 (x:=gN A k) (s:=s) zo zo;have lo:=low_mul (x:=gN A k) (s:=s) zo;have hlo:(gN A k*2 ^ s)%65536 < 65536:=Zzs _ zo;rw [lo] at hlo;have hor:=or_16 (b:=gN o (k+l)) zo hg hlo;rw [←lo] at hor
   have hhi:gN A k*2 ^ s/65536 < 2 ^ s:=by
    rw [ZBk zo,Zzj];exact Nat.mul_lt_mul_of_pos_left gx (ZCt s)
   have hsum:gN o (k+l)+(gN A k*2 ^ s)%65536 < 65536:=by
    rw [lo];have h5:(gN A k%2 ^ (16 - s)+1)*2 ^ s≤2 ^ (16 - s)*2 ^ s:=Zzf _ (Zzs _ (ZCt _));rw [←ZAp,ZCs zo,Zze,ZAj] at h5;omega
   have hcut:gN A k*2 ^ s/65536%65536=gN A k*2 ^ s/65536:=ZAt zo
   (refine wkvp (w_14 e5 e6 e45 e46 e47 e7 hol @Zax @Zbo @Zbc sh hor hcut @l_set) w_t (w_s ?_);intros)
   refine⟨k+1,⟨zo,gV (And.intro e5 (And.intro e6 (And.intro e45 (And.intro e46 e47)))),sv,_,⟨gW e7,by(simp (disch:=omega) only [go_sem,Zhp]<;>repeat' first|rfl|refine⟨?_,?_⟩)⟩,by simpa using hol,(hLo.set _ hsum).set _ zo,?_,λj hj=>?_,?_⟩,zo⟩
   ·rw [Zfw (by simp;omega),Zyk zo];exact hhi
   ·rw [Zfw (by simp;omega),Zyj zo,Zfw zo,Zyj zo];exact hz j zo
   ·have h3:=Zoo (o:=o) (j:=k+l) zo (gN o (k+l)+(gN A k*2 ^ s)%65536);have h4:=Zoo (o:=o.set (k+l) (gN o (k+l)+(gN A k*2 ^ s)%65536)) (j:=k+l+1) (by simp;omega) (gN A k*2 ^ s/65536);rw [Zfw zo,Zyj zo,hz (k+l+1) zo,ZA0,Zzm] at h4;rw [h4,Zar,Zze,Zze,←hv]
    have h5:65536 ^ (k+l)*(gN A k*2 ^ s%65536)+65536 ^ (k+l+1)*(gN A k*2 ^ s/65536)=65536 ^ k*gN A k*2 ^ s*65536 ^ l:=by
     rw [ZAh,Zz3 (65536 ^ (k+l)),←Zzk,Nat.mod_add_div,ZAp];simp only [Zz3,ZBz,Zzj]
    rw [Zzk] at h3;omega
  ·have hkA:k=A.length:=zo;subst hkA;rw [Zbd (Zyp _),va,←hnv] at hv;have ct:=Zty (upd σ 44 (some (.row sv 125 1 (u16s o) 0))) 44 sv o zo hLo (by simp only [Zal,Zzb]);rw [hv] at ct
   (repeat' (first|(with_reducible first|refine stp ?_|apply gx1|apply gx2|apply gx3|apply gx4|apply gx5|apply gx6|apply gx7|refine Zr4 (ct) ?_)|(with_reducible refine Zcg ?_;intro _)|((with_reducible refine gE ?_);(try simp (disch:=omega) only [go_sem,e5,e6,e45,e46,e47,e7])<;>first|rfl|omega)|with_reducible refine Zai zd ?_))
   simp (disch:=omega) only [go_sem];exact⟨sv,o,rfl,rfl,hol,hLo,hv⟩
 ·refine⟨Zyv _,gC,_,List.replicate (A.length+l+1) 0,⟨gC,gC⟩,by simp,Lm.zeros _,?_,λj _=>Zg6 _ _,by simp [nv,Zm2]⟩;rw [Zg6];exact ZCt s
theorem natShl (a:List Nat) (n:Nat) (ha:a.length≤4000000000000) (la:Lm a) (hn:n≤1048576):Pure prog 156 [lim a,.v (.int .i64 (n:Int))] (lim (toL (nv a*2 ^ n))):=by
 by_cases h0:nv a=0
 ·have h2:=Zbf.2 h0;rw [slN (show toL (nv a*2 ^ n)=[] by rw [h0,Nat.zero_mul,Zau])];refine Pure.wk (r:=.v (.slice none 0 0)) ?_ (.nil 1);refine Zaa (tok:=0) (rs:=[.tmp 4]) func156 rfl ntmps156 results156 call156 zr zs ?_
  (refine wkvp (w_1 h2) (w_1 (Zay a zo la)) (w_s ?_);intros)
  simp (disch:=omega) only [go_sem]
 ·refine Zmu (Zor Zac a n ha la hn h0) λr σ' ⟨sv,o,hr,hσ,hol,hLo,hv⟩=>?_;subst hr;subst hσ;have hlen:=Zap hLo;rw [hv] at hlen;refine⟨by simp (disch:=omega) only [go_sem],?_⟩;simp (disch:=omega) only [go_sem,Zzd];obtain⟨k,h1,h2⟩:=Zmi hLo;rw [hv] at h2;have h3:k=(toL (nv a*2 ^ n)).length:=by rw [←h2,Zy1];omega
  rw [←h3,h2]
theorem natShr (a:List Nat) (n:Nat) (ha:a.length≤4000000000000) (la:Lm a) (h0:0 < n) (hn:n≤1048576):Pure prog 156 [lim a,.v (.int .i64 (-(n:Int)))] (lim (toL (nv a/2 ^ n))):=by
 by_cases hz:nv a=0
 ·have h2:=Zbf.2 hz;rw [slN (show toL (nv a/2 ^ n)=[] by rw [hz,Nat.zero_div,Zau])];refine Pure.wk (r:=.v (.slice none 0 0)) ?_ (.nil 1);refine Zaa (tok:=0) (rs:=[.tmp 4]) func156 rfl ntmps156 results156 call156 zr zs ?_
  (refine wkvp (w_1 h2) (w_1 (Zay a zo la)) (w_s ?_);intros)
  simp (disch:=omega) only [go_sem]
 ·have h2:=(Zeb hz).1;have h1:=Zap la;have hr:=natRight (toL (nv a)) n zo (Zan _) hn;rw [Zam] at hr;have w:(0:Int) - -(n:Int)=(n:Int):=zo;refine Zaa (tok:=0) (rs:=[.tmp 4]) func156 rfl ntmps156 results156 call156 zr zs ?_
  (refine wkvp (w_1 w) (w_2 (Zay a zo la) hr) (w_s ?_);intros)
  simp (disch:=omega) only [go_sem]
theorem Zqk (σ:Mem) (K:Nat) (sv:Value) (pre w post v:List Nat) (d:Nat) (hσ:σ K=some (.row sv 125 1 (u16s (pre++(w++post))) 0)) (hwv:w.length=v.length+1) (hsz:(pre++(w++post)).length≤10000000000000) (lw:Lm w) (lv:Lm v) (hd:d < 65536) :
 ACall prog 205 [.view K sv 1 pre.length w.length,lim v,.v (.int .u32 (d:Int))] σ λr σ'=>∃(w':List Nat) (b:Nat),r=.v (.bool (decide (0 < (b:Int))))∧σ'=upd σ K (some (.row sv 125 1 (u16s (pre++(w'++post))) 0))∧w'.length=w.length∧Lm w'∧b≤1∧nv w'+d*nv v=nv w+65536 ^ w.length*b:=by
 have hsz2:pre.length+(w.length+post.length)≤10000000000000:=by simpa using hsz
 refine Zbg (tok:=0) (rs:=[.tmp 6]) func205 rfl ntmps205 results205 call205 zr zs ?_
 (refine wkvp w_t w_t (w_s ?_);intros)
 refine Zab (ι:=Nat) (λk e m=>k≤w.length∧(e 0=.view K sv 1 pre.length w.length∧e 1=lim v∧e 2=.v (.int .u32 (d:Int))∧e 12=.v (.int .i64 w.length)∧e 13=.v (.int .i64 (k:Int)))∧∃w' c r,(e 7=.v (.int .u32 (c:Nat))∧e 8=.v (.int .i32 (r:Nat))∧m=upd σ K (some (.row sv 125 1 (u16s (pre++(w'++post))) 0)))∧w'.length=w.length∧Lm w'∧c < 65536∧(v.length < k→c=0)∧r≤1∧(∀j,k≤j→gN w' j=gN w j)∧nv (w'.take k)+d*nv (v.take k)=nv (w.take k)+65536 ^ k*(c+r)) (λk=>w.length - k) 0 zr ?_ ?_
 ·rintro k e m ⟨hk,⟨e0,e1,e2,e12,e13⟩,w',c,r,⟨e7,e8,rfl⟩,hwl,hLw,hc,hcz,hr,hsame,hv⟩
  by_cases hlt:k < w.length
  ·have gw:=Zbn lw k;have gv:=Zbn lv k;have hgw:=hsame k (Zyp _);have mid:=gN_mid (pre:=pre) (post:=post) (show k < w'.length by omega);have smid:=λx=>Zva (pre:=pre) (post:=post) (show k < w'.length by omega) x;have hln:(pre++(w'++post)).length=pre.length+(w'.length+post.length):=by simp
   have bd:=Zou hd gv;have step:∀(x r' c1:Nat),c1=c+d*gN v k→x+c1%65536+r=gN w k+65536*r'→x < 65536→r'≤1 →
    (w'.set k x).length=w.length∧Lm (w'.set k x)∧c1/65536 < 65536∧(v.length < k+1→c1/65536=0)∧r'≤1∧(∀j,k+1≤j→gN (w'.set k x) j=gN w j)∧nv ((w'.set k x).take (k+1))+d*nv (v.take (k+1))=nv (w.take (k+1))+65536 ^ (k+1)*(c1/65536+r'):=by
    intro x r' c1 h1 h2 h3 h4;have h5:=Zpr hv h1 h2;refine⟨by simpa using hwl,hLw.set k h3,zo,λh6=>?_,h4,λj hj=>?_,?_⟩
    ·have:gN v k=0:=Zei zo;rw [this,ZA0] at h1;omega
    ·rw [Zfw zo,Zyj zo];exact hsame j zo
    ·rw [Zda zo,Zar,Zar,ZAh];exact h5
   by_cases hkv:k < v.length
   ·generalize hxy:d*gN v k=xy at *;by_cases hneg:gN w k < (c+xy)%65536+r
    ·have hs:=step (gN w k+65536 - (c+xy)%65536 - r) 1 (c+xy) rfl zo zo zo;have wv:(gN w k:Int) - ((c+xy)%65536:Nat) - r+65536=((gN w k+65536 - (c+xy)%65536 - r:Nat):Int):=zo;have wm:(gN w k+65536 - (c+xy)%65536 - r)%65536=gN w k+65536 - (c+xy)%65536 - r:=ZAt zo
     (refine wkvp (w_18 e0 e1 e2 e12 e13 e7 e8 hln hwl mid smid hgw @Zax @Zhw @Zbc hxy wv wm) w_t (w_s ?_);intros)
     exact⟨k+1,⟨zo,gV (And.intro e0 (And.intro e1 (And.intro e2 (And.intro e12 e13)))),_,_,1,⟨gC,gC,by(simp (disch:=omega) only [go_sem,Zhp]<;>repeat' first|rfl|refine⟨?_,?_⟩)⟩,hs⟩,zo⟩
    ·have hs:=step (gN w k - (c+xy)%65536 - r) 0 (c+xy) rfl zo zo zo;have wv:(gN w k:Int) - ((c+xy)%65536:Nat) - r=((gN w k - (c+xy)%65536 - r:Nat):Int):=zo;have wm:(gN w k - (c+xy)%65536 - r)%65536=gN w k - (c+xy)%65536 - r:=ZAt zo
     (refine wkvp (w_18 e0 e1 e2 e12 e13 e7 e8 hln hwl mid smid hgw @Zax @Zhw @Zbc hxy wv wm) w_t (w_s ?_);intros)
     exact⟨k+1,⟨zo,gV (And.intro e0 (And.intro e1 (And.intro e2 (And.intro e12 e13)))),_,_,0,⟨gC,gC,by(simp (disch:=omega) only [go_sem,Zhp]<;>repeat' first|rfl|refine⟨?_,?_⟩)⟩,hs⟩,zo⟩
   ·have g0:gN v k=0:=Zei zo;have hcm:c%65536=c:=ZAt hc;simp only [g0,ZA0,Zzm] at step;by_cases hneg:gN w k < c+r
    ·have hs:=step (gN w k+65536 - c - r) 1 c rfl zo zo zo;have wv:(gN w k:Int) - (c:Nat) - r+65536=((gN w k+65536 - c - r:Nat):Int):=zo;have wm:(gN w k+65536 - c - r)%65536=gN w k+65536 - c - r:=ZAt zo
     (refine wkvp (w_16 e0 e1 e2 e12 e13 e7 e8 hln hwl mid smid hgw @Zbc hcm wv wm) w_t (w_s ?_);intros)
     exact⟨k+1,⟨zo,gV (And.intro e0 (And.intro e1 (And.intro e2 (And.intro e12 e13)))),_,_,1,⟨gC,gC,by(simp (disch:=omega) only [go_sem,Zhp]<;>repeat' first|rfl|refine⟨?_,?_⟩)⟩,hs⟩,zo⟩
    ·have hs:=step (gN w k - c - r) 0 c rfl zo zo zo;have wv:(gN w k:Int) - (c:Nat) - r=((gN w k - c - r:Nat):Int):=zo;have wm:(gN w k - c - r)%65536=gN w k - c - r:=ZAt zo
     (refine wkvp (w_16 e0 e1 e2 e12 e13 e7 e8 hln hwl mid smid hgw @Zbc hcm wv wm) w_t (w_s ?_);intros)
     exact⟨k+1,⟨zo,gV (And.intro e0 (And.intro e1 (And.intro e2 (And.intro e12 e13)))),_,_,0,⟨gC,gC,by(simp (disch:=omega) only [go_sem,Zhp]<;>repeat' first|rfl|refine⟨?_,?_⟩)⟩,hs⟩,zo⟩
  ·have hkw:k=w.length:=zo;subst hkw;have hc0:=hcz zo;subst hc0;rw [Zbd zo,Zbd zo,Zbd (Zyp _),Zzd] at hv
   (refine wkvp (w_7 e0 e1 e2 e12 e13 e7 e8) w_t (w_s ?_);intros)
   simp (disch:=omega) only [go_sem];refine⟨w',r,?_,?_,hwl,hLw,hr,hv⟩<;>rfl
 ·exact⟨Zyv _,gC,w,0,0,⟨gC,gC,by rw [Zrc hσ]⟩,rfl,lw,zo,λ_=>rfl,zo,λ_ _=>rfl,by simp [nv]⟩
theorem Ztz (σ:Mem) (K:Nat) (sv:Value) (pre w post v:List Nat) (hσ:σ K=some (.row sv 125 1 (u16s (pre++(w++post))) 0)) (hwv:v.length≤w.length) (hsz:(pre++(w++post)).length≤10000000000000) (lw:Lm w) (lv:Lm v) :
 ACall prog 206 [.view K sv 1 pre.length w.length,lim v] σ λr σ'=>∃(w':List Nat) (c:Nat),r=.tup []∧σ'=upd σ K (some (.row sv 125 1 (u16s (pre++(w'++post))) 0))∧w'.length=w.length∧Lm w'∧c≤1∧nv w'+65536 ^ w.length*c=nv w+nv v:=by
 have hsz2:pre.length+(w.length+post.length)≤10000000000000:=by simpa using hsz
 refine Zbg (tok:=0) (rs:=[]) func206 rfl ntmps206 results206 call206 zr zs ?_
 (refine wkvp w_t w_t (w_s ?_);intros)
 refine Zab (ι:=Nat) (λk e m=>k≤w.length∧(e 0=.view K sv 1 pre.length w.length∧e 1=lim v∧e 7=.v (.int .i64 w.length)∧e 8=.v (.int .i64 (k:Int)))∧∃w' c,(e 4=.v (.int .u32 (c:Nat))∧m=upd σ K (some (.row sv 125 1 (u16s (pre++(w'++post))) 0)))∧w'.length=w.length∧Lm w'∧c≤1∧(∀j,k≤j→gN w' j=gN w j)∧nv (w'.take k)+65536 ^ k*c=nv (w.take k)+nv (v.take k)) (λk=>w.length - k) 0 zr ?_ ?_
 ·rintro k e m ⟨hk,⟨e0,e1,e7,e8⟩,w',c,⟨e4,rfl⟩,hwl,hLw,hc,hsame,hv⟩
  by_cases hlt:k < w.length
  ·have gw:=Zbn lw k;have gv:=Zbn lv k;have hgw:=hsame k (Zyp _);have mid:=gN_mid (pre:=pre) (post:=post) (show k < w'.length by omega);have smid:=λx=>Zva (pre:=pre) (post:=post) (show k < w'.length by omega) x;have hln:(pre++(w'++post)).length=pre.length+(w'.length+post.length):=by simp
   have hs:=Zno (x:=gN w k) (y:=gN v k) hv;have w1:(c+gN w k+gN v k)/65536≤1:=zo;have w2:(c+gN w k+gN v k)%65536 < 65536:=zo;have hsm:∀x j,k+1≤j→gN (w'.set k x) j=gN w j:=λx j hj=>by
    rw [Zfw zo,Zyj zo];exact hsame j zo
   rw [←Zda (o:=w') zo,←ZAh,←Zar,←Zar] at hs;by_cases hkv:k < v.length
   ·(refine wkvp (w_12 e0 e1 e7 e8 e4 hln hwl mid smid hgw @Zax @Zbc) w_t (w_s ?_);intros)
    exact⟨k+1,⟨zo,gV (And.intro e0 (And.intro e1 (And.intro e7 e8))),_,_,⟨gC,by(simp (disch:=omega) only [go_sem,Zhp]<;>repeat' first|rfl|refine⟨?_,?_⟩)⟩,by simpa using hwl,hLw.set k w2,w1,hsm _,hs⟩,zo⟩
   ·have g0:gN v k=0:=Zei zo;simp only [g0,Zzm] at hs w1 w2
    (refine wkvp (w_12 e0 e1 e7 e8 e4 hln hwl mid smid hgw @Zax @Zbc) w_t (w_s ?_);intros)
    exact⟨k+1,⟨zo,gV (And.intro e0 (And.intro e1 (And.intro e7 e8))),_,_,⟨gC,by(simp (disch:=omega) only [go_sem,Zhp]<;>repeat' first|rfl|refine⟨?_,?_⟩)⟩,by simpa using hwl,hLw.set k w2,w1,hsm _,hs⟩,zo⟩
  ·have hkw:k=w.length:=zo;subst hkw;rw [Zbd zo,Zbd (Zyp _),Zbd hwv] at hv
   (refine wkvp (w_5 e0 e1 e7 e8 e4) w_t (w_s ?_);intros)
   simp (disch:=omega) only [go_sem];refine⟨w',c,?_,hwl,hLw,hc,hv⟩<;>rfl
 ·exact⟨Zyv _,gC,w,0,⟨gC,by rw [Zrc hσ]⟩,rfl,lw,zo,λ_ _=>rfl,by simp [nv]⟩
theorem Zqj (σ:Mem) (sv:Value) (g2 g3 g5 g7 g9 g10:Nat) (U post v:List Nat) (d r j:Nat) (h2:σ 2=some (.box g2 24 [.view 44 sv 1 0 U.length] false)) (h3:σ 3=some (.box g3 24 [lim v] false)) (h5:σ 5=some (.box g5 3 [.v (.int .i64 v.length)] false))
 (h7:σ 7=some (.box g7 3 [.v (.int .i64 (j:Int))] false)) (h9:σ 9=some (.box g9 94 [.v (.int .u64 (d:Int))] false)) (h10:σ 10=some (.box g10 94 [.v (.int .u64 (r:Int))] false)) (h44:σ 44=some (.row sv 125 1 (u16s (U++post)) 0))
 (hn:2≤v.length) (hj:j+v.length < U.length) (hsz:U.length+post.length≤10000000000000) (lv:Lm v) (lU:Lm U) (hr:r < 65536) :
 ACall prog 204 [.pbox 9 g9 0,.pbox 3 g3 0,.pbox 5 g5 0,.pbox 10 g10 0,.pbox 2 g2 0,.pbox 7 g7 0] σ λx σ'=>x=.v (.bool (decide (65536≤d) || decide (r*65536+gN U (j+v.length - 2) < d*gN v (v.length - 2))))∧σ'=σ:=by
 refine Zbg (tok:=0) (rs:=[.tmp 6]) func204 rfl ntmps204 results204 call204 zr zs ?_;by_cases hd:65536≤d
 ·(refine wkad (w_7 h2 h3 h5 h7 h9 h10 h44) w_t w_t (w_s ?_);intros)
  simp (disch:=omega) only [go_sem,Zyo hd]
 ·have gv:=Zbn lv (v.length - 2);have gu:=Zbn lU (j+v.length - 2);have bd:=Zou (x:=d) zo gv;have e1:(v.length:Int) - 2=((v.length - 2:Nat):Int):=zo;have e2:((j+v.length:Nat):Int) - 2=((j+v.length - 2:Nat):Int):=zo;have hg:gN (U++post) (j+v.length - 2)=gN U (j+v.length - 2):=Zq1 zo;have hl:(U++post).length=U.length+post.length:=Zza;generalize hxy:d*gN v (v.length - 2)=xy at *;by_cases ht:r*65536+gN U (j+v.length - 2) < xy
  ·(refine wkad (w_15 h2 h3 h5 h7 h9 h10 h44 e1 e2 hg hl @Zax @Zhw hxy @Zzd) w_t w_t (w_s ?_);intros)
   simp (disch:=omega) only [go_sem,Zyo ht]
  ·(refine wkad (w_15 h2 h3 h5 h7 h9 h10 h44 e1 e2 hg hl @Zax @Zhw hxy @Zzd) w_t w_t (w_s ?_);intros)
   simp (disch:=omega) only [go_sem,Zyl hd,Zyl ht]
attribute [go_sem] szQ zQ
theorem Zm1 {P:Program} {t d f:Nat} {args:List AV} {K:St→Prop} {e:Nat→AV} {m:Mem} {R:AV→Mem→Prop} (c:ACall P f args m R) (h:∀r σ',R r σ'→K ⟨upd e d r,σ'⟩):aRes P t (some d) (.call f args) K ⟨e,m⟩:=c.mono h
theorem Zoq {σ:Mem} {K:Nat} {sv:Value} {pre w post v:List Nat} {d i len:Nat} (hi:pre.length=i) (hw:w.length=len) (hσ:σ K=some (.row sv 125 1 (u16s (pre++(w++post))) 0)) (hwv:len=v.length+1) (hsz:(pre++(w++post)).length≤10000000000000) (lw:Lm w) (lv:Lm v) (hd:d < 65536) :
 ACall prog 205 [.view K sv 1 i len,lim v,.v (.int .u32 (d:Int))] σ λr σ'=>∃(w':List Nat) (b:Nat),r=.v (.bool (decide (0 < (b:Int))))∧σ'=upd σ K (some (.row sv 125 1 (u16s (pre++(w'++post))) 0))∧w'.length=len∧Lm w'∧b≤1∧nv w'+d*nv v=nv w+65536 ^ len*b:=by
 subst hi;subst hw;exact Zqk σ K sv pre w post v d hσ hwv hsz lw lv hd
theorem Zql {σ:Mem} {K:Nat} {sv:Value} {pre w post v:List Nat} {i len:Nat} (hi:pre.length=i) (hw:w.length=len) (hσ:σ K=some (.row sv 125 1 (u16s (pre++(w++post))) 0)) (hwv:v.length≤len) (hsz:(pre++(w++post)).length≤10000000000000) (lw:Lm w) (lv:Lm v) :
 ACall prog 206 [.view K sv 1 i len,lim v] σ λr σ'=>∃(w':List Nat) (c:Nat),r=.tup []∧σ'=upd σ K (some (.row sv 125 1 (u16s (pre++(w'++post))) 0))∧w'.length=len∧Lm w'∧c≤1∧nv w'+65536 ^ len*c=nv w+nv v:=by
 subst hi;subst hw;exact Ztz σ K sv pre w post v hσ hwv hsz lw lv
structure LongInv (U v q U':List Nat) (k:Nat):Prop where
 ql:q.length=U.length - v.length
 qL:Lm q
 qz:∀j,j < k→gN q j=0
 ul:U'.length=U.length
 uL:Lm U'
 eq:nv U'+nv v*nv (q.drop k)*65536 ^ k=nv U
 lt:nv (U'.drop k) < nv v
theorem LongInv.step {U v q U' w'':List Nat} {j n:Nat} (h:LongInv U v q U' (j+1)) (hn:v.length=n) (lv:Lm v) (hj:j+n < U.length) (hw:w''.length=n+1) (hwL:Lm w'')
 (hwv:nv w''=nv ((U'.drop j).take (n+1))%nv v) (hd:nv ((U'.drop j).take (n+1))/nv v < 65536) :
 LongInv U v (q.set j (nv ((U'.drop j).take (n+1))/nv v)) (U'.take j++(w''++U'.drop (j+n+1))) j:=by
 have hV:0 < nv v:=ZC1 (Zyv _) h.lt;have hz:=drop_zero lv hn h.lt;rw [ZBu,show j+1+n=j+n+1 by omega] at hz;have hql:=h.ql;have hul:=h.ul;have hlj:(U'.take j).length=j:=by rw [Zy1];omega
 have hj1:nv (U'.drop j)=nv ((U'.drop j).take (n+1)):=by
  have:=Zbt (U'.drop j) (n+1);rw [ZBu,show j+(n+1)=j+n+1 by omega,hz] at this;omega
 have hw2:nv (w''++U'.drop (j+n+1))=nv w'':=by rw [Zdp,hz];omega
 have hdr:nv ((U'.take j++(w''++U'.drop (j+n+1))).drop j)=nv w'':=by
  rw [List.drop_append_of_le_length zo,Zz6 zo,ZB2,hw2]
 refine⟨by simpa using hql,h.qL.set j hd,λi hi=>?_,by simp;omega,(h.uL.take j).append (hwL.append (h.uL.drop _)),?_,by rw [hdr,hwv];exact Zzs _ hV⟩
 ·rw [Zfw zo,Zyj zo];exact h.qz i zo
 ·have h1:=h.eq;have h2:=Zbt U' j;have h3:=ZAy (nv ((U'.drop j).take (n+1))) (nv v);rw [Zdp,hlj,hw2,hwv,Zbx (q.set j _),Zfw zo,Zyk rfl,List.drop_set_of_lt zo];rw [←h1,h2,hj1,Zzk,Zze,ZAh];generalize nv ((U'.drop j).take (n+1))=W at *;generalize nv (q.drop (j+1))=Q at *
  have e1:nv v*(W/nv v)*65536 ^ j+65536 ^ j*(W%nv v)=65536 ^ j*W:=by
   rw [Zzj (nv v*(W/nv v)),←Zzk,h3]
  have e2:nv v*(65536*Q)*65536 ^ j=nv v*Q*(65536 ^ j*65536):=by
   simp only [Zz3,ZBz,Zzj]
  omega
theorem natLong (σ:Mem) (sv:Value) (U post v:List Nat) (n:Nat) (hvn:v.length=n) (h44:σ 44=some (.row sv 125 1 (u16s (U++post)) 0)) (hn:2≤n) (hlen:n < U.length) (hsz:U.length+post.length≤10000000000000) (lU:Lm U) (lp:Lm post) (lv:Lm v)
 (hvt:0 < gN v (n - 1)) (hlt:nv (U.drop (U.length - n)) < nv v) :
 ACall prog 157 [.view 44 sv 1 0 U.length,lim v] σ λr σ'=>∃U':List Nat,r=lim (toL (nv U/nv v))∧σ' 44=some (.row sv 125 1 (u16s (U'++post)) 0)∧U'.length=U.length∧Lm U'∧nv U'=nv U%nv v:=by
 have hc:(U.length:Int) - (n:Int)=((U.length - n:Nat):Int):=zo;refine Zbg (tok:=0) (rs:=[.tmp 4]) func157 rfl ntmps157 results157 call157 zr zs ?_
 (refine wkvp (w_2 hvn hc) w_t (w_s ?_);intros)
 refine Zab (ι:=Nat) (λk e m=>k≤U.length - n∧∃g2 g3 g5 g7 svo q U',(e 2=.pbox 2 g2 0∧e 3=.pbox 3 g3 0∧e 5=.pbox 5 g5 0∧e 6=.own 18 svo∧e 7=.pbox 7 g7 0)∧m 2=some (.box g2 24 [.view 44 sv 1 0 U.length] false)∧m 3=some (.box g3 24 [lim v] false)∧m 5=some (.box g5 3 [.v (.int .i64 n)] false)∧m 7=some (.box g7 3 [.v (.int .i64 ((k:Int) - 1))] false) ∧
  m 18=some (.row svo 125 1 (u16s q) 0)∧m 44=some (.row sv 125 1 (u16s (U'++post)) 0)∧LongInv U v q U' k) (λk=>k) (U.length - n) zr ?_ ?_
 ·rintro k e m ⟨hk,g2,g3,g5,g7,svo,q,U',⟨e2,e3,e5,e6,e7⟩,m2,m3,m5,m7,m18,m44,inv⟩
  have hql:=inv.ql;rw [hvn] at hql;have hul:=inv.ul;rcases Zz0 k with h0 | h0
  ·subst h0;have h1:=inv.eq;have h2:=inv.lt;rw [ZAg] at h1 h2;rw [Nat.pow_zero,ZBt] at h1;have hq:nv U/nv v=nv q:=by rw [←h1,ZBh,Nat.mul_add_div zo,ZC2 h2,Zzm]
   have hr:nv U'=nv U%nv v:=by rw [←h1,ZBh,Nat.mul_add_mod,ZAt h2]
   (repeat' (first|(with_reducible first|refine stp ?_|apply gx1|apply gx2|apply gx3|apply gx4|apply gx5|apply gx6|apply gx7|apply gw1 (Zay q zo inv.qL))|(with_reducible refine Zcg ?_;intro _)|((with_reducible refine gE ?_);(try simp (disch:=omega) only [go_sem,e2,e3,e5,e6,e7,m2,m3,m5,m7,m18,m44])<;>first|rfl|omega)|with_reducible refine Zai zd ?_))
   simp (disch:=omega) only [go_sem,hq];refine⟨U',?_,hul,inv.uL,hr⟩;simp (disch:=omega) only [go_sem,m44]
  ·obtain⟨j,rfl⟩:∃j,k=j+1:=⟨k - 1,zo⟩;have ej:((j+1:Nat):Int) - 1=(j:Int):=zo;rw [ej] at m7;have g0:=Zbn inv.uL (j+n);have g1:=Zbn inv.uL (j+n - 1);have g2':=Zbn inv.uL (j+n - 2);have gv1:=Zbn lv (n - 1);have gv2:=Zbn lv (n - 2);have hl:(U'++post).length=U'.length+post.length:=Zza;have x0:gN (U'++post) (j+n)=gN U' (j+n):=Zq1 zo;have x1:gN (U'++post) (j+n - 1)=gN U' (j+n - 1):=Zq1 zo;have ex1:((j+n:Nat):Int) - 1=((j+n - 1:Nat):Int):=zo;have ex2:(n:Int) - 1=((n - 1:Nat):Int):=zo;have hwl:((U'.drop j).take (n+1)).length=n+1:=by rw [Zy1,ZA5];omega
   have hwL:Lm ((U'.drop j).take (n+1)):=(inv.uL.drop j).take _;have wg:∀i,i≤n→gN ((U'.drop j).take (n+1)) i=gN U' (j+i):=λi hi=>by rw [gN_take zo,Zxm]
   have hW:=nv_top3 hwl hn;rw [wg n (Zyp _),wg (n - 1) zo,wg (n - 2) zo,show j+(n - 1)=j+n - 1 by omega,show j+(n - 2)=j+n - 2 by omega] at hW;have hwl2:=Zg3 hwL (n - 2);have hVt:=nv_top2 hvn hn;have hvl2:=Zg3 lv (n - 2);have hV:0 < nv v:=ZC1 (Zyv _) inv.lt
   have htop:gN U' (j+n)≤gN v (n - 1):=by
    have:=top_le (inv.uL.drop (j+1)) lv hvn hn inv.lt
    rwa [Zxm,show j+1+(n - 1)=j+n by omega] at this
   have hWV:nv ((U'.drop j).take (n+1))/nv v < 65536:=by
    rw [ZBk hV];have h1:=Zbt (U'.drop j) (n+1);have h2:=Zbx U' j;have h3:=inv.lt;have h4:=Zbn inv.uL j;omega
   obtain⟨high,hhigh⟩:∃h,gN U' (j+n)*65536+gN U' (j+n - 1)=h:=⟨_,rfl⟩;rw [hhigh] at hW;have hinit:=kn_init (Nat.pow_pos zo) hVt hW hwl2 g2' hvt (Nat.div_mul_le_self (nv ((U'.drop j).take (n+1))) (nv v));have hhd:=ZAy high (gN v (n - 1));have hhr:=Zzs high hvt;have hhq:=ZCu high (gN v (n - 1));rw [Zzj] at hhd;have hv1i:(gN v (n - 1):Int)≠0:=zo
   have hq1:(high:Int)/(gN v (n - 1):Int)≤4294967296:=by
    have:((high/gN v (n - 1):Nat):Int)≤4294967296:=zo;exact this
   have wq:IntKind.u64.wrap ((high/gN v (n - 1):Nat):Int)=((high/gN v (n - 1):Nat):Int):=Zf2 (ZBy _) zo
   (repeat' (first|(with_reducible first|refine stp ?_|apply gx1|apply gx2|apply gx3|apply gx4|apply gx5|apply gx6|apply gx7|apply gy8|apply gz2|apply gz3)|(with_reducible refine Zcg ?_;intro _)|((with_reducible refine gE ?_);(try simp (disch:=omega) only [go_sem,e2,e3,e5,e6,e7,m2,m3,m5,m7,m18,m44,hl,hul,hvn,x0,x1,ex1,ex2,hhigh,hv1i,Zax,Ze2,Ze1,Zzd,wq])<;>first|rfl|omega)|with_reducible refine Zai zd ?_|((with_reducible apply gy1);iterate 3 focus rfl)|((with_reducible apply gy2);iterate 3 focus rfl)|((with_reducible apply gy3);iterate 2 focus rfl)|((with_reducible apply gy4);iterate 1 focus rfl)|((with_reducible apply gy5);iterate 4 focus rfl)|((with_reducible apply gy5c);iterate 4 focus rfl)|((with_reducible apply gy6);iterate 4 focus rfl)|((with_reducible apply Zfy);iterate 3 focus rfl)|((with_reducible apply Zfr);iterate 1 focus rfl)|((with_reducible apply gy7);iterate 1 focus rfl)|((with_reducible apply gy9);(focus ((with_reducible refine gE ?_);(try simp (disch:=omega) only [go_sem,e2,e3,e5,e6,e7,m2,m3,m5,m7,m18,m44,hl,hul,hvn,x0,x1,ex1,ex2,hhigh,hv1i,Zax,Ze2,Ze1,Zzd,wq])<;>rfl)))|((with_reducible apply gz1);(focus first|rfl|(simp (disch:=omega) only [go_sem,e2,e3,e5,e6,e7,m2,m3,m5,m7,m18,m44,hl,hul,hvn,x0,x1,ex1,ex2,hhigh,hv1i,Zax,Ze2,Ze1,Zzd,wq];done)))|((with_reducible apply Zas (Zbr []) [] [9,10]);(focus kernel_rfl);(focus rfl);(focus kernel_rfl);(focus (simp only [Zyx,Zy0,Nat.reduceAdd];rfl)))))
   rename_i g9 g10;have hlj:(U'.take j).length=j:=by rw [Zy1];omega
   have hsplit:U'++post=U'.take j++((U'.drop j).take (n+1)++(U'.drop (j+n+1)++post)):=by
    have e1:U'=U'.take j++((U'.drop j).take (n+1)++U'.drop (j+n+1)):=by
     rw [show j+n+1=j+(n+1) by omega,←ZBu,ZAw,ZAw]
    rw [←Zzt ((U'.drop j).take (n+1)),←Zzt,←e1]
   have esub:j+n+1 - j=n+1:=zo;obtain⟨W,hWd⟩:∃W,nv ((U'.drop j).take (n+1))=W:=⟨_,rfl⟩;have hstep:=fun(w'':List Nat) hw hwL2 hwv=>inv.step (w'':=w'') hvn lv zo hw hwL2 hwv hWV;rw [hWd] at hinit hWV hW hstep
   have hzz:∀d r,high=d*gN v (n - 1)+r→65536≤r→d < 65536∧d*gN v (n - 2)≤r*65536+gN U' (j+n - 2):=by
    intro d r h1 h2
    have hd:d < 65536:=by
     rcases Zy5 d 65536 with h3 | h3
     ·exact h3
     ·exfalso;have h4:65536*gN v (n - 1)≤d*gN v (n - 1):=Zzf _ h3;omega
    have:=Zou hd gv2;omega
   refine Zab (ι:=Nat) (λd e' m'=>(e' 2=.pbox 2 g2 0∧e' 3=.pbox 3 g3 0∧e' 5=.pbox 5 g5 0∧e' 6=.own 18 svo∧e' 7=.pbox 7 g7 0∧e' 9=.pbox 9 g9 0∧e' 10=.pbox 10 g10 0∧e' 11=.fn 204 [.pbox 9 g9 0,.pbox 3 g3 0,.pbox 5 g5 0,.pbox 10 g10 0,.pbox 2 g2 0,.pbox 7 g7 0]) ∧
    m' 2=some (.box g2 24 [.view 44 sv 1 0 U.length] false)∧m' 3=some (.box g3 24 [lim v] false)∧m' 5=some (.box g5 3 [.v (.int .i64 n)] false)∧m' 7=some (.box g7 3 [.v (.int .i64 (j:Int))] false)∧m' 18=some (.row svo 125 1 (u16s q) 0)∧m' 44=some (.row sv 125 1 (u16s (U'++post)) 0) ∧
    m' 9=some (.box g9 94 [.v (.int .u64 (d:Int))] false)∧∃r:Nat,m' 10=some (.box g10 94 [.v (.int .u64 (r:Int))] false)∧high=d*gN v (n - 1)+r∧W/nv v≤d∧d≤high∧r < 131072) (λd=>d) (high/gN v (n - 1)) zr ?_ ?_
   ·rintro d e m ⟨⟨e2,e3,e5,e6,e7,e9,e10,e11⟩,m2,m3,m5,m7,m18,m44,m9,r,m10,hhi,hqd,hdh,hr2⟩
    have ct:=λhr=>Zqj m sv g2 g3 g5 g7 g9 g10 U' post v d r j (by rw [hul];exact m2) m3 (by rw [hvn];exact m5) m7 m9 m10 m44 zo zo zo lv inv.uL hr;rw [hvn] at ct;by_cases hgo:r < 65536∧(65536≤d∨r*65536+gN U' (j+n - 2) < d*gN v (n - 2))
    ·obtain⟨hr,ht⟩:=hgo;have hb:(decide (65536≤d) || decide (r*65536+gN U' (j+n - 2) < d*gN v (n - 2)))=true:=by simpa using ht
     have hd1:1≤d:=by
      rcases Zz0 d with h | h
      ·subst h;omega
      ·exact h
     have ed:(d:Int) - 1=((d - 1:Nat):Int):=zo
     have hq2:W/nv v≤d - 1:=by
      rcases ht with h | h
      ·omega
      ·have h1:=kn_step hVt hW hwl2 hhi h;rw [←ZBk hV] at h1;omega
     have hh2:high=(d - 1)*gN v (n - 1)+(r+gN v (n - 1)):=by
      obtain⟨d',rfl⟩:∃d',d=d'+1:=⟨d - 1,zo⟩;rw [ZCr,hhi,Zze,ZAj];omega
     (repeat' (first|(with_reducible first|refine stp ?_|apply gx1|apply gx2|apply gx3|apply gx4|apply gx5|apply gx6|apply gx7|apply gy8|apply gz2|apply gz3|refine Zr4 (ct hr) ?_)|(with_reducible refine Zcg ?_;intro _)|((with_reducible refine gE ?_);(try simp (disch:=omega) only [go_sem,e2,e3,e5,e6,e7,e9,e10,e11,m2,m3,m5,m7,m18,m44,m9,m10,hb,ed,ex2,hvn,Zax])<;>first|rfl|omega)|with_reducible refine Zai zd ?_|((with_reducible apply gy1);iterate 3 focus rfl)|((with_reducible apply gy2);iterate 3 focus rfl)|((with_reducible apply gy3);iterate 2 focus rfl)|((with_reducible apply gy4);iterate 1 focus rfl)|((with_reducible apply gy5);iterate 4 focus rfl)|((with_reducible apply gy5c);iterate 4 focus rfl)|((with_reducible apply gy6);iterate 4 focus rfl)|((with_reducible apply Zfy);iterate 3 focus rfl)|((with_reducible apply Zfr);iterate 1 focus rfl)|((with_reducible apply gy7);iterate 1 focus rfl)|((with_reducible apply gy9);(focus ((with_reducible refine gE ?_);(try simp (disch:=omega) only [go_sem,e2,e3,e5,e6,e7,e9,e10,e11,m2,m3,m5,m7,m18,m44,m9,m10,hb,ed,ex2,hvn,Zax])<;>rfl)))|((with_reducible apply gz1);(focus first|rfl|(simp (disch:=omega) only [go_sem,e2,e3,e5,e6,e7,e9,e10,e11,m2,m3,m5,m7,m18,m44,m9,m10,hb,ed,ex2,hvn,Zax];done)))|((with_reducible apply Zas (Zbr []) [8] []);(focus kernel_rfl);(focus rfl);(focus kernel_rfl);(focus (simp only [Zyx,Zy0,Nat.reduceAdd];rfl)))))
     exact⟨d - 1,⟨⟨gW e2,gW e3,gW e5,gW e6,gW e7,gW e9,gW e10,gW e11⟩,gW m2,gW m3,gW m5,gW m7,gW m18,gW m44,gC,_,gC,hh2,hq2,zo,zo⟩,zo⟩
    ·obtain⟨hd,hdv⟩:d < 65536∧d*gN v (n - 2)≤r*65536+gN U' (j+n - 2):=by
      rcases Zy5 r 65536 with h | h
      ·have h2:¬(65536≤d∨r*65536+gN U' (j+n - 2) < d*gN v (n - 2)):=λh2=>hgo ⟨h,h2⟩;omega
      ·exact hzz d r hhi h
     have hb:(decide (65536≤d) || decide (r*65536+gN U' (j+n - 2) < d*gN v (n - 2)))=false:=by
      rw [ZBw,ZBe,ZBe];omega
     have hnear:=kn_near hV hqd (kn_exit hVt hvl2 hW hhi hvt hd hdv);have csub:=Zoq (K:=44) (sv:=sv) (σ:=m) (post:=U'.drop (j+n+1)++post) (v:=v) (d:=d) hlj hwl (by rw [←hsplit];exact m44) zo (by rw [←hsplit];omega) hwL lv hd;rcases Zy5 r 65536 with hr | hr
     all_goals
      (repeat' (first|(with_reducible first|refine stp ?_|apply gx1|apply gx2|apply gx3|apply gx4|apply gx5|apply gx6|apply gx7|apply gy8|apply gz2|apply gz3|refine Zr4 (ct hr) ?_)|(with_reducible refine Zcg ?_;intro _)|((with_reducible refine gE ?_);(try simp (disch:=omega) only [go_sem,e2,e3,e5,e6,e7,e9,e10,e11,m2,m3,m5,m7,m18,m44,m9,m10,hb,ex2,hvn,Zax,Zbo,esub,Zzd])<;>first|rfl|omega)|with_reducible refine Zai zd ?_|((with_reducible apply gy1);iterate 3 focus rfl)|((with_reducible apply gy2);iterate 3 focus rfl)|((with_reducible apply gy3);iterate 2 focus rfl)|((with_reducible apply gy4);iterate 1 focus rfl)|((with_reducible apply gy5);iterate 4 focus rfl)|((with_reducible apply gy5c);iterate 4 focus rfl)|((with_reducible apply gy6);iterate 4 focus rfl)|((with_reducible apply Zfy);iterate 3 focus rfl)|((with_reducible apply Zfr);iterate 1 focus rfl)|((with_reducible apply gy7);iterate 1 focus rfl)|((with_reducible apply gy9);(focus ((with_reducible refine gE ?_);(try simp (disch:=omega) only [go_sem,e2,e3,e5,e6,e7,e9,e10,e11,m2,m3,m5,m7,m18,m44,m9,m10,hb,ex2,hvn,Zax,Zbo,esub,Zzd])<;>rfl)))|((with_reducible apply gz1);(focus first|rfl|(simp (disch:=omega) only [go_sem,e2,e3,e5,e6,e7,e9,e10,e11,m2,m3,m5,m7,m18,m44,m9,m10,hb,ex2,hvn,Zax,Zbo,esub,Zzd];done)))|((with_reducible apply Zas (Zbr []) [10] []);(focus kernel_rfl);(focus rfl);(focus kernel_rfl);(focus (simp only [Zyx,Zy0,Nat.reduceAdd];rfl)))))
      refine Zm1 csub ?_
      rintro _ _ ⟨w',b,rfl,rfl,hwl',hwL',hb1,heq⟩
      rw [hWd] at heq;have hw'p:nv w' < 65536 ^ (n+1):=by have:=Zhd hwL';rwa [hwl'] at this
      have hcase:=subDone hV hw'p hb1 heq hnear;have ej2:(j:Int) - 1=(j:Int) - 1:=rfl;rcases hcase with⟨rfl,hdq,hwm⟩ | ⟨rfl,hdq⟩
      ·have inv':=hstep w' hwl' hwL' hwm;rw [←hdq] at inv';have hdm:d%65536=d:=ZAt hd
       (repeat' (first|(with_reducible first|refine stp ?_|apply gx1|apply gx2|apply gx3|apply gx4|apply gx5|apply gx6|apply gx7|apply gy8|apply gz2|apply gz3)|(with_reducible refine Zcg ?_;intro _)|((with_reducible refine gE ?_);(try simp (disch:=omega) only [go_sem,e2,e3,e5,e6,e7,e9,e10,e11,m2,m3,m5,m7,m18,m44,m9,m10,hql,Zbc,hdm,ZA7,Int.lt_irrefl])<;>first|rfl|omega)|with_reducible refine Zai zd ?_|((with_reducible apply gy1);iterate 3 focus rfl)|((with_reducible apply gy2);iterate 3 focus rfl)|((with_reducible apply gy3);iterate 2 focus rfl)|((with_reducible apply gy4);iterate 1 focus rfl)|((with_reducible apply gy5);iterate 4 focus rfl)|((with_reducible apply gy5c);iterate 4 focus rfl)|((with_reducible apply gy6);iterate 4 focus rfl)|((with_reducible apply Zfy);iterate 3 focus rfl)|((with_reducible apply Zfr);iterate 1 focus rfl)|((with_reducible apply gy7);iterate 1 focus rfl)|((with_reducible apply gy9);(focus ((with_reducible refine gE ?_);(try simp (disch:=omega) only [go_sem,e2,e3,e5,e6,e7,e9,e10,e11,m2,m3,m5,m7,m18,m44,m9,m10,hql,Zbc,hdm,ZA7,Int.lt_irrefl])<;>rfl)))|((with_reducible apply gz1);(focus first|rfl|(simp (disch:=omega) only [go_sem,e2,e3,e5,e6,e7,e9,e10,e11,m2,m3,m5,m7,m18,m44,m9,m10,hql,Zbc,hdm,ZA7,Int.lt_irrefl];done)))|((with_reducible apply Zas (Zbr []) [10] []);(focus kernel_rfl);(focus rfl);(focus kernel_rfl);(focus (simp only [Zyx,Zy0,Nat.reduceAdd];rfl)))))
       exact⟨j,⟨zo,g2,g3,g5,_,svo,q.set j d,U'.take j++(w'++U'.drop (j+n+1)),⟨gW e2,gW e3,gW e5,gW e6,gC⟩,gW m2,gW m3,gW m5,gC,gC,by(simp (disch:=omega) only [go_sem,Zzt]<;>repeat' first|rfl|refine⟨?_,?_⟩),inv'⟩,zo⟩
      ·have crest:=fun(σ:Mem) h=>Zql (σ:=σ) (K:=44) (sv:=sv) (post:=U'.drop (j+n+1)++post) (v:=v) hlj hwl' h zo (by rw [hsplit] at hl;simp only [Zza] at hl ⊢;omega) hwL' lv;have hd1:1≤d:=by rw [hdq];exact Nat.le_add_left 1 _
       have ed:(d:Int) - 1=((d - 1:Nat):Int):=zo;have one:(0:Int) < ((1:Nat):Int):=zo
       (repeat' (first|(with_reducible first|refine stp ?_|apply gx1|apply gx2|apply gx3|apply gx4|apply gx5|apply gx6|apply gx7|apply gy8|apply gz2|apply gz3)|(with_reducible refine Zcg ?_;intro _)|((with_reducible refine gE ?_);(try simp (disch:=omega) only [go_sem,e2,e3,e5,e6,e7,e9,e10,e11,m2,m3,m5,m7,m18,m44,m9,m10,ed,one,Zax,Zbo,esub,Zzd])<;>first|rfl|omega)|with_reducible refine Zai zd ?_|((with_reducible apply gy1);iterate 3 focus rfl)|((with_reducible apply gy2);iterate 3 focus rfl)|((with_reducible apply gy3);iterate 2 focus rfl)|((with_reducible apply gy4);iterate 1 focus rfl)|((with_reducible apply gy5);iterate 4 focus rfl)|((with_reducible apply gy5c);iterate 4 focus rfl)|((with_reducible apply gy6);iterate 4 focus rfl)|((with_reducible apply Zfy);iterate 3 focus rfl)|((with_reducible apply Zfr);iterate 1 focus rfl)|((with_reducible apply gy7);iterate 1 focus rfl)|((with_reducible apply gy9);(focus ((with_reducible refine gE ?_);(try simp (disch:=omega) only [go_sem,e2,e3,e5,e6,e7,e9,e10,e11,m2,m3,m5,m7,m18,m44,m9,m10,ed,one,Zax,Zbo,esub,Zzd])<;>rfl)))|((with_reducible apply gz1);(focus first|rfl|(simp (disch:=omega) only [go_sem,e2,e3,e5,e6,e7,e9,e10,e11,m2,m3,m5,m7,m18,m44,m9,m10,ed,one,Zax,Zbo,esub,Zzd];done)))|((with_reducible apply Zas (Zbr []) [8] []);(focus kernel_rfl);(focus rfl);(focus kernel_rfl);(focus (simp only [Zyx,Zy0,Nat.reduceAdd];rfl)))))
       refine Zm1 (crest _ (gC)) ?_
       rintro _ _ ⟨w'',c,rfl,rfl,hwl'',hwL'',hc1,heq2⟩
       have hw''p:nv w'' < 65536 ^ (n+1):=by have:=Zhd hwL'';rwa [hwl''] at this
       have hVp:nv v≤65536 ^ (n+1):=by
        have h1:=Zhd lv;rw [hvn] at h1;have h2:65536 ^ n≤65536 ^ (n+1):=ZA1 zo zo;omega
       have hwm:=resDone hV hVp hw''p hc1 (by rw [←hdq];exact heq) heq2;have inv':=hstep w'' hwl'' hwL'' hwm;have hdq2:d - 1=W/nv v:=by rw [hdq,ZCr]
       rw [←hdq2] at inv';have hdm:(d - 1)%65536=d - 1:=ZAt zo
       (refine wkad (w_19 e2 e3 e5 e6 e7 e9 e10 e11 m2 m3 m5 m7 m18 m44 m9 m10 hql @Zbc hdm) w_t w_t (w_s ?_);intros)
       exact⟨j,⟨zo,g2,g3,g5,_,svo,q.set j (d - 1),U'.take j++(w''++U'.drop (j+n+1)),⟨gW e2,gW e3,gW e5,gW e6,gC⟩,gW m2,gW m3,gW m5,gC,gC,by(simp (disch:=omega) only [go_sem,Zzt]<;>repeat' first|rfl|refine⟨?_,?_⟩),inv'⟩,zo⟩
   ·exact⟨⟨gW e2,gW e3,gW e5,gW e6,gW e7,gC,gC,gC⟩,gW m2,gW m3,gW m5,gW m7,gW m18,gW m44,gC,_,gC,zo,hinit,zo,zo⟩
 ·refine⟨Zyp _,_,_,_,_,_,List.replicate (U.length - n) 0,U,⟨gC,gC,gC,gC,gC⟩,gC,gC,gC,gC,gC,gW h44,⟨by rw [hvn];simp,Lm.zeros _,λ_ _=>Zg6 _ _,rfl,lU,?_,hlt⟩⟩;rw [Zz6 zs];simp [nv]
theorem Zxb (i:Nat):i < 2 ^ len8 i:=by
 unfold len8;split
 ·rename_i h;subst h;decide
 ·exact Nat.lt_log2_self
theorem len16_lt (x:Nat):x < 2 ^ Ze8 x:=by
 unfold Ze8;split
 ·have:=Zxb (x/256);rw [ZAp];have e:(2:Nat) ^ 8=256:=rfl;omega
 ·exact Zxb x
theorem Zrd (a:List Nat):u16s a++[.v (.int .u16 0),.v (.int .u16 0)]=u16s (a++[0,0]):=by simp [u16s]
theorem Wk.three {a a' b b' c:AV} (h1:Wk a a') (h2:Wk b b'):Wk (.tup [a,b,c]) (.tup [a',b',c]):=by
 refine .tup _ _ rfl λj x y h3 h4=>?_
 match j with
 | 0=>simp at h3 h4;subst h3;subst h4;exact h1
 | 1=>simp at h3 h4;subst h3;subst h4;exact h2
 | 2=>simp at h3 h4;subst h3;subst h4;exact .refl _
 | j+3=>simp at h3
theorem Zpt {b s n:Nat} (h0:b≠0) (hn:(toL b).length=n) (hs:s=16 - Ze8 (gN (toL b) (n - 1))):(toL (b*2 ^ s)).length=n:=by
 have h1:=(Zeb h0).1;have ht:=Zbn (Zan b) (n - 1);have hbd:=Zii ht;have hlt:=len16_lt (gN (toL b) (n - 1));have hp:=ZCt s;have h3:(toL b).length≤(toL (b*2 ^ s)).length:=Zat (ZCf _ hp)
 have h4:(toL (b*2 ^ s)).length≤n:=by
  rw [Zaf];have h5:=Zbt (toL b) (n - 1);rw [Zam,Zbx,show n - 1+1=n by omega,Zz6 zo] at h5;simp only [nv,ZA0,Zzm] at h5;have h6:=Zg3 (Zan b) (n - 1);generalize gN (toL b) (n - 1)=t at *
  have h7:b < 65536 ^ (n - 1)*2 ^ Ze8 t:=by
   have h10:65536 ^ (n - 1)*(t+1)≤65536 ^ (n - 1)*2 ^ Ze8 t:=ZBf _ hlt;rw [Zzk,ZBt] at h10;omega
  have h8:b*2 ^ s < 65536 ^ (n - 1)*2 ^ Ze8 t*2 ^ s:=ZDe h7 hp
  have h9:2 ^ Ze8 t*2 ^ s=65536:=by
   rw [←ZAp,hs,show Ze8 t+(16 - Ze8 t)=16 by omega]
  rw [Zz3,h9,←ZAh,Nat.succ_eq_add_one,show n - 1+1=n by omega] at h8;exact h8
 omega
theorem Zos (a b:List Nat) (ha:a.length≤2000000000000) (hb:b.length≤2000000000000) (la:Lm a) (lb:Lm b) (h0:nv b≠0):Pure prog 107 [lim a,lim b] (.tup [lim (toL (nv a/nv b)),lim (toL (nv a%nv b)),.v (.int .i64 0)]):=by
 have h1:=Zap la;have h2:=Zap lb;have va:=Zam (nv a);have vb:=Zam (nv b);have ma:=Zan (nv a);have mb:=Zan (nv b);obtain⟨hb1,hb2⟩:=Zeb h0;have cc:=Zr8 (toL (nv a)) (toL (nv b)) zo zo ma mb;rw [va,vb] at cc;by_cases hlt:nv a < nv b
 ·rw [show toL (nv a/nv b)=[] by rw [ZC2 hlt,Zau],ZAt hlt];refine Pure.wk ?_ (Wk.three (.nil 1) (.refl _));have hcm:cmpN (nv a) (nv b)=-1:=Zyk hlt;have cn:=Zm4 (toL (nv a)) zo ma;rw [va] at cn;refine Zaa (tok:=0) (rs:=[.tmp 4,.tmp 5,.tmp 6]) func107 rfl ntmps107 results107 call107 zr zs ?_
  (refine wkvp (w_1 hcm) (w_4 (Zay a zo la) (Zay b zo lb) cc cn) (w_s ?_);intros)
  simp (disch:=omega) only [go_sem]
 ·have hcm:0≤cmpN (nv a) (nv b):=by unfold cmpN;rw [Zyj hlt];split<;>omega
  by_cases hone:(toL (nv b)).length=1
  ·have e0:nv b=gN (toL (nv b)) 0:=by
    have:=Zbt (toL (nv b)) 0;rw [Zbx,Zz6 zo,vb] at this
    simpa [nv] using this
   have gb:=Zbn mb 0;have cb:=Zwy (toL (nv a)) (gN (toL (nv b)) 0) zo ma zo gb;rw [va,←e0] at cb;have hr:=Zzs (nv a) (ZAz h0);have co:=natOf (nv a%nv b) zo;refine Zaa (tok:=0) (rs:=[.tmp 4,.tmp 5,.tmp 6]) func107 rfl ntmps107 results107 call107 zr zs ?_;have wr:IntKind.u64.wrap ((nv a%nv b:Nat):Int)=((nv a%nv b:Nat):Int):=Zf2 (ZBy _) zo
   (refine wkvp (w_3 hone (Eq.symm e0) wr) (w_5 (Zay a zo la) (Zay b zo lb) cc cb co) (w_s ?_);intros)
   simp (disch:=omega) only [go_sem]
  ·
   obtain⟨n,hn⟩:∃n,(toL (nv b)).length=n:=⟨_,rfl⟩;rw [hn] at hb1 hb2 hone h2;have ht:=Zbn mb (n - 1);have hbd:=Zii ht;obtain⟨s,hs⟩:∃s,16 - Ze8 (gN (toL (nv b)) (n - 1))=s:=⟨_,rfl⟩;have hs15:s≤15:=zo;have hvl:=Zpt h0 hn hs.symm;have ha0:nv a≠0:=zo;have hab:n≤(toL (nv a)).length:=by rw [←hn];exact Zat zo
   have clz:=bitsLz16 (gN (toL (nv b)) (n - 1)) ht;rw [hs] at clz;have en:(n:Int) - 1=((n - 1:Nat):Int):=zo;have hp:=ZCt s;obtain⟨A,hA⟩:∃A,toL (nv a)=A:=⟨_,rfl⟩;rw [hA] at va ma h1 hab cc;have hVlen:A.length≤(toL (nv a*2 ^ s)).length:=by rw [←hA];exact Zat (ZCf _ hp)
   have hV2:nv a*2 ^ s < 65536 ^ (A.length+1):=by
    have h3:=Zhd ma;rw [va] at h3;have h4:(2:Nat) ^ s≤2 ^ 16:=ZA1 zo zo;rw [ZAh];exact ZAq (ZDe h3 hp) (ZBf _ h4)
   have hVlen2:(toL (nv a*2 ^ s)).length≤A.length+1:=Zaf.2 hV2
   have hdl:nv a*2 ^ s/65536 ^ (A.length+1 - n) < nv b*2 ^ s:=by
    rw [ZBk (Nat.pow_pos zo)];have h3:=Zhd ma;rw [va] at h3
    have h5:65536 ^ (n - 1)≤nv b:=by
     rcases Zy5 (nv b) (65536 ^ (n - 1)) with h | h
     ·have:=Zaf.2 h;omega
     ·exact h
    have h6:65536 ^ A.length=65536 ^ (n - 1)*65536 ^ (A.length+1 - n):=by rw [←ZAp];congr 1;omega
    have h7:65536 ^ (n - 1)*65536 ^ (A.length+1 - n)≤nv b*65536 ^ (A.length+1 - n):=Zzf _ h5;have h8:nv a < nv b*65536 ^ (A.length+1 - n):=zo;have h9:=ZDe h8 hp
    rwa [Nat.mul_right_comm] at h9
   have qe:nv a*2 ^ s/(nv b*2 ^ s)=nv a/nv b:=Nat.mul_div_mul_right _ _ hp;have re:nv a*2 ^ s%(nv b*2 ^ s)=(nv a%nv b)*2 ^ s:=Nat.mul_mod_mul_right _ _ _;have cv:=natShl (toL (nv b)) s zo mb zo;rw [vb] at cv;refine Zaa (tok:=0) (rs:=[.tmp 4,.tmp 5,.tmp 6]) func107 rfl ntmps107 results107 call107 zr zs ?_
   (refine wkvp (w_3 hn hA en) (w_4 (Zay a zo la) (Zay b zo lb) cc clz) (w_s ?_);intros)
   refine Zm1 (Zor _ A s zo ma zo (by rw [va];exact ha0)) ?_
   rintro _ _ ⟨sv,o,rfl,rfl,hol,hLo,hov⟩
   rw [va] at hov;rw [va];have hlen:=Zap hLo;rw [hov] at hlen;obtain⟨L,hL⟩:∃L,o.take (toL (nv a*2 ^ s)).length++[0,0]=L:=⟨_,rfl⟩;have hLl:L.length=(toL (nv a*2 ^ s)).length+2:=by rw [←hL,Zza,Zy1];simp;omega
   have hot:o.take (toL (nv a*2 ^ s)).length=toL (nv a*2 ^ s):=by
    obtain⟨k,h3,h4⟩:=Zmi hLo;rw [hov] at h4;have h5:k=(toL (nv a*2 ^ s)).length:=by rw [←h4,Zy1];omega
    rw [←h5,h4]
   have hLn:nv L=nv a*2 ^ s:=by rw [←hL,hot,Zdp,Zam];simp [nv]
   have hLL:Lm L:=by rw [←hL,hot];exact(Zan _).append λy hy=>by simp at hy;omega
   have hes:u16s o=u16s o:=rfl;have e3:((A.length:Nat):Int)+1=((A.length+1:Nat):Int):=zo
   (refine wkvp (w_6 hol @Zrd hL hLl e3 (Eq.symm hvl)) (w_1 cv) (w_s ?_);intros)
   have hUl:(L.take (A.length+1)).length=A.length+1:=by rw [Zy1];omega
   have hUn:nv (L.take (A.length+1))=nv a*2 ^ s:=by
    have h3:=Zbt L (A.length+1);rw [hLn] at h3;rcases Zz0 (nv (L.drop (A.length+1))) with h4 | h4
    ·rw [h4,ZA0,Zzm] at h3;exact h3.symm
    ·have:=ZCf (65536 ^ (A.length+1)) h4;omega
   rename_i sv2 sv';have vn:nv (toL (nv b*2 ^ s))=nv b*2 ^ s:=Zam _
   have hb20:nv b*2 ^ s≠0:=by
    have:=Nat.mul_pos (ZAz h0) hp;omega
   have htop:=(Zeb hb20).2;rw [hvl] at htop;have hTD:(L.take (A.length+1))++(L.drop (A.length+1))=L:=ZAw _ _;have clong:=fun(σ:Mem) h44=>natLong σ sv' (L.take (A.length+1)) (L.drop (A.length+1)) (toL (nv b*2 ^ s)) n hvl h44 zo (by rw [hUl];omega) (by rw [hUl,ZA5];omega) (hLL.take _) (hLL.drop _) (Zan _) htop
    (by rw [hUl,←Zww (hLL.take _),hUn,vn];exact hdl)
   rw [hUl,hUn,vn,qe,re] at clong;refine Zm1 (clong _ (by rw [hTD];(simp (disch:=omega) only [go_sem,Zrd,hL]<;>repeat' first|rfl|refine⟨?_,?_⟩))) ?_
   rintro _ σ' ⟨U',rfl,h44',hUl',hUL',hUn'⟩
   have ct:=Zay U' zo hUL';rw [hUn'] at ct;have htk:(U'++L.drop (A.length+1)).take (A.length+1)=U':=by rw [←hUl'];exact List.take_left
   rcases Zz0 s with hs0 | hs0
   ·subst hs0;have cr:=natShl (toL ((nv a%nv b)*2 ^ 0)) 0 (by have:=Zap hUL';rw [hUn'] at this;omega) (Zan _) zo;rw [Zam,Nat.pow_zero,ZBt,ZBt] at cr;rw [Nat.pow_zero,ZBt] at ct;have ez:(0:Int) - ((0:Nat):Int)=((0:Nat):Int):=zo
    (repeat' (first|(with_reducible first|refine stp ?_|apply gx1|apply gx2|apply gx3|apply gx4|apply gx5|apply gx6|apply gx7|apply gw1 (ct)|refine gw0 (cr) ?_ ?_)|(with_reducible refine Zcg ?_;intro _)|((with_reducible refine gE ?_);(try simp (disch:=omega) only [go_sem,h44',htk,Zzd,ZBi,ZAg,ez])<;>first|rfl|omega)|with_reducible refine Zai zd ?_))
    simp (disch:=omega) only [go_sem]
   ·have cr:=natShr (toL ((nv a%nv b)*2 ^ s)) s (by have:=Zap hUL';rw [hUn'] at this;omega) (Zan _) hs0 zo;rw [Zam,Nat.mul_div_cancel _ hp] at cr;have ez:(0:Int) - (s:Int)=-(s:Int):=zo
    (repeat' (first|(with_reducible first|refine stp ?_|apply gx1|apply gx2|apply gx3|apply gx4|apply gx5|apply gx6|apply gx7|apply gw1 (ct)|refine gw0 (cr) ?_ ?_)|(with_reducible refine Zcg ?_;intro _)|((with_reducible refine gE ?_);(try simp (disch:=omega) only [go_sem,h44',htk,Zzd,ZBi,ZAg,ez])<;>first|rfl|omega)|with_reducible refine Zai zd ?_))
    simp (disch:=omega) only [go_sem]
theorem natGcd (a b:List Nat) (ha:a.length≤2000000000000) (hb:b.length≤2000000000000) (la:Lm a) (lb:Lm b):Pure prog 106 [lim a,lim b] (lim (toL (Nat.gcd (nv a) (nv b)))):=by
 have h1:=Zap la;have h2:=Zap lb
 have cu:∀x:Nat,(toL x).length≤2000000000000→Pure prog 68 [lim (toL x)] (.tup [.v (.int .u64 (if x < 18446744073709551616 then (x:Int) else 0)),.v (.bool (decide (x < 18446744073709551616)))]):=by
  intro x hx;have:=Zwx (toL x) zo (Zan x)
  rwa [Zam] at this
 have cd:∀x y:Nat,(toL x).length≤2000000000000→(toL y).length≤2000000000000→y≠0→Pure prog 107 [lim (toL x),lim (toL y)] (.tup [lim (toL (x/y)),lim (toL (x%y)),.v (.int .i64 0)]):=by
  intro x y hx hy h0;have:=Zos (toL x) (toL y) hx hy (Zan x) (Zan y) (by rw [Zam];exact h0)
  rwa [Zam,Zam] at this
 refine Zaa (tok:=0) (rs:=[.tmp 4]) func106 rfl ntmps106 results106 call106 zr zs ?_
 (refine wkvp w_t (w_2 (Zm4 a zo la) (Zm4 b zo lb)) (w_s ?_);intros)
 refine Zab (ι:=Nat) (λy e m=>∃x,(e 0=lim (toL x)∧e 1=lim (toL y))∧(toL x).length≤2000000000000∧(toL y).length≤2000000000000∧Nat.gcd x y=Nat.gcd (nv a) (nv b)) (λy=>y) (nv b) zr ?_ ?_
 ·rintro y e m ⟨x,⟨e0,e1⟩,hx,hy,hg⟩
  rcases Zz0 y with h0 | h0
  ·subst h0;have hl:=Zbf.2 (rfl:(0:Nat)=0);rw [Nat.gcd_zero_right] at hg
   (refine wkvp (w_3 e0 e1 hl) w_t (w_s ?_);intros)
   simp (disch:=omega) only [go_sem,hg]
  ·have hl:0 < (toL y).length:=by
    have:=(Zeb (show y≠0 by omega)).1;omega
   by_cases hs:x < 18446744073709551616∧y < 18446744073709551616
   ·obtain⟨hsx,hsy⟩:=hs;have dx:decide (x < 18446744073709551616)=true:=Zyo hsx;have dy:decide (y < 18446744073709551616)=true:=Zyo hsy
    (repeat' (first|(with_reducible first|refine stp ?_|apply gx1|apply gx2|apply gx3|apply gx4|apply gx5|apply gx6|apply gx7|refine gw0 (cu x hx) ?_ ?_|refine gw0 (cu y hy) ?_ ?_)|(with_reducible refine Zcg ?_;intro _)|((with_reducible refine gE ?_);(try simp (disch:=omega) only [go_sem,e0,e1,Zyk hsx,Zyk hsy,dx,dy])<;>first|rfl|omega)|with_reducible refine Zai zd ?_))
    refine Zab (ι:=Nat) (λY e m=>∃X:Nat,(e 5=.v (.int .u64 (X:Int))∧e 7=.v (.int .u64 (Y:Int)))∧X < 18446744073709551616∧Y < 18446744073709551616∧Nat.gcd X Y=Nat.gcd (nv a) (nv b)) (λY=>Y) y zr ?_ ?_
    ·rintro Y e m ⟨X,⟨e5,e7⟩,hX,hY,hg2⟩
     rcases Zz0 Y with h3 | h3
     ·subst h3;rw [Nat.gcd_zero_right] at hg2;have co:=natOf X hX;rw [hg2] at co;rw [hg2] at e5
      (refine wkvp (w_3 e5 e7 @ZA7) (w_1 co) (w_s ?_);intros)
      simp (disch:=omega) only [go_sem]
     ·have hn:(Y:Int)≠0:=zo;have hm:=Zzs X h3
      (refine wkad (w_4 e5 e7 @Ze1 hn) w_t w_t (w_s ?_);intros)
      exact⟨X%Y,⟨Y,⟨gC,gC⟩,hY,zo,by rw [←hg2,ZB7 X Y,Nat.gcd_rec Y X,ZB7]⟩,hm⟩
    ·exact⟨x,⟨gC,gC⟩,hsx,hsy,hg⟩
   ·have hm:=Zzs x h0;have hml:(toL (x%y)).length≤2000000000000:=Zyz (Zat (Nat.le_of_lt hm)) hy
    have hdd:(decide (x < 18446744073709551616) && decide (y < 18446744073709551616))=false:=by
     rw [Bool.and_eq_false_iff,ZBe,ZBe];omega
    have hgg:Nat.gcd y (x%y)=Nat.gcd (nv a) (nv b):=by rw [←hg,ZB7 x y,Nat.gcd_rec y x,ZB7]
    by_cases hsx:x < 18446744073709551616
    ·have hsy:¬y < 18446744073709551616:=λh=>hs ⟨hsx,h⟩;have dx:decide (x < 18446744073709551616)=true:=Zyo hsx;have dy:decide (y < 18446744073709551616)=false:=Zyl hsy
     (repeat' (first|(with_reducible first|refine stp ?_|apply gx1|apply gx2|apply gx3|apply gx4|apply gx5|apply gx6|apply gx7|refine gw0 (cu x hx) ?_ ?_|refine gw0 (cu y hy) ?_ ?_|refine gw0 (cd x y hx hy zo) ?_ ?_)|(with_reducible refine Zcg ?_;intro _)|((with_reducible refine gE ?_);(try simp (disch:=omega) only [go_sem,e0,e1,Zyk hsx,Zyj hsy,dx,dy])<;>first|rfl|omega)|with_reducible refine Zai zd ?_))
     exact⟨x%y,⟨y,⟨gW e1,gC⟩,hy,hml,hgg⟩,hm⟩
    ·have dx:decide (x < 18446744073709551616)=false:=Zyl hsx;by_cases hsy:y < 18446744073709551616
     ·have dy:decide (y < 18446744073709551616)=true:=Zyo hsy
      (repeat' (first|(with_reducible first|refine stp ?_|apply gx1|apply gx2|apply gx3|apply gx4|apply gx5|apply gx6|apply gx7|refine gw0 (cu x hx) ?_ ?_|refine gw0 (cu y hy) ?_ ?_|refine gw0 (cd x y hx hy zo) ?_ ?_)|(with_reducible refine Zcg ?_;intro _)|((with_reducible refine gE ?_);(try simp (disch:=omega) only [go_sem,e0,e1,Zyj hsx,Zyk hsy,dx,dy])<;>first|rfl|omega)|with_reducible refine Zai zd ?_))
      exact⟨x%y,⟨y,⟨gW e1,gC⟩,hy,hml,hgg⟩,hm⟩
     ·have dy:decide (y < 18446744073709551616)=false:=Zyl hsy
      (repeat' (first|(with_reducible first|refine stp ?_|apply gx1|apply gx2|apply gx3|apply gx4|apply gx5|apply gx6|apply gx7|refine gw0 (cu x hx) ?_ ?_|refine gw0 (cu y hy) ?_ ?_|refine gw0 (cd x y hx hy zo) ?_ ?_)|(with_reducible refine Zcg ?_;intro _)|((with_reducible refine gE ?_);(try simp (disch:=omega) only [go_sem,e0,e1,Zyj hsx,Zyj hsy,dx,dy])<;>first|rfl|omega)|with_reducible refine Zai zd ?_))
      exact⟨x%y,⟨y,⟨gW e1,gC⟩,hy,hml,hgg⟩,hm⟩
 ·exact⟨nv a,⟨gC,gC⟩,zo,zo,rfl⟩
theorem Zee (l:List Nat) (hs:l.length≤10000000000000) (hl:Lm l):Pure prog 82 [lim l] (lim (toL (nv l))):=by
 refine Zaa (tok:=0) (rs:=[.tmp 2]) func82 rfl ntmps82 results82 call82 zr zs ?_
 (refine wkvp w_t w_t (w_s ?_);intros)
 refine Zab (ι:=Nat) (λk e m=>k≤l.length∧e 0=lim l∧e 3=.v (.int .i64 (k:Int))∧∀j,k≤j→gN l j=0) (λk=>k) l.length zr ?_ ?_
 ·rintro k e m ⟨hk,e0,e3,hz⟩
  have gl:=Zbn hl (k - 1);have hln:(l.take k).length=k:=by rw [Zy1];omega
  by_cases h0:k=0
  ·subst h0;have:=Zkl hl hk hz (.inl rfl)
   (refine wkvp (w_3 e0 e3 @Zgo) w_t (w_s ?_);intros)
   simp (disch:=omega) only [go_sem];rw [←this];rfl
  ·by_cases h1:gN l (k - 1)=0
   ·(refine wkvp (w_2 e0 e3) w_t (w_s ?_);intros)
    exact⟨k - 1,⟨zo,gW e0,by(simp (disch:=omega) only [go_sem,e3];congr 2;omega),λj hj=>by
     rcases Zy5 j k with h2 | h2
     ·rw [show j=k - 1 by omega];exact h1
     ·exact hz j h2⟩,zo⟩
   ·have:=Zkl hl hk hz (.inr zo)
    (refine wkvp (w_4 e0 e3 @Zgo hln) w_t (w_s ?_);intros)
    simp (disch:=omega) only [go_sem,this]
 ·exact⟨Zyp _,gC,gC,λj hj=>Zei hj⟩
theorem Zjk (n:Nat) (hn:n < 18446744073709551616):Pure prog 44 [.v (.int .u64 (n:Int))] (lim (toL n)):=by
 have b1:=(Zaf (n:=n) (k:=4)).2 hn;refine Zaa (tok:=0) (rs:=[.tmp 2]) func44 rfl ntmps44 results44 call44 zr zs ?_
 (refine wkvp w_t w_t (w_s ?_);intros)
 refine Zc4 (Frz.nilOwn (d:=3) 11 1 125 (gC)) ?_;refine Zab (ι:=Nat) (λk e m=>k≤n∧e 0=.v (.int .u64 (k:Int))∧∃sv l,e 3=.own 11 sv∧m 11=some (.row sv 125 1 (u16s l) 0)∧l++toL k=toL n) (λk=>k) n zr ?_ ?_
 ·rintro k e m ⟨hk,e0,sv,l,e3,em,hl⟩
  by_cases hk0:k=0
  ·subst hk0;rw [Zau,Zzz] at hl
   (refine wkvp (w_3 e0 e3 @ZA7) w_t (w_s ?_);intros)
   simp (disch:=omega) only [go_sem,em,hl]
  ·have b2:l.length≤(toL n).length:=by rw [←hl];simp
   have hne:k≠0:=hk0;have r1:(k:Int).tmod 65536=((k%65536:Nat):Int):=Ze1 k 65536;have r2:(k:Int).tdiv 65536=((k/65536:Nat):Int):=Ze2 k 65536;have r3:k%65536%65536=k%65536:=Nat.mod_mod _ _
   (refine wkvp (w_7 e0 e3 em r1 r2 @Zbc r3) w_t (w_s ?_);intros)
   refine⟨k/65536,⟨zo,gW e0,_,l++[k%65536],gC,gC,?_⟩,zo⟩;rw [←hl,Zeu hk0];simp
 ·exact⟨Zyp _,gC,_,[],gC,gC,by simp⟩
theorem Zrt (l:List Nat) (hs:l.length≤4) (hl:Lm l):Pure prog 127 [lim l] (.v (.int .u64 (nv l:Nat))):=by
 refine Zaa (tok:=0) (rs:=[.tmp 2]) func127 rfl ntmps127 results127 call127 zr zs ?_
 (refine wkvp w_t w_t (w_s ?_);intros)
 refine Zab (ι:=Nat) (λk e m=>k≤l.length∧e 0=lim l∧e 4=.v (.int .i64 ((k:Int) - 1))∧e 3=.v (.int .u64 (nv (l.drop k):Nat))) (λk=>k) l.length zr ?_ ?_
 ·rintro k e m ⟨hk,e0,e4,e3⟩
  by_cases h0:k=0
  ·subst h0;rw [ZAg] at e3
   (refine wkvp (w_3 e0 e4 e3) w_t (w_s ?_);intros)
   simp (disch:=omega) only [go_sem]
  ·have gl:=Zbn hl (k - 1);have b1:=Zhd (hl.drop k);have b2:65536 ^ (l.drop k).length≤65536 ^ 3:=ZA1 zo (by rw [ZA5];omega);have e1:(nv (l.drop k):Int)*65536=((nv (l.drop k)*65536:Nat):Int):=zo
   (refine wkvp (w_5 e0 e4 e3 e1 @Zax) w_t (w_s ?_);intros)
   refine⟨k - 1,⟨zo,gW e0,by(simp (disch:=omega) only [go_sem,e4];congr 2;omega),?_⟩,zo⟩;simp (disch:=omega) only [go_sem];rw [Zbx l (k - 1),show k - 1+1=k by omega];congr 3;omega
 ·exact⟨Zyp _,gC,gC,by(simp (disch:=omega) only [go_sem,ZCg]<;>repeat' first|rfl|refine⟨?_,?_⟩)⟩
theorem Zhu (l:List Nat) (i:Nat) (hs:l.length≤10000000000000) (hl:Lm l):Pure prog 97 [lim l,.v (.int .i64 (i:Int))] (.v (.int .i64 (gN l i:Nat))):=by
 have gl:=Zbn hl i;refine Zaa (tok:=0) (rs:=[.tmp 4]) func97 rfl ntmps97 results97 call97 zr zs ?_;by_cases h:i < l.length
 ·(refine wkvp w_t w_t (w_s ?_);intros)
  simp (disch:=omega) only [go_sem]
 ·have g0:gN l i=0:=Zei zo
  (refine wkvp w_t w_t (w_s ?_);intros)
  simp (disch:=omega) only [go_sem,g0];rfl
theorem Zvt (a b:List Nat) (ha:a.length≤10000000000000) (hb:b.length≤10000000000000) (la:Lm a) (lb:Lm b):Pure prog 149 [lim a,lim b] (.v (.int .i64 (cmpN (nv a) (nv b)))):=by
 have cl:=λi=>Zhu a i ha la;have cr:=λi=>Zhu b i hb lb;refine Zaa (tok:=0) (rs:=[.tmp 4]) func149 rfl ntmps149 results149 call149 zr zs ?_;have hmx:max (a.length:Int) (b.length:Int)=((max a.length b.length:Nat):Int):=zo;obtain⟨M,hM⟩:∃M,max a.length b.length=M:=⟨_,rfl⟩
 (refine wkvp (w_2 hmx hM) w_t (w_s ?_);intros)
 refine Zab (ι:=Nat) (λk e m=>k≤M∧e 0=lim a∧e 1=lim b∧e 5=.v (.int .i64 ((k:Int) - 1))∧nv (a.drop k)=nv (b.drop k)) (λk=>k) M zr ?_ ?_
 ·rintro k e m ⟨hk,e0,e1,e5,hz⟩
  by_cases h0:k=0
  ·subst h0;rw [ZAg,ZAg] at hz
   (refine wkvp (w_3 e0 e1 e5) w_t (w_s ?_);intros)
   simp (disch:=omega) only [go_sem,cmpN,hz,Nat.lt_irrefl,Zy8]
  ·obtain⟨j,rfl⟩:∃j,k=j+1:=⟨k - 1,zo⟩;have ej:((j+1:Nat):Int) - 1=(j:Int):=zo;rw [ej] at e5;have ga:=Zbn la j;have gb:=Zbn lb j;by_cases p1:gN a j < gN b j
   ·have:=Zr6 la lb hz p1
    (refine wkvp (w_3 e0 e1 e5) (w_2 (cl j) (cr j)) (w_s ?_);intros)
    simp (disch:=omega) only [go_sem,cmpN,Zyk this]
   ·by_cases p2:gN b j < gN a j
    ·have:=Zr6 lb la hz.symm p2;have this2:¬nv a < nv b:=zo
     (refine wkvp (w_3 e0 e1 e5) (w_2 (cl j) (cr j)) (w_s ?_);intros)
     simp (disch:=omega) only [go_sem,cmpN,Zyk this,Zyj this2]
    ·(refine wkvp (w_3 e0 e1 e5) (w_2 (cl j) (cr j)) (w_s ?_);intros)
     refine⟨j,⟨zo,gW e0,gW e1,gW e5,?_⟩,zo⟩;rw [Zbx,Zbx b,hz];omega
 ·refine⟨Zyp _,gC,gC,gC,?_⟩;rw [Zz6 zo,Zz6 zo]
theorem refAdd (a b:List Nat) (ha:a.length≤4000000000000) (hb:b.length≤4000000000000) (la:Lm a) (lb:Lm b):Pure prog 95 [lim a,lim b] (lim (toL (nv a+nv b))):=by
 have cl:=λi=>Zhu a i zo la;have cr:=λi=>Zhu b i zo lb;refine Zaa (tok:=0) (rs:=[.tmp 4]) func95 rfl ntmps95 results95 call95 zr zs ?_
 (refine wkvp w_t w_t (w_s ?_);intros)
 refine Zc4 (Frz.nilOwn (d:=5) 39 1 125 (gC)) ?_;refine Zab (ι:=Nat) (λk e m=>k≤max a.length b.length+1∧(e 0=lim a∧e 1=lim b∧e 7=.v (.int .i64 (k:Int)))∧∃sv o c,(e 5=.own 39 sv∧e 6=.v (.int .i64 (c:Nat))∧m 39=some (.row sv 125 1 (u16s o) 0))∧o.length=k∧Lm o∧c≤1∧(max a.length b.length < k→c=0)∧nv o+65536 ^ k*c=nv (a.take k)+nv (b.take k)) (λk=>max a.length b.length+1 - k) 0 zr ?_ ?_
 ·rintro k e m ⟨hk,⟨e0,e1,e7⟩,sv,o,c,⟨e5,e6,em⟩,hol,hLo,hc,hcz,hv⟩
  by_cases hgo:k < a.length∨k < b.length∨0 < c
  ·have ga:=Zbn la k;have gb:=Zbn lb k;have hs:=Zno (x:=gN a k) (y:=gN b k) hv;rw [←Zar,←Zar,←ZAh] at hs;have ecomm:gN a k+gN b k+c=c+gN a k+gN b k:=zo;have w1:(c+gN a k+gN b k)/65536≤1:=zo;have w2:(c+gN a k+gN b k)%65536 < 65536:=Zzs _ zo;have r1:((c+gN a k+gN b k:Nat):Int).tmod 65536=(((c+gN a k+gN b k)%65536:Nat):Int):=Ze1 _ 65536;have r2:((c+gN a k+gN b k:Nat):Int).tdiv 65536=(((c+gN a k+gN b k)/65536:Nat):Int):=Ze2 _ 65536;have r3:(c+gN a k+gN b k)%65536%65536=(c+gN a k+gN b k)%65536:=Nat.mod_mod _ _;have nvs:nv (o++[(c+gN a k+gN b k)%65536])=nv o+65536 ^ k*((c+gN a k+gN b k)%65536):=by rw [Zdp,hol];simp [nv]
   rw [←nvs] at hs
   have hz2:max a.length b.length < k+1→(c+gN a k+gN b k)/65536=0:=by
    intro h;have g1:gN a k=0:=Zei zo;have g2:gN b k=0:=Zei zo;omega
   have hkm:k≤max a.length b.length:=zo
   have fin:=fun(sv:Value) (e:Nat→AV) (m:Mem) (h1:e 0=lim a∧e 1=lim b∧e 7=.v (.int .i64 ((k+1:Nat):Int))) (h2:e 5=.own 39 sv∧e 6=.v (.int .i64 ((c+gN a k+gN b k)/65536:Nat))∧m 39=some (.row sv 125 1 (u16s (o++[(c+gN a k+gN b k)%65536])) 0)) =>
    show ∃k',(k'≤max a.length b.length+1∧(e 0=lim a∧e 1=lim b∧e 7=.v (.int .i64 (k':Int)))∧∃sv o c,(e 5=.own 39 sv∧e 6=.v (.int .i64 (c:Nat))∧m 39=some (.row sv 125 1 (u16s o) 0))∧o.length=k'∧Lm o∧c≤1∧(max a.length b.length < k'→c=0)∧nv o+65536 ^ k'*c=nv (a.take k')+nv (b.take k'))∧max a.length b.length+1 - k' < max a.length b.length+1 - k from
    ⟨k+1,⟨zo,h1,sv,_,_,h2,by simp [hol],hLo.append (Lm.one w2),w1,hz2,hs⟩,zo⟩
   by_cases h3:k < a.length
   ·(refine wkvp (w_14 e0 e1 e7 e5 e6 em hol @Za4 @Zax ecomm r1 r2 r3 @Zbc) (w_2 (cl k) (cr k)) (w_s ?_);intros)
    exact fin _ _ _ ⟨gW e0,gW e1,gS⟩ ⟨gC,gC,gC⟩
   ·by_cases h4:k < b.length
    ·(refine wkvp (w_14 e0 e1 e7 e5 e6 em hol @Za4 @Zax ecomm r1 r2 r3 @Zbc) (w_2 (cl k) (cr k)) (w_s ?_);intros)
     exact fin _ _ _ ⟨gW e0,gW e1,gS⟩ ⟨gC,gC,gC⟩
    ·have hc1:0 < c:=zo
     (refine wkvp (w_14 e0 e1 e7 e5 e6 em hol @Za4 @Zax ecomm r1 r2 r3 @Zbc) (w_2 (cl k) (cr k)) (w_s ?_);intros)
     exact fin _ _ _ ⟨gW e0,gW e1,gS⟩ ⟨gC,gC,gC⟩
  ·have hc0:c=0:=zo;subst hc0;rw [Zbd zo,Zbd zo,ZA0,Zzm] at hv
   (repeat' (first|(with_reducible first|refine stp ?_|apply gx1|apply gx2|apply gx3|apply gx4|apply gx5|apply gx6|apply gx7|apply gw1 (Zee o zo hLo))|(with_reducible refine Zcg ?_;intro _)|((with_reducible refine gE ?_);(try simp (disch:=omega) only [go_sem,e0,e1,e7,e5,e6,em])<;>first|rfl|omega)|with_reducible refine Zai zd ?_))
   simp (disch:=omega) only [go_sem,hv]
 ·exact⟨zo,⟨gC,gC,gC⟩,_,[],0,⟨gC,gC,gC⟩,rfl,Lm.nil,zo,λ_=>rfl,by simp [nv]⟩
theorem refSub (a b:List Nat) (ha:a.length≤10000000000000) (hb:b.length≤10000000000000) (la:Lm a) (lb:Lm b) :
 Pure prog 96 [lim a,lim b] (.tup [lim (if nv a < nv b then [] else toL (nv a - nv b)),.v (.int .i64 (if nv a < nv b then 2 else 0))]):=by
 have cl:=λi=>Zhu a i ha la;have cr:=λi=>Zhu b i hb lb;have cc:=Zvt a b ha hb la lb;by_cases hlt:nv a < nv b
 ·rw [Zyk hlt,Zyk hlt];refine Pure.wk ?_ (okTup rfl);refine Zaa (tok:=0) (rs:=[.tmp 4,.tmp 5]) func96 rfl ntmps96 results96 call96 zr zs ?_;have hc:cmpN (nv a) (nv b)=-1:=by unfold cmpN;rw [Zyk hlt]
  (refine wkvp (w_1 hc) (w_1 cc) (w_s ?_);intros)
  simp (disch:=omega) only [go_sem]
 ·rw [Zyj hlt,Zyj hlt];have hc:0≤cmpN (nv a) (nv b):=by unfold cmpN;rw [Zyj hlt];split<;>omega
  refine Zaa (tok:=0) (rs:=[.tmp 4,.tmp 5]) func96 rfl ntmps96 results96 call96 zr zs ?_
  (refine wkvp w_t (w_1 cc) (w_s ?_);intros)
  refine Zc4 (Frz.nilOwn (d:=6) 37 1 125 (gC)) ?_;refine Zab (ι:=Nat) (λk e m=>k≤a.length∧(e 0=lim a∧e 1=lim b∧e 8=.v (.int .i64 (k:Int)))∧∃sv o r,(e 6=.own 37 sv∧e 7=.v (.int .i64 (r:Nat))∧m 37=some (.row sv 125 1 (u16s o) 0))∧o.length=k∧Lm o∧r≤1∧nv o+nv (b.take k)=nv (a.take k)+65536 ^ k*r) (λk=>a.length - k) 0 zr ?_ ?_
  ·rintro k e m ⟨hk,⟨e0,e1,e8⟩,sv,o,r,⟨e6,e7,em⟩,hol,hLo,hr,hv⟩
   have ga:=Zbn la k;have gb:=Zbn lb k;by_cases hlt2:k < a.length
   ·have step:∀(d r':Nat),d+r+gN b k=gN a k+65536*r'→d < 65536→r'≤1→(o++[d]).length=k+1∧Lm (o++[d])∧r'≤1∧nv (o++[d])+nv (b.take (k+1))=nv (a.take (k+1))+65536 ^ (k+1)*r':=by
     intro d r' hd h3 h4;have:=Zrh hv hd;have nvs:nv (o++[d])=nv o+65536 ^ k*d:=by rw [Zdp,hol];simp [nv]
     rw [nvs,Zar,Zar,ZAh];exact⟨by simp [hol],hLo.append (Lm.one h3),h4,this⟩
    by_cases hneg:gN a k < gN b k+r
    ·have hs:=step (gN a k+65536 - gN b k - r) 1 zo zo zo;have w:(gN a k:Int) - gN b k - r+65536=((gN a k+65536 - gN b k - r:Nat):Int):=zo
     (refine wkvp (w_8 e0 e1 e8 e6 e7 em hol w) (w_2 (cl k) (cr k)) (w_s ?_);intros)
     exact⟨k+1,⟨zo,⟨gW e0,gW e1,gV e8⟩,_,_,1,⟨gC,gC,gC⟩,hs⟩,zo⟩
    ·have hs:=step (gN a k - gN b k - r) 0 zo zo zo;have w:(gN a k:Int) - gN b k - r=((gN a k - gN b k - r:Nat):Int):=zo
     (refine wkvp (w_8 e0 e1 e8 e6 e7 em hol w) (w_2 (cl k) (cr k)) (w_s ?_);intros)
     exact⟨k+1,⟨zo,⟨gW e0,gW e1,gV e8⟩,_,_,0,⟨gC,gC,gC⟩,hs⟩,zo⟩
   ·have hka:k=a.length:=zo;have hbs:=Zbt b k;have hno:=Zhd hLo;rw [hol] at hno;rw [Zbd (l:=a) zo] at hv
    have hno2:nv o=nv a - nv b:=by
     have hbd:nv (b.drop k)=0:=by
      rcases Zz0 (nv (b.drop k)) with h3 | h3
      ·exact h3
      ·have h4:=ZCf (65536 ^ k) h3;have h5:=Zhd la;rw [←hka] at h5;omega
     rw [hbd,ZA0,Zzm] at hbs
     have hr0:r=0:=by
      rcases Zz0 r with h3 | h3
      ·exact h3
      ·have:r=1:=zo;subst this;omega
     subst hr0;omega
    (repeat' (first|(with_reducible first|refine stp ?_|apply gx1|apply gx2|apply gx3|apply gx4|apply gx5|apply gx6|apply gx7|apply gw1 (Zee o zo hLo))|(with_reducible refine Zcg ?_;intro _)|((with_reducible refine gE ?_);(try simp (disch:=omega) only [go_sem,e0,e1,e8,e6,e7,em])<;>first|rfl|omega)|with_reducible refine Zai zd ?_))
    simp (disch:=omega) only [go_sem,hno2]
  ·exact⟨Zyv _,⟨gC,gC,gC⟩,_,[],0,⟨gC,gC,gC⟩,rfl,Lm.nil,zo,by simp [nv]⟩
def valL (l:List Nat):Bool:=decide (l.length=0) || !decide (gN l (l.length - 1)=0)
theorem Zmh {l:List Nat} (h:Lm l):valL l=true↔l=toL (nv l):=by
 unfold valL;constructor
 ·intro h1;refine canon h ?_;simp only [ZAc,Zzi,ZAs,ZBe] at h1;rcases h1 with h1 | h1
  ·exact .inl (ZBq h1)
  ·exact .inr zo
 ·intro h1;by_cases h0:nv l=0
  ·rw [h0,Zau] at h1;subst h1;rfl
  ·obtain⟨h2,h3⟩:=Zeb h0;rw [←h1] at h2 h3;simp only [ZAc,Zzi,ZAs,ZBe];exact .inr zo
theorem Zrs (l:List Nat) (hs:l.length≤10000000000000) (hl:Lm l):Pure prog 41 [lim l] (.v (.bool (valL l))):=by
 refine Zaa (tok:=0) (rs:=[.tmp 2]) func41 rfl ntmps41 results41 call41 zr zs ?_;have gl:=Zbn hl (l.length - 1);unfold valL;by_cases h0:l.length=0
 ·(refine wkvp (w_1 h0) w_t (w_s ?_);intros)
  simp (disch:=omega) only [go_sem,h0]
 ·by_cases h1:gN l (l.length - 1)=0
  ·(refine wkvp (w_2 h1 @ZA7) w_t (w_s ?_);intros)
   simp (disch:=omega) only [go_sem,h0,h1]
  ·(refine wkvp w_t w_t (w_s ?_);intros)
   simp (disch:=omega) only [go_sem,h0,h1]
theorem refSameN (a b:List Nat) (ha:a.length≤10000000000000) (hb:b.length≤10000000000000) (la:Lm a) (lb:Lm b):Pure prog 42 [lim a,lim b] (.v (.bool (decide (a=b)))):=by
 refine Zaa (tok:=0) (rs:=[.tmp 4]) func42 rfl ntmps42 results42 call42 zr zs ?_;by_cases hl:a.length=b.length
 ·(refine wkvp (w_1 hl) w_t (w_s ?_);intros)
  refine Zab (ι:=Nat) (λk e m=>k≤a.length∧(e 0=lim a∧e 1=lim b∧e 5=.v (.int .i64 (k:Int)))∧∀j,j < k→gN a j=gN b j) (λk=>a.length - k) 0 zr ?_ ?_
  ·rintro k e m ⟨hk,⟨e0,e1,e5⟩,hs⟩
   by_cases hlt:k < a.length
   ·by_cases p:gN a k=gN b k
    ·(refine wkad (w_3 e0 e1 e5) w_t w_t (w_s ?_);intros)
     exact⟨k+1,⟨zo,⟨gW e0,gW e1,gV e5⟩,λj hj=>by
      rcases Zy5 j k with h1 | h1
      ·exact hs j h1
      ·rw [show j=k by omega];exact p⟩,zo⟩
    ·have hne:decide (a=b)=false:=Zyl λh=>p (by rw [h])
     (refine wkad (w_3 e0 e1 e5) w_t w_t (w_s ?_);intros)
     simp (disch:=omega) only [go_sem,hne]
   ·have he:decide (a=b)=true:=Zyo (List.ext_getElem hl λj h1 h2=>by
     have:=hs j zo
     rwa [gN_at h1,gN_at h2] at this)
    (refine wkad (w_3 e0 e1 e5) w_t w_t (w_s ?_);intros)
    simp (disch:=omega) only [go_sem,he]
  ·exact⟨Zyv _,⟨gC,gC,gC⟩,λj hj=>zo⟩
 ·have hne:decide (a=b)=false:=Zyl λh=>hl (by rw [h])
  (refine wkvp w_t w_t (w_s ?_);intros)
  simp (disch:=omega) only [go_sem,hne]
theorem Zvs (a b:List Nat) (ha:a.length≤4000000000000) (hb:b.length≤4000000000000) (la:Lm a) (lb:Lm b):Pure prog 54 [lim a,lim b] (lim (toL (nv a*nv b))):=by
 have cr:=λi=>Zhu b i zo lb;refine Zaa (tok:=0) (rs:=[.tmp 4]) func54 rfl ntmps54 results54 call54 zr zs ?_
 (refine wkvp (w_2 @Zax @Zbo) w_t (w_s ?_);intros)
 refine Zab (ι:=Nat) (λi e m=>i≤a.length∧(e 0=lim a∧e 1=lim b∧e 6=.v (.int .i64 i))∧∃sv o,(e 5=.own 16 sv∧m 16=some (.row sv 125 1 (u16s o) 0))∧o.length=a.length+b.length+1∧Lm o∧(∀j,i+b.length≤j→gN o j=0)∧nv o=nv (a.take i)*nv b) (λi=>a.length - i) 0 zr ?_ ?_
 ·rintro i e m ⟨hi,⟨e0,e1,e6⟩,sv,o,⟨e5,em⟩,hol,hLo,hz,hv⟩
  by_cases hlt:i < a.length
  ·have gx:=Zbn la i
   (refine wkvp (w_7 e0 e1 e6 e5 em hol @Zax) w_t (w_s ?_);intros)
   refine Zab (ι:=Nat) (λk e' m'=>k≤b.length+1∧(e' 0=lim a∧e' 1=lim b∧e' 6=.v (.int .i64 i)∧e' 8=.v (.int .i64 k)∧e' 5=.own 16 sv)∧∃o' c,(e' 7=.v (.int .u64 (c:Nat))∧m' 16=some (.row sv 125 1 (u16s o') 0))∧o'.length=a.length+b.length+1∧Lm o'∧c < 65536∧(b.length < k→c=0)∧(∀j,i+max b.length k≤j→gN o' j=0)∧nv o'+65536 ^ (i+k)*c=nv o+65536 ^ i*nv (b.take k)*gN a i) (λk=>b.length+1 - k) 0 zr ?_ ?_
   ·rintro k e m ⟨hk,⟨e0,e1,e6,e8,e5⟩,o',c,⟨e7,em⟩,hol',hLo',hc,hcz,hz',hv'⟩
    have gy:=Zbn lb k;have go:=Zbn hLo' (i+k);have bd:=Zou gx gy;by_cases hgo:k < b.length∨0 < c
    ·have hkb:k≤b.length:=by
      rcases hgo with h | h
      ·omega
      ·rcases Zy5 b.length k with h2 | h2
       ·have:=hcz h2;omega
       ·exact h2
     have hs:=Zr9 (x:=gN a i) (y:=gN b k) rfl (Zoo (o:=o') (j:=i+k) zo _) hv';rw [←Zsa,←Zar,←ZAh,Nat.succ_eq_add_one,ZCx i] at hs;have ecomm:gN o' (i+k)+gN a i*gN b k+c=c+(gN o' (i+k)+gN a i*gN b k):=zo
     have hcz2:b.length < k+1→(c+(gN o' (i+k)+gN a i*gN b k))/65536=0:=by
      intro h;have g1:gN b k=0:=Zei zo;have g2:=hz' (i+k) zo;rw [g1,g2];omega
     have w1:(c+(gN o' (i+k)+gN a i*gN b k))/65536 < 65536:=zo;have w2:(c+(gN o' (i+k)+gN a i*gN b k))%65536 < 65536:=zo;generalize hxy:gN a i*gN b k=xy at *;have r1:((c+(gN o' (i+k)+xy):Nat):Int).tmod 65536=(((c+(gN o' (i+k)+xy))%65536:Nat):Int):=Ze1 _ 65536;have r2:((c+(gN o' (i+k)+xy):Nat):Int).tdiv 65536=(((c+(gN o' (i+k)+xy))/65536:Nat):Int):=Ze2 _ 65536;have r3:(c+(gN o' (i+k)+xy))%65536%65536=(c+(gN o' (i+k)+xy))%65536:=Nat.mod_mod _ _;have hzz:∀j,i+max b.length (k+1)≤j→gN (o'.set (i+k) ((c+(gN o' (i+k)+xy))%65536)) j=0:=λj hj=>by
      rw [Zfw zo,Zyj zo];exact hz' j zo
     by_cases h3:k < b.length
     ·(refine wkad (w_16 e0 e1 e6 e8 e5 e7 em hol' @Zax @Zhw @Zbc hxy ecomm r1 r2 r3) (w_1 (cr k)) (w_1 (w_d 9 [(14,.v (.int .i64 (gN b k:Nat)))] [] [])) (w_s ?_);intros)
      exact⟨k+1,⟨zo,⟨gW e0,gW e1,gW e6,gS,gW e5⟩,_,_,⟨gC,gC⟩,by simpa using hol',hLo'.set _ w2,w1,hcz2,hzz,hs⟩,zo⟩
     ·have hc1:0 < c:=zo;(focus (refine wkad (w_16 e0 e1 e6 e8 e5 e7 em hol' @Zax @Zhw @Zbc hxy ecomm r1 r2 r3) (w_1 (cr k)) (w_1 (w_d 9 [(14,.v (.int .i64 (gN b k:Nat)))] [] [])) ?_;(repeat' first|exact w_t|apply w_l);all_goals intros));exact⟨k+1,⟨zo,⟨gW e0,gW e1,gW e6,gS,gW e5⟩,_,_,⟨gC,gC⟩,by simpa using hol',hLo'.set _ w2,w1,hcz2,hzz,hs⟩,zo⟩
    ·have hc0:c=0:=zo;subst hc0;rw [Zbd (l:=b) zo,ZA0,Zzm] at hv';(focus (refine wkad (w_8 e0 e1 e6 e8 e5 e7 em @ZA7) w_t w_t ?_;(repeat' first|exact w_t|apply w_l);all_goals intros));refine⟨i+1,⟨zo,⟨gW e0,gW e1,gS⟩,sv,o',⟨gW e5,gW em⟩,hol',hLo',λj hj=>hz' j zo,?_⟩,zo⟩;rw [hv',hv,Zar,Zze];congr 1;simp only [Zz3,Zzj,ZBz]
   ·exact⟨zo,⟨gW e0,gW e1,gW e6,gC,gW e5⟩,_,0,⟨gC,gW em⟩,hol,hLo,zo,λ_=>rfl,λj hj=>hz j zo,by simp [nv]⟩
  ·have hiA:i=a.length:=zo;subst hiA;rw [Zbd (Zyp _)] at hv
   (repeat' (first|(with_reducible first|refine stp ?_|apply gx1|apply gx2|apply gx3|apply gx4|apply gx5|apply gx6|apply gx7|apply gw1 (Zee o zo hLo))|(with_reducible refine Zcg ?_;intro _)|((with_reducible refine gE ?_);(try simp (disch:=omega) only [go_sem,e0,e1,e6,e5,em,hol])<;>first|rfl|omega)|with_reducible refine Zai zd ?_))
   simp (disch:=omega) only [go_sem,hv]
 ·exact⟨Zyv _,⟨gC,gC,gC⟩,_,List.replicate (a.length+b.length+1) 0,⟨gC,gC⟩,by simp,Lm.zeros _,λj hj=>Zg6 _ _,by simp [nv,Zm2]⟩
theorem refDigit (R B:Nat) (hR:(toL R).length≤3000000000000) (hB:(toL B).length≤2000000000000) (h0:0 < B) (hlt:R < B*65536):Pure prog 128 [lim (toL R),lim (toL B)] (.v (.int .u64 ((R/B:Nat):Int))):=by
 refine Zaa (tok:=0) (rs:=[.tmp 4]) func128 rfl ntmps128 results128 call128 zr zs ?_
 (refine wkvp w_t w_t (w_s ?_);intros)
 refine Zab (ι:=Nat × Nat) (λp e m=>(e 0=lim (toL R)∧e 1=lim (toL B)∧e 5=.v (.int .u64 (p.1:Int))∧e 6=.v (.int .u64 (p.2:Int)))∧p.1≤p.2∧p.2≤65535∧B*p.1≤R∧R < B*(p.2+1)) (λp=>p.2 - p.1) (0,65535) zr ?_ ?_
 ·rintro ⟨lo,hi⟩ e m ⟨⟨e0,e1,e5,e6⟩,h1,h2,h3,h4⟩
  simp only at e5 e6 h1 h2 h3 h4;by_cases hlh:lo < hi
  ·obtain⟨mid,hmid⟩:∃mid,(lo+hi+1)/2=mid:=⟨_,rfl⟩;have r2:((lo+hi+1:Nat):Int).tdiv 2=((mid:Nat):Int):=by rw [←hmid];exact Ze2 _ 2
   have co:=Zjk mid zo;have lm:(toL mid).length≤4:=Zaf.2 zo;have cm:=Zvs (toL B) (toL mid) zo zo (Zan _) (Zan _);rw [Zam,Zam] at cm
   have lbm:(toL (B*mid)).length≤10000000000000:=by
    have h5:(toL (B*mid)).length≤(toL B).length+4:=by
     rw [Zaf,ZAp];have h6:=Zaf.1 (Zyp (toL B).length);exact Nat.mul_lt_mul'' h6 zo
    omega
   have cc:=Zvt (toL (B*mid)) (toL R) lbm zo (Zan _) (Zan _);rw [Zam,Zam] at cc;by_cases hle:B*mid≤R
   ·have hc:cmpN (B*mid) R≤0:=by unfold cmpN;split;omega;split<;>omega
    (refine wkvp (w_8 e0 e1 e5 e6 @Zax @Zbo r2 hc) (w_3 co cm cc) (w_s ?_);intros)
    exact⟨(mid,hi),⟨⟨gW e0,gW e1,gC,gW e6⟩,zo,h2,hle,h4⟩,by simp only;omega⟩
   ·have hc:0 < cmpN (B*mid) R:=by unfold cmpN;rw [Zyj zo,Zyk zo];omega
    have em1:(mid:Int) - 1=((mid - 1:Nat):Int):=zo
    (refine wkvp (w_9 e0 e1 e5 e6 @Zax @Zbo r2 hc em1) (w_3 co cm cc) (w_s ?_);intros)
    exact⟨(lo,mid - 1),⟨⟨gW e0,gW e1,gW e5,gC⟩,by simp only;omega,by simp only;omega,h3,by simp only;rw [show mid - 1+1=mid by omega];omega⟩,by simp only;omega⟩
  ·have hh:lo=hi:=zo;subst hh;have hd:R/B=lo:=Nat.div_eq_of_lt_le (by rw [Zzj];exact h3) (by rw [Zzj];exact h4)
   (refine wkvp (w_4 e0 e1 e5 e6) w_t (w_s ?_);intros)
   simp (disch:=omega) only [go_sem,hd]
 ·exact⟨⟨gC,gC,gC,gC⟩,by simp,by simp,by simp,by simpa using hlt⟩
theorem Znv (x:Nat) (l:List Nat):AV.v (.int .u16 (x:Int)) :: u16s l=u16s (x :: l):=rfl
theorem Zn8 (a b:List Nat) (ha:a.length≤2000000000000) (hb:b.length≤2000000000000) (la:Lm a) (lb:Lm b) (h0:nv b≠0):Pure prog 83 [lim a,lim b] (.tup [lim (toL (nv a/nv b)),lim (toL (nv a%nv b)),.v (.int .i64 0)]):=by
 have h1:=Zap la;have h2:=Zap lb;have va:=Zam (nv a);have vb:=Zam (nv b);have ma:=Zan (nv a);have mb:=Zan (nv b);have hb1:=(Zeb h0).1;have hbp:=ZAz h0;by_cases h4:(toL (nv a)).length≤4∧(toL (nv b)).length≤4
 ·obtain⟨h4a,h4b⟩:=h4;have ca:=Zrt (toL (nv a)) h4a ma;have cb:=Zrt (toL (nv b)) h4b mb;rw [va] at ca;rw [vb] at cb;have hA:=Zaf.1 h4a;have hB:=Zaf.1 h4b;have hq:=ZCu (nv a) (nv b);have hr:=Nat.mod_le (nv a) (nv b);have cq:=Zjk (nv a/nv b) zo;have cr:=Zjk (nv a%nv b) zo;have wq:IntKind.u64.wrap ((nv a/nv b:Nat):Int)=((nv a/nv b:Nat):Int):=Zf2 (ZBy _) (by
   have:((nv a/nv b:Nat):Int)≤(nv a:Int):=Int.ofNat_le.2 hq;omega)
  have hn:((nv b:Nat):Int)≠0:=zo;refine Zaa (tok:=0) (rs:=[.tmp 4,.tmp 5,.tmp 6]) func83 rfl ntmps83 results83 call83 zr zs ?_
  (refine wkad (w_4 @Ze2 @Ze1 wq hn) (w_6 (Zee a zo la) (Zee b zo lb) ca cb cq cr) w_t (w_s ?_);intros)
  simp (disch:=omega) only [go_sem]
 ·have h4':((toL (nv a)).length≤4)→4 < (toL (nv b)).length:=λh=>by
   rcases Zy5 4 (toL (nv b)).length with h3 | h3
   ·exact h3
   ·exact absurd ⟨h,h3⟩ h4
  obtain⟨A,hA⟩:∃A,toL (nv a)=A:=⟨_,rfl⟩;rw [hA] at va ma h1 h4';refine Zaa (tok:=0) (rs:=[.tmp 4,.tmp 5,.tmp 6]) func83 rfl ntmps83 results83 call83 zr zs ?_;rcases Zy5 4 A.length with h5 | h5
  rotate_left
  have h6:=h4' h5;all_goals
   (refine wkvp (w_1 hA) (w_2 (Zee a zo la) (Zee b zo lb)) (w_s ?_);intros)
   rw [hA];refine Zc4 (Frz.trans (Frz.nil (d:=7) 1 (gC)) (Frz.nil (d:=8) 1 (gC))) ?_;refine r_loopF (ι:=Nat) (λk e m=>k≤A.length∧(e 0=lim A∧e 1=lim (toL (nv b))∧e 9=.v (.int .i64 ((k:Int) - 1)))∧∃ql R,(e 7=lim ql∧e 8=lim (toL R))∧ql.length=A.length - k∧Lm ql∧R < nv b∧nv (A.drop k)=nv ql*nv b+R) (λk=>k) A.length zr ?_ ?_
   ·rintro k e m ⟨hk,⟨e0,e1,e9⟩,ql,R,⟨e7,e8⟩,hql,hqL,hR,hv⟩
    by_cases hk0:k=0
    ·subst hk0;rw [ZAg,va] at hv;have hq:nv ql=nv a/nv b:=by rw [hv,Zzj,Nat.mul_add_div hbp,ZC2 hR,Zzm]
     have hr:R=nv a%nv b:=by rw [hv,Zzj,Nat.mul_add_mod,ZAt hR]
     have cn:=Zee ql zo hqL;rw [hq] at cn;rw [hr] at e8
     (refine wkvp (w_5 e0 e1 e9 e7 e8) (w_1 cn) (w_s ?_);intros)
     simp (disch:=omega) only [go_sem]
    ·obtain⟨j,rfl⟩:∃j,k=j+1:=⟨k - 1,zo⟩;have ej:((j+1:Nat):Int) - 1=(j:Int):=zo;rw [ej] at e9;have gx:=Zbn ma j;have hRl:(toL R).length≤(toL (nv b)).length:=Zat zo;have cn:=Zee (gN A j :: toL R) (by simp;omega) (λy hy=>by
      rcases List.mem_cons.1 hy with rfl | hy
      ·exact gx
      ·exact Zan R y hy)
     have en:nv (gN A j :: toL R)=gN A j+65536*R:=by rw [nv,Zam]
     rw [en] at cn;have hX:gN A j+65536*R < nv b*65536:=zo;obtain⟨X,hXd⟩:∃X,gN A j+65536*R=X:=⟨_,rfl⟩;rw [hXd] at cn hX
     have hXl:(toL X).length≤(toL (nv b)).length+1:=by
      rw [Zaf,ZAh];exact ZAq hX (Zzf _ (Nat.le_of_lt (Zaf.1 (Zyp (toL (nv b)).length))))
     have cd:=refDigit X (nv b) zo zo hbp hX;have hd:X/nv b < 65536:=by rw [ZBk hbp,Zzj];exact hX
     have hdm:=ZAy X (nv b);have hml:=Zzs X hbp;have co:=Zjk (X/nv b) zo;have ld:(toL (X/nv b)).length≤1:=Zaf.2 zo;have cm:=Zvs (toL (nv b)) (toL (X/nv b)) zo zo (Zan _) (Zan _);rw [Zam,Zam] at cm;have hle:nv b*(X/nv b)≤X:=zo;have cs:=refSub (toL X) (toL (nv b*(X/nv b))) zo (Zyz (Zat hle) zo) (Zan _) (Zan _);rw [Zam,Zam,Zyj zo,Zyj zo,show X - nv b*(X/nv b)=X%nv b by omega] at cs;have hcut:X/nv b%65536=X/nv b:=ZAt hd
     (repeat' (first|(with_reducible first|refine stp ?_|apply gx1|apply gx2|apply gx3|apply gx4|apply gx5|apply gx6|apply gx7|apply gw1 (cn)|refine gw0 (cd) ?_ ?_|refine gw0 (co) ?_ ?_|refine gw0 (cm) ?_ ?_|refine gw0 (cs) ?_ ?_)|(with_reducible refine Zcg ?_;intro _)|((with_reducible refine gE ?_);(try simp (disch:=omega) only [go_sem,e0,e1,e9,e7,e8,Znv,Zbc,hcut])<;>first|rfl|omega)|with_reducible refine Zai zd ?_))
     refine⟨j,_,Frz.own (d:=7) (gC) (gC),⟨zo,⟨gW e0,gW e1,gC⟩,X/nv b :: ql,X%nv b,⟨by(simp (disch:=omega) only [go_sem,Znv]<;>repeat' first|rfl|refine⟨?_,?_⟩),gC⟩,by simp [hql];omega,?_,hml,?_⟩,zo⟩
     ·intro y hy;rcases List.mem_cons.1 hy with rfl | hy
      ·exact hd
      ·exact hqL y hy
     ·rw [Zbx,hv,nv,Zze,Zzk 65536,←hXd];rw [←hXd] at hdm;rw [Zzj] at hdm;have:65536*(nv ql*nv b)=65536*nv ql*nv b:=by rw [Zz3]
      omega
   ·exact⟨Zyp _,⟨gC,gC,gC⟩,[],0,⟨by(simp (disch:=omega) only [go_sem,Zre]<;>repeat' first|rfl|refine⟨?_,?_⟩),by(simp (disch:=omega) only [go_sem,Zau,Zre]<;>repeat' first|rfl|refine⟨?_,?_⟩)⟩,by simp,Lm.nil,hbp,by rw [Zz6 (Zyp _)];simp [nv]⟩
theorem refGcd (a b:List Nat) (ha:a.length≤2000000000000) (hb:b.length≤2000000000000) (la:Lm a) (lb:Lm b):Pure prog 43 [lim a,lim b] (lim (toL (Nat.gcd (nv a) (nv b)))):=by
 have h1:=Zap la;have h2:=Zap lb
 have cd:∀x y:Nat,(toL x).length≤2000000000000→(toL y).length≤2000000000000→y≠0→Pure prog 83 [lim (toL x),lim (toL y)] (.tup [lim (toL (x/y)),lim (toL (x%y)),.v (.int .i64 0)]):=by
  intro x y hx hy h0;have:=Zn8 (toL x) (toL y) hx hy (Zan x) (Zan y) (by rw [Zam];exact h0)
  rwa [Zam,Zam] at this
 refine Zaa (tok:=0) (rs:=[.tmp 4]) func43 rfl ntmps43 results43 call43 zr zs ?_
 (refine wkvp w_t (w_2 (Zee a zo la) (Zee b zo lb)) (w_s ?_);intros)
 refine Zab (ι:=Nat) (λy e m=>∃x,(e 0=lim (toL x)∧e 1=lim (toL y))∧(toL x).length≤2000000000000∧(toL y).length≤2000000000000∧Nat.gcd x y=Nat.gcd (nv a) (nv b)) (λy=>y) (nv b) zr ?_ ?_
 ·rintro y e m ⟨x,⟨e0,e1⟩,hx,hy,hg⟩
  rcases Zz0 y with h0 | h0
  ·subst h0;have hl:=Zbf.2 (rfl:(0:Nat)=0);rw [Nat.gcd_zero_right] at hg
   (refine wkvp (w_3 e0 e1 hl) w_t (w_s ?_);intros)
   simp (disch:=omega) only [go_sem,hg]
  ·have hl:0 < (toL y).length:=by
    have:=(Zeb (show y≠0 by omega)).1;omega
   have hm:=Zzs x h0;have hml:(toL (x%y)).length≤2000000000000:=Zyz (Zat (Nat.le_of_lt hm)) hy;have hgg:Nat.gcd y (x%y)=Nat.gcd (nv a) (nv b):=by rw [←hg,ZB7 x y,Nat.gcd_rec y x,ZB7]
   (refine wkvp (w_2 e0 e1) (w_1 (cd x y hx hy zo)) (w_s ?_);intros)
   exact⟨x%y,⟨y,⟨gW e1,gC⟩,hy,hml,hgg⟩,hm⟩
 ·exact⟨nv a,⟨gC,gC⟩,zo,zo,rfl⟩
theorem nAdd (n m:Nat) (hn:(toL n).length≤1000000000000) (hm:(toL m).length≤1000000000000):Pure prog 158 [lim (toL n),lim (toL m)] (lim (toL (n+m))):=by
 have:=natAdd (toL n) (toL m) zo zo (Zan _) (Zan _)
 rwa [Zam,Zam] at this
theorem nMul (n m:Nat) (hn:(toL n).length≤1000000000000) (hm:(toL m).length≤1000000000000):Pure prog 65 [lim (toL n),lim (toL m)] (lim (toL (n*m))):=by
 have:=natMul (toL n) (toL m) zo zo (Zan _) (Zan _)
 rwa [Zam,Zam] at this
theorem nCmp (n m:Nat) (hn:(toL n).length≤1000000000000) (hm:(toL m).length≤1000000000000):Pure prog 151 [lim (toL n),lim (toL m)] (.v (.int .i64 (cmpN n m))):=by
 have:=Zr8 (toL n) (toL m) zo zo (Zan _) (Zan _)
 rwa [Zam,Zam] at this
theorem nSub (n m:Nat) (hn:(toL n).length≤1000000000000) (hm:(toL m).length≤1000000000000):Pure prog 159 [lim (toL n),lim (toL m)] (.tup [lim (if n < m then [] else toL (n - m)),.v (.int .i64 (if n < m then 2 else 0))]):=by
 have:=natSub (toL n) (toL m) zo zo (Zan _) (Zan _)
 rwa [Zam,Zam] at this
theorem Zqn (n m:Nat) (hn:(toL n).length≤1000000000000) (hm:(toL m).length≤1000000000000) (h0:m≠0):Pure prog 107 [lim (toL n),lim (toL m)] (.tup [lim (toL (n/m)),lim (toL (n%m)),.v (.int .i64 0)]):=by
 have:=Zos (toL n) (toL m) zo zo (Zan _) (Zan _) (by rw [Zam];exact h0)
 rwa [Zam,Zam] at this
theorem nGcd (n m:Nat) (hn:(toL n).length≤1000000000000) (hm:(toL m).length≤1000000000000):Pure prog 106 [lim (toL n),lim (toL m)] (lim (toL (Nat.gcd n m))):=by
 have:=natGcd (toL n) (toL m) zo zo (Zan _) (Zan _)
 rwa [Zam,Zam] at this
theorem Zqm (n:Nat) (hn:(toL n).length≤1000000000000):Pure prog 104 [lim (toL n)] (lim (toL n)):=by
 have:=Zm4 (toL n) zo (Zan _)
 rwa [Zam] at this
theorem nBits (n:Nat) (hn:(toL n).length≤1000000000000):Pure prog 103 [lim (toL n)] (.v (.int .i64 (Znn n:Nat))):=by
 have:=natBits (toL n) zo (Zan _)
 rwa [Zam] at this
theorem rAdd (n m:Nat) (hn:(toL n).length≤1000000000000) (hm:(toL m).length≤1000000000000):Pure prog 95 [lim (toL n),lim (toL m)] (lim (toL (n+m))):=by
 have:=refAdd (toL n) (toL m) zo zo (Zan _) (Zan _)
 rwa [Zam,Zam] at this
theorem rMul (n m:Nat) (hn:(toL n).length≤1000000000000) (hm:(toL m).length≤1000000000000):Pure prog 54 [lim (toL n),lim (toL m)] (lim (toL (n*m))):=by
 have:=Zvs (toL n) (toL m) zo zo (Zan _) (Zan _)
 rwa [Zam,Zam] at this
theorem rCmp (n m:Nat) (hn:(toL n).length≤1000000000000) (hm:(toL m).length≤1000000000000):Pure prog 149 [lim (toL n),lim (toL m)] (.v (.int .i64 (cmpN n m))):=by
 have:=Zvt (toL n) (toL m) zo zo (Zan _) (Zan _)
 rwa [Zam,Zam] at this
theorem rSub (n m:Nat) (hn:(toL n).length≤1000000000000) (hm:(toL m).length≤1000000000000):Pure prog 96 [lim (toL n),lim (toL m)] (.tup [lim (if n < m then [] else toL (n - m)),.v (.int .i64 (if n < m then 2 else 0))]):=by
 have:=refSub (toL n) (toL m) zo zo (Zan _) (Zan _)
 rwa [Zam,Zam] at this
theorem Zv7 (n m:Nat) (hn:(toL n).length≤1000000000000) (hm:(toL m).length≤1000000000000) (h0:m≠0):Pure prog 83 [lim (toL n),lim (toL m)] (.tup [lim (toL (n/m)),lim (toL (n%m)),.v (.int .i64 0)]):=by
 have:=Zn8 (toL n) (toL m) zo zo (Zan _) (Zan _) (by rw [Zam];exact h0)
 rwa [Zam,Zam] at this
theorem rGcd (n m:Nat) (hn:(toL n).length≤1000000000000) (hm:(toL m).length≤1000000000000):Pure prog 43 [lim (toL n),lim (toL m)] (lim (toL (Nat.gcd n m))):=by
 have:=refGcd (toL n) (toL m) zo zo (Zan _) (Zan _)
 rwa [Zam,Zam] at this
theorem rNorm (n:Nat) (hn:(toL n).length≤1000000000000):Pure prog 82 [lim (toL n)] (lim (toL n)):=by
 have:=Zee (toL n) zo (Zan _)
 rwa [Zam] at this
theorem szB:szOf prog 4=some 1:=by kernel_rfl
theorem zB:Zaq prog 4=some (.bool false):=by kernel_rfl
theorem Za9:szOf prog 24=some 1:=by kernel_rfl
theorem zNat:Zaq prog 24=some (.slice none 0 0):=by kernel_rfl
theorem Zba:szOf prog 26=some 2:=by kernel_rfl
theorem zInt:Zaq prog 26=some (.agg #[.bool false,.slice none 0 0]):=by kernel_rfl
theorem Za8:szOf prog 28=some 3:=by kernel_rfl
theorem zRat:Zaq prog 28=some (.agg #[.bool false,.slice none 0 0,.slice none 0 0]):=by kernel_rfl
abbrev intA (s:Bool) (n:Nat):AV:=.agg [.v (.bool s),lim (toL n)]
def zI (s:Bool) (n:Nat):Int:=if s then -(n:Int) else n
abbrev intZ (z:Int):AV:=intA (decide (z < 0)) z.natAbs
theorem Zb5 (z:Int):zI (decide (z < 0)) z.natAbs=z:=by
 unfold zI;by_cases h:z < 0
 ·rw [Zyk (by simpa using h)];omega
 ·rw [Zyj (by simpa using h)];omega
theorem Zd5 (s:Bool) (n:Nat):(zI s n).natAbs=n:=by cases s<;>simp [zI]
theorem zI_lt (s:Bool) (n:Nat):decide (zI s n < 0)=(s && decide (0 < n)):=by
 cases s
 ·simp [zI]
 ·simp only [zI,Zzb,ZAv];by_cases h:0 < n
  ·rw [Zyo zo,Zyo h]
  ·rw [Zyl zo,Zyl h]
theorem Zf7 (s:Bool) (n:Nat):intZ (zI s n)=.agg [.v (.bool (s && decide (0 < n))),lim (toL n)]:=by
 unfold intZ intA;rw [zI_lt,Zd5]
theorem Zbj {n:Nat}:(0 < (toL n).length)↔0 < n:=by
 have:=@Zbf n;omega
attribute [go_sem] underlying4 underlying26 underlying28 underlying41 underlying169 szB zB zNat zInt zRat
attribute [local go_sem] Za9 Zba Za8
theorem Ze5 (s:Bool) (n:Nat) (hn:(toL n).length≤10000000000000):Pure prog 101 [.v (.bool s),lim (toL n)] (intZ (zI s n)):=by
 rw [Zf7];have hp:=@Zbj n;cases s
 ·refine pI func101 rfl ntmps101 results101 call101 ?_
  (refine wkvp w_t w_t (w_s ?_);intros)
  simp (disch:=omega) only [go_sem,Zzc]
 ·by_cases h:0 < n
  ·refine pI func101 rfl ntmps101 results101 call101 ?_
   (refine wkvp w_t w_t (w_s ?_);intros)
   simp (disch:=omega) only [go_sem,Zyo h]
  ·refine pI func101 rfl ntmps101 results101 call101 ?_
   (refine wkvp w_t w_t (w_s ?_);intros)
   simp (disch:=omega) only [go_sem,Zyl h]
theorem intOf' (s:Bool) (n:Nat) (hn:(toL n).length≤1000000000000):Pure prog 153 [.v (.bool s),lim (toL n)] (intZ (zI s n)):=by
 rw [Zf7];have hp:=@Zbj n;cases s
 ·refine pI func153 rfl ntmps153 results153 call153 ?_
  (refine wkvp w_t (w_1 (Zqm n hn)) (w_s ?_);intros)
  simp (disch:=omega) only [go_sem,Zzc]
 ·by_cases h:0 < n
  ·refine pI func153 rfl ntmps153 results153 call153 ?_
   (refine wkvp w_t (w_1 (Zqm n hn)) (w_s ?_);intros)
   simp (disch:=omega) only [go_sem,Zyo h]
  ·refine pI func153 rfl ntmps153 results153 call153 ?_
   (refine wkvp w_t (w_1 (Zqm n hn)) (w_s ?_);intros)
   simp (disch:=omega) only [go_sem,Zyl h]
theorem intNorm (s:Bool) (n:Nat) (hn:(toL n).length≤1000000000000):Pure prog 105 [intA s n] (intZ (zI s n)):=by
 refine pI func105 rfl ntmps105 results105 call105 ?_
 (refine wkvp w_t (w_1 (intOf' s n hn)) (w_s ?_);intros)
 simp (disch:=omega) only [go_sem]
theorem Zqz (s:Bool) (n:Nat) (hn:(toL n).length≤1000000000000):Pure prog 100 [intA s n] (.v (.int .i64 (zI s n).sign)):=by
 by_cases h:n=0
 ·have hb:Znn n=0:=Zg9.2 h;have hz:(zI s n).sign=0:=by subst h;cases s<;>rfl
  rw [hz];refine pI func100 rfl ntmps100 results100 call100 ?_
  (refine wkvp (w_2 hb @ZA7) (w_1 (nBits n hn)) (w_s ?_);intros)
  simp (disch:=omega) only [go_sem]
 ·have hb:Znn n≠0:=λe=>h (Zg9.1 e);cases s
  ·have hz:(zI false n).sign=1:=ZC3 (by simp [zI];omega);rw [hz];refine pI func100 rfl ntmps100 results100 call100 ?_
   (refine wkvp w_t (w_1 (nBits n hn)) (w_s ?_);intros)
   simp (disch:=omega) only [go_sem]
  ·have hz:(zI true n).sign=-1:=ZB0 (by simp [zI];omega);rw [hz];refine pI func100 rfl ntmps100 results100 call100 ?_
   (refine wkvp w_t (w_1 (nBits n hn)) (w_s ?_);intros)
   simp (disch:=omega) only [go_sem]
def cmpZ (a b:Int):Int:=if a < b then -1 else if b < a then 1 else 0
theorem Zxh (n m:Nat) (hn:(toL n).length≤1000000000000) (hm:(toL m).length≤1000000000000):Pure prog 150 [lim (toL n),lim (toL m)] (.v (.int .i64 (cmpN n m))):=by
 refine pI func150 rfl ntmps150 results150 call150 ?_
 (refine wkvp w_t (w_1 (nCmp n m hn hm)) (w_s ?_);intros)
 simp (disch:=omega) only [go_sem]
theorem intCmp (s t:Bool) (n m:Nat) (hn:(toL n).length≤1000000000000) (hm:(toL m).length≤1000000000000):Pure prog 99 [intA s n,intA t m] (.v (.int .i64 (cmpZ (zI s n) (zI t m)))):=by
 have cs:=Zqz s n hn;have ct:=Zqz t m hm;rcases ZBp (zI s n).sign (zI t m).sign with h | h | h
 ·have hc:cmpZ (zI s n) (zI t m)=-1:=by
   unfold cmpZ;rw [Zyk];rcases ZBp (zI s n) 0 with h1 | h1 | h1<;>rcases ZBp (zI t m) 0 with h2 | h2 | h2<;>first
    | omega
    | (exfalso;simp [ZB0,ZC3,h1,h2] at h)
  rw [hc];refine pI func99 rfl ntmps99 results99 call99 ?_
  (refine wkad w_t (w_2 cs ct) (w_1 (w_d 1 [(1,.v (.int .i64 (zI s n).sign)),(3,.v (.int .i64 (zI t m).sign))] [] [])) (w_s ?_);intros)
  simp (disch:=omega) only [go_sem]
 ·have hcc:cmpZ (zI s n) (zI t m)=if (zI s n).sign < 0 then cmpN m n else cmpN n m:=by
   unfold cmpZ cmpN;cases s<;>cases t<;>simp only [zI,Zzb,Zyy,Zy8] at h ⊢
   ·have hs0:¬(n:Int).sign < 0:=by
     have:=Int.sign_nonneg_iff.2 (ZBy n);omega
    simp only [hs0,Zy8,Int.ofNat_lt]
   ·have h1:=Int.sign_nonneg_iff.2 (ZBy n)
    have h2:(-(m:Int)).sign≤0:=by
     rcases Zz0 m with h3 | h3
     ·subst h3;simp
     ·rw [ZB0 zo];omega
    have h3:(n:Int).sign=0:=zo;have h4:n=0:=by have:=Int.sign_eq_zero_iff_zero.1 h3;omega
    have h5:m=0:=by rw [h3] at h;have:=Int.sign_eq_zero_iff_zero.1 h.symm;omega
    subst h4;subst h5;simp
   ·have h1:=Int.sign_nonneg_iff.2 (ZBy m)
    have h2:(-(n:Int)).sign≤0:=by
     rcases Zz0 n with h3 | h3
     ·subst h3;simp
     ·rw [ZB0 zo];omega
    have h3:(m:Int).sign=0:=zo;have h4:m=0:=by have:=Int.sign_eq_zero_iff_zero.1 h3;omega
    have h5:n=0:=by rw [h3] at h;have:=Int.sign_eq_zero_iff_zero.1 h;omega
    subst h4;subst h5;simp
   ·rcases Zz0 n with h3 | h3
    ·subst h3;have h5:m=0:=by have:=Int.sign_eq_zero_iff_zero.1 h.symm;omega
     subst h5;simp
    ·rw [Zyk (c:=(-(n:Int)).sign < 0) (by rw [ZB0 zo];omega)];have e1:(-(n:Int) < -(m:Int))↔m < n:=zo;have e2:(-(m:Int) < -(n:Int))↔n < m:=zo;simp only [e1,e2]
  rw [hcc];by_cases hneg:(zI s n).sign < 0
  ·rw [Zyk hneg];refine pI func99 rfl ntmps99 results99 call99 ?_
   (refine wkad w_t (w_3 cs ct (Zxh m n hm hn)) (w_1 (w_d 1 [(1,.v (.int .i64 (zI s n).sign)),(3,.v (.int .i64 (zI t m).sign))] [] [])) (w_s ?_);intros)
   simp (disch:=omega) only [go_sem]
  ·rw [Zyj hneg];refine pI func99 rfl ntmps99 results99 call99 ?_
   (refine wkad w_t (w_3 cs ct (Zxh n m hn hm)) (w_1 (w_d 1 [(1,.v (.int .i64 (zI s n).sign)),(3,.v (.int .i64 (zI t m).sign))] [] [])) (w_s ?_);intros)
   simp (disch:=omega) only [go_sem]
 ·have hc:cmpZ (zI s n) (zI t m)=1:=by
   have h0:zI t m < zI s n:=by
    rcases ZBp (zI s n) 0 with h1 | h1 | h1<;>rcases ZBp (zI t m) 0 with h2 | h2 | h2<;>first
     | omega
     | (exfalso;simp [ZB0,ZC3,h1,h2] at h)
   unfold cmpZ;rw [Zyj zo,Zyk h0]
  rw [hc];refine pI func99 rfl ntmps99 results99 call99 ?_
  (refine wkad w_t (w_2 cs ct) (w_1 (w_d 1 [(1,.v (.int .i64 (zI s n).sign)),(3,.v (.int .i64 (zI t m).sign))] [] [])) (w_s ?_);intros)
  simp (disch:=omega) only [go_sem]
theorem Zsi (s t:Bool) (n m:Nat) (hn:(toL n).length≤1000000000000) (hm:(toL m).length≤1000000000000):Pure prog 63 [intA s n,intA t m] (intZ (zI s n*zI t m)):=by
 have e:zI s n*zI t m=zI (s != t) (n*m):=by cases s<;>cases t<;>simp [zI,Int.mul_neg,Int.neg_mul]
 have lm:(toL (n*m)).length≤10000000000000:=by
  have h5:(toL (n*m)).length≤(toL n).length+(toL m).length:=by
   rw [Zaf,ZAp];exact Nat.mul_lt_mul'' (Zaf.1 (Zyp _)) (Zaf.1 (Zyp _))
  omega
 rw [e];have hne:(!(s == t))=(s != t):=rfl;refine pI func63 rfl ntmps63 results63 call63 ?_
 (refine wkad (w_1 hne) (w_2 (nMul n m hn hm) (Ze5 (s != t) (n*m) lm)) (w_1 (w_d 1 [(9,lim (toL (n*m))),(10,intZ (zI (s != t) (n*m)))] [11] [])) (w_s ?_);intros)
 simp (disch:=omega) only [go_sem]
theorem intAdd (s t:Bool) (n m:Nat) (hn:(toL n).length≤1000000000000) (hm:(toL m).length≤1000000000000):Pure prog 108 [intA s n,intA t m] (intZ (zI s n+zI t m)):=by
 by_cases hst:s=t
 ·subst hst;have e:zI s n+zI s m=zI s (n+m):=by cases s<;>simp [zI]<;>omega
  have la:(toL (n+m)).length≤10000000000000:=by
   have h5:(toL (n+m)).length≤max (toL n).length (toL m).length+1:=by
    rw [Zaf,ZAh];have h1:=Zaf.1 (Nat.le_max_left (toL n).length (toL m).length);have h2:=Zaf.1 (Nat.le_max_right (toL n).length (toL m).length);generalize 65536 ^ max (toL n).length (toL m).length=p at *;omega
   omega
  rw [e];have hb:(s == s)=true:=by cases s<;>rfl
  refine pI func108 rfl ntmps108 results108 call108 ?_
  (refine wkad (w_1 hb) (w_2 (nAdd n m hn hm) (Ze5 s (n+m) la)) (w_1 (w_d 2 [(6,lim (toL (n+m))),(7,intZ (zI s (n+m)))] [8] [])) (w_s ?_);intros)
  simp (disch:=omega) only [go_sem]
 ·have hb:(s == t)=false:=by cases s<;>cases t<;>first|rfl|exact absurd rfl hst
  have ht:t=!s:=by cases s<;>cases t<;>first|rfl|exact absurd rfl hst
  by_cases hlt:n < m
  ·have hc:cmpN n m=-1:=Zyk hlt;have e:zI s n+zI t m=zI t (m - n):=by rw [ht];cases s<;>simp [zI]<;>omega
   have ls:(toL (m - n)).length≤10000000000000:=Zyz (Zat (Nat.sub_le _ _)) zo;have cs:=nSub m n hm hn;rw [Zyj zo,Zyj zo] at cs;rw [e];refine pI func108 rfl ntmps108 results108 call108 ?_
   (refine wkad (w_2 hb hc) (w_3 (nCmp n m hn hm) cs (Ze5 t (m - n) ls)) w_t (w_s ?_);intros)
   simp (disch:=omega) only [go_sem]
  ·have hc:0≤cmpN n m:=by unfold cmpN;rw [Zyj hlt];split<;>omega
   have e:zI s n+zI t m=zI s (n - m):=by rw [ht];cases s<;>simp [zI]<;>omega
   have ls:(toL (n - m)).length≤10000000000000:=Zyz (Zat (Nat.sub_le _ _)) zo;have cs:=nSub n m hn hm;rw [Zyj zo,Zyj zo] at cs;rw [e];refine pI func108 rfl ntmps108 results108 call108 ?_
   (refine wkad (w_1 hb) (w_3 (nCmp n m hn hm) cs (Ze5 s (n - m) ls)) w_t (w_s ?_);intros)
   simp (disch:=omega) only [go_sem]
theorem Zxg (s:Bool) (n m:Nat) (hn:(toL n).length≤100000000000) (hm:(toL m).length≤100000000000) (h0:m≠0):Pure prog 110 [intA s n,intA false m] (.tup [intZ (zI s n/m),intZ (zI s n%m),.v (.int .i64 0)]):=by
 have cd:=Zqn n m zo zo h0;have hq:(toL (n/m)).length≤100000000000:=Zyz (Zat (ZCu _ _)) hn;have hr:(toL (n%m)).length≤100000000000:=Zyz (Zat (Nat.mod_le _ _)) hn;have hp:=@Zbj (n%m);have hmp:=ZAz h0;cases s
 ·have e1:zI false n/m=zI false (n/m):=by simp [zI]
  have e2:zI false n%m=zI false (n%m):=by simp [zI]
  rw [e1,e2];refine pI func110 rfl ntmps110 results110 call110 ?_;(focus (refine wkad (w_1 @ZB4) (w_3 cd (Ze5 false (n/m) zo) (Ze5 false (n%m) zo)) w_t ?_;(repeat' first|exact w_t|apply w_l);all_goals intros));simp (disch:=omega) only [go_sem]
 ·by_cases hz:n%m=0
  ·have hdm:=ZAy n m;rw [hz,Zzm] at hdm
   have e1:zI true n/m=zI true (n/m):=by
    simp only [zI,Zzb];have:(n:Int)=(m:Int)*((n/m:Nat):Int):=by rw [←Int.natCast_mul,hdm]
    rw [this,←Int.mul_neg,ZC4 _ zo]
   have e2:zI true n%m=zI false 0:=by
    simp only [zI,Zzb,Zyy,Zy8];have:(n:Int)=(m:Int)*((n/m:Nat):Int):=by rw [←Int.natCast_mul,hdm]
    rw [this,←Int.mul_neg,Int.mul_emod_right];rfl
   have l0:¬0 < (toL (n%m)).length:=by rw [hp,hz];omega
   have l0':(toL 0).length=0:=by rw [Zau];rfl
   rw [hz] at cd;rw [e1,e2];refine pI func110 rfl ntmps110 results110 call110 ?_;(focus (refine wkad (w_1 l0') (w_3 cd (Ze5 true (n/m) zo) (Ze5 false 0 zo)) w_t ?_;(repeat' first|exact w_t|apply w_l);all_goals intros));simp (disch:=omega) only [go_sem]
  ·have hrp:0 < (toL (n%m)).length:=hp.2 zo;have hml:=Zzs n hmp;have hdm:=ZAy n m;have hnn:(n:Int)=(m:Int)*((n/m:Nat):Int)+((n%m:Nat):Int):=by rw [←Int.natCast_mul,←Int.natCast_add,hdm]
   have ee:zI true n=(m:Int)*(-(((n/m+1:Nat):Nat):Int))+((m - n%m:Nat):Int):=by
    simp only [zI,Zzb];have h5:((m - n%m:Nat):Int)=(m:Int) - ((n%m:Nat):Int):=zo
    have h6:(m:Int)*(-(((n/m+1:Nat):Nat):Int))=-((m:Int)*((n/m:Nat):Int)) - m:=by
     rw [Int.natCast_add,Int.mul_neg,Int.mul_add];generalize (m:Int)*((n/m:Nat):Int)=z;simp only [Int.natCast_one,Int.mul_one];omega
    rw [h5,h6];generalize (m:Int)*((n/m:Nat):Int)=z at hnn ⊢;omega
   have hlt:((m - n%m:Nat):Int) < (m:Int):=zo
   have e1:zI true n/m=zI true (n/m+1):=by
    rw [ee,Int.mul_add_ediv_left _ _ zo,Int.ediv_eq_zero_of_lt (ZBy _) hlt,Int.add_zero];rfl
   have e2:zI true n%m=zI false (m - n%m):=by
    rw [ee,Int.mul_add_emod_self_left,Int.emod_eq_of_lt (ZBy _) hlt];rfl
   have lq:(toL (n/m+1)).length≤10000000000000:=by
    have h5:(toL (n/m+1)).length≤(toL (n/m)).length+1:=by
     rw [Zaf,ZAh];have h1:=Zaf.1 (Zyp (toL (n/m)).length);have h2:0 < 65536 ^ (toL (n/m)).length:=Nat.pow_pos zo;generalize 65536 ^ (toL (n/m)).length=p at *;omega
    omega
   have lr:(toL (m - n%m)).length≤10000000000000:=Zyz (Zat (Nat.sub_le _ _)) zo;have t1:toL 1=[1]:=by rw [Zeu zo];simp [Zau]
   have ca:=nAdd (n/m) 1 zo (by rw [t1];simp);rw [t1] at ca;have cs:=nSub m (n%m) zo zo;rw [Zyj zo,Zyj zo] at cs;rw [e1,e2];refine pI func110 rfl ntmps110 results110 call110 ?_;(focus (refine wkax w_t (w_4 cd cs (Ze5 true (n/m+1) lq) (Ze5 false (m - n%m) lr)) w_t (w_1 ca) w_t w_t w_y (w_r 0) ?_;(repeat' first|exact w_t|apply w_l);all_goals intros));simp (disch:=omega) only [go_sem]
end Go.Proofs.YtjbjejmmnbdbiaaGreat
