/- Contracts of the functions that the law reaches, and the rules by which they are walked. They say what a call hands back for every input within the bounds that each names; no other condition. -/
import Derived.Test.YtaedgaikloifgaaGreatDoorBd7
set_option linter.unusedSimpArgs false
set_option linter.unusedVariables false
set_option maxRecDepth 20000
set_option maxHeartbeats 16000000
namespace Go.Proofs.YtaedgaikloifgaaGreatDoor
open Go Go.RowKit Go.Pg Go.Pol Go.Proofs.Tryz
attribute [-bool_to_prop] Bool.and_eq_decide Bool.or_eq_decide Bool.decide_beq_decide decide_eq_decide
attribute [local go_sem] Zec Zdl Zdu Zca Zcc Zcb Zcg Zcj Zd6 Zch Zck Zd7 Zeb Zd9 Zd8 Zea eqP2 Zen Zey rg2
abbrev yV (l:Nat):Value:=.func (.yield l) #[] #[]
theorem Zru (k:Int):(Zcs k).length≤10:=by
 unfold Zcs
 repeat' split
 all_goals simp
theorem Zr0 (k:Int):(Zct k).length≤10:=by
 unfold Zct
 repeat' split
 all_goals simp
theorem Zjj (ss:List RS) (i:Nat):∀n,i≤n→∃r,Za1 ss n=Za1 ss i++r
 | 0,h=>⟨[],by rw [Nat.le_zero.1 h,Zxl]⟩
 | n+1,h=>by
   by_cases hi:i=n+1
   ·subst hi;exact⟨[],(Zxl _).symm⟩
   ·obtain⟨r,hr⟩:=Zjj ss i n zo;exact⟨r++(match ss[n]? with | some s=>Zd2 n s | none=>[]),by rw [←Zxe,←hr];rfl⟩
theorem Zka (gs:List RG) (i:Nat):∀n,i≤n→∃r,Zbo gs n=Zbo gs i++r
 | 0,h=>⟨[],by rw [Nat.le_zero.1 h,Zxl]⟩
 | n+1,h=>by
   by_cases hi:i=n+1
   ·subst hi;exact⟨[],(Zxl _).symm⟩
   ·obtain⟨r,hr⟩:=Zka gs i n zo;exact⟨r++(match gs[n]? with | some s=>Zd4 s | none=>[]),by rw [←Zxe,←hr];rfl⟩
theorem Zsr {ss:List RS} {gs:List RG} {i j:Nat} (h:i < ss.length) {p:Pr} (hp:(Zd2 i ss[i])[j]?=some p):(Zcf ss gs)[(Za1 ss i).length+j]?=some p:=by
 obtain⟨r,hr⟩:=Zjj ss (i+1) ss.length zo;have hj:j < (Zd2 i ss[i]).length:=(List.getElem?_eq_some_iff.1 hp).1;unfold Zcf;rw [hr,Zf6 h,Zxe,Zxe,Zw7 zo,Zyv,Zw5 hj];exact hp
theorem Zss {ss:List RS} {gs:List RG} {i j:Nat} (h:i < gs.length) {p:Pr} (hp:(Zd4 gs[i])[j]?=some p):(Zcf ss gs)[(Za1 ss ss.length).length+((Zbo gs i).length+j)]?=some p:=by
 obtain⟨r,hr⟩:=Zka gs (i+1) gs.length zo;have hj:j < (Zd4 gs[i]).length:=(List.getElem?_eq_some_iff.1 hp).1;unfold Zcf;rw [hr,Zgf h,Zw7 zo,Zyv,Zxe,Zw7 zo,Zyv,Zw5 hj];exact hp
theorem prIt (l:Nat) (ss:List RS) (gs:List RG) (σ:Mem) (J:Nat→Mem→Prop) (hl:ss.length≤40) (hgl:gs.length≤8)
 (hs:∀i (h:i < ss.length),∀p∈Zcs ss[i].k,p.1 < (ss[i].ar.length:Int)∧p.2 < (ss[i].ar.length:Int))
 (hg:∀i (h:i < gs.length),∀p∈Zct gs[i].k,0≤p.1∧p.1 < (gs[i].ar.length:Int)∧0≤p.2∧p.2 < (gs[i].ar.length:Int))
 (hY:∀(j:Nat) (p:Pr),(Zcf ss gs)[j]?=some p→∀(m σ':Mem),Agr m σ'→J j σ'→YCall prog l [prA p] m λr m'=>r=.v (.bool true)∧∃σ'',Agr m' σ''∧J (j+1) σ'')
 (h0:J 0 σ):ACall prog 71 [.v (yV l),.pimm [.sl 6 (ss.map RS.av),.sl 5 (gs.map RG.av)],.pimm [.fn 31 []],.pimm [.fn 32 []]] σ λr σ'=>J (Zcf ss gs).length σ':=by
 have hls:(ss.map RS.av).length=ss.length:=Zv9 ..;have hlg:(gs.map RG.av).length=gs.length:=Zv9 ..;have kS:∀i (h:i < ss.length),(ss.map RS.av).getD i .u=ss[i].av:=λi h=>Zaf RS.av h;have kG:∀i (h:i < gs.length),(gs.map RG.av).getD i .u=gs[i].av:=λi h=>Zaf RG.av h;generalize ss.map RS.av=M at *;generalize gs.map RG.av=N at *;refine Zc4 func71 rfl ntmps71 results71 call71 zr zs ?_;have hAg:=Agr.start σ;generalize lents σ=m0 at *;have hYd:∀(V:Value),V=yV l→True:=λ_ _=>trivial;show Zat _ _ _ _ _ ⟨λt=>[AV.v (yV l),.pimm [.sl 6 M,.sl 5 N],.pimm [.fn 31 []],.pimm [.fn 32 []]].getD t .u,m0⟩
 obtain⟨yv,hyv⟩:∃yv:AV,AV.v (yV l)=yv:=⟨_,rfl⟩;rw [hyv];(focus (refine wkad (w_1 hls) w_t w_t ?_;(repeat' first|exact w_t|apply w_l);all_goals intros));refine Zai (ι:=Nat) (λi e m=>i≤ss.length∧(e 0=yv∧e 1=.pimm [.sl 6 M,.sl 5 N]∧e 2=.pimm [.fn 31 []]∧e 3=.pimm [.fn 32 []])∧e 15=.sl 6 M∧e 16=iv ss.length∧e 17=iv i∧∃σ',Agr m σ'∧J (Za1 ss i).length σ') (λi=>ss.length - i) 0 zr ?_ ?_
 ·rintro i e m ⟨hi,⟨e0,e1,e2,e3⟩,e15,e16,e17,σ1,hA1,hJ1⟩
  by_cases hlt:i < ss.length
  ·have gi:=kS i hlt;have hsi:=hs i hlt;have hsu:=Zf6 hlt;have hap:=fun(j:Nat) (p:Pr) (h:(Zd2 i ss[i])[j]?=some p)=>hY _ p (Zsr (gs:=gs) hlt h);generalize ss[i]=s at *;obtain⟨k0,nm,ar,⟨rs,rl,rd⟩⟩:=s;have cS:=drSides k0;simp only at hsi;have hLl:((Zcs k0).map prA).length=(Zcs k0).length:=Zv9 ..;have kLs:∀j (h:j < (Zcs k0).length),((Zcs k0).map prA).getD j .u=prA (Zcs k0)[j]:=λj h=>Zaf prA h;have hst:Zd2 i ⟨k0,nm,ar,⟨rs,rl,rd⟩⟩=(Zcs k0).map λp=>(atN i ar p.1,atN i ar p.2):=rfl;rw [hst] at hsu;have hLb:=Zru k0;generalize Zcs k0=L at *
   generalize L.map prA=LA at *;(focus (refine wkad (w_9 e0 e1 e2 e3 e15 e16 e17 gi hLl) (w_1 cS) w_t ?_;(repeat' first|exact w_t|apply w_l);all_goals intros));rename_i g5 g6;refine Zez (Frz.pub (d:=7) (a:=.fn 72 [.pbox 5 g5 0,.pbox 6 g6 0]) (gC) (gC)) ?_;refine Zai (ι:=Nat) (λj e m=>j≤L.length∧(e 0=yv∧e 1=.pimm [.sl 6 M,.sl 5 N]∧e 2=.pimm [.fn 31 []]∧e 3=.pimm [.fn 32 []])∧e 15=.sl 6 M∧e 16=iv ss.length∧e 17=iv i∧e 7=.fn 72 [.pimm [iv i],.pimm [iv k0,strA nm,ivs ar,.v (.bool rs),lim rl,lim rd]]∧e 26=.sl 2 LA∧e 27=iv L.length∧e 28=iv j∧∃σ',Agr m σ'∧J ((Za1 ss i).length+j) σ') (λj=>L.length - j) 0 zr ?_ ?_
   ·rintro j e m ⟨hj,⟨e0,e1,e2,e3⟩,e15,e16,e17,e7,e26,e27,e28,σ1,hA1,hJ1⟩
    by_cases hjl:j < L.length
    ·have gj:=kLs j hjl;obtain⟨hp1,hp2⟩:=hsi _ (Zwq hjl);have cA1:=drAt i _ k0 nm ar rs rl rd hp1;have cA2:=drAt i _ k0 nm ar rs rl rd hp2;have hh:=fun(m':Mem) (hA:Agr m' σ1)=>hap j (atN i ar L[j].1,atN i ar L[j].2) (by rw [hst,Zw9,Zwb hjl];rfl) m' σ1 hA hJ1;clear hap;generalize L[j]=p at *;obtain⟨p1,p2⟩:=p;simp only at cA1 cA2 hh;have gj:LA.getD j .u=.agg [iv p1,iv p2]:=gj;(focus (refine wkax (w_13 e0 e1 e2 e3 e15 e16 e17 e7 e26 e27 e28 gj hLl) w_t w_t w_t w_t w_t w_t (w_r 0) ?_;(repeat' first|exact w_t|apply w_l);all_goals intros));refine Zl0 10 (Za3 [(4,iv (atN i ar p1)),(8,iv (atN i ar p2))]) [] [] (by simp only [ZAq,Zy6];rfl) (by simp only [ZAp,Zxy];rfl) zk zr zk zk (by simp only [Zwd,Zwi,Nat.reduceAdd];rfl) ?_
     (focus (refine wkax (w_11 e0 e1 e2 e3 e15 e16 e17 e7 e26 e27 e28) (w_2 cA1 cA2) w_t w_t w_t w_t w_t (w_r 0) ?_;(repeat' first|exact w_t|apply w_l);all_goals intros));intro _;refine⟨_,Frz.refl _ _,.inr ⟨.tmp 32,l,#[.tmp 41],_,rfl,?_,?_⟩⟩
     ·rw [hyv];exact gW e0
     ·refine YCall.mono (show YCall prog l [.agg [iv (atN i ar p1),iv (atN i ar p2)]] _ _ from hh _ ?_) ?_
      ·(repeat' (first|exact hA1|(refine Agr.own ?_ zo)))
      ·rintro _ m2 ⟨rfl,σ2,hA2,hJ2⟩
       refine⟨_,Frz.refl _ _,λ_=>⟨_,Frz.refl _ _,.inl ?_⟩⟩;(focus (refine wkax (w_11 e0 e1 e2 e3 e15 e16 e17 e7 e26 e27 e28) w_t w_t w_t w_t w_t w_t (w_r 0) ?_;(repeat' first|exact w_t|apply w_l);all_goals intros));refine⟨_,Frz.refl _ _,Zgw ?_⟩;(focus (refine wkad (w_11 e0 e1 e2 e3 e15 e16 e17 e7 e26 e27 e28) w_t w_t ?_;(repeat' first|exact w_t|apply w_l);all_goals intros));exact⟨j+1,⟨zo,⟨gW e0,gW e1,gW e2,gW e3⟩,gW e15,gW e16,gW e17,gW e7,gW e26,gW e27,gS,σ2,hA2,hJ2⟩,zo⟩
    ·have hjj:j=L.length:=zo;subst hjj;have hsl:(Za1 ss (i+1)).length=(Za1 ss i).length+L.length:=by rw [hsu,Zwy,Zv9]
     rw [←hsl] at hJ1;(focus (refine wkad (w_11 e0 e1 e2 e3 e15 e16 e17 e7 e26 e27 e28) w_t w_t ?_;(repeat' first|exact w_t|apply w_l);all_goals intros));exact⟨i+1,⟨zo,⟨gW e0,gW e1,gW e2,gW e3⟩,gW e15,gW e16,gS,σ1,hA1,hJ1⟩,zo⟩
   ·exact⟨Zwk _,⟨gW e0,gW e1,gW e2,gW e3⟩,gW e15,gW e16,gW e17,gC,gC,by(simp (disch:=omega) only [go_sem,hLl]<;>repeat' first|rfl|refine⟨?_,?_⟩),gC,σ1,by(repeat' (first|exact hA1|(refine Agr.own ?_ zo))),hJ1⟩
  ·have hii:i=ss.length:=zo;subst hii;(focus (refine wkad (w_8 e0 e1 e2 e3 e15 e16 e17 hlg) w_t w_t ?_;(repeat' first|exact w_t|apply w_l);all_goals intros));refine Zai (ι:=Nat) (λi e m=>i≤gs.length∧(e 0=yv∧e 1=.pimm [.sl 6 M,.sl 5 N]∧e 3=.pimm [.fn 32 []])∧e 47=.sl 5 N∧e 48=iv gs.length∧e 49=iv i∧∃σ',Agr m σ'∧J ((Za1 ss ss.length).length+(Zbo gs i).length) σ') (λi=>gs.length - i) 0 zr ?_ ?_
   ·rintro i e m ⟨hi,⟨e0,e1,e3⟩,e47,e48,e49,σ1,hA1,hJ1⟩
    by_cases hlt:i < gs.length
    ·have gi:=kG i hlt;have hgi:=hg i hlt;have hsu:=Zgf hlt;have hap:=fun(j:Nat) (p:Pr) (h:(Zd4 gs[i])[j]?=some p)=>hY _ p (Zss (ss:=ss) hlt h);generalize gs[i]=g at *;obtain⟨k0,ar,⟨rs,rl,rd⟩⟩:=g;have cS:=drParts k0;simp only at hgi;have hLl:((Zct k0).map prA).length=(Zct k0).length:=Zv9 ..;have kLs:∀j (h:j < (Zct k0).length),((Zct k0).map prA).getD j .u=prA (Zct k0)[j]:=λj h=>Zaf prA h;have hst:Zd4 ⟨k0,ar,⟨rs,rl,rd⟩⟩=(Zct k0).map λp=>(gI ar p.1.toNat,gI ar p.2.toNat):=rfl;rw [hst] at hsu;have hll:(ar.map iv).length=ar.length:=Zv9 ..
     have kA:∀j:Nat,j < ar.length→(ar.map iv).getD j .u=iv (gI ar j):=λj h=>by rw [Zaf iv h,Zbp h]
     have hLb:=Zr0 k0;generalize Zct k0=L at *;generalize L.map prA=LA at *;(focus (refine wkad (w_8 e0 e1 e3 e47 e48 e49 gi hLl) (w_1 cS) w_t ?_;(repeat' first|exact w_t|apply w_l);all_goals intros));rename_i g11;refine Zez (Frz.pub (d:=11) (a:=.pbox 11 g11 0) (gC) (gC)) ?_;refine Zai (ι:=Nat) (λj e m=>j≤L.length∧(e 0=yv∧e 1=.pimm [.sl 6 M,.sl 5 N]∧e 3=.pimm [.fn 32 []])∧e 47=.sl 5 N∧e 48=iv gs.length∧e 49=iv i∧e 11=.pimm [iv k0,ivs ar,.v (.bool rs),lim rl,lim rd]∧e 56=.sl 2 LA∧e 57=iv L.length∧e 58=iv j∧∃σ',Agr m σ'∧J ((Za1 ss ss.length).length+((Zbo gs i).length+j)) σ') (λj=>L.length - j) 0 zr ?_ ?_
     ·rintro j e m ⟨hj,⟨e0,e1,e3⟩,e47,e48,e49,e11,e56,e57,e58,σ1,hA1,hJ1⟩
      by_cases hjl:j < L.length
      ·have gj:=kLs j hjl;obtain⟨hp0,hp1,hp2,hp3⟩:=hgi _ (Zwq hjl);have hh:=fun(m':Mem) (hA:Agr m' σ1)=>hap j (gI ar L[j].1.toNat,gI ar L[j].2.toNat) (by rw [hst,Zw9,Zwb hjl];rfl) m' σ1 hA hJ1;clear hap;have a1:=kA L[j].1.toNat zo;have a2:=kA L[j].2.toNat zo;generalize L[j]=p at *;obtain⟨p1,p2⟩:=p;simp only at hp0 hp1 hp2 hp3 hh a1 a2;have gj:LA.getD j .u=.agg [iv p1,iv p2]:=gj;(focus (refine wkax (w_12 e0 e1 e3 e47 e48 e49 e11 e56 e57 e58 gj hLl) w_t w_t w_t w_t w_t w_t (w_r 0) ?_;(repeat' first|exact w_t|apply w_l);all_goals intros));refine Zl0 14 (Za3 []) [] [] (by simp only [ZAq,Zy6];rfl) (by simp only [ZAp,Zxy];rfl) zk zr zk zk (by simp only [Zwd,Zwi,Nat.reduceAdd];rfl) ?_
       (focus (refine wkax (w_13 e0 e1 e3 e47 e48 e49 e11 e56 e57 e58 hll a1 a2) w_t w_t w_t w_t w_t w_t (w_r 0) ?_;(repeat' first|exact w_t|apply w_l);all_goals intros));intro _;refine⟨_,Frz.refl _ _,.inr ⟨.tmp 62,l,#[.tmp 75],_,rfl,?_,?_⟩⟩
       ·rw [hyv];exact gW e0
       ·refine YCall.mono (show YCall prog l [.agg [iv (gI ar p1.toNat),iv (gI ar p2.toNat)]] _ _ from hh _ ?_) ?_
        ·(repeat' (first|exact hA1|(refine Agr.own ?_ zo)))
        ·rintro _ m2 ⟨rfl,σ2,hA2,hJ2⟩
         refine⟨_,Frz.refl _ _,λ_=>⟨_,Frz.refl _ _,.inl ?_⟩⟩;(focus (refine wkax (w_10 e0 e1 e3 e47 e48 e49 e11 e56 e57 e58) w_t w_t w_t w_t w_t w_t (w_r 0) ?_;(repeat' first|exact w_t|apply w_l);all_goals intros));refine⟨_,Frz.refl _ _,Zgw ?_⟩;(focus (refine wkad (w_10 e0 e1 e3 e47 e48 e49 e11 e56 e57 e58) w_t w_t ?_;(repeat' first|exact w_t|apply w_l);all_goals intros));exact⟨j+1,⟨zo,⟨gW e0,gW e1,gW e3⟩,gW e47,gW e48,gW e49,gW e11,gW e56,gW e57,gS,σ2,hA2,hJ2⟩,zo⟩
      ·have hjj:j=L.length:=zo;subst hjj;have hsl:(Zbo gs (i+1)).length=(Zbo gs i).length+L.length:=by rw [hsu,Zwy,Zv9]
       rw [←hsl] at hJ1;(focus (refine wkad (w_10 e0 e1 e3 e47 e48 e49 e11 e56 e57 e58) w_t w_t ?_;(repeat' first|exact w_t|apply w_l);all_goals intros));exact⟨i+1,⟨zo,⟨gW e0,gW e1,gW e3⟩,gW e47,gW e48,gS,σ1,hA1,hJ1⟩,zo⟩
     ·exact⟨Zwk _,⟨gW e0,gW e1,gW e3⟩,gW e47,gW e48,gW e49,gC,gC,by(simp (disch:=omega) only [go_sem,hLl]<;>repeat' first|rfl|refine⟨?_,?_⟩),gC,σ1,by(repeat' (first|exact hA1|(refine Agr.own ?_ zo))),hJ1⟩
    ·have hii:i=gs.length:=zo;subst hii;have hal:(Za1 ss ss.length).length+(Zbo gs gs.length).length=(Zcf ss gs).length:=(Zwy ..).symm;rw [hal] at hJ1;(focus (refine wkad (w_6 e0 e1 e3 e47 e48 e49) w_t w_t ?_;(repeat' first|exact w_t|apply w_l);all_goals intros));exact Zoi (r:=.tup []) (Sub.refl _) hJ1 hA1
   ·exact⟨Zwk _,⟨gW e0,gW e1,gW e3⟩,gC,gW hlg,gC,σ1,hA1,hJ1⟩
 ·exact⟨Zwk _,⟨gC,gC,gC,gC⟩,gC,gC,gC,σ,hAg,h0⟩
theorem irRaw (s:Bool) (l:List Nat) (hl:Lm l) (hs:l.length≤100000000):Pure prog 157 [.agg [.v (.bool s),lim l]] (.v (.bool (RQ.zok s l))):=by
 unfold RQ.zok valL;by_cases h:l.length=0
 ·rw [Zv8 h,Bool.true_or,Zyj,Bool.and_true];cases s
  ·refine pI func157 rfl ntmps157 results157 call157 ?_;exact wklp (w_1 @Zau) w_t w_t (w_r 0) w_z
  ·refine pI func157 rfl ntmps157 results157 call157 ?_;exact wklp (w_1 @Zau) w_t w_t (w_r 0) w_z
 ·rw [Zv7 h,Bool.false_or,Zy9,Zz0,Bool.and_true];have ei:(l.length:Int) - 1=((l.length - 1:Nat):Int):=zo;have hlm:=Zbi hl (l.length - 1);by_cases hg:gN l (l.length - 1)=0
  ·rw [Zv8 hg];cases s
   ·refine pI func157 rfl ntmps157 results157 call157 ?_;exact wklp (w_2 ei @Zau) w_t (w_1 @Zzk) (w_r 0) w_z
   ·refine pI func157 rfl ntmps157 results157 call157 ?_;exact wklp (w_2 ei @Zau) w_t (w_1 @Zzk) (w_r 0) w_z
  ·rw [Zv7 hg];cases s
   ·refine pI func157 rfl ntmps157 results157 call157 ?_;exact wklp (w_2 ei @Zau) w_t (w_1 @Zz0) (w_r 0) w_z
   ·refine pI func157 rfl ntmps157 results157 call157 ?_;exact wklp (w_2 ei @Zau) w_t (w_1 @Zz0) (w_r 0) w_z
theorem Ztk (r:RQ) (h:r.lm 100000000):Pure prog 113 [r.av] (.v (.bool r.ok)):=by
 obtain⟨s,l,d⟩:=r;obtain⟨h1,h2,h3,h4⟩:=h;simp only at h1 h2 h3 h4;have c1:=irRaw s l h1 h3;unfold RQ.ok;simp only;generalize RQ.zok s l=z at *;by_cases hd:d.length=0
 ·have:decide (0 < d.length)=false:=Zv7 zo;rw [this,Zy9];cases z
  ·refine pI func113 rfl ntmps113 results113 call113 ?_;exact wklp (w_1 @Zau) (w_1 c1) w_t (w_r 0) w_z
  ·refine pI func113 rfl ntmps113 results113 call113 ?_;exact wklp (w_1 @Zau) (w_1 c1) w_t (w_r 0) w_z
 ·have:decide (0 < d.length)=true:=Zv8 zo;rw [this,Bool.and_true];have ei:(d.length:Int) - 1=((d.length - 1:Nat):Int):=zo;have hlm:=Zbi h2 (d.length - 1)
  cases z with
  | false =>
    rw [Zwx,Zwx];refine pI func113 rfl ntmps113 results113 call113 ?_;exact wklp (w_1 @Zau) (w_1 c1) w_t (w_r 0) w_z
  | true =>
    rw [Zyj];by_cases hg:gN d (d.length - 1)=0
    ·have:valL d=false:=by unfold valL;rw [Zv7 hd,Zv8 hg];rfl
     rw [this,Zwx];refine pI func113 rfl ntmps113 results113 call113 ?_;exact wklp (w_2 ei @Zau) (w_1 c1) w_t (w_r 0) w_z
    ·have hv:valL d=true:=by unfold valL;rw [Zv7 hd,Zv7 hg];rfl
     rw [hv,Zyj];have hdt:=(Zln h2).1 hv;have l4:(toL (nv d)).length≤100000000:=by rw [←hdt];exact h4
     have c2:=Zk0 (nv d) zo;have c3:=natGcd l d zo zo h1 h2
     have n0:nv d≠0:=by
      intro h0;rw [h0,Zaq] at hdt;rw [hdt] at hd;exact hd rfl
     have gl:(toL (Nat.gcd (nv l) (nv d))).length≤100000000:=Zwj (Zco (Nat.gcd_le_right _ zo)) l4;have c4:=Zk0 (Nat.gcd (nv l) (nv d)) zo;rw [←hdt] at c2;have hb:(Nat.gcd (nv l) (nv d) == 1)=decide (Nat.gcd (nv l) (nv d)=1):=by rw [Zxc,Zx3,Zw4]
     rw [hb];by_cases h1d:nv d=1
     ·rw [Zv8 h1d] at c2;rw [Zv8 (show Nat.gcd (nv l) (nv d)=1 by rw [h1d,Nat.gcd_one_right])];clear c3 c4 hdt;refine pI func113 rfl ntmps113 results113 call113 ?_;exact wklp (w_2 ei @Zau) (w_2 c1 c2) (w_1 @decide_true) (w_r 0) w_z
     ·rw [Zv7 h1d] at c2;clear hdt hb gl;generalize decide (Nat.gcd (nv l) (nv d)=1)=v at *;generalize toL (Nat.gcd (nv l) (nv d))=lg' at *;refine pI func113 rfl ntmps113 results113 call113 ?_;exact wklp (w_2 ei @Zau) (w_4 c1 c2 c3 c4) w_t (w_r 0) w_z
theorem lwAr (k:Int):Pure prog 110 [iv k] (iv (arS k)):=by
 unfold arS;refine pI func110 rfl ntmps110 results110 call110 ?_;(focus (refine wklp w_t w_t w_t (w_r 0) ?_;(repeat' first|exact w_t|apply w_l);all_goals intros));all_goals (congr 2;repeat' split)
 all_goals (first|rfl|omega)
theorem lwNone (r:RQ):Pure prog 114 [r.av] (.v (.bool r.none)):=by
 obtain⟨s,l,d⟩:=r;unfold RQ.none;simp only;cases s
 ·refine pI func114 rfl ntmps114 results114 call114 ?_;(focus (refine wklp (w_1 @Zau) w_t w_t (w_r 0) ?_;(repeat' first|exact w_t|apply w_l);all_goals intros))
 ·refine pI func114 rfl ntmps114 results114 call114 ?_;(focus (refine wklp (w_1 @Zau) w_t w_t (w_r 0) ?_;(repeat' first|exact w_t|apply w_l);all_goals intros))
theorem rlAr (k:Int):Pure prog 139 [iv k] (iv (arS k)):=by
 unfold arS;refine pI func139 rfl ntmps139 results139 call139 ?_;exact wklp w_t w_t w_t (w_r 0) w_z;all_goals (congr 2;repeat' split)
 all_goals (first|rfl|omega)
theorem rlNone (r:RQ):Pure prog 140 [r.av] (.v (.bool r.none)):=by
 obtain⟨s,l,d⟩:=r;unfold RQ.none;simp only;cases s
 ·refine pI func140 rfl ntmps140 results140 call140 ?_;exact wklp (w_1 @Zau) w_t w_t (w_r 0) w_z
 ·refine pI func140 rfl ntmps140 results140 call140 ?_;exact wklp (w_1 @Zau) w_t w_t (w_r 0) w_z
theorem prAr (k:Int):Pure prog 118 [iv k] (iv (arG k)):=by
 unfold arG;refine pI func118 rfl ntmps118 results118 call118 ?_;(focus (refine wklp w_t w_t w_t (w_r 0) ?_;(repeat' first|exact w_t|apply w_l);all_goals intros));all_goals (congr 2;repeat' split)
 all_goals (first|rfl|omega)
theorem prNone (r:RQ):Pure prog 119 [r.av] (.v (.bool r.none)):=by
 obtain⟨s,l,d⟩:=r;unfold RQ.none;simp only;cases s
 ·refine pI func119 rfl ntmps119 results119 call119 ?_;(focus (refine wklp (w_1 @Zau) w_t w_t (w_r 0) ?_;(repeat' first|exact w_t|apply w_l);all_goals intros))
 ·refine pI func119 rfl ntmps119 results119 call119 ?_;(focus (refine wklp (w_1 @Zau) w_t w_t (w_r 0) ?_;(repeat' first|exact w_t|apply w_l);all_goals intros))
theorem rrAr (k:Int):Pure prog 142 [iv k] (iv (arG k)):=by
 unfold arG;refine pI func142 rfl ntmps142 results142 call142 ?_;exact wklp w_t w_t w_t (w_r 0) w_z;all_goals (congr 2;repeat' split)
 all_goals (first|rfl|omega)
theorem rrNone (r:RQ):Pure prog 143 [r.av] (.v (.bool r.none)):=by
 obtain⟨s,l,d⟩:=r;unfold RQ.none;simp only;cases s
 ·refine pI func143 rfl ntmps143 results143 call143 ?_;exact wklp (w_1 @Zau) w_t w_t (w_r 0) w_z
 ·refine pI func143 rfl ntmps143 results143 call143 ?_;exact wklp (w_1 @Zau) w_t w_t (w_r 0) w_z
theorem Zlg {α:Type} (F:α→Bool) (l:List α):∃n,n≤l.length∧(∀j (h:j < l.length),j < n→F l[j]=false)∧(∀h:n < l.length,F l[n]=true)∧l.any F=decide (n < l.length):=by
 induction l with
 | nil=>exact⟨0,by simp,by simp,by simp,by simp⟩
 | cons a l ih =>
   obtain⟨n,h1,h2,h3,h4⟩:=ih
   cases ha:F a with
   | true=>exact⟨0,by simp,λj h h'=>zo,λ_=>ha,by simp [ha]⟩
   | false =>
     refine⟨n+1,by simpa using h1,λj h h'=>?_,λh=>h3 (by simpa using h),by simp [ha,h4]⟩
     cases j with
     | zero=>exact ha
     | succ j=>exact h2 j (by simpa using h) zo
theorem ck1 (a i:Int):Pure prog 112 [iv a,.pimm [iv i]] (.v (.bool (decide (a < 0) || decide (i≤a)))):=by
 refine pI func112 rfl ntmps112 results112 call112 ?_;(focus (refine wklp w_t w_t w_t (w_r 0) ?_;(repeat' first|exact w_t|apply w_l);all_goals intros))
theorem slIdx1 (l:List Int) (i:Int) (hl:l.length≤1000000000):∃z:Int,Pure prog 156 [ivs l,.fn 112 [.pimm [iv i]]] (iv z)∧decide (0≤z)=outB i l:=by
 obtain⟨n,h1,h2,h3,h4⟩:=Zlg (λa=>decide (a < 0) || decide (i≤a)) l;refine⟨if n < l.length then (n:Int) else -1,?_,?_⟩
 ·refine pI func156 rfl ntmps156 results156 call156 ?_;(focus (refine wkap (w_1 @Zcp) w_t (w_r 0) ?_;(repeat' first|exact w_t|apply w_l);all_goals intros));refine Zai (ι:=Nat) (λk e m=>k≤n∧e 0=ivs l∧e 1=.fn 112 [.pimm [iv i]]∧e 7=iv l.length∧e 8=iv k) (λk=>n - k) 0 zr ?_ ?_
  ·rintro k e m ⟨hk,e0,e1,e7,e8⟩
   by_cases hlt:k < l.length
   ·have hg:=Zaf iv hlt;by_cases hkn:k < n
    ·have hb:=h2 k hlt hkn;have c:=ck1 l[k] i;rw [hb] at c;clear hb;generalize l[k]=a at *;(focus (refine wkap (w_6 e0 e1 e7 e8 hg @Zcp) (w_1 c) (w_r 0) ?_;(repeat' first|exact w_t|apply w_l);all_goals intros));exact⟨k+1,⟨zo,gW e0,gW e1,gW e7,gS⟩,zo⟩
    ·have hkn:k=n:=zo;subst hkn;have hb:=h3 hlt;have c:=ck1 l[k] i;rw [hb] at c;rw [Zv6 hlt];clear hb;generalize l[k]=a at *;(focus (refine wklp (w_6 e0 e1 e7 e8 hg @Zcp) (w_1 c) w_t (w_r 0) ?_;(repeat' first|exact w_t|apply w_l);all_goals intros))
   ·rw [Zv5 zo];(focus (refine wklp (w_5 e0 e1 e7 e8 @Zcp) w_t w_t (w_r 0) ?_;(repeat' first|exact w_t|apply w_l);all_goals intros))
  ·exact⟨Zwk _,gC,gC,by(simp (disch:=omega) only [go_sem,Zv9]<;>repeat' first|rfl|refine⟨?_,?_⟩),gC⟩
 ·unfold outB;rw [h4,Zxc,Zw4,Zw4];split<;>omega
theorem slCon1 (l:List Int) (i:Int) (hl:l.length≤1000000000):Pure prog 111 [ivs l,.fn 112 [.pimm [iv i]]] (.v (.bool (outB i l))):=by
 obtain⟨z,c,hz⟩:=slIdx1 l i hl;rw [←hz];refine pI func111 rfl ntmps111 results111 call111 ?_;(focus (refine wklp w_t (w_1 c) w_t (w_r 0) ?_;(repeat' first|exact w_t|apply w_l);all_goals intros))
theorem ck2 (t s:RS):Pure prog 117 [t.av,.pimm [iv s.k,strA s.nm,ivs s.ar,.v (.bool s.r.s),lim s.r.l,lim s.r.d]] (.v (.bool (t.nm.toList == s.nm.toList))):=by
 obtain⟨a,b,c,d⟩:=t;obtain⟨a',b',c',d'⟩:=s;refine pI func117 rfl ntmps117 results117 call117 ?_;(focus (refine wklp w_t w_t w_t (w_r 0) ?_;(repeat' first|exact w_t|apply w_l);all_goals intros))
theorem slIdx2 (l:List RS) (s:RS) (hl:l.length≤1000000000):∃z:Int,Pure prog 161 [.sl 6 (l.map RS.av),.fn 117 [.pimm [iv s.k,strA s.nm,ivs s.ar,.v (.bool s.r.s),lim s.r.l,lim s.r.d]]] (iv z)∧decide (0≤z)=l.any (λt=>t.nm.toList == s.nm.toList):=by
 obtain⟨n,h1,h2,h3,h4⟩:=Zlg (λt:RS=>t.nm.toList == s.nm.toList) l;refine⟨if n < l.length then (n:Int) else -1,?_,?_⟩
 ·refine pI func161 rfl ntmps161 results161 call161 ?_;(focus (refine wkap (w_1 @Zcp) w_t (w_r 0) ?_;(repeat' first|exact w_t|apply w_l);all_goals intros));refine Zai (ι:=Nat) (λk e m=>k≤n∧e 0=.sl 6 (l.map RS.av)∧e 1=.fn 117 [.pimm [iv s.k,strA s.nm,ivs s.ar,.v (.bool s.r.s),lim s.r.l,lim s.r.d]]∧e 7=iv l.length∧e 8=iv k) (λk=>n - k) 0 zr ?_ ?_
  ·rintro k e m ⟨hk,e0,e1,e7,e8⟩
   by_cases hlt:k < l.length
   ·have hg:=Zaf RS.av hlt;by_cases hkn:k < n
    ·have hb:=h2 k hlt hkn;have c:=ck2 l[k] s;rw [hb] at c;clear hb;generalize l[k]=a at *;obtain⟨a1,a2,a3,a4⟩:=a;(focus (refine wkap (w_6 e0 e1 e7 e8 hg @Zcp) (w_1 c) (w_r 0) ?_;(repeat' first|exact w_t|apply w_l);all_goals intros));exact⟨k+1,⟨zo,gW e0,gW e1,gW e7,gS⟩,zo⟩
    ·have hkn:k=n:=zo;subst hkn;have hb:=h3 hlt;have c:=ck2 l[k] s;rw [hb] at c;rw [Zv6 hlt];clear hb;generalize l[k]=a at *;obtain⟨a1,a2,a3,a4⟩:=a;(focus (refine wklp (w_6 e0 e1 e7 e8 hg @Zcp) (w_1 c) w_t (w_r 0) ?_;(repeat' first|exact w_t|apply w_l);all_goals intros))
   ·rw [Zv5 zo];(focus (refine wklp (w_5 e0 e1 e7 e8 @Zcp) w_t w_t (w_r 0) ?_;(repeat' first|exact w_t|apply w_l);all_goals intros))
  ·exact⟨Zwk _,gC,gC,by(simp (disch:=omega) only [go_sem,Zv9]<;>repeat' first|rfl|refine⟨?_,?_⟩),gC⟩
 ·rw [h4,Zxc,Zw4,Zw4];split<;>omega
theorem slCon2 (l:List RS) (s:RS) (hl:l.length≤1000000000):Pure prog 116 [.sl 6 (l.map RS.av),.fn 117 [.pimm [iv s.k,strA s.nm,ivs s.ar,.v (.bool s.r.s),lim s.r.l,lim s.r.d]]] (.v (.bool (l.any (λt=>t.nm.toList == s.nm.toList)))):=by
 obtain⟨z,c,hz⟩:=slIdx2 l s hl;rw [←hz];refine pI func116 rfl ntmps116 results116 call116 ?_;(focus (refine wklp w_t (w_1 c) w_t (w_r 0) ?_;(repeat' first|exact w_t|apply w_l);all_goals intros))
def RS.sm (s:RS):Prop:=s.r.lm 100000000∧s.nm.size≤9223372036854775807∧s.ar.length≤1000000000
def RG.sm (g:RG):Prop:=g.r.lm 100000000∧g.ar.length≤1000000000
theorem lwCheck (ss:List RS) (i:Nat) (hi:i < ss.length) (hl:ss.length≤1000000000) (hs:∀s∈ss,s.sm):Pure prog 69 [.sl 6 (ss.map RS.av),iv i] (iv (errS ss i)):=by
 have hg:=Zaf RS.av hi;have hsm:=hs _ (Zwq hi);have e0:errS ss i=errS ss i:=rfl;unfold errS at e0 ⊢;rw [show ss.getD i RS.zero=ss[i] from by rw [Zwp,Zwb hi];rfl];clear e0;have htk:(ss.map RS.av).take i=(ss.take i).map RS.av:=(List.map_take ..).symm;have c2:=slCon2 (ss.take i) ss[i] (by rw [Zws];omega);rw [←htk] at c2;have hlm:(ss.map RS.av).length=ss.length:=Zv9 ..;generalize ss.map RS.av=M at *;generalize ss[i]=s at *;clear htk;clear hs;obtain⟨h1,h2,h3⟩:=hsm;have ca:=lwAr s.k;have cr:=Ztk s.r h1;have cn:=lwNone s.r
 have cm:=nmName s.nm h2;have c1:=slCon1 s.ar i h3;have hst:=Zhd s.nm;have hla:(s.ar.map iv).length=s.ar.length:=Zv9 ..;obtain⟨k,nm,ar,r,rl,rd⟩:=s;simp only at *;generalize (ss.take i).any (λt=>t.nm.toList == nm.toList)=any at *;generalize arS k=a at *;generalize outB (i:Int) ar=o at *;generalize RQ.ok ⟨r,rl,rd⟩=ok at *;generalize RQ.none ⟨r,rl,rd⟩=no at *;generalize namB nm=nb at *;by_cases w1:a < 0
 ·rw [Zv6 w1];refine pI func69 rfl ntmps69 results69 call69 ?_;(focus (refine wklp (w_3 hg hlm hla) (w_1 ca) w_t (w_r 0) ?_;(repeat' first|exact w_t|apply w_l);all_goals intros))
 ·rw [Zv5 w1];by_cases w2:(ar.length:Int)≠a
  ·rw [Zv6 w2];refine pI func69 rfl ntmps69 results69 call69 ?_;(focus (refine wklp (w_3 hg hlm hla) (w_1 ca) w_t (w_r 0) ?_;(repeat' first|exact w_t|apply w_l);all_goals intros))
  ·rw [Zv5 w2]
   cases o with
   | true =>
     rw [Zv6 rfl];refine pI func69 rfl ntmps69 results69 call69 ?_;(focus (refine wkax (w_3 hg hlm hla) (w_1 ca) w_t (w_1 c1) w_t w_t w_y (w_r 0) ?_;(repeat' first|exact w_t|apply w_l);all_goals intros))
     (all_goals (try simp (disch:=omega) only [go_sem,Zv8,Zv7,Zv6,Zv5,Int.reduceAdd,Int.reduceSub,Int.reduceToNat,Zwc]));(all_goals first|done|rfl|(congr 2;first|done|omega|(rw [Zxc];simp only [bool_to_prop,Zwm,Zxo,Zxp,Zxq,Zxr];omega))|skip)
   | false =>
     rw [Zv5 zd];by_cases w3:(k=2∧ok=false)∨(k≠2∧no=false)
     ·rw [Zv6 w3];rcases w3 with⟨hk,rfl⟩ | ⟨hk,rfl⟩
      ·subst hk;refine pI func69 rfl ntmps69 results69 call69 ?_;(focus (refine wkax (w_3 hg hlm hla) (w_2 ca cr) w_t (w_1 c1) w_t w_t w_y (w_r 0) ?_;(repeat' first|exact w_t|apply w_l);all_goals intros))
       (all_goals (try simp (disch:=omega) only [go_sem,Zv8,Zv7,Zv6,Zv5,Int.reduceAdd,Int.reduceSub,Int.reduceToNat,Zwc]));(all_goals first|done|rfl|(congr 2;first|done|omega|(rw [Zxc];simp only [bool_to_prop,Zwm,Zxo,Zxp,Zxq,Zxr];omega))|skip)
      ·refine pI func69 rfl ntmps69 results69 call69 ?_;(focus (refine wkax (w_3 hg hlm hla) (w_2 ca cn) w_t (w_1 c1) w_t w_t w_y (w_r 0) ?_;(repeat' first|exact w_t|apply w_l);all_goals intros))
       (all_goals (try simp (disch:=omega) only [go_sem,Zv8,Zv7,Zv6,Zv5,Int.reduceAdd,Int.reduceSub,Int.reduceToNat,Zwc]));(all_goals first|done|rfl|(congr 2;first|done|omega|(rw [Zxc];simp only [bool_to_prop,Zwm,Zxo,Zxp,Zxq,Zxr];omega))|skip)
     ·rw [Zv5 w3]
      have w4:(k=2∧ok=true)∨(k≠2∧no=true):=by
       by_cases hk:k=2
       ·cases ok
        ·exact absurd (.inl ⟨hk,rfl⟩) w3
        ·exact .inl ⟨hk,rfl⟩
       ·cases no
        ·exact absurd (.inr ⟨hk,rfl⟩) w3
        ·exact .inr ⟨hk,rfl⟩
      clear w3;by_cases w5:nm.size=0
      ·rw [Zv6 w5];rw [Zv8 w5] at hst;rcases w4 with⟨hk,rfl⟩ | ⟨hk,rfl⟩
       ·subst hk;refine pI func69 rfl ntmps69 results69 call69 ?_;(focus (refine wkax (w_4 hg hlm hla hst) (w_2 ca cr) w_t (w_1 c1) w_t w_t w_y (w_r 0) ?_;(repeat' first|exact w_t|apply w_l);all_goals intros))
        (all_goals (try simp (disch:=omega) only [go_sem,Zv8,Zv7,Zv6,Zv5,Int.reduceAdd,Int.reduceSub,Int.reduceToNat,Zwc]));(all_goals first|done|rfl|(congr 2;first|done|omega|(rw [Zxc];simp only [bool_to_prop,Zwm,Zxo,Zxp,Zxq,Zxr];omega))|skip)
       ·refine pI func69 rfl ntmps69 results69 call69 ?_;(focus (refine wkax (w_4 hg hlm hla hst) (w_2 ca cn) w_t (w_1 c1) w_t w_t w_y (w_r 0) ?_;(repeat' first|exact w_t|apply w_l);all_goals intros))
        (all_goals (try simp (disch:=omega) only [go_sem,Zv8,Zv7,Zv6,Zv5,Int.reduceAdd,Int.reduceSub,Int.reduceToNat,Zwc]));(all_goals first|done|rfl|(congr 2;first|done|omega|(rw [Zxc];simp only [bool_to_prop,Zwm,Zxo,Zxp,Zxq,Zxr];omega))|skip)
      ·rw [Zv5 w5];rw [Zv7 w5] at hst
       cases nb with
       | false =>
         rw [Zv6 rfl];rcases w4 with⟨hk,rfl⟩ | ⟨hk,rfl⟩
         ·subst hk;refine pI func69 rfl ntmps69 results69 call69 ?_;(focus (refine wkax (w_4 hg hlm hla hst) (w_3 ca cr cm) w_t (w_1 c1) w_t w_t w_y (w_r 0) ?_;(repeat' first|exact w_t|apply w_l);all_goals intros))
          (all_goals (try simp (disch:=omega) only [go_sem,Zv8,Zv7,Zv6,Zv5,Int.reduceAdd,Int.reduceSub,Int.reduceToNat,Zwc]));(all_goals first|done|rfl|(congr 2;first|done|omega|(rw [Zxc];simp only [bool_to_prop,Zwm,Zxo,Zxp,Zxq,Zxr];omega))|skip)
         ·refine pI func69 rfl ntmps69 results69 call69 ?_;(focus (refine wkax (w_4 hg hlm hla hst) (w_3 ca cn cm) w_t (w_1 c1) w_t w_t w_y (w_r 0) ?_;(repeat' first|exact w_t|apply w_l);all_goals intros))
          (all_goals (try simp (disch:=omega) only [go_sem,Zv8,Zv7,Zv6,Zv5,Int.reduceAdd,Int.reduceSub,Int.reduceToNat,Zwc]));(all_goals first|done|rfl|(congr 2;first|done|omega|(rw [Zxc];simp only [bool_to_prop,Zwm,Zxo,Zxp,Zxq,Zxr];omega))|skip)
       | true =>
         rw [Zv5 zd];rcases w4 with⟨hk,rfl⟩ | ⟨hk,rfl⟩
         ·subst hk;cases any
          ·refine pI func69 rfl ntmps69 results69 call69 ?_;(focus (refine wkax (w_5 hg hlm hla hst @Zgd) (w_3 ca cr cm) w_t (w_2 c1 c2) w_t w_t w_y (w_r 0) ?_;(repeat' first|exact w_t|apply w_l);all_goals intros))
           (all_goals (try simp (disch:=omega) only [go_sem,Zv8,Zv7,Zv6,Zv5,Int.reduceAdd,Int.reduceSub,Int.reduceToNat,Zwc]));(all_goals first|done|rfl|(congr 2;first|done|omega|(rw [Zxc];simp only [bool_to_prop,Zwm,Zxo,Zxp,Zxq,Zxr];omega))|skip)
          ·refine pI func69 rfl ntmps69 results69 call69 ?_;(focus (refine wkax (w_5 hg hlm hla hst @Zgd) (w_3 ca cr cm) w_t (w_2 c1 c2) w_t w_t w_y (w_r 0) ?_;(repeat' first|exact w_t|apply w_l);all_goals intros))
           (all_goals (try simp (disch:=omega) only [go_sem,Zv8,Zv7,Zv6,Zv5,Int.reduceAdd,Int.reduceSub,Int.reduceToNat,Zwc]));(all_goals first|done|rfl|(congr 2;first|done|omega|(rw [Zxc];simp only [bool_to_prop,Zwm,Zxo,Zxp,Zxq,Zxr];omega))|skip)
         ·cases any
          ·refine pI func69 rfl ntmps69 results69 call69 ?_;(focus (refine wkax (w_5 hg hlm hla hst @Zgd) (w_3 ca cn cm) w_t (w_2 c1 c2) w_t w_t w_y (w_r 0) ?_;(repeat' first|exact w_t|apply w_l);all_goals intros))
           (all_goals (try simp (disch:=omega) only [go_sem,Zv8,Zv7,Zv6,Zv5,Int.reduceAdd,Int.reduceSub,Int.reduceToNat,Zwc]));(all_goals first|done|rfl|(congr 2;first|done|omega|(rw [Zxc];simp only [bool_to_prop,Zwm,Zxo,Zxp,Zxq,Zxr];omega))|skip)
          ·refine pI func69 rfl ntmps69 results69 call69 ?_;(focus (refine wkax (w_5 hg hlm hla hst @Zgd) (w_3 ca cn cm) w_t (w_2 c1 c2) w_t w_t w_y (w_r 0) ?_;(repeat' first|exact w_t|apply w_l);all_goals intros))
           (all_goals (try simp (disch:=omega) only [go_sem,Zv8,Zv7,Zv6,Zv5,Int.reduceAdd,Int.reduceSub,Int.reduceToNat,Zwc]));(all_goals first|done|rfl|(congr 2;first|done|omega|(rw [Zxc];simp only [bool_to_prop,Zwm,Zxo,Zxp,Zxq,Zxr];omega))|skip)
theorem Zj1 {n:Int} {l:List Int} {k:Nat} (hk:k < l.length):outB n (l.take (k+1))=(outB n (l.take k) || (decide (l[k] < 0) || decide (n≤l[k]))):=by
 unfold outB;rw [ZAd hk,List.any_append,List.any_cons,List.any_nil,Bool.or_false]
theorem Zpa {n:Int} {l:List Int} {k:Nat} (hk:k < l.length) (h:(decide (l[k] < 0) || decide (n≤l[k]))=true):outB n l=true:=List.any_eq_true.2 ⟨l[k],Zwq hk,h⟩
theorem prRight (g:RG) (n:Nat) (hn:n≤1000000000) (hs:g.sm):Pure prog 70 [g.av,iv n] (iv (errG g n)):=by
 obtain⟨h1,h3⟩:=hs;unfold errG;have ca:=prAr g.k;have cr:Pure prog 113 [g.r.av] (.v (.bool g.r.ok)):=Ztk g.r h1;have cn:=prNone g.r;have hla:(g.ar.map iv).length=g.ar.length:=Zv9 ..;obtain⟨k,ar,r,rl,rd⟩:=g;simp only at *;generalize arG k=a at *;generalize RQ.ok ⟨r,rl,rd⟩=ok at *;generalize RQ.none ⟨r,rl,rd⟩=no at *;by_cases w1:a=0
 ·rw [Zv6 w1];subst w1;refine pI func70 rfl ntmps70 results70 call70 ?_;(focus (refine wklp (w_1 hla) (w_1 ca) w_t (w_r 0) ?_;(repeat' first|exact w_t|apply w_l);all_goals intros))
 ·rw [Zv5 w1];by_cases w2:(ar.length:Int)≠a
  ·rw [Zv6 w2];refine pI func70 rfl ntmps70 results70 call70 ?_;(focus (refine wklp (w_1 hla) (w_1 ca) w_t (w_r 0) ?_;(repeat' first|exact w_t|apply w_l);all_goals intros))
  ·rw [Zv5 w2];refine pI func70 rfl ntmps70 results70 call70 ?_;(focus (refine wkap (w_1 hla) (w_1 ca) (w_r 0) ?_;(repeat' first|exact w_t|apply w_l);all_goals intros));rename_i g2;refine Zai (ι:=Nat) (λi e m=>i≤ar.length∧e 1=iv n∧e 2=.pbox 2 g2 0∧m 2=some (.box g2 45 [iv k,ivs ar,.v (.bool r),lim rl,lim rd] false)∧e 19=ivs ar∧e 20=iv ar.length∧e 21=iv i∧outB n (ar.take i)=false) (λi=>ar.length - i) 0 zr ?_ ?_
   ·rintro i e m ⟨hi,e1,e2,m2,ea,en,ei,hno⟩
    by_cases hlt:i < ar.length
    ·have hg:=Zaf iv hlt;have hst:=Zj1 (n:=n) hlt;have hat:=Zpa (n:=n) hlt;rw [hno,Bool.false_or] at hst;generalize ar[i]=x at *;by_cases hx:x < 0∨(n:Int)≤x
     ·have hb:(decide (x < 0) || decide ((n:Int)≤x))=true:=by simpa using hx
      rw [Zv6 (hat hb)];clear hat hst hb;rcases hx with hx | hx
      ·(focus (refine wklp (w_8 e1 e2 m2 ea en ei hg hla) w_t w_t (w_r 0) ?_;(repeat' first|exact w_t|apply w_l);all_goals intros))
      ·(focus (refine wklp (w_8 e1 e2 m2 ea en ei hg hla) w_t w_t (w_r 0) ?_;(repeat' first|exact w_t|apply w_l);all_goals intros))
     ·have hb:(decide (x < 0) || decide ((n:Int)≤x))=false:=by simpa using hx
      rw [hb] at hst;clear hat hb;(focus (refine wkap (w_8 e1 e2 m2 ea en ei hg hla) w_t (w_r 0) ?_;(repeat' first|exact w_t|apply w_l);all_goals intros));exact⟨i+1,⟨zo,gW e1,gW e2,gW m2,gW ea,gW en,gS,hst⟩,zo⟩
    ·have hi2:i=ar.length:=zo;subst hi2;rw [Zza] at hno;rw [hno,Zv5 zd];by_cases hk:k=9
     ·subst hk;cases ok
      ·rw [Zv6 zs];(focus (refine wklp (w_7 e1 e2 m2 ea en ei hla) (w_2 cr cn) w_t (w_r 0) ?_;(repeat' first|exact w_t|apply w_l);all_goals intros))
      ·rw [Zv5 zs];(focus (refine wklp (w_7 e1 e2 m2 ea en ei hla) (w_2 cr cn) w_t (w_r 0) ?_;(repeat' first|exact w_t|apply w_l);all_goals intros))
     ·cases no
      ·rw [Zv6 (by simp [hk])];(focus (refine wklp (w_7 e1 e2 m2 ea en ei hla) (w_2 cr cn) w_t (w_r 0) ?_;(repeat' first|exact w_t|apply w_l);all_goals intros))
      ·rw [Zv5 (by simp [hk])];(focus (refine wklp (w_7 e1 e2 m2 ea en ei hla) (w_2 cr cn) w_t (w_r 0) ?_;(repeat' first|exact w_t|apply w_l);all_goals intros))
   ·exact⟨Zwk _,gC,gC,gC,gC,gW hla,gC,by simp [outB]⟩
theorem rrRight (g:RG) (n:Nat) (hn:n≤1000000000) (hs:g.sm):Pure prog 93 [g.av,iv n] (iv (errG g n)):=by
 obtain⟨h1,h3⟩:=hs;unfold errG;have ca:=rrAr g.k;have cr:Pure prog 27 [g.r.av] (.v (.bool g.r.ok)):=Znd g.r.s g.r.l g.r.d h1.1 h1.2.1 (Zwj h1.2.2.1 zd) (Zwj h1.2.2.2 zd);have cn:=rrNone g.r;have hla:(g.ar.map iv).length=g.ar.length:=Zv9 ..;obtain⟨k,ar,r,rl,rd⟩:=g;simp only at *;generalize arG k=a at *;generalize RQ.ok ⟨r,rl,rd⟩=ok at *;generalize RQ.none ⟨r,rl,rd⟩=no at *;by_cases w1:a=0
 ·rw [Zv6 w1];subst w1;refine pI func93 rfl ntmps93 results93 call93 ?_;exact wkld (w_1 hla) (w_1 ca) w_t w_t w_z
 ·rw [Zv5 w1];by_cases w2:(ar.length:Int)≠a
  ·rw [Zv6 w2];refine pI func93 rfl ntmps93 results93 call93 ?_;exact wkld (w_1 hla) (w_1 ca) w_t (w_1 (w_d 3 [(5,iv a)] [] [])) w_z
  ·rw [Zv5 w2];refine pI func93 rfl ntmps93 results93 call93 ?_
   (refine wkad (w_1 hla) (w_1 ca) (w_1 (w_d 3 [(5,iv a)] [] [])) (w_s ?_);intros)
   rename_i g2;refine Zai (ι:=Nat) (λi e m=>i≤ar.length∧e 1=iv n∧e 2=.pbox 2 g2 0∧m 2=some (.box g2 45 [iv k,ivs ar,.v (.bool r),lim rl,lim rd] false)∧e 19=ivs ar∧e 20=iv ar.length∧e 21=iv i∧outB n (ar.take i)=false) (λi=>ar.length - i) 0 zr ?_ ?_
   ·rintro i e m ⟨hi,e1,e2,m2,ea,en,ei,hno⟩
    by_cases hlt:i < ar.length
    ·have hg:=Zaf iv hlt;have hst:=Zj1 (n:=n) hlt;have hat:=Zpa (n:=n) hlt;rw [hno,Bool.false_or] at hst;generalize ar[i]=x at *;by_cases hx:x < 0∨(n:Int)≤x
     ·have hb:(decide (x < 0) || decide ((n:Int)≤x))=true:=by simpa using hx
      rw [Zv6 (hat hb)];clear hat hst hb;rcases hx with hx | hx
      ·exact wkld (w_8 e1 e2 m2 ea en ei hg hla) w_t w_t w_t w_z
      ·exact wkld (w_8 e1 e2 m2 ea en ei hg hla) w_t w_t w_t w_z
     ·have hb:(decide (x < 0) || decide ((n:Int)≤x))=false:=by simpa using hx
      rw [hb] at hst;clear hat hb
      (refine wkad (w_8 e1 e2 m2 ea en ei hg hla) w_t w_t (w_s ?_);intros)
      exact⟨i+1,⟨zo,gW e1,gW e2,gW m2,gW ea,gW en,gS,hst⟩,zo⟩
    ·have hi2:i=ar.length:=zo;subst hi2;rw [Zza] at hno;rw [hno,Zv5 zd];by_cases hk:k=9
     ·subst hk;cases ok
      ·rw [Zv6 zs];exact wkld (w_7 e1 e2 m2 ea en ei hla) (w_2 cr cn) w_t w_t w_z
      ·rw [Zv5 zs];exact wkld (w_7 e1 e2 m2 ea en ei hla) (w_2 cr cn) w_t w_t w_z
     ·cases no
      ·rw [Zv6 (by simp [hk])];exact wkld (w_7 e1 e2 m2 ea en ei hla) (w_2 cr cn) w_t w_t w_z
      ·rw [Zv5 (by simp [hk])];exact wkld (w_7 e1 e2 m2 ea en ei hla) (w_2 cr cn) w_t w_t w_z
   ·exact⟨Zwk _,gC,gC,gC,gC,gW hla,gC,by simp [outB]⟩
theorem lwRight (ss:List RS) (gs:List RG) (h1:ss.length≤1000000000) (h2:gs.length≤1000000000) (hs:∀s∈ss,s.sm) (hg:∀g∈gs,g.sm):Pure prog 29 [figA ss gs] (iv (figE ss gs)):=by
 have hls:(ss.map RS.av).length=ss.length:=Zv9 ..;have hlg:(gs.map RG.av).length=gs.length:=Zv9 ..;have eg:∀i (h:i < gs.length),(gs.map RG.av).getD i .u=gs[i].av:=λi h=>Zaf RG.av h;have eg2:∀i (h:i < gs.length),gs.getD i ⟨0,[],⟨false,[],[]⟩⟩=gs[i]:=λi h=>by rw [Zwp,Zwb h];rfl
 have cc:∀i,i < ss.length→Pure prog 69 [.sl 6 (ss.map RS.av),iv i] (iv (errS ss i)):=λi hi=>lwCheck ss i hi h1 hs;have cg:∀i (h:i < gs.length),Pure prog 70 [gs[i].av,iv ss.length] (iv (errG gs[i] ss.length)):=λi h=>prRight gs[i] ss.length h1 (hg _ (Zwq h));unfold figE;show Pure _ _ [.agg [.sl 6 (ss.map RS.av),.sl 5 (gs.map RG.av)]] _;generalize ss.map RS.av=M at *;generalize gs.map RG.av=N at *;by_cases hb:40 < ss.length∨8 < gs.length
 ·rw [Zv6 hb];refine pI func29 rfl ntmps29 results29 call29 ?_;(focus (refine wklp (w_2 hls hlg) w_t w_t (w_r 0) ?_;(repeat' first|exact w_t|apply w_l);all_goals intros))
 ·rw [Zv5 hb];refine pI func29 rfl ntmps29 results29 call29 ?_;(focus (refine wkap (w_2 hls hlg) w_t (w_r 0) ?_;(repeat' first|exact w_t|apply w_l);all_goals intros));rename_i g1;refine Zai (ι:=Nat) (λi e m=>i≤ss.length∧e 1=.pbox 1 g1 0∧m 1=some (.box g1 25 [.sl 6 M,.sl 5 N] false)∧e 20=iv ss.length∧e 21=iv i∧∀j,j < i→errS ss j=0) (λi=>ss.length - i) 0 zr ?_ ?_
  ·rintro i e m ⟨hi,e1,m1,e20,e21,hz⟩
   by_cases hlt:i < ss.length
   ·have c:=cc i hlt;by_cases he:errS ss i=0
    ·rw [he] at c;(focus (refine wkap (w_6 e1 m1 e20 e21 hls hlg) (w_1 c) (w_r 0) ?_;(repeat' first|exact w_t|apply w_l);all_goals intros));exact⟨i+1,⟨zo,gW e1,gW m1,gW e20,gS,λj hj=>by by_cases e:j=i;rw [e];exact he;exact hz j zo⟩,zo⟩
    ·rw [Zkd hz he hlt,Zv6 he];generalize errS ss i=z at *;(focus (refine wklp (w_6 e1 m1 e20 e21 hls hlg) (w_1 c) w_t (w_r 0) ?_;(repeat' first|exact w_t|apply w_l);all_goals intros))
   ·have hi2:i=ss.length:=zo;subst hi2;rw [Zfm hz,Zv5 zs];(focus (refine wkap (w_6 e1 m1 e20 e21 hls hlg) w_t (w_r 0) ?_;(repeat' first|exact w_t|apply w_l);all_goals intros));refine Zai (ι:=Nat) (λi e m=>i≤gs.length∧e 1=.pbox 1 g1 0∧m 1=some (.box g1 25 [.sl 6 M,.sl 5 N] false)∧e 33=.sl 5 N∧e 34=iv gs.length∧e 35=iv i∧∀j,j < i→errG (gs.getD j ⟨0,[],⟨false,[],[]⟩⟩) ss.length=0) (λi=>gs.length - i) 0 zr ?_ ?_
    ·rintro i e m ⟨hi,e1,m1,e33,e34,e35,hz⟩
     by_cases hlt:i < gs.length
     ·have c:=cg i hlt;have hgi:=eg i hlt;have hgj:=eg2 i hlt;have hfa:=@Zkd (λi=>errG (gs.getD i ⟨0,[],⟨false,[],[]⟩⟩) ss.length) i hz;simp only [hgj] at hfa;generalize gs[i]=G at *;by_cases he:errG G ss.length=0
      ·rw [he] at c;clear hfa;obtain⟨k,ar,r,rl,rd⟩:=G;(focus (refine wkap (w_8 e1 m1 e33 e34 e35 hls hlg hgi) (w_1 c) (w_r 0) ?_;(repeat' first|exact w_t|apply w_l);all_goals intros));exact⟨i+1,⟨zo,gW e1,gW m1,gW e33,gW e34,gS,λj hj=>by by_cases e:j=i;rw [e,hgj];exact he;exact hz j zo⟩,zo⟩
      ·rw [hfa he hlt];clear hfa;generalize errG G ss.length=z at *;obtain⟨k,ar,r,rl,rd⟩:=G;(focus (refine wklp (w_8 e1 m1 e33 e34 e35 hls hlg hgi) (w_1 c) w_t (w_r 0) ?_;(repeat' first|exact w_t|apply w_l);all_goals intros))
     ·have hi2:i=gs.length:=zo;subst hi2;rw [Zfm hz];(focus (refine wklp (w_7 e1 m1 e33 e34 e35 hls hlg) w_t w_t (w_r 0) ?_;(repeat' first|exact w_t|apply w_l);all_goals intros))
    ·exact⟨Zwk _,gW e1,gW m1,gC,gW hlg,gC,λj hj=>zo⟩
  ·exact⟨Zwk _,gC,gC,gW hls,gC,λj hj=>zo⟩
theorem rlCheck (ss:List RS) (i:Nat) (hi:i < ss.length) (hl:ss.length≤1000000000) (hs:∀s∈ss,s.sm):Pure prog 92 [.sl 6 (ss.map RS.av),iv i] (iv (errS ss i)):=by
 have hg:=Zaf RS.av hi;have hsm:=hs _ (Zwq hi);unfold errS;rw [show ss.getD i RS.zero=ss[i] from by rw [Zwp,Zwb hi];rfl];have hgt:∀k,k < i→∃t:RS,((ss.map RS.av).take i).getD k .u=t.av∧(ss.take i)[k]?=some t:=λk hk=>by
  refine⟨ss[k],?_,?_⟩
  ·rw [Zwp,Zxv,Zv6 hk,Zw9,Zwb zo];rfl
  ·rw [Zxv,Zv6 hk,Zwb zo]
 have hlm:(ss.map RS.av).length=ss.length:=Zv9 ..;have hlt:(ss.take i).length=i:=by rw [Zws];omega
 generalize ss.map RS.av=M at *;generalize ss[i]=s at *;generalize ss.take i=T at *;clear hs;obtain⟨h1,h2,h3⟩:=hsm;have ca:=rlAr s.k;have cr:Pure prog 27 [s.r.av] (.v (.bool s.r.ok)):=Znd s.r.s s.r.l s.r.d h1.1 h1.2.1 (Zwj h1.2.2.1 zd) (Zwj h1.2.2.2 zd);have cn:=rlNone s.r;have cm:=rnName s.nm h2;have hst:=Zhd s.nm;have hla:(s.ar.map iv).length=s.ar.length:=Zv9 ..;obtain⟨k,nm,ar,r,rl,rd⟩:=s;simp only at *;generalize arS k=a at *;generalize RQ.ok ⟨r,rl,rd⟩=ok at *;generalize RQ.none ⟨r,rl,rd⟩=no at *;generalize namB nm=nb at *;by_cases w1:a < 0
 ·rw [Zv6 w1];refine pI func92 rfl ntmps92 results92 call92 ?_;exact wkld (w_3 hg hlm hla) (w_1 ca) w_t w_t w_z
 ·rw [Zv5 w1];by_cases w2:(ar.length:Int)≠a
  ·rw [Zv6 w2];refine pI func92 rfl ntmps92 results92 call92 ?_;exact wkld (w_3 hg hlm hla) (w_1 ca) w_t (w_1 (w_d 4 [(5,iv a)] [] [])) w_z
  ·rw [Zv5 w2];refine pI func92 rfl ntmps92 results92 call92 ?_
   (refine wkad (w_3 hg hlm hla) (w_1 ca) (w_1 (w_d 4 [(5,iv a)] [] [])) (w_s ?_);intros)
   rename_i g5;refine Zai (ι:=Nat) (λx e m=>x≤ar.length∧e 0=.sl 6 M∧e 1=iv i∧e 5=.pbox 5 g5 0∧m 5=some (.box g5 43 [iv k,strA nm,ivs ar,.v (.bool r),lim rl,lim rd] false)∧e 26=ivs ar∧e 27=iv ar.length∧e 28=iv x∧outB i (ar.take x)=false) (λx=>ar.length - x) 0 zr ?_ ?_
   ·rintro x e m ⟨hx,e0,e1,e5,m5,e26,e27,e28,hno⟩
    by_cases hlt2:x < ar.length
    ·have hga:=Zaf iv hlt2;have hso:=Zj1 (n:=(i:Int)) hlt2;have hat:=Zpa (n:=(i:Int)) hlt2;rw [hno,Bool.false_or] at hso;generalize ar[x]=y at *;by_cases hy:y < 0∨(i:Int)≤y
     ·have hb:(decide (y < 0) || decide ((i:Int)≤y))=true:=by simpa using hy
      rw [Zv6 (hat hb)];clear hat hso hb;rcases hy with hy | hy
      ·exact wkld (w_9 e0 e1 e5 m5 e26 e27 e28 hga hla) w_t w_t w_t w_z
      ·exact wkld (w_9 e0 e1 e5 m5 e26 e27 e28 hga hla) w_t w_t w_t w_z
     ·have hb:(decide (y < 0) || decide ((i:Int)≤y))=false:=by simpa using hy
      rw [hb] at hso;clear hat hb
      (refine wkad (w_9 e0 e1 e5 m5 e26 e27 e28 hga hla) w_t w_t (w_s ?_);intros)
      exact⟨x+1,⟨zo,gW e0,gW e1,gW e5,gW m5,gW e26,gW e27,gS,hso⟩,zo⟩
    ·have hi2:x=ar.length:=zo;subst hi2;rw [Zza] at hno;rw [hno,Zv5 zd];by_cases w3:(k=2∧ok=false)∨(k≠2∧no=false)
     ·rw [Zv6 w3];rcases w3 with⟨hk,rfl⟩ | ⟨hk,rfl⟩
      ·subst hk;exact wkld (w_8 e0 e1 e5 m5 e26 e27 e28 hla) (w_1 cr) w_t w_t w_z
      ·exact wkld (w_8 e0 e1 e5 m5 e26 e27 e28 hla) (w_1 cn) w_t w_t w_z
     ·rw [Zv5 w3]
      have w4:(k=2∧ok=true)∨(k≠2∧no=true):=by
       by_cases hk:k=2
       ·cases ok
        ·exact absurd (.inl ⟨hk,rfl⟩) w3
        ·exact .inl ⟨hk,rfl⟩
       ·cases no
        ·exact absurd (.inr ⟨hk,rfl⟩) w3
        ·exact .inr ⟨hk,rfl⟩
      clear w3;have rest:∀(e:Nat→AV) (m:Mem),e 0=.sl 6 M→e 1=iv i→e 5=.pbox 5 g5 0→m 5=some (.box g5 43 [iv k,strA nm,ivs ar,.v (.bool r),lim rl,lim rd] false)→True:=λ_ _ _ _ _ _=>trivial;clear rest;by_cases w5:nm.size=0
      ·rw [Zv6 w5];rw [Zv8 w5] at hst;rcases w4 with⟨hk,rfl⟩ | ⟨hk,rfl⟩
       ·subst hk;exact wkld (w_9 e0 e1 e5 m5 e26 e27 e28 hla hst) (w_1 cr) w_t w_t w_z
       ·exact wkld (w_9 e0 e1 e5 m5 e26 e27 e28 hla hst) (w_1 cn) w_t w_t w_z
      ·rw [Zv5 w5];rw [Zv7 w5] at hst
       cases nb with
       | false =>
         rw [Zv6 rfl];rcases w4 with⟨hk,rfl⟩ | ⟨hk,rfl⟩
         ·subst hk;exact wkld (w_9 e0 e1 e5 m5 e26 e27 e28 hla hst) (w_2 cr cm) w_t w_t w_z
         ·exact wkld (w_9 e0 e1 e5 m5 e26 e27 e28 hla hst) (w_2 cn cm) w_t w_t w_z
       | true =>
         rw [Zv5 zd];rcases w4 with⟨hk,rfl⟩ | ⟨hk,rfl⟩
         all_goals first|(subst hk;(refine wkad (w_12 e0 e1 e5 m5 e26 e27 e28 hla hlm hst @Zgd @l_take) (w_2 cr cm) w_t (w_s ?_);intros))|(refine wkad (w_12 e0 e1 e5 m5 e26 e27 e28 hla hlm hst @Zgd @l_take) (w_2 cn cm) w_t (w_s ?_);intros)
         all_goals
          refine Zai (ι:=Nat) (λx e m=>x≤i∧e 5=.pbox 5 g5 0∧(∃k,m 5=some (.box g5 43 [iv k,strA nm,ivs ar,.v (.bool r),lim rl,lim rd] false))∧e 69=.sl 6 (M.take i)∧e 70=iv i∧e 71=iv x∧(T.take x).any (λt=>t.nm.toList == nm.toList)=false) (λx=>i - x) 0 zr ?_ ?_
          ·rintro x e m ⟨hx,e5,⟨k,m5⟩,e69,e70,e71,hnq⟩
           by_cases hlt2:x < i
           ·obtain⟨t,ht,ht2⟩:=hgt x hlt2;have htl:x < T.length:=zo;have htx:T[x]=t:=by rw [Zwb htl] at ht2;cases ht2;rfl
            have hsn:T.take (x+1)=T.take x++[t]:=by rw [ZAd htl,htx]
            have hmem:t∈T:=by rw [←htx];exact Zwq htl
            obtain⟨tk,tn,ta,tr,tl,td⟩:=t;have hll:(M.take i).length=i:=by rw [Zws];omega
            cases hw:(tn.toList == nm.toList) with
            | true =>
              have hany:T.any (λt=>t.nm.toList == nm.toList)=true:=List.any_eq_true.2 ⟨_,hmem,hw⟩;rw [Zv6 hany];exact wkld (w_8 e5 m5 e69 e70 e71 ht hw hll) w_t w_t w_t w_z
            | false =>
              (refine wkad (w_8 e5 m5 e69 e70 e71 ht hw hll) w_t w_t (w_s ?_);intros)
              exact⟨x+1,⟨zo,gW e5,⟨k,gW m5⟩,gW e69,gW e70,gS,by rw [hsn,List.any_append,hnq];simp [hw]⟩,zo⟩
           ·have hxi:x=i:=zo;subst hxi;rw [show T.take x=T from by rw [←hlt,Zza]] at hnq;rw [hnq,Zv5 zd];exact wkld (w_5 e5 m5 e69 e70 e71) w_t w_t w_t w_z
          ·exact⟨Zwk _,gW e5,⟨_,gW m5⟩,gC,by(simp (disch:=omega) only [go_sem,Zws,hlm,Zx7]<;>repeat' first|rfl|refine⟨?_,?_⟩),gC,by simp⟩
   ·exact⟨Zwk _,gC,gC,gC,gC,gC,gW hla,gC,by simp [outB]⟩
theorem rlRight (ss:List RS) (gs:List RG) (h1:ss.length≤1000000000) (h2:gs.length≤1000000000) (hs:∀s∈ss,s.sm) (hg:∀g∈gs,g.sm):Pure prog 48 [figA ss gs] (iv (figE ss gs)):=by
 have hls:(ss.map RS.av).length=ss.length:=Zv9 ..;have hlg:(gs.map RG.av).length=gs.length:=Zv9 ..;have eg:∀i (h:i < gs.length),(gs.map RG.av).getD i .u=gs[i].av:=λi h=>Zaf RG.av h;have eg2:∀i (h:i < gs.length),gs.getD i ⟨0,[],⟨false,[],[]⟩⟩=gs[i]:=λi h=>by rw [Zwp,Zwb h];rfl
 have cc:∀i,i < ss.length→Pure prog 92 [.sl 6 (ss.map RS.av),iv i] (iv (errS ss i)):=λi hi=>rlCheck ss i hi h1 hs;have cg:∀i (h:i < gs.length),Pure prog 93 [gs[i].av,iv ss.length] (iv (errG gs[i] ss.length)):=λi h=>rrRight gs[i] ss.length h1 (hg _ (Zwq h));unfold figE;show Pure _ _ [.agg [.sl 6 (ss.map RS.av),.sl 5 (gs.map RG.av)]] _;generalize ss.map RS.av=M at *;generalize gs.map RG.av=N at *;by_cases hb:40 < ss.length∨8 < gs.length
 ·rw [Zv6 hb];refine pI func48 rfl ntmps48 results48 call48 ?_;exact wklp (w_2 hls hlg) w_t w_t (w_r 0) w_z
 ·rw [Zv5 hb];refine pI func48 rfl ntmps48 results48 call48 ?_
  (refine wkap (w_2 hls hlg) w_t (w_r 0) (w_s ?_);intros)
  rename_i g1;refine Zai (ι:=Nat) (λi e m=>i≤ss.length∧e 1=.pbox 1 g1 0∧m 1=some (.box g1 25 [.sl 6 M,.sl 5 N] false)∧e 20=iv ss.length∧e 21=iv i∧∀j,j < i→errS ss j=0) (λi=>ss.length - i) 0 zr ?_ ?_
  ·rintro i e m ⟨hi,e1,m1,e20,e21,hz⟩
   by_cases hlt:i < ss.length
   ·have c:=cc i hlt;by_cases he:errS ss i=0
    ·rw [he] at c
     (refine wkap (w_6 e1 m1 e20 e21 hls hlg) (w_1 c) (w_r 0) (w_s ?_);intros)
     exact⟨i+1,⟨zo,gW e1,gW m1,gW e20,gS,λj hj=>by by_cases e:j=i;rw [e];exact he;exact hz j zo⟩,zo⟩
    ·rw [Zkd hz he hlt,Zv6 he];generalize errS ss i=z at *;exact wklp (w_6 e1 m1 e20 e21 hls hlg) (w_1 c) w_t (w_r 0) w_z
   ·have hi2:i=ss.length:=zo;subst hi2;rw [Zfm hz,Zv5 zs]
    (refine wkap (w_6 e1 m1 e20 e21 hls hlg) w_t (w_r 0) (w_s ?_);intros)
    refine Zai (ι:=Nat) (λi e m=>i≤gs.length∧e 1=.pbox 1 g1 0∧m 1=some (.box g1 25 [.sl 6 M,.sl 5 N] false)∧e 33=.sl 5 N∧e 34=iv gs.length∧e 35=iv i∧∀j,j < i→errG (gs.getD j ⟨0,[],⟨false,[],[]⟩⟩) ss.length=0) (λi=>gs.length - i) 0 zr ?_ ?_
    ·rintro i e m ⟨hi,e1,m1,e33,e34,e35,hz⟩
     by_cases hlt:i < gs.length
     ·have c:=cg i hlt;have hgi:=eg i hlt;have hgj:=eg2 i hlt;have hfa:=@Zkd (λi=>errG (gs.getD i ⟨0,[],⟨false,[],[]⟩⟩) ss.length) i hz;simp only [hgj] at hfa;generalize gs[i]=G at *;by_cases he:errG G ss.length=0
      ·rw [he] at c;clear hfa;obtain⟨k,ar,r,rl,rd⟩:=G
       (refine wkap (w_8 e1 m1 e33 e34 e35 hls hlg hgi) (w_1 c) (w_r 0) (w_s ?_);intros)
       exact⟨i+1,⟨zo,gW e1,gW m1,gW e33,gW e34,gS,λj hj=>by by_cases e:j=i;rw [e,hgj];exact he;exact hz j zo⟩,zo⟩
      ·rw [hfa he hlt];clear hfa;generalize errG G ss.length=z at *;obtain⟨k,ar,r,rl,rd⟩:=G;exact wklp (w_8 e1 m1 e33 e34 e35 hls hlg hgi) (w_1 c) w_t (w_r 0) w_z
     ·have hi2:i=gs.length:=zo;subst hi2;rw [Zfm hz];exact wklp (w_7 e1 m1 e33 e34 e35 hls hlg) w_t w_t (w_r 0) w_z
    ·exact⟨Zwk _,gW e1,gW m1,gC,gW hlg,gC,λj hj=>zo⟩
  ·exact⟨Zwk _,gC,gC,gW hls,gC,λj hj=>zo⟩
theorem Zob (σ:Mem) (K:Nat) (sv:Value) (L:List Pr) (hK:σ K=some (.row sv 64 2 (L.map prA) 0)) (hl:L.length < 256) (hs:∀p∈L,smP p):ACall prog 33 [.own K sv] σ λr σ'=>∃l':List Pr,l'.Perm L∧l'.Pairwise (λx y=>cmpP x y≤0)∧CmpR K sv l' (upd σ K (some (.row sv 64 2 (l'.map prA) 0))) r σ':=by
 refine Zbq (tok:=0) func33 rfl ntmps33 results33 call33 zr zs ?_;have cs:=ppSort σ K sv L hK hl hs;(focus (refine wkad w_t w_t w_t ?_;(repeat' first|exact w_t|apply w_l);all_goals intros));refine Zfv cs ?_
 rintro _ _ ⟨l',h1,h2,rfl,rfl⟩
 have cc:=Zuc (upd σ K (some (.row sv 64 2 (l'.map prA) 0))) K sv l' (by rw [Zak,Zv6 rfl]) (by rw [h1.length_eq];exact hl);obtain⟨σ1,hσ1⟩:∃σ1,upd σ K (some (.row sv 64 2 (l'.map prA) 0))=σ1:=⟨_,rfl⟩;rw [hσ1] at cc ⊢;(focus (refine wkad w_t w_t w_t ?_;(repeat' first|exact w_t|apply w_l);all_goals intros));refine Zfv cc ?_;intro r σ2 hr;(focus (refine wkad w_t w_t w_t ?_;(repeat' first|exact w_t|apply w_l);all_goals intros));exact⟨l',h1,h2,by rw [hσ1];exact hr⟩
theorem sides_in {k:Int} {p:Pr} (h:p∈Zcs k):p.1 < arS k∧p.2 < arS k:=by
 unfold Zcs at h;split at h
 ·rename_i hk;simp only [Zxk,List.not_mem_nil,or_false] at h;subst h;rcases hk with rfl | rfl | rfl | rfl<;>decide
 ·split at h
  ·rename_i hk;simp only [Zxk,List.not_mem_nil,or_false] at h;subst h;subst hk;decide
  ·split at h
   ·rename_i hk;simp only [Zxk,List.not_mem_nil,or_false] at h;rcases h with rfl | rfl<;>rcases hk with rfl | rfl | rfl<;>decide
   ·split at h
    ·rename_i hk;simp only [Zxk,List.not_mem_nil,or_false] at h;subst hk;rcases h with rfl | rfl<;>decide
    ·split at h
     ·rename_i hk;simp only [Zxk,List.not_mem_nil,or_false] at h;subst hk;rcases h with rfl | rfl | rfl<;>decide
     ·cases h
theorem parts_in {k:Int} {p:Pr} (h:p∈Zct k):0≤p.1∧p.1 < arG k∧0≤p.2∧p.2 < arG k:=by
 unfold Zct at h;split at h
 ·rename_i hk;simp only [Zxk,List.not_mem_nil,or_false] at h;subst hk;rcases h with rfl | rfl<;>decide
 ·split at h
  ·rename_i hk;simp only [Zxk,List.not_mem_nil,or_false] at h;rcases h with rfl | rfl<;>rcases hk with rfl | rfl | rfl | rfl<;>decide
  ·split at h
   ·rename_i hk;simp only [Zxk,List.not_mem_nil,or_false] at h;subst h;subst hk;decide
   ·split at h
    ·rename_i hk;simp only [Zxk,List.not_mem_nil,or_false] at h;subst hk;rcases h with rfl | rfl | rfl | rfl<;>decide
    ·cases h
theorem Zp9 (k:Int):(Zcs k).length≤3:=by
 unfold Zcs
 repeat' split
 all_goals simp
theorem Zqp (k:Int):(Zct k).length≤4:=by
 unfold Zct
 repeat' split
 all_goals simp
theorem Zfr (ss:List RS):∀i,(Za1 ss i).length≤3*i
 | 0=>Zwa _
 | i+1=>by
   have ih:=Zfr ss i;unfold Za1;rw [Zwy];split
   ·rename_i s _;have:=Zp9 s.k;unfold Zd2;rw [Zv9];omega
   ·simp;omega
theorem Zhm (gs:List RG):∀i,(Zbo gs i).length≤4*i
 | 0=>Zwa _
 | i+1=>by
   have ih:=Zhm gs i;unfold Zbo;rw [Zwy];split
   ·rename_i s _;have:=Zqp s.k;unfold Zd4;rw [Zv9];omega
   ·simp;omega
theorem Zkv {ss:List RS} {p:Pr}:∀{i:Nat},p∈Za1 ss i→∃j,∃h:j < ss.length,p∈Zd2 j ss[j]
 | 0,h=>by cases h
 | i+1,h=>by
   unfold Za1 at h;rcases List.mem_append.1 h with h | h
   ·exact Zkv h
   ·split at h
    ·rename_i s hs;obtain⟨hj,e⟩:=List.getElem?_eq_some_iff.1 hs;exact⟨i,hj,by rw [e];exact h⟩
    ·cases h
theorem Zle {gs:List RG} {p:Pr}:∀{i:Nat},p∈Zbo gs i→∃g∈gs,p∈Zd4 g
 | 0,h=>by cases h
 | i+1,h=>by
   unfold Zbo at h;rcases List.mem_append.1 h with h | h
   ·exact Zle h
   ·split at h
    ·rename_i s hs;exact⟨s,Zyp hs,h⟩
    ·cases h
structure LnOk (ss:List RS) (gs:List RG):Prop where
 l1:ss.length≤40
 l2:gs.length≤8
 hs:∀i (h:i < ss.length),∀p∈Zcs ss[i].k,p.1 < (ss[i].ar.length:Int)∧p.2 < (ss[i].ar.length:Int)
 hg:∀i (h:i < gs.length),∀p∈Zct gs[i].k,0≤p.1∧p.1 < (gs[i].ar.length:Int)∧0≤p.2∧p.2 < (gs[i].ar.length:Int)
 b:∀p∈Zcf ss gs,0≤p.1∧p.1 < ss.length∧0≤p.2∧p.2 < ss.length
 len:(Zcf ss gs).length≤152
theorem Zmm {g:RG} {n:Nat} (h:errG g n=0):(g.ar.length:Int)=arG g.k∧∀i,i < g.ar.length→0≤gI g.ar i∧gI g.ar i < (n:Int):=by
 unfold errG at h;split at h
 ·cases h
 ·split at h
  ·cases h
  ·rename_i h1;split at h
   ·cases h
   ·rename_i h2;exact⟨by simpa using h1,λi hi=>Zuk (by simpa using h2) hi⟩
theorem lnOk {ss:List RS} {gs:List RG} (h:figE ss gs=0):LnOk ss gs:=by
 unfold figE at h;split at h
 ·cases h
 ·rename_i h0;split at h
  ·rename_i h1;exact absurd h h1
  ·rename_i h1;have h1:fstE (errS ss) ss.length=0:=by simpa using h1
   have e1:∀i,i < ss.length→errS ss i=0:=Zh2 h1;have e2:∀i (hi:i < gs.length),errG gs[i] ss.length=0:=λi hi=>by
    have:=Zh2 h i hi
    rwa [show gs.getD i ⟨0,[],⟨false,[],[]⟩⟩=gs[i] from by rw [Zwp,Zwb hi];rfl] at this
   have k1:∀i (h:i < ss.length),∀p∈Zcs ss[i].k,p.1 < (ss[i].ar.length:Int)∧p.2 < (ss[i].ar.length:Int):=λi hi p hp=>by
    obtain⟨_,a,_⟩:=Zml hi (e1 i hi);rw [a];exact sides_in hp
   have k2:∀i (h:i < gs.length),∀p∈Zct gs[i].k,0≤p.1∧p.1 < (gs[i].ar.length:Int)∧0≤p.2∧p.2 < (gs[i].ar.length:Int):=λi hi p hp=>by
    obtain⟨a,_⟩:=Zmm (e2 i hi);rw [a];exact parts_in hp
   refine⟨zo,zo,k1,k2,λp hp=>?_,?_⟩
   ·unfold Zcf at hp;rcases List.mem_append.1 hp with hp | hp
    ·obtain⟨i,hi,hp⟩:=Zkv hp;unfold Zd2 at hp;obtain⟨q,hq,rfl⟩:=List.mem_map.1 hp;obtain⟨_,_,a,_⟩:=Zml hi (e1 i hi);obtain⟨b1,b2⟩:=k1 i hi q hq;have at_in:∀k:Int,k < (ss[i].ar.length:Int)→0≤atN i ss[i].ar k∧atN i ss[i].ar k < ss.length:=λk hk=>by
      unfold atN;split
      ·omega
      ·have:=a k.toNat zo;omega
     have c1:=at_in _ b1;have c2:=at_in _ b2;exact⟨c1.1,c1.2,c2.1,c2.2⟩
    ·obtain⟨g,hg,hp⟩:=Zle hp;obtain⟨i,hi,rfl⟩:=List.mem_iff_getElem.1 hg;unfold Zd4 at hp;obtain⟨q,hq,rfl⟩:=List.mem_map.1 hp;obtain⟨_,a⟩:=Zmm (e2 i hi);obtain⟨b1,b2,b3,b4⟩:=k2 i hi q hq;have c1:=a q.1.toNat zo;have c2:=a q.2.toNat zo;exact⟨c1.1,c1.2,c2.1,c2.2⟩
   ·have a:=Zfr ss ss.length;have b:=Zhm gs gs.length;unfold Zcf;rw [Zwy];omega
theorem ori_len (p:Pr):(ori p).length≤1:=by
 unfold ori
 repeat' split
 all_goals simp
theorem Zl4:∀(l:List Pr),(oris l).length≤l.length
 | []=>Zwa _
 | p :: l=>by
   have ih:=Zl4 l;have:=ori_len p;show(ori p++oris l).length≤_;rw [Zwy,Zwd];omega
theorem Zul {l:List Pr} {j:Nat} {p:Pr} (h:l[j]?=some p):oris (l.take (j+1))=oris (l.take j)++ori p:=by
 unfold oris;rw [Zz4,h,List.flatMap_append];simp
theorem rs1 (k x:Int) (nm:ByteArray) (ar:List Int) (bo:Bool) (l d:List Nat) (hk:k=2∨k=5∨k=10∨k=12) (h:1 < ar.length):Pure prog 49 [.agg [iv k,strA nm,ivs ar,.v (.bool bo),lim l,lim d],iv x] (.sl 2 [.agg [iv (gI ar 0),iv (gI ar 1)]]):=by
 have a0:(ar.map iv).getD 0 .u=iv (gI ar 0):=by rw [Zaf iv zo,Zbp zo]
 have a1:(ar.map iv).getD 1 .u=iv (gI ar 1):=by rw [Zaf iv zo,Zbp zo]
 have hll:(ar.map iv).length=ar.length:=Zv9 ..;rcases hk with rfl | rfl | rfl | rfl
 all_goals refine pI func49 rfl ntmps49 results49 call49 ?_
 all_goals (focus (refine wkad (w_3 hll a0 a1) w_t w_t ?_;(repeat' first|exact w_t|apply w_l);all_goals intros))
 all_goals exact gL
theorem rs2 (k x:Int) (nm:ByteArray) (ar:List Int) (bo:Bool) (l d:List Nat) (hk:k=8) (h:2 < ar.length):Pure prog 49 [.agg [iv k,strA nm,ivs ar,.v (.bool bo),lim l,lim d],iv x] (.sl 2 [.agg [iv (gI ar 1),iv (gI ar 2)]]):=by
 have a1:(ar.map iv).getD 1 .u=iv (gI ar 1):=by rw [Zaf iv zo,Zbp zo]
 have a2:(ar.map iv).getD 2 .u=iv (gI ar 2):=by rw [Zaf iv zo,Zbp zo]
 have hll:(ar.map iv).length=ar.length:=Zv9 ..;subst hk;all_goals refine pI func49 rfl ntmps49 results49 call49 ?_
 all_goals (focus (refine wkad (w_3 hll a1 a2) w_t w_t ?_;(repeat' first|exact w_t|apply w_l);all_goals intros))
 all_goals exact gL
theorem rs3 (k x:Int) (nm:ByteArray) (ar:List Int) (bo:Bool) (l d:List Nat) (hk:k=3∨k=4∨k=7) (h:2 < ar.length):Pure prog 49 [.agg [iv k,strA nm,ivs ar,.v (.bool bo),lim l,lim d],iv x] (.sl 2 [.agg [iv (gI ar 1),iv (gI ar 2)],.agg [iv (gI ar 0),iv x]]):=by
 have a0:(ar.map iv).getD 0 .u=iv (gI ar 0):=by rw [Zaf iv zo,Zbp zo]
 have a1:(ar.map iv).getD 1 .u=iv (gI ar 1):=by rw [Zaf iv zo,Zbp zo]
 have a2:(ar.map iv).getD 2 .u=iv (gI ar 2):=by rw [Zaf iv zo,Zbp zo]
 have hll:(ar.map iv).length=ar.length:=Zv9 ..;rcases hk with rfl | rfl | rfl
 all_goals refine pI func49 rfl ntmps49 results49 call49 ?_
 all_goals (focus (refine wkad (w_4 hll a0 a1 a2) w_t w_t ?_;(repeat' first|exact w_t|apply w_l);all_goals intros))
 all_goals exact gL
theorem rs4 (k x:Int) (nm:ByteArray) (ar:List Int) (bo:Bool) (l d:List Nat) (hk:k=9) (h:3 < ar.length):Pure prog 49 [.agg [iv k,strA nm,ivs ar,.v (.bool bo),lim l,lim d],iv x] (.sl 2 [.agg [iv (gI ar 0),iv (gI ar 1)],.agg [iv (gI ar 2),iv (gI ar 3)]]):=by
 have a0:(ar.map iv).getD 0 .u=iv (gI ar 0):=by rw [Zaf iv zo,Zbp zo]
 have a1:(ar.map iv).getD 1 .u=iv (gI ar 1):=by rw [Zaf iv zo,Zbp zo]
 have a2:(ar.map iv).getD 2 .u=iv (gI ar 2):=by rw [Zaf iv zo,Zbp zo]
 have a3:(ar.map iv).getD 3 .u=iv (gI ar 3):=by rw [Zaf iv zo,Zbp zo]
 have hll:(ar.map iv).length=ar.length:=Zv9 ..;subst hk;all_goals refine pI func49 rfl ntmps49 results49 call49 ?_
 all_goals (focus (refine wkad (w_5 hll a0 a1 a2 a3) w_t w_t ?_;(repeat' first|exact w_t|apply w_l);all_goals intros))
 all_goals exact gL
theorem rs5 (k x:Int) (nm:ByteArray) (ar:List Int) (bo:Bool) (l d:List Nat) (hk:k=14) (h:1 < ar.length):Pure prog 49 [.agg [iv k,strA nm,ivs ar,.v (.bool bo),lim l,lim d],iv x] (.sl 2 [.agg [iv (gI ar 0),iv (gI ar 1)],.agg [iv (gI ar 0),iv x],.agg [iv (gI ar 1),iv x]]):=by
 have a0:(ar.map iv).getD 0 .u=iv (gI ar 0):=by rw [Zaf iv zo,Zbp zo]
 have a1:(ar.map iv).getD 1 .u=iv (gI ar 1):=by rw [Zaf iv zo,Zbp zo]
 have hll:(ar.map iv).length=ar.length:=Zv9 ..;subst hk;all_goals refine pI func49 rfl ntmps49 results49 call49 ?_
 all_goals (focus (refine wkad (w_3 hll a0 a1) w_t w_t ?_;(repeat' first|exact w_t|apply w_l);all_goals intros))
 all_goals exact gL
theorem rs0 (k x:Int) (nm:ByteArray) (ar:List Int) (bo:Bool) (l d:List Nat) (n2:¬k=2) (n5:¬k=5) (n10:¬k=10) (n12:¬k=12) (n8:¬k=8) (n3:¬k=3) (n4:¬k=4) (n7:¬k=7) (n9:¬k=9) (n14:¬k=14):Pure prog 49 [.agg [iv k,strA nm,ivs ar,.v (.bool bo),lim l,lim d],iv x] (.v (.slice none 0 0)):=by
 refine pI func49 rfl ntmps49 results49 call49 ?_;(focus (refine wkad (w_10 n2 n5 n10 n12 n8 n3 n4 n7 n9 n14) w_t w_t ?_;(repeat' first|exact w_t|apply w_l);all_goals intros));all_goals exact gL
theorem rfStep (i:Nat) (s:RS) (hs:∀p∈Zcs s.k,p.1 < (s.ar.length:Int)∧p.2 < (s.ar.length:Int)):Pure prog 49 [s.av,iv i] (.sl 2 ((Zd2 i s).map prA)):=by
 obtain⟨k,nm,ar,⟨bo,l,d⟩⟩:=s;show Pure _ _ [.agg [iv k,strA nm,ivs ar,.v (.bool bo),lim l,lim d],iv i] _;unfold Zd2;simp only at hs ⊢;unfold Zcs at hs ⊢;split
 ·rename_i h;rw [Zv6 h] at hs;have:=(hs (0,1) zs).2;exact rs1 k i nm ar bo l d zo (by simp only at this;omega)
 ·rename_i h1;rw [Zv5 h1] at hs;split
  ·rename_i h;rw [Zv6 h] at hs;have:=(hs (1,2) zs).2;exact rs2 k i nm ar bo l d h (by simp only at this;omega)
  ·rename_i h2;rw [Zv5 h2] at hs;split
   ·rename_i h;rw [Zv6 h] at hs;have:=(hs (1,2) zs).2;exact rs3 k i nm ar bo l d h (by simp only at this;omega)
   ·rename_i h3;rw [Zv5 h3] at hs;split
    ·rename_i h;rw [Zv6 h] at hs;have:=(hs (2,3) zs).2;exact rs4 k i nm ar bo l d h (by simp only at this;omega)
    ·rename_i h4;rw [Zv5 h4] at hs;split
     ·rename_i h;rw [Zv6 h] at hs;have:=(hs (0,1) zs).2;exact rs5 k i nm ar bo l d h (by simp only at this;omega)
     ·exact Zcx (rs0 k i nm ar bo l d zo zo zo zo zo zo zo zo zo zo) (.nil 2)
theorem rg1 (k:Int) (ar:List Int) (bo:Bool) (l d:List Nat) (hk:k=1) (h:2 < ar.length):Pure prog 50 [.agg [iv k,ivs ar,.v (.bool bo),lim l,lim d]] (.sl 2 [.agg [iv (gI ar 0),iv (gI ar 1)],.agg [iv (gI ar 1),iv (gI ar 2)]]):=by
 have a0:(ar.map iv).getD 0 .u=iv (gI ar 0):=by rw [Zaf iv zo,Zbp zo]
 have a1:(ar.map iv).getD 1 .u=iv (gI ar 1):=by rw [Zaf iv zo,Zbp zo]
 have a2:(ar.map iv).getD 2 .u=iv (gI ar 2):=by rw [Zaf iv zo,Zbp zo]
 have hll:(ar.map iv).length=ar.length:=Zv9 ..;subst hk;all_goals refine pI func50 rfl ntmps50 results50 call50 ?_
 all_goals (focus (refine wkad (w_4 hll a0 a1 a2) w_t w_t ?_;(repeat' first|exact w_t|apply w_l);all_goals intros))
 all_goals exact gL
theorem rg2s (k:Int) (ar:List Int) (bo:Bool) (l d:List Nat) (hk:k=2∨k=3∨k=4∨k=9) (h:3 < ar.length):Pure prog 50 [.agg [iv k,ivs ar,.v (.bool bo),lim l,lim d]] (.sl 2 [.agg [iv (gI ar 0),iv (gI ar 1)],.agg [iv (gI ar 2),iv (gI ar 3)]]):=by
 have a0:(ar.map iv).getD 0 .u=iv (gI ar 0):=by rw [Zaf iv zo,Zbp zo]
 have a1:(ar.map iv).getD 1 .u=iv (gI ar 1):=by rw [Zaf iv zo,Zbp zo]
 have a2:(ar.map iv).getD 2 .u=iv (gI ar 2):=by rw [Zaf iv zo,Zbp zo]
 have a3:(ar.map iv).getD 3 .u=iv (gI ar 3):=by rw [Zaf iv zo,Zbp zo]
 have hll:(ar.map iv).length=ar.length:=Zv9 ..;rcases hk with rfl | rfl | rfl | rfl
 all_goals refine pI func50 rfl ntmps50 results50 call50 ?_
 all_goals (focus (refine wkad (w_5 hll a0 a1 a2 a3) w_t w_t ?_;(repeat' first|exact w_t|apply w_l);all_goals intros))
 all_goals exact gL
theorem rg3 (k:Int) (ar:List Int) (bo:Bool) (l d:List Nat) (hk:k=5) (h:2 < ar.length):Pure prog 50 [.agg [iv k,ivs ar,.v (.bool bo),lim l,lim d]] (.sl 2 [.agg [iv (gI ar 1),iv (gI ar 2)]]):=by
 have a1:(ar.map iv).getD 1 .u=iv (gI ar 1):=by rw [Zaf iv zo,Zbp zo]
 have a2:(ar.map iv).getD 2 .u=iv (gI ar 2):=by rw [Zaf iv zo,Zbp zo]
 have hll:(ar.map iv).length=ar.length:=Zv9 ..;subst hk;all_goals refine pI func50 rfl ntmps50 results50 call50 ?_
 all_goals (focus (refine wkad (w_3 hll a1 a2) w_t w_t ?_;(repeat' first|exact w_t|apply w_l);all_goals intros))
 all_goals exact gL
theorem rg4 (k:Int) (ar:List Int) (bo:Bool) (l d:List Nat) (hk:k=7) (h:7 < ar.length):Pure prog 50 [.agg [iv k,ivs ar,.v (.bool bo),lim l,lim d]] (.sl 2 [.agg [iv (gI ar 0),iv (gI ar 1)],.agg [iv (gI ar 2),iv (gI ar 3)],.agg [iv (gI ar 4),iv (gI ar 5)],.agg [iv (gI ar 6),iv (gI ar 7)]]):=by
 have a0:(ar.map iv).getD 0 .u=iv (gI ar 0):=by rw [Zaf iv zo,Zbp zo]
 have a1:(ar.map iv).getD 1 .u=iv (gI ar 1):=by rw [Zaf iv zo,Zbp zo]
 have a2:(ar.map iv).getD 2 .u=iv (gI ar 2):=by rw [Zaf iv zo,Zbp zo]
 have a3:(ar.map iv).getD 3 .u=iv (gI ar 3):=by rw [Zaf iv zo,Zbp zo]
 have a4:(ar.map iv).getD 4 .u=iv (gI ar 4):=by rw [Zaf iv zo,Zbp zo]
 have a5:(ar.map iv).getD 5 .u=iv (gI ar 5):=by rw [Zaf iv zo,Zbp zo]
 have a6:(ar.map iv).getD 6 .u=iv (gI ar 6):=by rw [Zaf iv zo,Zbp zo]
 have a7:(ar.map iv).getD 7 .u=iv (gI ar 7):=by rw [Zaf iv zo,Zbp zo]
 have hll:(ar.map iv).length=ar.length:=Zv9 ..;subst hk;all_goals refine pI func50 rfl ntmps50 results50 call50 ?_
 all_goals (focus (refine wkad (w_9 hll a0 a1 a2 a3 a4 a5 a6 a7) w_t w_t ?_;(repeat' first|exact w_t|apply w_l);all_goals intros))
 all_goals exact gL
theorem rg0 (k:Int) (ar:List Int) (bo:Bool) (l d:List Nat) (n1:¬k=1) (n2:¬k=2) (n3:¬k=3) (n4:¬k=4) (n9:¬k=9) (n5:¬k=5) (n7:¬k=7):Pure prog 50 [.agg [iv k,ivs ar,.v (.bool bo),lim l,lim d]] (.v (.slice none 0 0)):=by
 refine pI func50 rfl ntmps50 results50 call50 ?_;(focus (refine wkad (w_7 n1 n2 n3 n4 n9 n5 n7) w_t w_t ?_;(repeat' first|exact w_t|apply w_l);all_goals intros));all_goals exact gL
theorem rfGoal (g:RG) (hs:∀p∈Zct g.k,0≤p.1∧p.1 < (g.ar.length:Int)∧0≤p.2∧p.2 < (g.ar.length:Int)):Pure prog 50 [g.av] (.sl 2 ((Zd4 g).map prA)):=by
 obtain⟨k,ar,⟨bo,l,d⟩⟩:=g;show Pure _ _ [.agg [iv k,ivs ar,.v (.bool bo),lim l,lim d]] _;unfold Zd4;simp only at hs ⊢;unfold Zct at hs ⊢;split
 ·rename_i h;rw [Zv6 h] at hs;have:=(hs (1,2) zs).2.2.2;exact rg1 k ar bo l d h (by simp only at this;omega)
 ·rename_i h1;rw [Zv5 h1] at hs;split
  ·rename_i h;rw [Zv6 h] at hs;have:=(hs (2,3) zs).2.2.2;exact rg2s k ar bo l d h (by simp only at this;omega)
  ·rename_i h2;rw [Zv5 h2] at hs;split
   ·rename_i h;rw [Zv6 h] at hs;have:=(hs (1,2) zs).2.2.2;exact rg3 k ar bo l d h (by simp only at this;omega)
   ·rename_i h3;rw [Zv5 h3] at hs;split
    ·rename_i h;rw [Zv6 h] at hs;have:=(hs (6,7) zs).2.2.2;exact rg4 k ar bo l d h (by simp only at this;omega)
    ·exact Zcx (rg0 k ar bo l d zo zo zo zo zo zo zo) (.nil 2)
theorem rfHas (all:List Pr) (p:Pr) (hl:all.length≤1000000):Pure prog 51 [.sl 2 (all.map prA),prA p] (.v (.bool (decide (p∈all)))):=by
 have hll:(all.map prA).length=all.length:=Zv9 ..;have kA:∀j (h:j < all.length),(all.map prA).getD j .u=.agg [iv all[j].1,iv all[j].2]:=λj h=>Zaf prA h;obtain⟨a,b⟩:=p;show Pure _ _ [_,.agg [iv a,iv b]] _;generalize hM:all.map prA=M at *;refine pI func51 rfl ntmps51 results51 call51 ?_;(focus (refine wkad (w_1 hll) w_t w_t ?_;(repeat' first|exact w_t|apply w_l);all_goals intros));rename_i g3;refine Zai (ι:=Nat) (λi e m=>i≤all.length∧(e 3=.pbox 3 g3 0∧m 3=some (.box g3 64 [iv a,iv b] false))∧e 7=.sl 2 M∧e 8=iv all.length∧e 9=iv i∧∀j (h:j < all.length),j < i→all[j]≠(a,b)) (λi=>all.length - i) 0 zr ?_ ?_
 ·rintro i e m ⟨hi,⟨e3,m3⟩,e7,e8,e9,hn⟩
  by_cases hlt:i < all.length
  ·have gi:=kA i hlt;by_cases hc:all[i]=(a,b)
   ·rw [hc] at gi;rw [Zv8 (by rw [←hc];exact Zwq hlt:(a,b)∈all)];(focus (refine wkad (w_7 e3 m3 e7 e8 e9 gi hll) w_t w_t ?_;(repeat' first|exact w_t|apply w_l);all_goals intros));all_goals exact gL
   ·have hne:∀j (h:j < all.length),j < i+1→all[j]≠(a,b):=λj h hj=>by
     by_cases e:j=i
     ·subst e;exact hc
     ·exact hn j h zo
    generalize all[i]=q at *;obtain⟨q1,q2⟩:=q;simp only at gi;by_cases h1:q1=a
    ·subst h1;have h2:¬q2=b:=λe=>hc (by rw [e]);(focus (refine wkad (w_8 e3 m3 e7 e8 e9 gi hll h2) w_t w_t ?_;(repeat' first|exact w_t|apply w_l);all_goals intros));exact⟨i+1,⟨zo,⟨gW e3,gW m3⟩,gW e7,gW e8,gS,hne⟩,zo⟩
    ·(focus (refine wkad (w_8 e3 m3 e7 e8 e9 gi hll h1) w_t w_t ?_;(repeat' first|exact w_t|apply w_l);all_goals intros));all_goals first|(rename_i hz;exact absurd hz.1 zs)|exact⟨i+1,⟨zo,⟨gW e3,gW m3⟩,gW e7,gW e8,gS,hne⟩,zo⟩
  ·have hii:i=all.length:=zo;subst hii;rw [Zv7 (λh=>by obtain⟨j,hj,e⟩:=List.mem_iff_getElem.1 h;exact hn j hj hj e:¬(a,b)∈all)];(focus (refine wkad (w_6 e3 m3 e7 e8 e9 hll) w_t w_t ?_;(repeat' first|exact w_t|apply w_l);all_goals intros));all_goals exact gL
 ·exact⟨Zwk _,⟨gC,gC⟩,gC,gW hll,gC,λj h hj=>zo⟩
theorem Zjr (all:List Pr) (i:Nat):∀m,(Zee all i m).length≤m
 | 0=>Zwa _
 | m+1=>by
   have ih:=Zjr all i m;unfold Zee;rw [Zwy];split<;>simp<;>omega
theorem Zju (all:List Pr) (n:Nat):∀m,(Zdi all n m).length≤m*n
 | 0=>Zwk _
 | m+1=>by
   have ih:=Zju all n m;have h:=Zjr all m (n - (m+1));unfold Zdi;rw [Zwy,Nat.succ_mul];omega
theorem rfLines0 (ss:List RS) (gs:List RG) (cR:Pure prog 48 [figA ss gs] (iv (figE ss gs))) (h:figE ss gs≠0):Pure prog 21 [figA ss gs] (.tup [.sl 2 [],iv (figE ss gs)]):=by
 refine Zcx (r:=.tup [.v (.slice none 0 0),iv (figE ss gs)]) ?_ (Vk.tupL (.cons (.nil 2) (.cons (.refl _) .nil)));have cR:Pure prog 48 [.agg [.sl 6 (ss.map RS.av),.sl 5 (gs.map RG.av)]] (iv (figE ss gs)):=cR;show Pure _ _ [.agg [.sl 6 (ss.map RS.av),.sl 5 (gs.map RG.av)]] _;generalize figE ss gs=z at *;generalize ss.map RS.av=M at *;generalize gs.map RG.av=N at *;refine pI func21 rfl ntmps21 results21 call21 ?_;(focus (refine wkld w_t (w_1 cR) w_t w_t ?_;(repeat' first|exact w_t|apply w_l);all_goals intros))
theorem rfLines1 (ss:List RS) (gs:List RG) (cR:Pure prog 48 [figA ss gs] (iv 0)) (ok:LnOk ss gs):Pure prog 21 [figA ss gs] (.tup [.sl 2 ((Zdi (Zcf ss gs) ss.length ss.length).map prA),iv 0]):=by
 have cR:Pure prog 48 [.agg [.sl 6 (ss.map RS.av),.sl 5 (gs.map RG.av)]] (iv 0):=cR;have hls:(ss.map RS.av).length=ss.length:=Zv9 ..;have hlg:(gs.map RG.av).length=gs.length:=Zv9 ..;have kS:∀i (h:i < ss.length),(ss.map RS.av).getD i .u=ss[i].av:=λi h=>Zaf RS.av h;have kG:∀i (h:i < gs.length),(gs.map RG.av).getD i .u=gs[i].av:=λi h=>Zaf RG.av h;have cS:=λi (h:i < ss.length)=>rfStep i ss[i] (ok.hs i h);have cG:=λi (h:i < gs.length)=>rfGoal gs[i] (ok.hg i h);have cH:=λp=>rfHas (Zcf ss gs) p (by have:=ok.len;omega);have l1:=ok.l1;have l2:=ok.l2;have hlen:=ok.len
 show Pure _ _ [.agg [.sl 6 (ss.map RS.av),.sl 5 (gs.map RG.av)]] _;generalize ss.map RS.av=M at *;generalize gs.map RG.av=N at *;refine pI func21 rfl ntmps21 results21 call21 ?_;(focus (refine wkad (w_1 hls) (w_1 cR) w_t ?_;(repeat' first|exact w_t|apply w_l);all_goals intros));rename_i g1;refine Zez (Frz.nilOwn (d:=5) 305 2 64 (gC)) ?_;refine Zai (ι:=Nat) (λi e m=>i≤ss.length∧(e 1=.pbox 1 g1 0∧m 1=some (.box g1 25 [.sl 6 M,.sl 5 N] false))∧e 19=.sl 6 M∧e 20=iv ss.length∧e 21=iv i∧∃sv,e 5=.own 305 sv∧m 305=some (.row sv 64 2 ((Za1 ss i).map prA) 0)) (λi=>ss.length - i) 0 zr ?_ ?_
 ·rintro i e m ⟨hi,⟨e1,m1⟩,e19,e20,e21,sv,e5,m5⟩
  by_cases hlt:i < ss.length
  ·have gi:=kS i hlt;have c:=cS i hlt;have hsu:=Zf6 hlt;have h3:=Zfr ss i;have hl3:((Za1 ss i).map prA).length≤120:=by rw [Zv9];omega
   have h4:=Zp9 ss[i].k;have hl4:((Zd2 i ss[i]).map prA).length≤3:=by unfold Zd2;rw [Zv9,Zv9];exact h4
   have hsm:(Za1 ss i).map prA++(Zd2 i ss[i]).map prA=(Za1 ss (i+1)).map prA:=by rw [hsu,Zye]
   clear hsu h3 h4 cS cG cH cR;generalize (Za1 ss i).map prA=A at *;generalize (Zd2 i ss[i]).map prA=C at *;generalize ss[i]=s at *;obtain⟨k,nm,ar,⟨bo,l,d⟩⟩:=s;have c:Pure prog 49 [.agg [iv k,strA nm,ivs ar,.v (.bool bo),lim l,lim d],iv i] (.sl 2 C):=c;have gi:M.getD i .u=.agg [iv k,strA nm,ivs ar,.v (.bool bo),lim l,lim d]:=gi;(focus (refine wkad (w_11 e1 m1 e19 e20 e21 e5 m5 gi hls hl3 hl4) (w_1 c) w_t ?_;(repeat' first|exact w_t|apply w_l);all_goals intros));exact⟨i+1,⟨zo,⟨gW e1,gW m1⟩,gW e19,gW e20,gS,_,gC,by rw [←hsm];exact gC⟩,zo⟩
  ·have hii:i=ss.length:=zo;subst hii;(focus (refine wkad (w_8 e1 m1 e19 e20 e21 e5 m5 hlg) w_t w_t ?_;(repeat' first|exact w_t|apply w_l);all_goals intros));refine Zai (ι:=Nat) (λi e m=>i≤gs.length∧(e 1=.pbox 1 g1 0∧m 1=some (.box g1 25 [.sl 6 M,.sl 5 N] false))∧e 33=.sl 5 N∧e 34=iv gs.length∧e 35=iv i∧∃sv,e 5=.own 305 sv∧m 305=some (.row sv 64 2 ((Za1 ss ss.length++Zbo gs i).map prA) 0)) (λi=>gs.length - i) 0 zr ?_ ?_
   ·rintro i e m ⟨hi,⟨e1,m1⟩,e33,e34,e35,sv,e5,m5⟩
    by_cases hlt:i < gs.length
    ·have gi:=kG i hlt;have c:=cG i hlt;have hsu:=Zgf hlt;have h3:=Zhm gs i;have h30:=Zfr ss ss.length;have hl3:((Za1 ss ss.length++Zbo gs i).map prA).length≤152:=by rw [Zv9,Zwy];omega
     have h4:=Zqp gs[i].k;have hl4:((Zd4 gs[i]).map prA).length≤4:=by unfold Zd4;rw [Zv9,Zv9];exact h4
     have hsm:(Za1 ss ss.length++Zbo gs i).map prA++(Zd4 gs[i]).map prA=(Za1 ss ss.length++Zbo gs (i+1)).map prA:=by rw [hsu,←Zxe];simp only [Zye]
     clear hsu h3 h4 cS cG cH cR;generalize (Za1 ss ss.length++Zbo gs i).map prA=A at *;generalize (Zd4 gs[i]).map prA=C at *;generalize gs[i]=g at *;obtain⟨k,ar,⟨bo,l,d⟩⟩:=g;have c:Pure prog 50 [.agg [iv k,ivs ar,.v (.bool bo),lim l,lim d]] (.sl 2 C):=c;have gi:N.getD i .u=.agg [iv k,ivs ar,.v (.bool bo),lim l,lim d]:=gi;(focus (refine wkad (w_11 e1 m1 e33 e34 e35 e5 m5 gi hlg hl3 hl4) (w_1 c) w_t ?_;(repeat' first|exact w_t|apply w_l);all_goals intros));exact⟨i+1,⟨zo,⟨gW e1,gW m1⟩,gW e33,gW e34,gS,_,gC,by rw [←hsm];exact gC⟩,zo⟩
    ·have hii:i=gs.length:=zo;subst hii;have hal:(Za1 ss ss.length++Zbo gs gs.length)=Zcf ss gs:=rfl;rw [hal] at m5;clear cR cS cG;(focus (refine wkad (w_8 e1 m1 e33 e34 e35 e5 m5 hls) w_t w_t ?_;(repeat' first|exact w_t|apply w_l);all_goals intros));refine Zez (Frz.own (d:=5) (k:=305) (sv:=sv) (ty:=64) (mm:=2) (es:=(Zcf ss gs).map prA) (pub:=0) (gW e5) (gW m5)) ?_;refine Zez (Frz.nilOwn (d:=10) 310 2 64 (gC)) ?_;generalize hall:Zcf ss gs=all at *;refine Zai (ι:=Nat) (λi e m=>i≤ss.length∧(e 1=.pbox 1 g1 0∧m 1=some (.box g1 25 [.sl 6 M,.sl 5 N] false))∧e 5=.sl 2 (all.map prA)∧e 46=iv ss.length∧e 47=iv i∧∃sv,e 10=.own 310 sv∧m 310=some (.row sv 64 2 ((Zdi all ss.length i).map prA) 0)) (λi=>ss.length - i) 0 zr ?_ ?_
     ·rintro i e m ⟨hi,⟨e1,m1⟩,e5,e46,e47,sv,e10,m10⟩
      by_cases hlt:i < ss.length
      ·(focus (refine wkad (w_7 e1 m1 e5 e46 e47 e10 m10) w_t w_t ?_;(repeat' first|exact w_t|apply w_l);all_goals intros));refine Zai (ι:=Nat) (λq e m=>i+1+q≤ss.length∧(e 1=.pbox 1 g1 0∧m 1=some (.box g1 25 [.sl 6 M,.sl 5 N] false))∧e 5=.sl 2 (all.map prA)∧e 46=iv ss.length∧e 47=iv i∧e 11=iv i∧e 12=iv ((i+1+q:Nat):Int)∧∃sv,e 10=.own 310 sv∧m 310=some (.row sv 64 2 ((Zdi all ss.length i++Zee all i q).map prA) 0)) (λq=>ss.length - q) 0 zr ?_ ?_
       ·rintro q e m ⟨hq,⟨e1,m1⟩,e5,e46,e47,e11,e12,sv,e10,m10⟩
        by_cases hql:i+1+q < ss.length
        ·have c1:=cH ((i:Int),((i+1+q:Nat):Int));have c2:=cH (((i+1+q:Nat):Int),(i:Int));have hrow:Zee all i (q+1)=Zee all i q++(if hasB all i (i+1+q) then [((i:Int),((i+1+q:Nat):Int))] else []):=rfl;have hb:hasB all i (i+1+q)=(decide (((i:Int),((i+1+q:Nat):Int))∈all) || decide ((((i+1+q:Nat):Int),(i:Int))∈all)):=rfl;rw [hb] at hrow;have hql2:((i+1+q:Nat):Int) < (ss.length:Int):=zo
         have hsl:((Zdi all ss.length i++Zee all i q).map prA).length≤1700:=by
          have r1:=Zju all ss.length i;have r2:=Zjr all i q;have r3:i*ss.length≤40*40:=Zyq zo l1;rw [Zv9,Zwy];omega
         have c1:Pure prog 51 [.sl 2 (all.map prA),.agg [iv i,iv ((i+1+q:Nat):Int)]] _:=c1;have c2:Pure prog 51 [.sl 2 (all.map prA),.agg [iv ((i+1+q:Nat):Int),iv i]] _:=c2;have hw:IntKind.i64.wrap (((i+1+q:Nat):Int)+1)=((i+1+(q+1):Nat):Int):=by rw [Za9 zo zo];omega
         have hyes:(Zee all i (q+1)=Zee all i q++[((i:Int),((i+1+q:Nat):Int))])→(Zdi all ss.length i++Zee all i (q+1)).map prA=(Zdi all ss.length i++Zee all i q).map prA++[.agg [iv i,iv ((i+1+q:Nat):Int)]]:=λh=>by rw [h,←Zxe];simp only [Zye];rfl
         generalize decide (((i:Int),((i+1+q:Nat):Int))∈all)=b1 at *;generalize decide ((((i+1+q:Nat):Int),(i:Int))∈all)=b2 at *;clear cH
         cases b1 with
         | true =>
           have hrw:=hyes (by rw [hrow];rfl);generalize (Zdi all ss.length i++Zee all i q).map prA=A at *;generalize ((i+1+q:Nat):Int)=kk at *;(focus (refine wkad (w_13 e1 m1 e5 e46 e47 e11 e12 e10 m10 hls hql2 hsl hw) (w_2 c1 c2) w_t ?_;(repeat' first|exact w_t|apply w_l);all_goals intros));exact⟨q+1,⟨zo,⟨gW e1,gW m1⟩,gW e5,gW e46,gW e47,gW e11,gW hw,_,gC,by rw [hrw];exact gC⟩,zo⟩
         | false =>
           cases b2 with
           | true =>
             have hrw:=hyes (by rw [hrow];rfl);generalize (Zdi all ss.length i++Zee all i q).map prA=A at *;generalize ((i+1+q:Nat):Int)=kk at *;(focus (refine wkad (w_13 e1 m1 e5 e46 e47 e11 e12 e10 m10 hls hql2 hsl hw) (w_2 c1 c2) w_t ?_;(repeat' first|exact w_t|apply w_l);all_goals intros));exact⟨q+1,⟨zo,⟨gW e1,gW m1⟩,gW e5,gW e46,gW e47,gW e11,gW hw,_,gC,by rw [hrw];exact gC⟩,zo⟩
           | false =>
             have hrw:(Zdi all ss.length i++Zee all i (q+1)).map prA=(Zdi all ss.length i++Zee all i q).map prA:=by rw [hrow];simp
             generalize (Zdi all ss.length i++Zee all i q).map prA=A at *;generalize ((i+1+q:Nat):Int)=kk at *;(focus (refine wkad (w_13 e1 m1 e5 e46 e47 e11 e12 e10 m10 hls hql2 hsl hw) (w_2 c1 c2) w_t ?_;(repeat' first|exact w_t|apply w_l);all_goals intros));exact⟨q+1,⟨zo,⟨gW e1,gW m1⟩,gW e5,gW e46,gW e47,gW e11,gW hw,sv,gW e10,by rw [hrw];exact gW m10⟩,zo⟩
        ·have hqq:q=ss.length - (i+1):=zo;have hfin:Zdi all ss.length i++Zee all i q=Zdi all ss.length (i+1):=by rw [hqq];rfl
         rw [hfin] at m10;have hnl:¬((i+1+q:Nat):Int) < (ss.length:Int):=zo;generalize ((i+1+q:Nat):Int)=kk at *;(focus (refine wkad (w_11 e1 m1 e5 e46 e47 e11 e12 e10 m10 hls hnl) w_t w_t ?_;(repeat' first|exact w_t|apply w_l);all_goals intros));exact⟨i+1,⟨zo,⟨gW e1,gW m1⟩,gW e5,gW e46,gS,sv,gW e10,gW m10⟩,zo⟩
       ·exact⟨zo,⟨gW e1,gW m1⟩,gW e5,gW e46,gW e47,gC,gS,sv,gW e10,by rw [show Zdi all ss.length i++Zee all i 0=Zdi all ss.length i from Zxl _];exact gW m10⟩
      ·have hii:i=ss.length:=zo;subst hii;generalize (Zdi all ss.length ss.length).map prA=F at *;clear cH;(focus (refine wkad (w_7 e1 m1 e5 e46 e47 e10 m10) w_t w_t ?_;(repeat' first|exact w_t|apply w_l);all_goals intros));all_goals exact gM (w_1 m10)
     ·exact⟨Zwk _,⟨gW e1,gW m1⟩,gC,gW hls,gC,_,gC,gC⟩
   ·exact⟨Zwk _,⟨gW e1,gW m1⟩,gC,gW hlg,gC,sv,gW e5,by rw [show Za1 ss ss.length++Zbo gs 0=Za1 ss ss.length from Zxl _];exact gW m5⟩
 ·exact⟨Zwk _,⟨gC,gC⟩,gC,gW hls,gC,_,gC,gC⟩
def Zbx (k:Int):List Pr:=if k=6 then [(0,1)] else if k=10 then [(2,0)] else if k=11 then [(-1,0)] else if k=12 then [(2,3)] else if k=13 then [(0,1),(2,3)] else []
def Zcm (_:Int):List Pr:=[]
def Zlt (k:Int):AV:=if k=6 then .sl 2 [.agg [iv 0,iv 1]] else if k=10 then .sl 2 [.agg [iv 2,iv 0]] else if k=11 then .sl 2 [.agg [iv (-1),iv 0]] else if k=12 then .sl 2 [.agg [iv 2,iv 3]] else if k=13 then .sl 2 [.agg [iv 0,iv 1],.agg [iv 2,iv 3]] else .v (.slice none 0 0)
theorem sidesVC (k:Int):Vk (Zlt k) (.sl 2 ((Zbx k).map prA)):=by
 unfold Zlt Zbx;exact Zhq (.refl _) (Zhq (.refl _) (Zhq (.refl _) (Zhq (.refl _) (Zhq (.refl _) (.nil 2)))))
theorem drSidesC (k:Int):Pure prog 46 [iv k] (.sl 2 ((Zbx k).map prA)):=by
 refine Zcx (r:=Zlt k) ?_ (sidesVC k);refine pI func46 rfl ntmps46 results46 call46 ?_;(focus (refine wkad w_t w_t w_t ?_;(repeat' first|exact w_t|apply w_l);all_goals intros));all_goals (all_goals (try simp (disch:=omega) only [go_sem,Zlt,Zv8,Zv7,Zv6,Zv5,Int.reduceAdd,Int.reduceSub,Int.reduceToNat,Zwc]));(all_goals first|done|rfl|(congr 2;first|done|omega|(rw [Zxc];simp only [bool_to_prop,Zwm,Zxo,Zxp,Zxq,Zxr];omega))|skip)
theorem drPartsC (k:Int):Pure prog 47 [iv k] (.sl 2 ((Zcm k).map prA)):=by
 refine Zcx (r:=.v (.slice none 0 0)) ?_ (.nil 2);refine pI func47 rfl ntmps47 results47 call47 ?_;(focus (refine wkad w_t w_t w_t ?_;(repeat' first|exact w_t|apply w_l);all_goals intros));all_goals exact gL
def Zcu (i:Nat) (s:RS):List Pr:=(Zbx s.k).map λp=>(atN i s.ar p.1,atN i s.ar p.2)
def Zfc (g:RG):List Pr:=(Zcm g.k).map λp=>(gI g.ar p.1.toNat,gI g.ar p.2.toNat)
def Zay (ss:List RS):Nat→List Pr
 | 0=>[]
 | i+1=>Zay ss i++(match ss[i]? with | some s=>Zcu i s | none=>[])
def Zbn (gs:List RG):Nat→List Pr
 | 0=>[]
 | i+1=>Zbn gs i++(match gs[i]? with | some g=>Zfc g | none=>[])
def Zb8 (ss:List RS) (gs:List RG):List Pr:=Zay ss ss.length++Zbn gs gs.length
theorem Zfq {ss:List RS} {i:Nat} (h:i < ss.length):Zay ss (i+1)=Zay ss i++Zcu i ss[i]:=by
 unfold Zay;rw [Zwb h];cases i<;>rfl
theorem Zh1 {gs:List RG} {i:Nat} (h:i < gs.length):Zbn gs (i+1)=Zbn gs i++Zfc gs[i]:=by
 unfold Zbn;rw [Zwb h];cases i<;>rfl
theorem Zor (k:Int):(Zbx k).length≤10:=by
 unfold Zbx
 repeat' split
 all_goals simp
theorem Zo9 (k:Int):(Zcm k).length≤10:=by
 unfold Zcm;simp
theorem Zio (ss:List RS) (i:Nat):∀n,i≤n→∃r,Zay ss n=Zay ss i++r
 | 0,h=>⟨[],by rw [Nat.le_zero.1 h,Zxl]⟩
 | n+1,h=>by
   by_cases hi:i=n+1
   ·subst hi;exact⟨[],(Zxl _).symm⟩
   ·obtain⟨r,hr⟩:=Zio ss i n zo;exact⟨r++(match ss[n]? with | some s=>Zcu n s | none=>[]),by rw [←Zxe,←hr];rfl⟩
theorem Ziv (gs:List RG) (i:Nat):∀n,i≤n→∃r,Zbn gs n=Zbn gs i++r
 | 0,h=>⟨[],by rw [Nat.le_zero.1 h,Zxl]⟩
 | n+1,h=>by
   by_cases hi:i=n+1
   ·subst hi;exact⟨[],(Zxl _).symm⟩
   ·obtain⟨r,hr⟩:=Ziv gs i n zo;exact⟨r++(match gs[n]? with | some s=>Zfc s | none=>[]),by rw [←Zxe,←hr];rfl⟩
theorem Zpy {ss:List RS} {gs:List RG} {i j:Nat} (h:i < ss.length) {p:Pr} (hp:(Zcu i ss[i])[j]?=some p):(Zb8 ss gs)[(Zay ss i).length+j]?=some p:=by
 obtain⟨r,hr⟩:=Zio ss (i+1) ss.length zo;have hj:j < (Zcu i ss[i]).length:=(List.getElem?_eq_some_iff.1 hp).1;unfold Zb8;rw [hr,Zfq h,Zxe,Zxe,Zw7 zo,Zyv,Zw5 hj];exact hp
theorem Zpz {ss:List RS} {gs:List RG} {i j:Nat} (h:i < gs.length) {p:Pr} (hp:(Zfc gs[i])[j]?=some p):(Zb8 ss gs)[(Zay ss ss.length).length+((Zbn gs i).length+j)]?=some p:=by
 obtain⟨r,hr⟩:=Ziv gs (i+1) gs.length zo;have hj:j < (Zfc gs[i]).length:=(List.getElem?_eq_some_iff.1 hp).1;unfold Zb8;rw [hr,Zh1 h,Zw7 zo,Zyv,Zxe,Zw7 zo,Zyv,Zw5 hj];exact hp
theorem prItC (l:Nat) (ss:List RS) (gs:List RG) (σ:Mem) (J:Nat→Mem→Prop) (hl:ss.length≤40) (hgl:gs.length≤8)
 (hs:∀i (h:i < ss.length),∀p∈Zbx ss[i].k,p.1 < (ss[i].ar.length:Int)∧p.2 < (ss[i].ar.length:Int))
 (hg:∀i (h:i < gs.length),∀p∈Zcm gs[i].k,0≤p.1∧p.1 < (gs[i].ar.length:Int)∧0≤p.2∧p.2 < (gs[i].ar.length:Int))
 (hY:∀(j:Nat) (p:Pr),(Zb8 ss gs)[j]?=some p→∀(m σ':Mem),Agr m σ'→J j σ'→YCall prog l [prA p] m λr m'=>r=.v (.bool true)∧∃σ'',Agr m' σ''∧J (j+1) σ'')
 (h0:J 0 σ):ACall prog 71 [.v (yV l),.pimm [.sl 6 (ss.map RS.av),.sl 5 (gs.map RG.av)],.pimm [.fn 46 []],.pimm [.fn 47 []]] σ λr σ'=>J (Zb8 ss gs).length σ':=by
 have hls:(ss.map RS.av).length=ss.length:=Zv9 ..;have hlg:(gs.map RG.av).length=gs.length:=Zv9 ..;have kS:∀i (h:i < ss.length),(ss.map RS.av).getD i .u=ss[i].av:=λi h=>Zaf RS.av h;have kG:∀i (h:i < gs.length),(gs.map RG.av).getD i .u=gs[i].av:=λi h=>Zaf RG.av h;generalize ss.map RS.av=M at *;generalize gs.map RG.av=N at *;refine Zc4 func71 rfl ntmps71 results71 call71 zr zs ?_;have hAg:=Agr.start σ;generalize lents σ=m0 at *;have hYd:∀(V:Value),V=yV l→True:=λ_ _=>trivial;show Zat _ _ _ _ _ ⟨λt=>[AV.v (yV l),.pimm [.sl 6 M,.sl 5 N],.pimm [.fn 46 []],.pimm [.fn 47 []]].getD t .u,m0⟩
 obtain⟨yv,hyv⟩:∃yv:AV,AV.v (yV l)=yv:=⟨_,rfl⟩;rw [hyv];(focus (refine wkad (w_1 hls) w_t w_t ?_;(repeat' first|exact w_t|apply w_l);all_goals intros));refine Zai (ι:=Nat) (λi e m=>i≤ss.length∧(e 0=yv∧e 1=.pimm [.sl 6 M,.sl 5 N]∧e 2=.pimm [.fn 46 []]∧e 3=.pimm [.fn 47 []])∧e 15=.sl 6 M∧e 16=iv ss.length∧e 17=iv i∧∃σ',Agr m σ'∧J (Zay ss i).length σ') (λi=>ss.length - i) 0 zr ?_ ?_
 ·rintro i e m ⟨hi,⟨e0,e1,e2,e3⟩,e15,e16,e17,σ1,hA1,hJ1⟩
  by_cases hlt:i < ss.length
  ·have gi:=kS i hlt;have hsi:=hs i hlt;have hsu:=Zfq hlt;have hap:=fun(j:Nat) (p:Pr) (h:(Zcu i ss[i])[j]?=some p)=>hY _ p (Zpy (gs:=gs) hlt h);generalize ss[i]=s at *;obtain⟨k0,nm,ar,⟨rs,rl,rd⟩⟩:=s;have cS:=drSidesC k0;simp only at hsi;have hLl:((Zbx k0).map prA).length=(Zbx k0).length:=Zv9 ..;have kLs:∀j (h:j < (Zbx k0).length),((Zbx k0).map prA).getD j .u=prA (Zbx k0)[j]:=λj h=>Zaf prA h;have hst:Zcu i ⟨k0,nm,ar,⟨rs,rl,rd⟩⟩=(Zbx k0).map λp=>(atN i ar p.1,atN i ar p.2):=rfl;rw [hst] at hsu;have hLb:=Zor k0;generalize Zbx k0=L at *
   generalize L.map prA=LA at *;(focus (refine wkad (w_9 e0 e1 e2 e3 e15 e16 e17 gi hLl) (w_1 cS) w_t ?_;(repeat' first|exact w_t|apply w_l);all_goals intros));rename_i g5 g6;refine Zez (Frz.pub (d:=7) (a:=.fn 72 [.pbox 5 g5 0,.pbox 6 g6 0]) (gC) (gC)) ?_;refine Zai (ι:=Nat) (λj e m=>j≤L.length∧(e 0=yv∧e 1=.pimm [.sl 6 M,.sl 5 N]∧e 2=.pimm [.fn 46 []]∧e 3=.pimm [.fn 47 []])∧e 15=.sl 6 M∧e 16=iv ss.length∧e 17=iv i∧e 7=.fn 72 [.pimm [iv i],.pimm [iv k0,strA nm,ivs ar,.v (.bool rs),lim rl,lim rd]]∧e 26=.sl 2 LA∧e 27=iv L.length∧e 28=iv j∧∃σ',Agr m σ'∧J ((Zay ss i).length+j) σ') (λj=>L.length - j) 0 zr ?_ ?_
   ·rintro j e m ⟨hj,⟨e0,e1,e2,e3⟩,e15,e16,e17,e7,e26,e27,e28,σ1,hA1,hJ1⟩
    by_cases hjl:j < L.length
    ·have gj:=kLs j hjl;obtain⟨hp1,hp2⟩:=hsi _ (Zwq hjl);have cA1:=drAt i _ k0 nm ar rs rl rd hp1;have cA2:=drAt i _ k0 nm ar rs rl rd hp2;have hh:=fun(m':Mem) (hA:Agr m' σ1)=>hap j (atN i ar L[j].1,atN i ar L[j].2) (by rw [hst,Zw9,Zwb hjl];rfl) m' σ1 hA hJ1;clear hap;generalize L[j]=p at *;obtain⟨p1,p2⟩:=p;simp only at cA1 cA2 hh;have gj:LA.getD j .u=.agg [iv p1,iv p2]:=gj;(focus (refine wkax (w_13 e0 e1 e2 e3 e15 e16 e17 e7 e26 e27 e28 gj hLl) w_t w_t w_t w_t w_t w_t (w_r 0) ?_;(repeat' first|exact w_t|apply w_l);all_goals intros));refine Zl0 10 (Za3 [(4,iv (atN i ar p1)),(8,iv (atN i ar p2))]) [] [] (by simp only [ZAq,Zy6];rfl) (by simp only [ZAp,Zxy];rfl) zk zr zk zk (by simp only [Zwd,Zwi,Nat.reduceAdd];rfl) ?_
     (focus (refine wkax (w_11 e0 e1 e2 e3 e15 e16 e17 e7 e26 e27 e28) (w_2 cA1 cA2) w_t w_t w_t w_t w_t (w_r 0) ?_;(repeat' first|exact w_t|apply w_l);all_goals intros));intro _;refine⟨_,Frz.refl _ _,.inr ⟨.tmp 32,l,#[.tmp 41],_,rfl,?_,?_⟩⟩
     ·rw [hyv];exact gW e0
     ·refine YCall.mono (show YCall prog l [.agg [iv (atN i ar p1),iv (atN i ar p2)]] _ _ from hh _ ?_) ?_
      ·(repeat' (first|exact hA1|(refine Agr.own ?_ zo)))
      ·rintro _ m2 ⟨rfl,σ2,hA2,hJ2⟩
       refine⟨_,Frz.refl _ _,λ_=>⟨_,Frz.refl _ _,.inl ?_⟩⟩;(focus (refine wkax (w_11 e0 e1 e2 e3 e15 e16 e17 e7 e26 e27 e28) w_t w_t w_t w_t w_t w_t (w_r 0) ?_;(repeat' first|exact w_t|apply w_l);all_goals intros));refine⟨_,Frz.refl _ _,Zgw ?_⟩;(focus (refine wkad (w_11 e0 e1 e2 e3 e15 e16 e17 e7 e26 e27 e28) w_t w_t ?_;(repeat' first|exact w_t|apply w_l);all_goals intros));exact⟨j+1,⟨zo,⟨gW e0,gW e1,gW e2,gW e3⟩,gW e15,gW e16,gW e17,gW e7,gW e26,gW e27,gS,σ2,hA2,hJ2⟩,zo⟩
    ·have hjj:j=L.length:=zo;subst hjj;have hsl:(Zay ss (i+1)).length=(Zay ss i).length+L.length:=by rw [hsu,Zwy,Zv9]
     rw [←hsl] at hJ1;(focus (refine wkad (w_11 e0 e1 e2 e3 e15 e16 e17 e7 e26 e27 e28) w_t w_t ?_;(repeat' first|exact w_t|apply w_l);all_goals intros));exact⟨i+1,⟨zo,⟨gW e0,gW e1,gW e2,gW e3⟩,gW e15,gW e16,gS,σ1,hA1,hJ1⟩,zo⟩
   ·exact⟨Zwk _,⟨gW e0,gW e1,gW e2,gW e3⟩,gW e15,gW e16,gW e17,gC,gC,by(simp (disch:=omega) only [go_sem,hLl]<;>repeat' first|rfl|refine⟨?_,?_⟩),gC,σ1,by(repeat' (first|exact hA1|(refine Agr.own ?_ zo))),hJ1⟩
  ·have hii:i=ss.length:=zo;subst hii;(focus (refine wkad (w_8 e0 e1 e2 e3 e15 e16 e17 hlg) w_t w_t ?_;(repeat' first|exact w_t|apply w_l);all_goals intros));refine Zai (ι:=Nat) (λi e m=>i≤gs.length∧(e 0=yv∧e 1=.pimm [.sl 6 M,.sl 5 N]∧e 3=.pimm [.fn 47 []])∧e 47=.sl 5 N∧e 48=iv gs.length∧e 49=iv i∧∃σ',Agr m σ'∧J ((Zay ss ss.length).length+(Zbn gs i).length) σ') (λi=>gs.length - i) 0 zr ?_ ?_
   ·rintro i e m ⟨hi,⟨e0,e1,e3⟩,e47,e48,e49,σ1,hA1,hJ1⟩
    by_cases hlt:i < gs.length
    ·have gi:=kG i hlt;have hgi:=hg i hlt;have hsu:=Zh1 hlt;have hap:=fun(j:Nat) (p:Pr) (h:(Zfc gs[i])[j]?=some p)=>hY _ p (Zpz (ss:=ss) hlt h);generalize gs[i]=g at *;obtain⟨k0,ar,⟨rs,rl,rd⟩⟩:=g;have cS:=drPartsC k0;simp only at hgi;have hLl:((Zcm k0).map prA).length=(Zcm k0).length:=Zv9 ..;have kLs:∀j (h:j < (Zcm k0).length),((Zcm k0).map prA).getD j .u=prA (Zcm k0)[j]:=λj h=>Zaf prA h;have hst:Zfc ⟨k0,ar,⟨rs,rl,rd⟩⟩=(Zcm k0).map λp=>(gI ar p.1.toNat,gI ar p.2.toNat):=rfl;rw [hst] at hsu;have hll:(ar.map iv).length=ar.length:=Zv9 ..
     have kA:∀j:Nat,j < ar.length→(ar.map iv).getD j .u=iv (gI ar j):=λj h=>by rw [Zaf iv h,Zbp h]
     have hLb:=Zo9 k0;generalize Zcm k0=L at *;generalize L.map prA=LA at *;(focus (refine wkad (w_8 e0 e1 e3 e47 e48 e49 gi hLl) (w_1 cS) w_t ?_;(repeat' first|exact w_t|apply w_l);all_goals intros));rename_i g11;refine Zez (Frz.pub (d:=11) (a:=.pbox 11 g11 0) (gC) (gC)) ?_;refine Zai (ι:=Nat) (λj e m=>j≤L.length∧(e 0=yv∧e 1=.pimm [.sl 6 M,.sl 5 N]∧e 3=.pimm [.fn 47 []])∧e 47=.sl 5 N∧e 48=iv gs.length∧e 49=iv i∧e 11=.pimm [iv k0,ivs ar,.v (.bool rs),lim rl,lim rd]∧e 56=.sl 2 LA∧e 57=iv L.length∧e 58=iv j∧∃σ',Agr m σ'∧J ((Zay ss ss.length).length+((Zbn gs i).length+j)) σ') (λj=>L.length - j) 0 zr ?_ ?_
     ·rintro j e m ⟨hj,⟨e0,e1,e3⟩,e47,e48,e49,e11,e56,e57,e58,σ1,hA1,hJ1⟩
      by_cases hjl:j < L.length
      ·have gj:=kLs j hjl;obtain⟨hp0,hp1,hp2,hp3⟩:=hgi _ (Zwq hjl);have hh:=fun(m':Mem) (hA:Agr m' σ1)=>hap j (gI ar L[j].1.toNat,gI ar L[j].2.toNat) (by rw [hst,Zw9,Zwb hjl];rfl) m' σ1 hA hJ1;clear hap;have a1:=kA L[j].1.toNat zo;have a2:=kA L[j].2.toNat zo;generalize L[j]=p at *;obtain⟨p1,p2⟩:=p;simp only at hp0 hp1 hp2 hp3 hh a1 a2;have gj:LA.getD j .u=.agg [iv p1,iv p2]:=gj;(focus (refine wkax (w_12 e0 e1 e3 e47 e48 e49 e11 e56 e57 e58 gj hLl) w_t w_t w_t w_t w_t w_t (w_r 0) ?_;(repeat' first|exact w_t|apply w_l);all_goals intros));refine Zl0 14 (Za3 []) [] [] (by simp only [ZAq,Zy6];rfl) (by simp only [ZAp,Zxy];rfl) zk zr zk zk (by simp only [Zwd,Zwi,Nat.reduceAdd];rfl) ?_
       (focus (refine wkax (w_13 e0 e1 e3 e47 e48 e49 e11 e56 e57 e58 hll a1 a2) w_t w_t w_t w_t w_t w_t (w_r 0) ?_;(repeat' first|exact w_t|apply w_l);all_goals intros));intro _;refine⟨_,Frz.refl _ _,.inr ⟨.tmp 62,l,#[.tmp 75],_,rfl,?_,?_⟩⟩
       ·rw [hyv];exact gW e0
       ·refine YCall.mono (show YCall prog l [.agg [iv (gI ar p1.toNat),iv (gI ar p2.toNat)]] _ _ from hh _ ?_) ?_
        ·(repeat' (first|exact hA1|(refine Agr.own ?_ zo)))
        ·rintro _ m2 ⟨rfl,σ2,hA2,hJ2⟩
         refine⟨_,Frz.refl _ _,λ_=>⟨_,Frz.refl _ _,.inl ?_⟩⟩;(focus (refine wkax (w_10 e0 e1 e3 e47 e48 e49 e11 e56 e57 e58) w_t w_t w_t w_t w_t w_t (w_r 0) ?_;(repeat' first|exact w_t|apply w_l);all_goals intros));refine⟨_,Frz.refl _ _,Zgw ?_⟩;(focus (refine wkad (w_10 e0 e1 e3 e47 e48 e49 e11 e56 e57 e58) w_t w_t ?_;(repeat' first|exact w_t|apply w_l);all_goals intros));exact⟨j+1,⟨zo,⟨gW e0,gW e1,gW e3⟩,gW e47,gW e48,gW e49,gW e11,gW e56,gW e57,gS,σ2,hA2,hJ2⟩,zo⟩
      ·have hjj:j=L.length:=zo;subst hjj;have hsl:(Zbn gs (i+1)).length=(Zbn gs i).length+L.length:=by rw [hsu,Zwy,Zv9]
       rw [←hsl] at hJ1;(focus (refine wkad (w_10 e0 e1 e3 e47 e48 e49 e11 e56 e57 e58) w_t w_t ?_;(repeat' first|exact w_t|apply w_l);all_goals intros));exact⟨i+1,⟨zo,⟨gW e0,gW e1,gW e3⟩,gW e47,gW e48,gS,σ1,hA1,hJ1⟩,zo⟩
     ·exact⟨Zwk _,⟨gW e0,gW e1,gW e3⟩,gW e47,gW e48,gW e49,gC,gC,by(simp (disch:=omega) only [go_sem,hLl]<;>repeat' first|rfl|refine⟨?_,?_⟩),gC,σ1,by(repeat' (first|exact hA1|(refine Agr.own ?_ zo))),hJ1⟩
    ·have hii:i=gs.length:=zo;subst hii;have hal:(Zay ss ss.length).length+(Zbn gs gs.length).length=(Zb8 ss gs).length:=(Zwy ..).symm;rw [hal] at hJ1;(focus (refine wkad (w_6 e0 e1 e3 e47 e48 e49) w_t w_t ?_;(repeat' first|exact w_t|apply w_l);all_goals intros));exact Zoi (r:=.tup []) (Sub.refl _) hJ1 hA1
   ·exact⟨Zwk _,⟨gW e0,gW e1,gW e3⟩,gC,gW hlg,gC,σ1,hA1,hJ1⟩
 ·exact⟨Zwk _,⟨gC,gC,gC,gC⟩,gC,gC,gC,σ,hAg,h0⟩
theorem Ztf {k:Int} {p:Pr} (h:p∈Zbx k):p.1 < arS k∧p.2 < arS k:=by
 unfold Zbx at h;split at h
 ·rename_i hk;subst hk;simp only [Zxk,List.not_mem_nil,or_false] at h;subst h;decide
 ·split at h
  ·rename_i hk;subst hk;simp only [Zxk,List.not_mem_nil,or_false] at h;subst h;decide
  ·split at h
   ·rename_i hk;subst hk;simp only [Zxk,List.not_mem_nil,or_false] at h;subst h;decide
   ·split at h
    ·rename_i hk;subst hk;simp only [Zxk,List.not_mem_nil,or_false] at h;subst h;decide
    ·split at h
     ·rename_i hk;subst hk;simp only [Zxk,List.not_mem_nil,or_false] at h;rcases h with rfl | rfl<;>decide
     ·cases h
theorem Zuf {k:Int} {p:Pr} (h:p∈Zcm k):0≤p.1∧p.1 < arG k∧0≤p.2∧p.2 < arG k:=by cases h
theorem Zm1 (k:Int):(Zbx k).length≤3:=by
 unfold Zbx
 repeat' split
 all_goals simp
theorem Zug (k:Int):(Zcm k).length≤4:=by unfold Zcm;simp
theorem Ze3 (ss:List RS):∀i,(Zay ss i).length≤3*i
 | 0=>Zwa _
 | i+1=>by
   have ih:=Ze3 ss i;unfold Zay;rw [Zwy];split
   ·rename_i s _;have:=Zm1 s.k;unfold Zcu;rw [Zv9];omega
   ·simp;omega
theorem Ziw (gs:List RG):∀i,(Zbn gs i).length≤4*i
 | 0=>Zwa _
 | i+1=>by
   have ih:=Ziw gs i;unfold Zbn;rw [Zwy];split
   ·rename_i s _;have:=Zug s.k;unfold Zfc;rw [Zv9];omega
   ·simp;omega
theorem Zjk {ss:List RS} {p:Pr}:∀{i:Nat},p∈Zay ss i→∃j,∃h:j < ss.length,p∈Zcu j ss[j]
 | 0,h=>by cases h
 | i+1,h=>by
   unfold Zay at h;rcases List.mem_append.1 h with h | h
   ·exact Zjk h
   ·split at h
    ·rename_i s hs;obtain⟨hj,e⟩:=List.getElem?_eq_some_iff.1 hs;exact⟨i,hj,by rw [e];exact h⟩
    ·cases h
theorem Zkb {gs:List RG} {p:Pr}:∀{i:Nat},p∈Zbn gs i→∃g∈gs,p∈Zfc g
 | 0,h=>by cases h
 | i+1,h=>by
   unfold Zbn at h;rcases List.mem_append.1 h with h | h
   ·exact Zkb h
   ·split at h
    ·rename_i s hs;exact⟨s,Zyp hs,h⟩
    ·cases h
structure LnOkC (ss:List RS) (gs:List RG):Prop where
 l1:ss.length≤40
 l2:gs.length≤8
 hs:∀i (h:i < ss.length),∀p∈Zbx ss[i].k,p.1 < (ss[i].ar.length:Int)∧p.2 < (ss[i].ar.length:Int)
 hg:∀i (h:i < gs.length),∀p∈Zcm gs[i].k,0≤p.1∧p.1 < (gs[i].ar.length:Int)∧0≤p.2∧p.2 < (gs[i].ar.length:Int)
 b:∀p∈Zb8 ss gs,0≤p.1∧p.1 < ss.length∧0≤p.2∧p.2 < ss.length
 len:(Zb8 ss gs).length≤152
theorem lnOkC {ss:List RS} {gs:List RG} (h:figE ss gs=0):LnOkC ss gs:=by
 unfold figE at h;split at h
 ·cases h
 ·rename_i h0;split at h
  ·rename_i h1;exact absurd h h1
  ·rename_i h1;have h1:fstE (errS ss) ss.length=0:=by simpa using h1
   have e1:∀i,i < ss.length→errS ss i=0:=Zh2 h1;have e2:∀i (hi:i < gs.length),errG gs[i] ss.length=0:=λi hi=>by
    have:=Zh2 h i hi
    rwa [show gs.getD i ⟨0,[],⟨false,[],[]⟩⟩=gs[i] from by rw [Zwp,Zwb hi];rfl] at this
   have k1:∀i (h:i < ss.length),∀p∈Zbx ss[i].k,p.1 < (ss[i].ar.length:Int)∧p.2 < (ss[i].ar.length:Int):=λi hi p hp=>by
    obtain⟨_,a,_⟩:=Zml hi (e1 i hi);rw [a];exact Ztf hp
   have k2:∀i (h:i < gs.length),∀p∈Zcm gs[i].k,0≤p.1∧p.1 < (gs[i].ar.length:Int)∧0≤p.2∧p.2 < (gs[i].ar.length:Int):=λi hi p hp=>by
    obtain⟨a,_⟩:=Zmm (e2 i hi);rw [a];exact Zuf hp
   refine⟨zo,zo,k1,k2,λp hp=>?_,?_⟩
   ·unfold Zb8 at hp;rcases List.mem_append.1 hp with hp | hp
    ·obtain⟨i,hi,hp⟩:=Zjk hp;unfold Zcu at hp;obtain⟨q,hq,rfl⟩:=List.mem_map.1 hp;obtain⟨_,_,a,_⟩:=Zml hi (e1 i hi);obtain⟨b1,b2⟩:=k1 i hi q hq;have at_in:∀k:Int,k < (ss[i].ar.length:Int)→0≤atN i ss[i].ar k∧atN i ss[i].ar k < ss.length:=λk hk=>by
      unfold atN;split
      ·omega
      ·have:=a k.toNat zo;omega
     have c1:=at_in _ b1;have c2:=at_in _ b2;exact⟨c1.1,c1.2,c2.1,c2.2⟩
    ·obtain⟨g,hg,hp⟩:=Zkb hp;obtain⟨i,hi,rfl⟩:=List.mem_iff_getElem.1 hg;unfold Zfc at hp;obtain⟨q,hq,rfl⟩:=List.mem_map.1 hp;obtain⟨_,a⟩:=Zmm (e2 i hi);obtain⟨b1,b2,b3,b4⟩:=k2 i hi q hq;have c1:=a q.1.toNat zo;have c2:=a q.2.toNat zo;exact⟨c1.1,c1.2,c2.1,c2.2⟩
   ·have a:=Ze3 ss ss.length;have b:=Ziw gs gs.length;unfold Zb8;rw [Zwy];omega
def rowC (all:List Pr) (i:Nat):Nat→List Pr
 | 0=>[]
 | k+1=>rowC all i k++(if decide (((i:Int),(k:Int))∈all) then [((i:Int),(k:Int))] else [])
def refC (all:List Pr) (n:Nat):Nat→List Pr
 | 0=>[]
 | i+1=>refC all n i++rowC all i n
theorem Zi8 (all:List Pr) (i:Nat):∀(m:Nat) (x:Pr),x∈rowC all i m↔∃k:Nat,k < m∧((i:Int),(k:Int))∈all∧x=((i:Int),(k:Int))
 | 0,x=>by
   unfold rowC;constructor
   ·intro h;cases h
   ·rintro ⟨k,h1,_⟩;omega
 | m+1,x=>by
   unfold rowC;rw [Zyo,Zi8 all i m x];constructor
   ·rintro (⟨k,h1,h2,h3⟩ | h)
    ·exact⟨k,zo,h2,h3⟩
    ·split at h
     ·rename_i hh;simp only [Zy5] at h;exact⟨m,zo,of_decide_eq_true hh,h⟩
     ·cases h
   ·rintro ⟨k,h1,h2,h3⟩
    by_cases hk:k=m
    ·subst hk;right;rw [Zv6 (Zv8 h2)];simp [h3]
    ·left;exact⟨k,zo,h2,h3⟩
theorem Zi9 (all:List Pr) (n:Nat):∀(m:Nat) (x:Pr),x∈refC all n m↔∃i k:Nat,i < m∧k < n∧((i:Int),(k:Int))∈all∧x=((i:Int),(k:Int))
 | 0,x=>by
   unfold refC;constructor
   ·intro h;cases h
   ·rintro ⟨i,k,h1,_⟩;omega
 | m+1,x=>by
   unfold refC;rw [Zyo,Zi9 all n m x,Zi8];constructor
   ·rintro (⟨i,k,h1,h2,h3,h4⟩ | ⟨k,h1,h2,h3⟩)
    ·exact⟨i,k,zo,h2,h3,h4⟩
    ·exact⟨m,k,zo,h1,h2,h3⟩
   ·rintro ⟨i,k,h1,h2,h3,h4⟩
    by_cases hi:i=m
    ·subst hi;right;exact⟨k,h2,h3,h4⟩
    ·left;exact⟨i,k,zo,h2,h3,h4⟩
theorem Zjs (all:List Pr) (i:Nat):∀m,(rowC all i m).Pairwise λx y=>cmpP x y < 0
 | 0=>.nil
 | m+1=>by
   unfold rowC;refine List.pairwise_append.2 ⟨Zjs all i m,by split<;>simp,λx hx y hy=>?_⟩;obtain⟨k,h1,h2,rfl⟩:=(Zi8 all i m x).1 hx;split at hy
   ·simp only [Zy5] at hy;subst hy;unfold cmpP;simp only [ne_eq,not_true_eq_false,Zwt];omega
   ·cases hy
theorem Zjv (all:List Pr) (n:Nat):∀m,(refC all n m).Pairwise λx y=>cmpP x y < 0
 | 0=>.nil
 | m+1=>by
   unfold refC;refine List.pairwise_append.2 ⟨Zjv all n m,Zjs all m _,λx hx y hy=>?_⟩;obtain⟨i,k,h1,h2,h3,rfl⟩:=(Zi9 all n m x).1 hx;obtain⟨k',h1',h2',rfl⟩:=(Zi8 all m _ y).1 hy;unfold cmpP;simp only;rw [Zv6 zo];omega
theorem Zsl {all l:List Pr} {n:Nat} (hb:∀p∈all,0≤p.1∧p.1 < n∧0≤p.2∧p.2 < n) (hp:l.Perm all) (hs:l.Pairwise λx y=>cmpP x y≤0):Zav l=refC all n n:=by
 refine Zjm _ _ (Zgj l hs) (Zjv all n n) λx=>?_;rw [Zh3,hp.mem_iff,Zi9];constructor
 ·intro h;obtain⟨a,b,c,d⟩:=hb x h;have e1:((x.1.toNat:Nat):Int)=x.1:=ZAt a;have e2:((x.2.toNat:Nat):Int)=x.2:=ZAt c;exact⟨x.1.toNat,x.2.toNat,zo,zo,by rw [e1,e2];exact h,by rw [e1,e2]⟩
 ·rintro ⟨i,k,_,_,h,rfl⟩
  exact h
theorem Zlv (all:List Pr) (i:Nat):∀m,(rowC all i m).length≤m
 | 0=>Zwa _
 | m+1=>by
   have ih:=Zlv all i m;unfold rowC;rw [Zwy];split<;>simp<;>omega
theorem Zlz (all:List Pr) (n:Nat):∀m,(refC all n m).length≤m*n
 | 0=>Zwk _
 | m+1=>by
   have ih:=Zlz all n m;have h:=Zlv all m n;unfold refC;rw [Zwy,Nat.succ_mul];omega
theorem rc6 (k x:Int) (nm:ByteArray) (ar:List Int) (bo:Bool) (l d:List Nat) (hk:k=6) (h:1 < ar.length):Pure prog 61 [.agg [iv k,strA nm,ivs ar,.v (.bool bo),lim l,lim d],iv x] (.sl 2 [.agg [iv (gI ar 0),iv (gI ar 1)]]):=by
 have a0:(ar.map iv).getD 0 .u=iv (gI ar 0):=by rw [Zaf iv zo,Zbp zo]
 have a1:(ar.map iv).getD 1 .u=iv (gI ar 1):=by rw [Zaf iv zo,Zbp zo]
 have hll:(ar.map iv).length=ar.length:=Zv9 ..;subst hk;all_goals refine pI func61 rfl ntmps61 results61 call61 ?_
 all_goals (focus (refine wkad (w_3 hll a0 a1) w_t w_t ?_;(repeat' first|exact w_t|apply w_l);all_goals intros))
 all_goals exact gL
theorem rc10 (k x:Int) (nm:ByteArray) (ar:List Int) (bo:Bool) (l d:List Nat) (hk:k=10) (h:2 < ar.length):Pure prog 61 [.agg [iv k,strA nm,ivs ar,.v (.bool bo),lim l,lim d],iv x] (.sl 2 [.agg [iv (gI ar 2),iv (gI ar 0)]]):=by
 have a0:(ar.map iv).getD 0 .u=iv (gI ar 0):=by rw [Zaf iv zo,Zbp zo]
 have a2:(ar.map iv).getD 2 .u=iv (gI ar 2):=by rw [Zaf iv zo,Zbp zo]
 have hll:(ar.map iv).length=ar.length:=Zv9 ..;subst hk;all_goals refine pI func61 rfl ntmps61 results61 call61 ?_
 all_goals (focus (refine wkad (w_3 hll a0 a2) w_t w_t ?_;(repeat' first|exact w_t|apply w_l);all_goals intros))
 all_goals exact gL
theorem rc11 (k x:Int) (nm:ByteArray) (ar:List Int) (bo:Bool) (l d:List Nat) (hk:k=11) (h:0 < ar.length):Pure prog 61 [.agg [iv k,strA nm,ivs ar,.v (.bool bo),lim l,lim d],iv x] (.sl 2 [.agg [iv x,iv (gI ar 0)]]):=by
 have a0:(ar.map iv).getD 0 .u=iv (gI ar 0):=by rw [Zaf iv zo,Zbp zo]
 have hll:(ar.map iv).length=ar.length:=Zv9 ..;subst hk;all_goals refine pI func61 rfl ntmps61 results61 call61 ?_
 all_goals (focus (refine wkad (w_2 hll a0) w_t w_t ?_;(repeat' first|exact w_t|apply w_l);all_goals intros))
 all_goals exact gL
theorem rc12 (k x:Int) (nm:ByteArray) (ar:List Int) (bo:Bool) (l d:List Nat) (hk:k=12) (h:3 < ar.length):Pure prog 61 [.agg [iv k,strA nm,ivs ar,.v (.bool bo),lim l,lim d],iv x] (.sl 2 [.agg [iv (gI ar 2),iv (gI ar 3)]]):=by
 have a2:(ar.map iv).getD 2 .u=iv (gI ar 2):=by rw [Zaf iv zo,Zbp zo]
 have a3:(ar.map iv).getD 3 .u=iv (gI ar 3):=by rw [Zaf iv zo,Zbp zo]
 have hll:(ar.map iv).length=ar.length:=Zv9 ..;subst hk;all_goals refine pI func61 rfl ntmps61 results61 call61 ?_
 all_goals (focus (refine wkad (w_3 hll a2 a3) w_t w_t ?_;(repeat' first|exact w_t|apply w_l);all_goals intros))
 all_goals exact gL
theorem rc13 (k x:Int) (nm:ByteArray) (ar:List Int) (bo:Bool) (l d:List Nat) (hk:k=13) (h:3 < ar.length):Pure prog 61 [.agg [iv k,strA nm,ivs ar,.v (.bool bo),lim l,lim d],iv x] (.sl 2 [.agg [iv (gI ar 0),iv (gI ar 1)],.agg [iv (gI ar 2),iv (gI ar 3)]]):=by
 have a0:(ar.map iv).getD 0 .u=iv (gI ar 0):=by rw [Zaf iv zo,Zbp zo]
 have a1:(ar.map iv).getD 1 .u=iv (gI ar 1):=by rw [Zaf iv zo,Zbp zo]
 have a2:(ar.map iv).getD 2 .u=iv (gI ar 2):=by rw [Zaf iv zo,Zbp zo]
 have a3:(ar.map iv).getD 3 .u=iv (gI ar 3):=by rw [Zaf iv zo,Zbp zo]
 have hll:(ar.map iv).length=ar.length:=Zv9 ..;subst hk;all_goals refine pI func61 rfl ntmps61 results61 call61 ?_
 all_goals (focus (refine wkad (w_5 hll a0 a1 a2 a3) w_t w_t ?_;(repeat' first|exact w_t|apply w_l);all_goals intros))
 all_goals exact gL
theorem rc0 (k x:Int) (nm:ByteArray) (ar:List Int) (bo:Bool) (l d:List Nat) (n6:¬k=6) (n10:¬k=10) (n11:¬k=11) (n12:¬k=12) (n13:¬k=13):Pure prog 61 [.agg [iv k,strA nm,ivs ar,.v (.bool bo),lim l,lim d],iv x] (.v (.slice none 0 0)):=by
 refine pI func61 rfl ntmps61 results61 call61 ?_;(focus (refine wkad (w_5 n6 n10 n11 n12 n13) w_t w_t ?_;(repeat' first|exact w_t|apply w_l);all_goals intros));all_goals exact gL
theorem rfStepC (i:Nat) (s:RS) (hs:∀p∈Zbx s.k,p.1 < (s.ar.length:Int)∧p.2 < (s.ar.length:Int)):Pure prog 61 [s.av,iv i] (.sl 2 ((Zcu i s).map prA)):=by
 obtain⟨k,nm,ar,⟨bo,l,d⟩⟩:=s;show Pure _ _ [.agg [iv k,strA nm,ivs ar,.v (.bool bo),lim l,lim d],iv i] _;unfold Zcu;simp only at hs ⊢;unfold Zbx at hs ⊢;split
 ·rename_i h;rw [Zv6 h] at hs;have:=(hs (0,1) zs).2;exact rc6 k i nm ar bo l d h (by simp only at this;omega)
 ·rename_i n6;rw [Zv5 n6] at hs;split
  ·rename_i h;rw [Zv6 h] at hs;have:=(hs (2,0) zs).1;exact rc10 k i nm ar bo l d h (by simp only at this;omega)
  ·rename_i n10;rw [Zv5 n10] at hs;split
   ·rename_i h;rw [Zv6 h] at hs;have:=(hs (-1,0) zs).2;exact rc11 k i nm ar bo l d h (by simp only at this;omega)
   ·rename_i n11;rw [Zv5 n11] at hs;split
    ·rename_i h;rw [Zv6 h] at hs;have:=(hs (2,3) zs).2;exact rc12 k i nm ar bo l d h (by simp only at this;omega)
    ·rename_i n12;rw [Zv5 n12] at hs;split
     ·rename_i h;rw [Zv6 h] at hs;have:=(hs (2,3) zs).2;exact rc13 k i nm ar bo l d h (by simp only at this;omega)
     ·rename_i n13;rw [Zv5 n13] at hs;exact Zcx (rc0 k i nm ar bo l d n6 n10 n11 n12 n13) (.nil 2)
theorem Ztp (ss:List RS) (gs:List RG) (ok:LnOkC ss gs):Pure prog 24 [figA ss gs] (.sl 2 ((refC (Zay ss ss.length) ss.length ss.length).map prA)):=by
 have hls:(ss.map RS.av).length=ss.length:=Zv9 ..;have kS:∀i (h:i < ss.length),(ss.map RS.av).getD i .u=ss[i].av:=λi h=>Zaf RS.av h;have cS:=λi (h:i < ss.length)=>rfStepC i ss[i] (ok.hs i h);have hlen:=Ze3 ss ss.length;have l1:=ok.l1;have cH:=λp=>rfHas (Zay ss ss.length) p zo;show Pure _ _ [.agg [.sl 6 (ss.map RS.av),.sl 5 (gs.map RG.av)]] _;generalize ss.map RS.av=M at *;generalize gs.map RG.av=N at *;refine pI func24 rfl ntmps24 results24 call24 ?_;(focus (refine wkad (w_1 hls) w_t w_t ?_;(repeat' first|exact w_t|apply w_l);all_goals intros))
 rename_i g1;refine Zez (Frz.nilOwn (d:=3) 303 2 64 (gC)) ?_;refine Zai (ι:=Nat) (λi e m=>i≤ss.length∧(e 1=.pbox 1 g1 0∧m 1=some (.box g1 25 [.sl 6 M,.sl 5 N] false))∧e 10=.sl 6 M∧e 11=iv ss.length∧e 12=iv i∧e 4=.v (.slice none 0 0)∧∃sv,e 3=.own 303 sv∧m 303=some (.row sv 64 2 ((Zay ss i).map prA) 0)) (λi=>ss.length - i) 0 zr ?_ ?_
 ·rintro i e m ⟨hi,⟨e1,m1⟩,e10,e11,e12,e4,sv,e3,m3⟩
  by_cases hlt:i < ss.length
  ·have gi:=kS i hlt;have c:=cS i hlt;have hsu:=Zfq hlt;have h3:=Ze3 ss i;have hl3:((Zay ss i).map prA).length≤120:=by rw [Zv9];omega
   have h4:=Zm1 ss[i].k;have hl4:((Zcu i ss[i]).map prA).length≤3:=by unfold Zcu;rw [Zv9,Zv9];exact h4
   have hsm:(Zay ss i).map prA++(Zcu i ss[i]).map prA=(Zay ss (i+1)).map prA:=by rw [hsu,Zye]
   clear hsu h3 h4 cS cH;generalize (Zay ss i).map prA=A at *;generalize (Zcu i ss[i]).map prA=C at *;generalize ss[i]=s at *;obtain⟨k,nm,ar,⟨bo,l,d⟩⟩:=s;have c:Pure prog 61 [.agg [iv k,strA nm,ivs ar,.v (.bool bo),lim l,lim d],iv i] (.sl 2 C):=c;have gi:M.getD i .u=.agg [iv k,strA nm,ivs ar,.v (.bool bo),lim l,lim d]:=gi;(focus (refine wkad (w_12 e1 m1 e10 e11 e12 e4 e3 m3 gi hls hl3 hl4) (w_1 c) w_t ?_;(repeat' first|exact w_t|apply w_l);all_goals intros));exact⟨i+1,⟨zo,⟨gW e1,gW m1⟩,gW e10,gW e11,gS,gW e4,_,gC,by rw [←hsm];exact gC⟩,zo⟩
  ·have hii:i=ss.length:=zo;subst hii;clear cS;(focus (refine wkad (w_9 e1 m1 e10 e11 e12 e4 e3 m3 hls) w_t w_t ?_;(repeat' first|exact w_t|apply w_l);all_goals intros));refine Zez (Frz.own (d:=3) (k:=303) (sv:=sv) (ty:=64) (mm:=2) (es:=(Zay ss ss.length).map prA) (pub:=0) (gW e3) (gW m3)) ?_;refine Zez (Frz.nilOwn (d:=4) 304 2 64 (gW e4)) ?_;generalize hall:Zay ss ss.length=all at *;refine Zai (ι:=Nat) (λi e m=>i≤ss.length∧(e 1=.pbox 1 g1 0∧m 1=some (.box g1 25 [.sl 6 M,.sl 5 N] false))∧e 3=.sl 2 (all.map prA)∧e 25=iv ss.length∧e 26=iv i∧∃sv,e 4=.own 304 sv∧m 304=some (.row sv 64 2 ((refC all ss.length i).map prA) 0)) (λi=>ss.length - i) 0 zr ?_ ?_
   ·rintro i e m ⟨hi,⟨e1,m1⟩,e3,e25,e26,sv,e4,m4⟩
    by_cases hlt:i < ss.length
    ·(focus (refine wkad (w_8 e1 m1 e3 e25 e26 e4 m4 hls) w_t w_t ?_;(repeat' first|exact w_t|apply w_l);all_goals intros));refine Zai (ι:=Nat) (λq e m=>q≤ss.length∧(e 1=.pbox 1 g1 0∧m 1=some (.box g1 25 [.sl 6 M,.sl 5 N] false))∧e 3=.sl 2 (all.map prA)∧e 25=iv ss.length∧e 26=iv i∧e 7=iv i∧e 31=iv ss.length∧e 32=iv q∧∃sv,e 4=.own 304 sv∧m 304=some (.row sv 64 2 ((refC all ss.length i++rowC all i q).map prA) 0)) (λq=>ss.length - q) 0 zr ?_ ?_
     ·rintro q e m ⟨hq,⟨e1,m1⟩,e3,e25,e26,e7,e31,e32,sv,e4,m4⟩
      by_cases hql:q < ss.length
      ·have c1:=cH ((i:Int),(q:Int));have hrow:rowC all i (q+1)=rowC all i q++(if decide (((i:Int),(q:Int))∈all) then [((i:Int),(q:Int))] else []):=rfl
       have hsl:((refC all ss.length i++rowC all i q).map prA).length≤1700:=by
        have r1:=Zlz all ss.length i;have r2:=Zlv all i q;have r3:i*ss.length≤39*40:=Zyq zo l1;rw [Zv9,Zwy];omega
       have c1:Pure prog 51 [.sl 2 (all.map prA),.agg [iv i,iv q]] _:=c1;have hyes:(rowC all i (q+1)=rowC all i q++[((i:Int),(q:Int))])→(refC all ss.length i++rowC all i (q+1)).map prA=(refC all ss.length i++rowC all i q).map prA++[.agg [iv i,iv q]]:=λh=>by rw [h,←Zxe];simp only [Zye];rfl
       generalize decide (((i:Int),(q:Int))∈all)=b1 at *;clear cH
       cases b1 with
       | true =>
         have hrw:=hyes (by rw [hrow];rfl);generalize (refC all ss.length i++rowC all i q).map prA=A at *;(focus (refine wkad (w_12 e1 m1 e3 e25 e26 e7 e31 e32 e4 m4 hls hsl) (w_1 c1) w_t ?_;(repeat' first|exact w_t|apply w_l);all_goals intros));exact⟨q+1,⟨zo,⟨gW e1,gW m1⟩,gW e3,gW e25,gW e26,gW e7,gW e31,gS,_,gC,by rw [hrw];exact gC⟩,zo⟩
       | false =>
         have hrw:(refC all ss.length i++rowC all i (q+1)).map prA=(refC all ss.length i++rowC all i q).map prA:=by rw [hrow];simp
         generalize (refC all ss.length i++rowC all i q).map prA=A at *;(focus (refine wkad (w_12 e1 m1 e3 e25 e26 e7 e31 e32 e4 m4 hls hsl) (w_1 c1) w_t ?_;(repeat' first|exact w_t|apply w_l);all_goals intros));exact⟨q+1,⟨zo,⟨gW e1,gW m1⟩,gW e3,gW e25,gW e26,gW e7,gW e31,gS,sv,gW e4,by rw [hrw];exact gW m4⟩,zo⟩
      ·have hqq:q=ss.length:=zo;subst hqq;have hfin:refC all ss.length i++rowC all i ss.length=refC all ss.length (i+1):=rfl;rw [hfin] at m4;(focus (refine wkad (w_11 e1 m1 e3 e25 e26 e7 e31 e32 e4 m4 hls) w_t w_t ?_;(repeat' first|exact w_t|apply w_l);all_goals intros));exact⟨i+1,⟨zo,⟨gW e1,gW m1⟩,gW e3,gW e25,gS,sv,gW e4,gW m4⟩,zo⟩
     ·exact⟨Zwk _,⟨gW e1,gW m1⟩,gW e3,gW e25,gW e26,gC,gW hls,gC,sv,gW e4,by rw [show refC all ss.length i++rowC all i 0=refC all ss.length i from Zxl _];exact gW m4⟩
    ·have hii:i=ss.length:=zo;subst hii;generalize (refC all ss.length ss.length).map prA=F at *;clear cH;(focus (refine wkad (w_7 e1 m1 e3 e25 e26 e4 m4) w_t w_t ?_;(repeat' first|exact w_t|apply w_l);all_goals intros));all_goals exact gM (w_1 m4)
   ·exact⟨Zwk _,⟨gW e1,gW m1⟩,gC,gW hls,gC,_,gC,gC⟩
 ·exact⟨Zwk _,⟨gC,gC⟩,gC,gW hls,gC,gC,_,gC,gC⟩
theorem Zv1 (ss:List RS) (gs:List RG):Zb8 ss gs=Zay ss ss.length:=by
 have:∀n,Zbn gs n=[]:=λn=>by
  induction n with
  | zero=>rfl
  | succ n ih=>unfold Zbn;rw [ih];split<;>rfl
 unfold Zb8;rw [this,Zxl]
def smX (p:Pr):Prop:=0≤p.1∧p.1≤4000∧0≤p.2∧p.2≤4000
theorem Ztn (d:Nat):∃r:Nat,r*r≤d∧d < (r+1)*(r+1):=by
 induction d with
 | zero=>exact⟨0,zo,zo⟩
 | succ d ih =>
   obtain⟨r,h1,h2⟩:=ih;by_cases h:d+1 < (r+1)*(r+1)
   ·exact⟨r,zo,h⟩
   ·refine⟨r+1,zo,?_⟩
    have:(r+1+1)*(r+1+1)=(r+1)*(r+1)+2*(r+1)+1:=by
     rw [Zw3,Zw0];omega
    omega
theorem Zm7 {d r i:Nat} (h1:r*r≤d) (h2:d < (r+1)*(r+1)):(i+1)*(i+1)≤d↔i < r:=by
 constructor
 ·intro h;refine Nat.lt_of_not_le λhh=>?_;have:=Zyq (show r+1≤i+1 by omega) (show r+1≤i+1 by omega);omega
 ·intro h;have:=Zyq (show i+1≤r from h) (show i+1≤r from h);omega
def Zgi (p q:Pr):Int:=(p.1 - q.1)*(p.1 - q.1)+(p.2 - q.2)*(p.2 - q.2)
theorem sq_b {x:Int} (h1:-4000≤x) (h2:x≤4000):0≤x*x∧x*x≤16000000:=by
 have h3:x*x=((x.natAbs*x.natAbs:Nat):Int):=by rw [Int.natCast_mul];exact(Int.natAbs_mul_self' x).symm
 have h4:x.natAbs*x.natAbs≤4000*4000:=Zyq zo zo;rw [h3];constructor<;>omega
theorem rfRadius (p q:Pr) (hp:smX p) (hq:smX q) (r d:Nat) (hd:Zgi p q=d) (h1:r*r≤d) (h2:d < (r+1)*(r+1)):Pure prog 26 [prA p,prA q] (iv r):=by
 obtain⟨a,b⟩:=p;obtain⟨c,e⟩:=q;obtain⟨p1,p2,p3,p4⟩:=hp;obtain⟨q1,q2,q3,q4⟩:=hq;simp only at p1 p2 p3 p4 q1 q2 q3 q4;unfold Zgi at hd;simp only at hd;have sx:=sq_b (x:=a - c) zo zo;have sy:=sq_b (x:=b - e) zo zo;have w1:IntKind.i64.wrap (a - c)=a - c:=Za9 zo zo;have w2:IntKind.i64.wrap (b - e)=b - e:=Za9 zo zo;have w3:IntKind.i64.wrap ((a - c)*(a - c))=(a - c)*(a - c):=Za9 zo zo;have w4:IntKind.i64.wrap ((b - e)*(b - e))=(b - e)*(b - e):=Za9 zo zo;have w5:IntKind.i64.wrap ((a - c)*(a - c)+(b - e)*(b - e))=(d:Int):=by rw [hd];exact Za9 zo zo
 have hd5:d≤32000000:=zo
 have hr:r≤10000:=by
  refine Nat.le_of_not_lt λh=>?_;have:=Zyq (show 10001≤r from h) (show 10001≤r from h);omega
 show Pure _ _ [.agg [iv a,iv b],.agg [iv c,iv e]] _;refine pI func26 rfl ntmps26 results26 call26 ?_;(focus (refine wkad (w_5 w1 w2 w3 w4 w5) w_t w_t ?_;(repeat' first|exact w_t|apply w_l);all_goals intros));refine Zai (ι:=Nat) (λi e m=>i≤r∧e 5=iv d∧e 6=iv i) (λi=>r - i) 0 zr ?_ ?_
 ·rintro i e m ⟨hi,e5,e6⟩
  have hs:=Zm7 (i:=i) h1 h2
  have u1:IntKind.i64.wrap (((i:Int)+1)*((i:Int)+1))=(((i+1)*(i+1):Nat):Int):=by
   have:=Zyq (show i+1≤10001 by omega) (show i+1≤10001 by omega);rw [show((i:Int)+1)*((i:Int)+1)=(((i+1)*(i+1):Nat):Int) by rw [Int.natCast_mul];rfl];exact Za9 zo zo
  by_cases hlt:i < r
  ·have h3:(((i+1)*(i+1):Nat):Int)≤(d:Int):=Int.ofNat_le.2 (hs.2 hlt);generalize (((i+1)*(i+1):Nat):Int)=kk at *;(focus (refine wkad (w_4 e5 e6 u1 h3) w_t w_t ?_;(repeat' first|exact w_t|apply w_l);all_goals intros));exact⟨i+1,⟨zo,gW e5,gS⟩,zo⟩
  ·have hii:i=r:=zo;have h3:¬(((i+1)*(i+1):Nat):Int)≤(d:Int):=λh=>hlt (hs.1 (Int.ofNat_le.1 h));generalize (((i+1)*(i+1):Nat):Int)=kk at *;subst hii;(focus (refine wkad (w_4 e5 e6 u1 h3) w_t w_t ?_;(repeat' first|exact w_t|apply w_l);all_goals intros));all_goals exact gL
 ·exact⟨Zwk _,gC,gC⟩
attribute [local go_sem] Zko Zlp
theorem szSlG:szOf prog 56=some 1:=by kernel_rfl
theorem upd_22 (m:Mem) (a b:Nat) (x y x' y':Option Ent):upd (upd (upd (upd m a x) b y) a x') b y'=upd (upd m a x') b y':=by
 funext j
 simp only [Zak];by_cases h:j=b
 ·simp only [h,Zw1]
 ·by_cases h':j=a
  ·simp only [h',Zw1,h,Zwt]
  ·simp only [h',Zw1,h,Zwt]
theorem upd_00 (m:Mem) (a b:Nat) (x y:Option Ent) (h1:m a=x) (h2:m b=y):upd (upd m a x) b y=m:=by
 funext j
 simp only [Zak];by_cases h:j=b
 ·rw [Zv6 h,h,h2]
 ·rw [Zv5 h];by_cases h':j=a
  ·rw [Zv6 h',h',h1]
  ·rw [Zv5 h']
theorem Zsh (p q:Pr):Zgi p q=Zgi q p:=by
 unfold Zgi;have h:∀a b:Int,(a - b)*(a - b)=(b - a)*(b - a):=λa b=>by
  rw [←Int.neg_sub b a,Int.neg_mul_neg]
 rw [h p.1 q.1,h p.2 q.2]
theorem Zoc (p q:Pr):0≤Zgi p q:=by
 have h:∀x:Int,0≤x*x:=λx=>by
  rw [←Int.natAbs_mul_self' x];exact Zyw _
 have h1:=h (p.1 - q.1);have h2:=h (p.2 - q.2);unfold Zgi;omega
noncomputable def rdN (p q:Pr):Nat:=Classical.choose (Ztn (Zgi p q).toNat)
theorem Zqj (p q:Pr):rdN p q*rdN p q≤(Zgi p q).toNat∧(Zgi p q).toNat < (rdN p q+1)*(rdN p q+1):=Classical.choose_spec (Ztn (Zgi p q).toNat)
theorem smX.nat {p:Pr} (h:smX p):natP p:=by
 obtain⟨h1,h2,h3,h4⟩:=h;exact⟨h1,zo,h3,zo⟩
theorem Zqk {p q:Pr} (hp:smX p) (hq:smX q):rdN p q≤10000:=by
 refine Nat.le_of_not_lt λh=>?_;have h1:=(Zqj p q).1;have h2:=Zyq (show 10001≤rdN p q from h) (show 10001≤rdN p q from h);obtain⟨p1,p2,p3,p4⟩:=hp;obtain⟨q1,q2,q3,q4⟩:=hq;have sx:=sq_b (x:=p.1 - q.1) zo zo;have sy:=sq_b (x:=p.2 - q.2) zo zo;unfold Zgi at h1;omega
theorem rfRadN (p q:Pr) (hp:smX p) (hq:smX q):Pure prog 26 [prA p,prA q] (iv (rdN p q)) :=
 rfRadius p q hp hq (rdN p q) (Zgi p q).toNat (by have:=Zoc p q;omega) (Zqj p q).1 (Zqj p q).2
theorem Zvp {a:Pr} {r:Nat} (ha:natP a) (hr:r≤10000):(crP a r).size≤200:=by
 have h1:=Zfa (x:=⟨#[99,120]⟩) (y:=⟨#[99,121]⟩) ha.i64 (by show 2≤10;omega) (by show 2≤10;omega);have h2:=Zc3 (r:Int) zo zo;unfold crP;simp only [Zw8];have e1:(⟨#[60,99,105,114,99,108,101]⟩:ByteArray).size=7:=rfl;have e2:(⟨#[32,114,61,34]⟩:ByteArray).size=4:=rfl;have e3:(⟨#[34,32,115,116,114,111,107,101,61,34,98,108,97,99,107,34,32,102,105,108,108,61,34,110,111,110,101,34,47,62,10]⟩:ByteArray).size=31:=rfl;omega
theorem Zua {a:Pr} (ha:natP a):(ptP a).size≤100:=by
 have h1:=Zfa (x:=⟨#[99,120]⟩) (y:=⟨#[99,121]⟩) ha.i64 (by show 2≤10;omega) (by show 2≤10;omega);unfold ptP;simp only [Zw8];have e1:(⟨#[60,99,105,114,99,108,101]⟩:ByteArray).size=7:=rfl;have e2:(⟨#[32,114,61,34,51,34,47,62,10]⟩:ByteArray).size=9:=rfl;omega
def inX (p:Pr):Prop:=20≤p.1∧p.1≤3980∧20≤p.2∧p.2≤3980
theorem inX.sm {p:Pr} (h:inX p):smX p:=by
 obtain⟨h1,h2,h3,h4⟩:=h;refine⟨?_,?_,?_,?_⟩<;>omega
theorem inX.up {p:Pr} (h:inX p):natP (p.1+5,p.2 - 5):=by
 obtain⟨h1,h2,h3,h4⟩:=h;refine⟨?_,?_,?_,?_⟩<;>simp only<;>omega
theorem Zs4 {a:Pr} (ha:inX a) (s:ByteArray):(txP a s).size≤s.size+100:=by
 have h1:=Zfa (x:=⟨#[120]⟩) (y:=⟨#[121]⟩) ha.up.i64 (by show 1≤10;omega) (by show 1≤10;omega);unfold txP;simp only [Zw8];have e1:(⟨#[60,116,101,120,116]⟩:ByteArray).size=5:=rfl;have e2:(⟨#[62]⟩:ByteArray).size=1:=rfl;have e3:(⟨#[60,47,116,101,120,116,62,10]⟩:ByteArray).size=8:=rfl;omega
set_option maxRecDepth 100000 in
theorem drCircle (σ:Mem) (KB KT g:Nat) (sv:Value) (ps:List Pr) (N:List AV) (T:ByteArray) (i k:Nat) (hB:σ KB=some (picB KB KT g (.own KT sv) (.pbox KB g 0) (ps.map prA) N)) (hT:σ KT=some (picR sv T))
 (n2:KB≠KT) (hl:T.size≤900000000) (hi:i < ps.length) (hk:k < ps.length) (hps:ps.length≤60) (ha:smX ps[i]) (hb:smX ps[k]) :
 ACall prog 18 [.pbox KB g 0,.agg [iv i,iv k]] σ (PicS KB KT g (ps.map prA) N (T++crP ps[i] (rdN ps[i] ps[k])) σ):=by
 have mB:=Zb1 hB;have mT:=Zb1 hT;simp only [Ent.sh,AV.shL,AV.sh] at mB mT;have gi:(ps.map prA).getD i .u=.agg [iv ps[i].1,iv ps[i].2]:=Zaf prA hi;have gk:(ps.map prA).getD k .u=.agg [iv ps[k].1,iv ps[k].2]:=Zaf prA hk;have hll:(ps.map prA).length=ps.length:=Zv9 ..;have c1:=Zoa ⟨#[99,120]⟩ ⟨#[99,121]⟩ ps[i] ha.nat.i64 (by show 2≤100;omega) (by show 2≤100;omega);have s1:=Zfa (x:=⟨#[99,120]⟩) (y:=⟨#[99,121]⟩) ha.nat.i64 (by show 2≤10;omega) (by show 2≤10;omega);have s3:=Zvp ha.nat (Zqk ha hb);have hr:=Zqk ha hb;have h12:=Zqj ps[i] ps[k];have hd:Zgi ps[k] ps[i]=(Zgi ps[i] ps[k]).toNat:=by have:=Zoc ps[i] ps[k];rw [Zsh];omega
 have c2:=Zkx (rdN ps[i] ps[k]:Int) zo zo;have s2:=Zc3 (rdN ps[i] ps[k]:Int) zo zo;have hw:=fun(m:Mem) (hB':m (KB+1000)=some (picB (KB+1000) (KT+1000) g (.own (KT+1000) sv) (.pbox (KB+1000) g 0) (ps.map prA) N)) (hT':m (KT+1000)=some (picR sv T))=>wrS m (KB+1000) (KT+1000) g sv _ _ _ T (crP ps[i] (rdN ps[i] ps[k])) hB' hT' (.inr rfl) zo zo;clear s3;obtain⟨p1,p2,p3,p4⟩:=ha;obtain⟨q1,q2,q3,q4⟩:=hb;unfold PicS;refine Zc4 func18 rfl ntmps18 results18 call18 zr zs ?_;simp only [AV.shL,AV.sh];unfold crP at *;generalize (Zgi ps[i] ps[k]).toNat=d at *;generalize rdN ps[i] ps[k]=r at *
 obtain⟨h1,h2⟩:=h12;generalize ps[i]=a at *;generalize ps[k]=b at *;obtain⟨a1,a2⟩:=a;obtain⟨b1,b2⟩:=b;unfold Zgi at hd;simp only at gi gk hd p1 p2 p3 p4 q1 q2 q3 q4;have c1:Pure prog 45 [strA ⟨#[99,120]⟩,strA ⟨#[99,121]⟩,.agg [iv a1,iv a2]] _:=c1;generalize prS ⟨#[99,120]⟩ ⟨#[99,121]⟩ (a1,a2)=A at *;generalize itS (r:Int)=B at *;generalize ps.map prA=P at *;have sx:=sq_b (x:=b1 - a1) zo zo;have sy:=sq_b (x:=b2 - a2) zo zo;have w1:IntKind.i64.wrap (b1 - a1)=b1 - a1:=Za9 zo zo;have w2:IntKind.i64.wrap (b2 - a2)=b2 - a2:=Za9 zo zo;(focus (refine wkax (w_5 mB mT gi gk hll) w_t (w_1 (w_d 1 [] [] [])) w_t w_t w_t w_t (w_r 0) ?_;(repeat' first|exact w_t|apply w_l);all_goals intros))
 (focus (refine wkad (w_2 w1 w2) w_t w_t ?_;(repeat' first|exact w_t|apply w_l);all_goals intros));rename_i g4 g5;have w3:IntKind.i64.wrap ((b1 - a1)*(b1 - a1))=(b1 - a1)*(b1 - a1):=Za9 zo zo;have w4:IntKind.i64.wrap ((b2 - a2)*(b2 - a2))=(b2 - a2)*(b2 - a2):=Za9 zo zo;have w5:IntKind.i64.wrap ((b1 - a1)*(b1 - a1)+(b2 - a2)*(b2 - a2))=(d:Int):=by rw [hd];exact Za9 zo zo
 generalize b1 - a1=X at *;generalize b2 - a2=Y at *;refine Zai (ι:=Nat) (λi e m=>i≤r∧(e 0=.pbox (KB+1000) g 0∧e 4=.pbox 4 g4 0∧m 4=some (.box g4 64 [iv a1,iv a2] false))∧e 6=iv X∧e 7=iv Y∧e 8=iv i∧m (KB+1000)=some (picB (KB+1000) (KT+1000) g (.own (KT+1000) sv) (.pbox (KB+1000) g 0) P N)∧m (KT+1000)=some (picR sv T)∧Agr m σ) (λi=>r - i) 0 zr ?_ ?_
 ·rintro i e m ⟨hi,⟨e0,e4,m4⟩,e6,e7,e8,mB,mT,hA⟩
  have hs:=Zm7 (i:=i) h1 h2
  have u1:IntKind.i64.wrap (((i:Int)+1)*((i:Int)+1))=(((i+1)*(i+1):Nat):Int):=by
   have:=Zyq (show i+1≤10001 by omega) (show i+1≤10001 by omega);rw [show((i:Int)+1)*((i:Int)+1)=(((i+1)*(i+1):Nat):Int) by rw [Int.natCast_mul];rfl];exact Za9 zo zo
  by_cases hlt:i < r
  ·have h3:(((i+1)*(i+1):Nat):Int)≤(d:Int):=Int.ofNat_le.2 (hs.2 hlt);generalize (((i+1)*(i+1):Nat):Int)=kk at *;(focus (refine wkad (w_11 e0 e4 m4 e6 e7 e8 u1 w3 w4 w5 h3) w_t w_t ?_;(repeat' first|exact w_t|apply w_l);all_goals intros));exact⟨i+1,⟨zo,⟨gW e0,gW e4,gW m4⟩,gW e6,gW e7,gS,by(simp (disch:=omega) only [go_sem,mB]<;>repeat' first|rfl|refine⟨?_,?_⟩),by(simp (disch:=omega) only [go_sem,mT]<;>repeat' first|rfl|refine⟨?_,?_⟩),hA⟩,zo⟩
  ·have hii:i=r:=zo;have h3:¬(((i+1)*(i+1):Nat):Int)≤(d:Int):=λh=>hlt (hs.1 (Int.ofNat_le.1 h));generalize (((i+1)*(i+1):Nat):Int)=kk at *;subst hii;(focus (refine wkad (w_16 e0 e4 m4 e6 e7 e8 u1 w3 w4 w5 h3 mB mT @Zw8 s1 s2) (w_2 c1 c2) (w_1 (w_d 6 [(4,.v (.string A)),(8,.v (.string B))] [11] [])) ?_;(repeat' first|exact w_t|apply w_l);all_goals intros));refine Zhi (hw _ (by(simp (disch:=omega) only [go_sem,mB]<;>repeat' first|rfl|refine⟨?_,?_⟩)) (by(simp (disch:=omega) only [go_sem,mT]<;>repeat' first|rfl|refine⟨?_,?_⟩))) ?_;intro sv1;(focus (refine wkad w_t w_t w_t ?_;(repeat' first|exact w_t|apply w_l);all_goals intros))
   refine Zoi (Sub.refl _) ⟨sv1,rfl,rfl⟩ ?_;refine Agr.put ?_ rfl rfl;refine Agr.put ?_ rfl rfl
   (repeat' (first|exact hA|(refine Agr.own ?_ zo)))
 ·refine⟨Zwk _,⟨gC,gC,gC⟩,gC,gC,gC,by(simp (disch:=omega) only [go_sem,mB,Zb0]<;>repeat' first|rfl|refine⟨?_,?_⟩),by(simp (disch:=omega) only [go_sem,mT,Zb0]<;>repeat' first|rfl|refine⟨?_,?_⟩),?_⟩
  (repeat' (first|exact Agr.start σ|(refine Agr.own ?_ zo)))
set_option maxRecDepth 100000 in
theorem drPoint (σ:Mem) (KB KT g:Nat) (sv:Value) (ps:List Pr) (ns:List ByteArray) (T:ByteArray) (i:Nat) (f:Bool) (hB:σ KB=some (picB KB KT g (.own KT sv) (.pbox KB g 0) (ps.map prA) (ns.map strA))) (hT:σ KT=some (picR sv T))
 (n2:KB≠KT) (hl:T.size≤900000000) (hi:i < ps.length) (hn:ns.length=ps.length) (hps:ps.length≤60) (ha:inX ps[i]) (hx:ns[i].size≤90000000) :
 ACall prog 19 [.pbox KB g 0,.agg [iv i,iv (if f then 1 else 0)]] σ (PicS KB KT g (ps.map prA) (ns.map strA) (if f then T++ptP ps[i]++txP ps[i] ns[i] else T++ptP ps[i]) σ):=by
 have mB:=Zb1 hB;have mT:=Zb1 hT;simp only [Ent.sh,AV.shL,AV.sh] at mB mT;have gi:(ps.map prA).getD i .u=.agg [iv ps[i].1,iv ps[i].2]:=Zaf prA hi;have gn:(ns.map strA).getD i .u=strA ns[i]:=Zaf strA zo;have hll:(ps.map prA).length=ps.length:=Zv9 ..;have hln:(ns.map strA).length=ps.length:=by rw [Zv9];exact hn
 have c1:=Zoa ⟨#[99,120]⟩ ⟨#[99,121]⟩ ps[i] ha.sm.nat.i64 (by show 2≤100;omega) (by show 2≤100;omega);have c2:=Zoa ⟨#[120]⟩ ⟨#[121]⟩ (ps[i].1+5,ps[i].2 - 5) ha.up.i64 (by show 1≤100;omega) (by show 1≤100;omega);have s1:=Zfa (x:=⟨#[99,120]⟩) (y:=⟨#[99,121]⟩) ha.sm.nat.i64 (by show 2≤10;omega) (by show 2≤10;omega);have s2:=Zfa (x:=⟨#[120]⟩) (y:=⟨#[121]⟩) ha.up.i64 (by show 1≤10;omega) (by show 1≤10;omega);have s3:=Zua ha.sm.nat;have s4:=Zs4 ha ns[i];have hw:=fun(m:Mem) (hB':m (KB+1000)=some (picB (KB+1000) (KT+1000) g (.own (KT+1000) sv) (.pbox (KB+1000) g 0) (ps.map prA) (ns.map strA))) (hT':m (KT+1000)=some (picR sv T))=>wrS m (KB+1000) (KT+1000) g sv _ _ _ T (ptP ps[i]) hB' hT' (.inr rfl) zo zo
 have hw2:=fun(m:Mem) (sv:Value) (hB':m (KB+1000)=some (picB (KB+1000) (KT+1000) g (.own (KT+1000) sv) (.pbox (KB+1000) g 0) (ps.map prA) (ns.map strA))) (hT':m (KT+1000)=some (picR sv (T++ptP ps[i])))=>wrS m (KB+1000) (KT+1000) g sv _ _ _ (T++ptP ps[i]) (txP ps[i] ns[i]) hB' hT' (.inr rfl) zo (by rw [Zw8];omega);clear s3 s4;obtain⟨p1,p2,p3,p4⟩:=ha;unfold PicS;refine Zc4 func19 rfl ntmps19 results19 call19 zr zs ?_;simp only [AV.shL,AV.sh];unfold ptP txP at *;generalize ps[i]=a at *;generalize ns[i]=nm at *;obtain⟨a1,a2⟩:=a;simp only at gi c2 s2 hw2 p1 p2 p3 p4 hw
 have w1:IntKind.i64.wrap (a1+5)=a1+5:=Za9 zo zo;have w2:IntKind.i64.wrap (a2 - 5)=a2 - 5:=Za9 zo zo;have c1:Pure prog 45 [strA ⟨#[99,120]⟩,strA ⟨#[99,121]⟩,.agg [iv a1,iv a2]] _:=c1;have c2:Pure prog 45 [strA ⟨#[120]⟩,strA ⟨#[121]⟩,.agg [iv (a1+5),iv (a2 - 5)]] _:=c2;generalize prS ⟨#[99,120]⟩ ⟨#[99,121]⟩ (a1,a2)=A at *;generalize prS ⟨#[120]⟩ ⟨#[121]⟩ (a1+5,a2 - 5)=B at *;generalize ps.map prA=P at *;generalize ns.map strA=N at *
 cases f with
 | false =>
   simp only [Zwm,Zwt];(focus (refine wkax (w_4 mB mT gi hll) w_t (w_1 (w_d 1 [] [] [])) w_t w_t w_t w_t (w_r 0) ?_;(repeat' first|exact w_t|apply w_l);all_goals intros));(focus (refine wkax (w_4 mB mT @Zw8 s1) (w_1 c1) (w_1 (w_d 2 [(4,.v (.string A))] [7] [])) w_t w_t w_t w_t (w_r 0) ?_;(repeat' first|exact w_t|apply w_l);all_goals intros));refine Zhi (hw _ (by(simp (disch:=omega) only [go_sem,mB,Zb0]<;>repeat' first|rfl|refine⟨?_,?_⟩)) (by(simp (disch:=omega) only [go_sem,mT,Zb0]<;>repeat' first|rfl|refine⟨?_,?_⟩))) ?_;intro sv1;(focus (refine wkad (w_1 @Zb0) w_t w_t ?_;(repeat' first|exact w_t|apply w_l);all_goals intros))
   refine Zoi (Sub.refl _) ⟨sv1,rfl,rfl⟩ ?_;refine Agr.put ?_ rfl rfl;refine Agr.put ?_ rfl rfl
   (repeat' (first|exact Agr.start σ|(refine Agr.own ?_ zo)))
 | true =>
   simp only [Zw1];(focus (refine wkax (w_4 mB mT gi hll) w_t (w_1 (w_d 1 [] [] [])) w_t w_t w_t w_t (w_r 0) ?_;(repeat' first|exact w_t|apply w_l);all_goals intros));(focus (refine wkax (w_4 mB mT @Zw8 s1) (w_1 c1) (w_1 (w_d 2 [(4,.v (.string A))] [7] [])) w_t w_t w_t w_t (w_r 0) ?_;(repeat' first|exact w_t|apply w_l);all_goals intros));refine Zhi (hw _ (by(simp (disch:=omega) only [go_sem,mB,Zb0]<;>repeat' first|rfl|refine⟨?_,?_⟩)) (by(simp (disch:=omega) only [go_sem,mT,Zb0]<;>repeat' first|rfl|refine⟨?_,?_⟩))) ?_;intro sv1;have hZ:=szSlG;(focus (refine wkad (w_9 @Zb0 gn hZ hln w1 w2 @Zw8 s2 hx) (w_1 c2) (w_1 (w_d 4 [(10,.v (.string B))] [23] [])) ?_;(repeat' first|exact w_t|apply w_l);all_goals intros))
   refine Zhi (hw2 _ sv1 (by(simp (disch:=omega) only [go_sem,Zb0]<;>repeat' first|rfl|refine⟨?_,?_⟩)) (by(simp (disch:=omega) only [go_sem,Zb0,Zv5,Zv6]<;>repeat' first|rfl|refine⟨?_,?_⟩))) ?_;intro sv2;(focus (refine wkad (w_1 @Zb0) w_t w_t ?_;(repeat' first|exact w_t|apply w_l);all_goals intros));refine Zoi (Sub.refl _) ⟨sv2,rfl,rfl⟩ ?_;rw [←upd_22 σ KT KB (some (picR sv1 (T++(⟨#[60,99,105,114,99,108,101]⟩++A++⟨#[32,114,61,34,51,34,47,62,10]⟩)))) (some (picB KB KT g (.own KT sv1) (.pbox KB g 0) P N))];refine Agr.put ?_ rfl rfl;refine Agr.put ?_ rfl rfl;refine Agr.put ?_ rfl rfl
   refine Agr.put ?_ rfl rfl
   (repeat' (first|exact Agr.start σ|(refine Agr.own ?_ zo)))
def txs (tx:Nat→ByteArray) (T:ByteArray):Nat→ByteArray
 | 0=>T
 | n+1=>txs tx T n++tx n
theorem Zf5 {tx:Nat→ByteArray} {T:ByteArray} {B:Nat}:∀(n:Nat),(∀j,j < n→(tx j).size≤B)→(txs tx T n).size≤T.size+n*B
 | 0,_=>by show T.size≤_;omega
 | n+1,h=>by
   have h1:=Zf5 (T:=T) n λj hj=>h j zo;have h2:=h n zo;show(txs tx T n++tx n).size≤_;rw [Zw8,Zw0];omega
set_option maxRecDepth 100000 in
theorem Zvg (f:FuncId) (σ:Mem) (KB KT g:Nat) (sv:Value) (P N:List AV) (T:ByteArray) (tx:Nat→ByteArray) (B:Nat) (ls:List Pr)
 (hf:∀(σ:Mem) (KB KT:Nat) (sv:Value) (T:ByteArray) (j:Nat) (h:j < ls.length),σ KB=some (picB KB KT g (.own KT sv) (.pbox KB g 0) P N)→σ KT=some (picR sv T)→KB≠KT→T.size≤900000000→ACall prog f [.pbox KB g 0,.agg [iv ls[j].1,iv ls[j].2]] σ (PicS KB KT g P N (T++tx j) σ))
 (hB:σ KB=some (picB KB KT g (.own KT sv) (.pbox KB g 0) P N)) (hT:σ KT=some (picR sv T)) (n2:KB≠KT) (hb:∀j,j < ls.length→(tx j).size≤B) (hs:T.size+ls.length*B≤900000000) (hll:ls.length≤10000) :
 ACall prog 15 [.pbox KB g 0,.sl 2 (ls.map prA),.fn f []] σ (PicS KB KT g P N (txs tx T ls.length) σ):=by
 have mB:=Zb1 hB;have mT:=Zb1 hT;simp only [Ent.sh,AV.shL,AV.sh] at mB mT;have hl:(ls.map prA).length=ls.length:=Zv9 ..;have kL:∀i (h:i < ls.length),(ls.map prA).getD i .u=.agg [iv ls[i].1,iv ls[i].2]:=λi h=>Zaf prA h;have hsz:∀i,i≤ls.length→(txs tx T i).size≤900000000:=λi hi=>by
  have h1:=Zf5 (T:=T) i λj hj=>hb j zo;have h2:=Zww B hi;omega
 have h00:=upd_00 σ KT KB _ _ hT hB;refine Zc4 func15 rfl ntmps15 results15 call15 zr zs ?_;simp only [AV.shL,AV.sh];generalize ls.map prA=M at *;unfold PicS at *;(focus (refine wkad (w_1 hl) w_t w_t ?_;(repeat' first|exact w_t|apply w_l);all_goals intros));refine Zai (ι:=Nat) (λi e m=>i≤ls.length∧(e 0=.pbox (KB+1000) g 0∧e 2=.fn f [])∧e 8=.sl 2 M∧e 9=iv ls.length∧e 10=iv i∧∃sv,m (KB+1000)=some (picB (KB+1000) (KT+1000) g (.own (KT+1000) sv) (.pbox (KB+1000) g 0) P N)∧m (KT+1000)=some (picR sv (txs tx T i))∧Agr m (upd (upd σ KT (some (picR sv (txs tx T i)))) KB (some (picB KB KT g (.own KT sv) (.pbox KB g 0) P N)))) (λi=>ls.length - i) 0 zr ?_ ?_
 ·rintro i e m ⟨hi,⟨e0,e2⟩,e8,e9,e10,sv,mB,mT,hA⟩
  by_cases hlt:i < ls.length
  ·have gi:=kL i hlt;have hs1:=hsz i hi;(focus (refine wkad (w_7 e0 e2 e8 e9 e10 gi hl) w_t w_t ?_;(repeat' first|exact w_t|apply w_l);all_goals intros));refine Zfv (hf _ (KB+1000) (KT+1000) sv (txs tx T i) i hlt (by(simp (disch:=omega) only [go_sem,mB]<;>repeat' first|rfl|refine⟨?_,?_⟩)) (by(simp (disch:=omega) only [go_sem,mT]<;>repeat' first|rfl|refine⟨?_,?_⟩)) zo hs1) ?_
   rintro _ _ ⟨sv1,rfl,rfl⟩
   (focus (refine wkad (w_5 e0 e2 e8 e9 e10) w_t w_t ?_;(repeat' first|exact w_t|apply w_l);all_goals intros));refine⟨i+1,⟨zo,⟨gW e0,gW e2⟩,gW e8,gW e9,gS,sv1,gC,by(simp (disch:=omega) only [go_sem,Zv5,Zv6]<;>repeat' first|rfl|refine⟨?_,?_⟩),?_⟩,zo⟩;rw [←upd_22 σ KT KB (some (picR sv (txs tx T i))) (some (picB KB KT g (.own KT sv) (.pbox KB g 0) P N))];refine Agr.put ?_ rfl rfl;refine Agr.put ?_ rfl rfl
   (repeat' (first|exact hA|(refine Agr.own ?_ zo)))
  ·have hii:i=ls.length:=zo;subst hii;(focus (refine wkad (w_5 e0 e2 e8 e9 e10) w_t w_t ?_;(repeat' first|exact w_t|apply w_l);all_goals intros));exact Zoi (Sub.refl _) ⟨sv,rfl,rfl⟩ hA
 ·refine⟨Zwk _,⟨gC,gC⟩,gC,gW hl,gC,sv,by(simp (disch:=omega) only [go_sem,mB,Zb0]<;>repeat' first|rfl|refine⟨?_,?_⟩),by(simp (disch:=omega) only [go_sem,mT,Zb0,txs]<;>repeat' first|rfl|refine⟨?_,?_⟩),?_⟩;rw [show txs tx T 0=T from rfl,h00]
  (repeat' (first|exact Agr.start σ|(refine Agr.own ?_ zo)))
end Go.Proofs.YtaedgaikloifgaaGreatDoor
