/- Contracts of the functions that the law reaches, and the rules by which they are walked. They say what a call hands back for every input within the bounds that each names; no other condition. -/
import Derived.Test.YtkefeinbjbeidaaGreatDoorBg10
set_option linter.unusedSimpArgs false
set_option linter.unusedVariables false
set_option maxRecDepth 20000
set_option maxHeartbeats 16000000
namespace Go.Proofs.YtkefeinbjbeidaaGreatDoor
open Go Go.RowKit Go.Pg Go.Pol Go.Proofs.Tryz
attribute [-bool_to_prop] Bool.and_eq_decide Bool.or_eq_decide Bool.decide_beq_decide decide_eq_decide
attribute [go_sem] underlying347 szMapQ
attribute [local go_sem] Zas Zav Zau Zag Zar Zah Bool.and_self Zal Zbb Za8 Zch Zck stQ
def kQ (q:Qt):MKey:=.l [q.k,q.a,q.b,q.c]
def cntM (l:List Qt):List (MKey × AV):=l.foldl (λes q=>Zcp (kQ q) (match Zci (kQ q) es with
 | some (.v (.int .i64 n))=>iv (n+1)
 | _=>iv 1) es) []
theorem kQ_inj {p q:Qt} (h:kQ p=kQ q):p=q:=by
 obtain⟨a,b,c,d⟩:=p;obtain⟨a',b',c',d'⟩:=q;unfold kQ at h;simp only [MKey.l.injEq,List.cons.injEq,and_true] at h;obtain⟨rfl,rfl,rfl,rfl⟩:=h;rfl
theorem Zpr (κ μ:MKey) (v:AV):∀es,Zci κ (Zcp μ v es)=if μ=κ then some v else Zci κ es
 | []=>rfl
 | a :: r=>by
   by_cases h:a.1=μ
   ·simp only [Zcp,ZBo h,Zci];by_cases h2:μ=κ
    ·rw [ZBo h2,ZBo h2]
    ·rw [ZBn h2,ZBn h2,ZBn (by rw [h];exact h2)]
   ·simp only [Zcp,ZBn h,Zci,Zpr κ μ v r];by_cases h2:a.1=κ
    ·rw [ZBo h2,ZBn (λe=>h (h2.trans e.symm)),ZBo h2]
    ·rw [ZBn h2,ZBn h2]
theorem Zn9 (l:List Qt) (q:Qt):cntM (l++[q])=Zcp (kQ q) (match Zci (kQ q) (cntM l) with
 | some (.v (.int .i64 n))=>iv (n+1)
 | _=>iv 1) (cntM l):=by unfold cntM;rw [ZFp];rfl
theorem Zoa (q:Qt):∀l,Zci (kQ q) (cntM l)=if tmQ q l=0 then none else some (iv (tmQ q l)):=by
 refine Zf7 rfl λl a ih=>?_;rw [Zn9,Zpr,Zwp];by_cases h:a=q
 ·subst h;rw [ZBo rfl,ZBo rfl,ih];by_cases h0:tmQ a l=0
  ·rw [ZBo h0,h0];rfl
  ·rw [ZBn h0,ZBn zo];rfl
 ·rw [ZBn λe=>h (kQ_inj e),ZBn h,ih]
theorem cnt_step (l:List Qt) (q:Qt):Zcp (kQ q) (iv ((tmQ q l:Nat)+1)) (cntM l)=cntM (l++[q]):=by
 rw [Zn9,Zoa];by_cases h0:tmQ q l=0
 ·rw [ZBo h0,h0];rfl
 ·rw [ZBn h0]
theorem cnt_res (l:List Qt) (q:Qt):Zrw false (.v (.int .i64 0)) (Zci (kQ q) (cntM l))=iv (tmQ q l):=by
 rw [Zoa];by_cases h0:tmQ q l=0
 ·rw [ZBo h0,h0];rfl
 ·rw [ZBn h0];rfl
theorem Zx5 {κ μ:MKey} {v:AV} (h:κ.like μ=true):∀{es:List (MKey × AV)},Ze3 κ es=true→Ze3 κ (Zcp μ v es)=true
 | [],_=>by show(κ.like μ && true)=true;rw [h];rfl
 | a :: r,ha=>by
   have ha':(κ.like a.1 && Ze3 κ r)=true:=ha;rw [ZCj] at ha';by_cases g:a.1=μ
   ·simp only [Zcp,ZBo g];show(κ.like μ && Ze3 κ r)=true;rw [h,ha'.2];rfl
   ·simp only [Zcp,ZBn g];show(κ.like a.1 && Ze3 κ (Zcp μ v r))=true;rw [ha'.1,Zx5 h ha'.2];rfl
theorem cnt_all (q:Qt):∀l,Ze3 (kQ q) (cntM l)=true:=by
 refine Zf7 rfl λl a ih=>?_;rw [Zn9];exact Zx5 rfl ih
theorem Zzx {α β:Type} {f:α→List β} {l:List α} {j:Nat} (h:j < l.length):(l.take (j+1)).flatMap f=(l.take j).flatMap f++f l[j]:=by
 rw [ZEd h,ZHf,List.flatMap_singleton]
theorem fm_len {α β:Type} {f:α→List β} (l:List α) (j:Nat):((l.take j).flatMap f).length≤(l.flatMap f).length:=by
 conv=>rhs;rw [←ZDs j l]
 rw [ZHf,ZCh];omega
abbrev flP (ps:List QTs):List Qt:=ps.flatMap flQ
abbrev hvA (x:Int) (l:List Qt):List AV:=(hvP x l).map Qt.av
theorem hvA_y {x:Int} {l:List Qt} {q:Qt} (h0:tmQ q l=0) (h:hasQ x q=true):hvA x (l++[q])=hvA x l++[q.av]:=by
 unfold hvA;rw [Ziw,ZBo ⟨h0,h⟩,ZCb];rfl
theorem hvA_n {x:Int} {l:List Qt} {q:Qt} (h:¬(tmQ q l=0∧hasQ x q=true)):hvA x (l++[q])=hvA x l:=by
 unfold hvA;rw [Ziw,ZBn h]
theorem cnt_get0 {l:List Qt} {q:Qt} (h:tmQ q l=0):Zci (kQ q) (cntM l)=none:=by rw [Zoa,ZBo h]
theorem cnt_get1 {l:List Qt} {q:Qt} (h:¬tmQ q l=0):Zci (kQ q) (cntM l)=some (iv (tmQ q l)):=by rw [Zoa,ZBn h]
theorem elHaving (x:Int) (ps:List QTs) (hl:ps.length≤1000000) (hp:∀p∈ps,p.length≤1000000∧∀t∈p,t.2.length≤1000000) (hn:(flP ps).length≤1000000):Pure prog 332 [iv x,.sl 1 (ps.map qpA)] (.sl 4 ((hvL x (flP ps)).map Qt.av)):=by
 have hlm:(ps.map qpA).length=ps.length:=ZBr ..;have hg:∀i (h:i < ps.length),(ps.map qpA).getD i .u=.sl 4 (ps[i].map qtA):=λi h=>Zao qpA h;have hpi:∀i (h:i < ps.length),ps[i].length≤1000000∧∀t∈ps[i],t.2.length≤1000000:=λi h=>hp _ (ZB0 h);have hti:∀i (h:i < ps.length),flP (ps.take (i+1))=flP (ps.take i)++flQ ps[i]:=λi h=>Zzx h;have hni:∀i,(flP (ps.take i)).length≤1000000:=λi=>ZBv (fm_len ps i) hn;generalize ps.map qpA=PS at *;refine pI func332 rfl ntmps332 results332 call332 ?_
 (refine wkad (w_1 hlm) w_t w_t (w_s ?_);intros)
 refine Zea (Frz.nilOwn (d:=6) 500 4 91 (gC)) ?_;rename_i hM;refine Zad (ι:=Nat) (λi e m=>i≤ps.length∧(e 0=iv x∧e 14=.sl 1 PS∧e 15=iv ps.length∧e 16=iv i)∧(e 5=.mp 13 hM∧m 13=some (.map hM (cntM (flP (ps.take i)))))∧∃sv,e 6=.own 500 sv∧m 500=some (.row sv 91 4 (hvA x (flP (ps.take i))) 0)) (λi=>ps.length - i) 0 zr ?_ ?_
 ·rintro i e m ⟨hi,⟨e0,e14,e15,e16⟩,⟨e5,m13⟩,sv,e6,m500⟩
  by_cases hlt:i < ps.length
  ·have hgi:=hg i hlt;obtain⟨lp,hq⟩:=hpi i hlt;have htk:=hti i hlt;have hnk:=hni (i+1);rw [htk] at hnk;clear hg hpi hti hni hp hn;generalize flP (ps.take i)=U at *;generalize ps[i]=p at *;have hpm:(p.map qtA).length=p.length:=ZBr ..;have hpg:∀j (h:j < p.length),(p.map qtA).getD j .u=.agg [.v (.bool (decide (p[j].1.num < 0))),lim (toL p[j].1.num.natAbs),lim (toL p[j].1.den),.sl 4 (p[j].2.map Qt.av)]:=λj h=>Zao qtA h;have hqj:∀j (h:j < p.length),p[j].2.length≤1000000:=λj h=>hq _ (ZB0 h);have htj:∀j (h:j < p.length),flQ (p.take (j+1))=flQ (p.take j)++p[j].2:=λj h=>Zzx h
   have hnj:∀j,(U++flQ (p.take j)).length≤1000000:=λj=>by have:=fm_len (f:=λt:Rat × List Qt=>t.2) p j;rw [ZCh] at hnk ⊢;unfold flQ at hnk ⊢;omega
   have hfp:flQ (p.take p.length)=flQ p:=by rw [ZDc]
   generalize p.map qtA=PP at *
   (refine wkad (w_11 e0 e14 e15 e16 e5 m13 e6 m500 hlm hgi hpm) w_t w_t (w_s ?_);intros)
   refine Zad (ι:=Nat) (λj e m=>j≤p.length∧(e 0=iv x∧e 14=.sl 1 PS∧e 15=iv ps.length∧e 16=iv i)∧(e 5=.mp 13 hM∧m 13=some (.map hM (cntM (U++flQ (p.take j)))))∧(e 20=.sl 4 PP∧e 21=iv p.length∧e 22=iv j)∧∃sv,e 6=.own 500 sv∧m 500=some (.row sv 91 4 (hvA x (U++flQ (p.take j))) 0)) (λj=>p.length - j) 0 zr ?_ ?_
   ·rintro j e m ⟨hj,⟨e0,e14,e15,e16⟩,⟨e5,m13⟩,⟨e20,e21,e22⟩,sv,e6,m500⟩
    by_cases hjl:j < p.length
    ·have hgj:=hpg j hjl;have lw:=hqj j hjl;have htk2:=htj j hjl;have hnk2:=hnj (j+1);rw [htk2,←ZCz] at hnk2;clear hpg hqj htj hnj htk hnk hq;obtain⟨V,hV⟩:∃V,V=U++flQ (p.take j):=⟨_,rfl⟩;rw [←hV] at m13 m500 hnk2;generalize p[j]=t at *;obtain⟨t1,w⟩:=t;simp only at htk2 lw hgj hnk2;have hwm:(w.map Qt.av).length=w.length:=ZBr ..;have hwe:∀b (h:b < w.length),(w.map Qt.av).getD b .u=Qt.av w[b]:=λb h=>Zao Qt.av h;have hws:∀b (h:b < w.length),V++w.take (b+1)=(V++w.take b)++[w[b]]:=λb h=>by rw [ZEd h,ZCz]
     have hwn:∀b,(V++w.take b).length≤1000000:=λb=>by rw [ZCh] at hnk2 ⊢;rw [ZB9];omega
     have hwf:w.take w.length=w:=ZDc;generalize w.map Qt.av=qs at *;generalize toL t1.num.natAbs=un at *;generalize toL t1.den=ud at *;generalize decide (t1.num < 0)=us at *
     (refine wkad (w_15 e0 e14 e15 e16 e5 m13 e20 e21 e22 e6 m500 hlm hpm hgj hwm) w_t w_t (w_s ?_);intros)
     refine Zad (ι:=Nat) (λb e m=>b≤w.length∧(e 0=iv x∧e 14=.sl 1 PS∧e 15=iv ps.length∧e 16=iv i)∧(e 5=.mp 13 hM∧m 13=some (.map hM (cntM (V++w.take b))))∧(e 20=.sl 4 PP∧e 21=iv p.length∧e 22=iv j)∧(e 27=.sl 4 qs∧e 28=iv w.length∧e 29=iv b)∧∃sv,e 6=.own 500 sv∧m 500=some (.row sv 91 4 (hvA x (V++w.take b)) 0)) (λb=>w.length - b) 0 zr ?_ ?_
     ·rintro b e m ⟨hb,⟨e0,e14,e15,e16⟩,⟨e5,m13⟩,⟨e20,e21,e22⟩,⟨e27,e28,e29⟩,sv,e6,m500⟩
      by_cases hbl:b < w.length
      ·have hqb:=hwe b hbl;have hsb:=hws b hbl;have hnb:=hwn b;clear hwe hws hwn hwf hnk2;generalize V++w.take b=L at *;generalize w[b]=y at *;have hst:=cnt_step L y;have hres:=cnt_res L y;have hall:=cnt_all y L;have htl:=tm_le y L;have hol:(hvA x L).length≤1000000:=by unfold hvA;rw [ZBr];have:=Zr9 x L;omega
       have cp:Pure prog 231 [.agg [iv y.k,iv y.a,iv y.b,iv y.c]] (.sl 1 (y.pts.map iv)):=Zkc y.k y.a y.b y.c;have cc:Pure prog 230 [.sl 1 (y.pts.map iv),iv x] (.v (.bool (hasQ x y))):=Zw7 y.pts x (by have:=Ztj y;omega);have hy:=hvA_y (x:=x) (l:=L) (q:=y);have hno:=hvA_n (x:=x) (l:=L) (q:=y);have g0:=cnt_get0 (l:=L) (q:=y);have g1:=cnt_get1 (l:=L) (q:=y);have hyv:y.av=.agg [iv y.k,iv y.a,iv y.b,iv y.c]:=rfl;have hkk:kQ y=.l [y.k,y.a,y.b,y.c]:=rfl;rw [hkk] at hst hres hall g0 g1;rw [hyv] at hy hqb;rw [←hsb] at hst hy hno;generalize tmQ y L=tn at *;generalize hasQ x y=hv at *
       generalize y.pts.map iv=YP at *;obtain⟨y1,y2,y3,y4⟩:=y;simp only at *;clear hyv hkk hsb;generalize hvA x L=H at *;generalize cntM L=C at *;have hC:=hst.symm;clear hst;by_cases h0:tn=0
       ·have g:=g0 h0;subst h0
        cases hv with
        | true =>
          have hH:=hy rfl rfl;clear hy hno g0 g1
          (refine wkax (w_22 e0 e14 e15 e16 e5 m13 e20 e21 e22 e27 e28 e29 e6 m500 hlm hpm hwm hqb stQ hall g hol) (w_2 cp cc) w_t w_t w_t w_t w_t (w_r 0) (w_s ?_);intros)
          refine Zxz (tok:=0) (tk:=13) (h:=hM) (MT:=347) (kt:=91) (et:=3) (T:=91) (κ:=.l [y1,y2,y3,y4]) (kv:=.agg [iv y1,iv y2,iv y3,iv y4]) (k:=((0:Nat))) (es:=C) (s0:=5) (s1:=12) (d0:=47) (d1:=48) (d2:=49) (d3:=50) (d4:=51) (d5:=52) (it:=3) (jt:=3) zk rfl zk ⟨_,_,_,rfl⟩ ⟨_,_,_,rfl⟩ ⟨_,_,_,rfl⟩ ⟨_,_,_,rfl⟩ ⟨_,_,_,rfl⟩ ⟨_,_,_,rfl⟩ ⟨_,_,_,rfl⟩ zk zd zd underlying347 zInt3 (gW e5) (gW m13) (by simp (disch:=omega) only [go_sem]) (mkQ y1 y2 y3 y4) hall hres zo zo ?_
          (refine wkad (w_14 e0 e14 e15 e16 e5 m13 e20 e21 e22 e27 e28 e29 e6 m500) w_t w_t (w_s ?_);intros)
          exact⟨b+1,⟨zo,⟨gW e0,gW e14,gW e15,gW e16⟩,⟨gW e5,by rw [hC];exact gC⟩,⟨gW e20,gW e21,gW e22⟩,⟨gW e27,gW e28,gS⟩,_,gW e6,by rw [hH];exact gW m500⟩,zo⟩
        | false =>
          have hH:=hno (by rintro ⟨_,h⟩;cases h);clear hy hno g0 g1
          (refine wkax (w_22 e0 e14 e15 e16 e5 m13 e20 e21 e22 e27 e28 e29 e6 m500 hlm hpm hwm hqb stQ hall g hol) (w_2 cp cc) w_t w_t w_t w_t w_t (w_r 0) (w_s ?_);intros)
          refine Zxz (tok:=0) (tk:=13) (h:=hM) (MT:=347) (kt:=91) (et:=3) (T:=91) (κ:=.l [y1,y2,y3,y4]) (kv:=.agg [iv y1,iv y2,iv y3,iv y4]) (k:=((0:Nat))) (es:=C) (s0:=5) (s1:=12) (d0:=47) (d1:=48) (d2:=49) (d3:=50) (d4:=51) (d5:=52) (it:=3) (jt:=3) zk rfl zk ⟨_,_,_,rfl⟩ ⟨_,_,_,rfl⟩ ⟨_,_,_,rfl⟩ ⟨_,_,_,rfl⟩ ⟨_,_,_,rfl⟩ ⟨_,_,_,rfl⟩ ⟨_,_,_,rfl⟩ zk zd zd underlying347 zInt3 (gW e5) (gW m13) (by simp (disch:=omega) only [go_sem]) (mkQ y1 y2 y3 y4) hall hres zo zo ?_
          (refine wkad (w_14 e0 e14 e15 e16 e5 m13 e20 e21 e22 e27 e28 e29 e6 m500) w_t w_t (w_s ?_);intros)
          exact⟨b+1,⟨zo,⟨gW e0,gW e14,gW e15,gW e16⟩,⟨gW e5,by rw [hC];exact gC⟩,⟨gW e20,gW e21,gW e22⟩,⟨gW e27,gW e28,gS⟩,_,gW e6,by rw [hH];exact gW m500⟩,zo⟩
       ·have g:=g1 h0;have hH:=hno (by rintro ⟨h,_⟩;exact h0 h);clear hy hno g0 g1 cp cc;have h0':¬(tn:Int)=0:=zo
        (refine wkax (w_23 e0 e14 e15 e16 e5 m13 e20 e21 e22 e27 e28 e29 e6 m500 hlm hpm hwm hqb stQ hall g hol h0') w_t w_t w_t w_t w_t w_t (w_r 0) (w_s ?_);intros)
        refine Zxz (tok:=0) (tk:=13) (h:=hM) (MT:=347) (kt:=91) (et:=3) (T:=91) (κ:=.l [y1,y2,y3,y4]) (kv:=.agg [iv y1,iv y2,iv y3,iv y4]) (k:=(tn)) (es:=C) (s0:=5) (s1:=12) (d0:=47) (d1:=48) (d2:=49) (d3:=50) (d4:=51) (d5:=52) (it:=3) (jt:=3) zk rfl zk ⟨_,_,_,rfl⟩ ⟨_,_,_,rfl⟩ ⟨_,_,_,rfl⟩ ⟨_,_,_,rfl⟩ ⟨_,_,_,rfl⟩ ⟨_,_,_,rfl⟩ ⟨_,_,_,rfl⟩ zk zd zd underlying347 zInt3 (gW e5) (gW m13) (by simp (disch:=omega) only [go_sem]) (mkQ y1 y2 y3 y4) hall hres zo zo ?_
        (refine wkad (w_14 e0 e14 e15 e16 e5 m13 e20 e21 e22 e27 e28 e29 e6 m500) w_t w_t (w_s ?_);intros)
        exact⟨b+1,⟨zo,⟨gW e0,gW e14,gW e15,gW e16⟩,⟨gW e5,by rw [hC];exact gC⟩,⟨gW e20,gW e21,gW e22⟩,⟨gW e27,gW e28,gS⟩,_,gW e6,by rw [hH];exact gW m500⟩,zo⟩
      ·have hbw:b=w.length:=zo;subst hbw;rw [hwf] at m13 m500;clear hwe hws hwn hwf
       (refine wkad (w_17 e0 e14 e15 e16 e5 m13 e20 e21 e22 e27 e28 e29 e6 m500 hlm hpm hwm) w_t w_t (w_s ?_);intros)
       exact⟨j+1,⟨zo,⟨gW e0,gW e14,gW e15,gW e16⟩,⟨gW e5,by rw [htk2,←ZCz,←hV];exact gW m13⟩,⟨gW e20,gW e21,gS⟩,sv,gW e6,by rw [htk2,←ZCz,←hV];exact gW m500⟩,zo⟩
     ·exact⟨ZBx _,⟨gW e0,gW e14,gW e15,gW e16⟩,⟨gW e5,by rw [ZEs,ZC4];exact gW m13⟩,⟨gW e20,gW e21,gW e22⟩,⟨gC,gW hwm,gC⟩,sv,gW e6,by rw [ZEs,ZC4];exact gW m500⟩
    ·have hjp:j=p.length:=zo;subst hjp;rw [hfp] at m13 m500;clear hpg hqj htj hnj hq
     (refine wkad (w_13 e0 e14 e15 e16 e5 m13 e20 e21 e22 e6 m500 hlm hpm) w_t w_t (w_s ?_);intros)
     exact⟨i+1,⟨zo,⟨gW e0,gW e14,gW e15,gS⟩,⟨gW e5,by rw [htk];exact gW m13⟩,sv,gW e6,by rw [htk];exact gW m500⟩,zo⟩
   ·exact⟨ZBx _,⟨gW e0,gW e14,gW e15,gW e16⟩,⟨gW e5,by rw [ZEs,show flQ []=[] from rfl,ZC4];exact gW m13⟩,⟨gC,gW hpm,gC⟩,sv,gW e6,by rw [ZEs,show flQ []=[] from rfl,ZC4];exact gW m500⟩
  ·have hip:i=ps.length:=zo;subst hip;rw [ZDc] at m13 m500;have hlen:(hvP x (flP ps)).length≤1000000000:=by have:=Zr9 x (flP ps);omega
   have ci:=fun(m:Mem) h=>Zw5 m 500 sv (hvP x (flP ps)) h hlen;rw [hv_eq] at ci;have hol:(hvA x (flP ps)).length≤1000000000:=by unfold hvA;rw [ZBr];exact hlen
   clear hg hpi hti hni hp hn;generalize (hvL x (flP ps)).map Qt.av=RR at *;have ci:∀(m:Mem),m 500=some (.row sv 91 4 (hvA x (flP ps)) 0)→ACall prog 163 [.own 500 sv,.fn 164 []] m λr σ'=>r=.tup []∧σ'=upd m 500 (some (.row sv 91 4 RR 0)):=ci;generalize hvA x (flP ps)=H at *;generalize cntM (flP ps)=C at *
   (refine wkad (w_9 e0 e14 e15 e16 e5 m13 e6 m500 hlm) w_t w_t (w_s ?_);intros)
   refine Zgv (ci _ (gW m500)) ?_
   (refine wkad (w_1 e6) w_t w_t (w_s ?_);intros)
   all_goals exact gL
 ·exact⟨ZBx _,⟨gC,gC,gW hlm,gC⟩,⟨gC,gC⟩,_,gC,gC⟩
attribute [local go_sem] Zbt Za7 Zbw Za9 Zba Zca Zcd Zcc Zcb Zbp Zbr Zct Zcu Ze9 Zfb Ze7 Ze8 Zl4 Zux
theorem elReplV (A B BN BD N1 N2 D1 D2 R1 R2:List AV) (k a b c:Int) (i j:Nat) (hi:i≤1000000) (hj:j≤1000000) (h1:R1.length≤100000000) (h2:R2.length≤100000000)
 (c1:Pure prog 340 [.sl 4 A,.agg [iv k,iv a,iv b,iv c]] (iv i)) (c2:Pure prog 340 [.sl 4 B,.agg [iv k,iv a,iv b,iv c]] (iv j))
 (c3:Pure prog 342 [.sl 4 A,.agg [iv k,iv a,iv b,iv c],.agg [.sl 4 BN,.sl 4 BD]] (.agg [.sl 4 N1,.sl 4 N2])) (c4:Pure prog 342 [.sl 4 B,.agg [iv k,iv a,iv b,iv c],.agg [.sl 4 BN,.sl 4 BD]] (.agg [.sl 4 D1,.sl 4 D2]))
 (c5:Pure prog 341 [.sl 4 N1,.sl 4 BD,.v (.int .i64 ((j:Int) - (i:Int)))] (.sl 4 R1)) (c6:Pure prog 341 [.sl 4 D1,.sl 4 BD,.v (.int .i64 ((i:Int) - (j:Int)))] (.sl 4 R2)) :
 Pure prog 334 [.agg [.sl 4 A,.sl 4 B],.agg [iv k,iv a,iv b,iv c],.agg [.sl 4 BN,.sl 4 BD]] (if 4000 < R1.length∨4000 < R2.length then .tup [.agg [.v (.slice none 0 0),.v (.slice none 0 0)],iv 4] else .tup [.agg [.sl 4 R1,.sl 4 R2],iv 0]):=by
 by_cases g1:4000 < R1.length
 ·rw [ZBo (.inl g1)];have g1':(R1.length:Int) > 4000:=zo;refine pI func334 rfl ntmps334 results334 call334 ?_
  (refine wkax (w_1 g1') (w_6 c1 c2 c3 c5 c4 c6) (w_3 (w_d 1 [(3,iv i),(7,iv j)] [] []) (w_d 2 [(4,.agg [.sl 4 N1,.sl 4 N2]),(11,.sl 4 R1)] [] []) (w_d 3 [(4,.agg [.sl 4 D1,.sl 4 D2]),(11,.sl 4 R2)] [] [])) w_t w_t w_t w_y (w_r 0) (w_s ?_);intros)
  all_goals exact gL
 ·by_cases g2:4000 < R2.length
  ·rw [ZBo (.inr g2)];have g1':¬(R1.length:Int) > 4000:=zo;have g2':(R2.length:Int) > 4000:=zo;refine pI func334 rfl ntmps334 results334 call334 ?_
   (refine wkax (w_2 g1' g2') (w_6 c1 c2 c3 c5 c4 c6) (w_3 (w_d 1 [(3,iv i),(7,iv j)] [] []) (w_d 2 [(4,.agg [.sl 4 N1,.sl 4 N2]),(11,.sl 4 R1)] [] []) (w_d 3 [(4,.agg [.sl 4 D1,.sl 4 D2]),(11,.sl 4 R2)] [] [])) w_t w_t w_t w_y (w_r 0) (w_s ?_);intros)
   all_goals exact gL
  ·rw [ZBn zo];have g1':¬(R1.length:Int) > 4000:=zo;have g2':¬(R2.length:Int) > 4000:=zo;refine pI func334 rfl ntmps334 results334 call334 ?_
   (refine wkax (w_2 g1' g2') (w_6 c1 c2 c3 c5 c4 c6) (w_3 (w_d 1 [(3,iv i),(7,iv j)] [] []) (w_d 2 [(4,.agg [.sl 4 N1,.sl 4 N2]),(11,.sl 4 R1)] [] []) (w_d 3 [(4,.agg [.sl 4 D1,.sl 4 D2]),(11,.sl 4 R2)] [] [])) w_t w_t w_t w_y (w_r 0) (w_s ?_);intros)
   all_goals exact gL
def elR (z:Int × XX) (N:AV):AV:=if z.1=0 then .tup [.agg [if z.2.1=[] then N else qpA z.2.1,qpA z.2.2],iv 0] else .tup [.agg [.v (.slice none 0 0),.v (.slice none 0 0)],iv z.1]
theorem elR_e {z:Int × XX} (N:AV) {k:Int} {y:XX} (h:z=(k,y)) (hk:k≠0):elR z N=.tup [.agg [.v (.slice none 0 0),.v (.slice none 0 0)],iv k]:=by subst h;unfold elR;rw [ZBn hk]
theorem elT_e {k:Int} {y:XX} (hk:k≠0):elT (k,y)=(k,([],[])):=by unfold elT;rw [ZBo hk]
theorem elT_z {y:XX} (h:y.2=[]):elT (0,y)=(3,([],[])):=by unfold elT;rw [ZBn zs,ZBo h]
theorem elT_n {y:XX} (h:y.2≠[]) (h1:y.1=[]):elT (0,y)=(0,([],[((1:Rat),[])])):=by unfold elT;rw [ZBn zs,ZBn h,ZBo h1]
theorem elT_o {y:XX} (h:y.2≠[]) (h1:y.1≠[]):elT (0,y)=(0,y):=by unfold elT;rw [ZBn zs,ZBn h,ZBn h1]
theorem elF_l {lem:Qt→Int × XX} {q:Qt} {l:List Qt} {x:XX} (h:(lem q).1≠0):elF lem (q :: l) x=((lem q).1,([],[])):=by show(if _ then _ else _)=_;rw [ZBo h]
theorem elF_b {lem:Qt→Int × XX} {q:Qt} {l:List Qt} {x:XX} (h:(lem q).1=0) (hb:4000 < (elS q (lem q).2 x).1.length∨4000 < (elS q (lem q).2 x).2.length):elF lem (q :: l) x=(4,([],[])):=by show(if _ then _ else _)=_;rw [ZBn (by rw [h];simp),ZBo hb]
theorem elF_s {lem:Qt→Int × XX} {q:Qt} {l:List Qt} {x:XX} (h:(lem q).1=0) (hb:¬(4000 < (elS q (lem q).2 x).1.length∨4000 < (elS q (lem q).2 x).2.length)):elF lem (q :: l) x=elF lem l (elS q (lem q).2 x):=by
 show(if _ then _ else _)=_;rw [ZBn (by rw [h];simp),ZBn hb]
abbrev nilA:AV:=.v (.slice none 0 0)
theorem elElV (M G:List AV) (i:Nat) (hi:i < M.length) (l:List Qt) (x0:XX) (lem:Qt→Int × XX) (I:List Qt→XX→Prop) (hll:l.length≤1000000)
 (ch:Pure prog 332 [iv i,.sl 1 [qpA x0.1,qpA x0.2]] (.sl 4 (l.map Qt.av))) (cn:Pure prog 335 [iv 1] (.sl 4 [.agg [.v (.bool false),lim [1],lim [1],.sl 4 []]])) (h0:I l x0)
 (hb:∀l y,I l y→y.1.length≤1000000∧y.2.length≤1000000)
 (hI:∀q r y,I (q :: r) y→Pure prog 333 [.agg [.sl 6 M,.sl 5 G],iv i,q.av] (if (lem q).1=0 then .tup [.agg [qpA (lem q).2.1,qpA (lem q).2.2],iv 0] else .tup [.agg [.v (.slice none 0 0),.v (.slice none 0 0)],iv (lem q).1])
  ∧ ((lem q).1=0→Pure prog 334 [.agg [qpA y.1,qpA y.2],q.av,.agg [qpA (lem q).2.1,qpA (lem q).2.2]] (if 4000 < (elS q (lem q).2 y).1.length∨4000 < (elS q (lem q).2 y).2.length then .tup [.agg [.v (.slice none 0 0),.v (.slice none 0 0)],iv 4] else .tup [.agg [qpA (elS q (lem q).2 y).1,qpA (elS q (lem q).2 y).2],iv 0])
    ∧ (¬(4000 < (elS q (lem q).2 y).1.length∨4000 < (elS q (lem q).2 y).2.length)→I r (elS q (lem q).2 y)))) :
 Pure prog 331 [.agg [.sl 6 M,.sl 5 G],iv i,.agg [qpA x0.1,qpA x0.2]] (elR (elT (elF lem l x0)) nilA):=by
 have hg:∀j (h:j < l.length),(l.map Qt.av).getD j .u=Qt.av l[j]:=λj h=>Zao Qt.av h;have hlm:(l.map Qt.av).length=l.length:=ZBr ..;obtain⟨R,hR⟩:∃R,R=elR (elT (elF lem l x0)) nilA:=⟨_,rfl⟩;rw [←hR];show Pure _ _ [_,_,.agg [.sl 4 (x0.1.map qtA),.sl 4 (x0.2.map qtA)]] _;have ch:Pure prog 332 [iv i,.sl 1 [.sl 4 (x0.1.map qtA),.sl 4 (x0.2.map qtA)]] (.sl 4 (l.map Qt.av)):=ch;obtain⟨y1,hy1⟩:∃y,y=x0.1.map qtA:=⟨_,rfl⟩;obtain⟨y2,hy2⟩:∃y,y=x0.2.map qtA:=⟨_,rfl⟩;rw [←hy1,←hy2] at ch ⊢;generalize l.map Qt.av=LA at *;refine pI func331 rfl ntmps331 results331 call331 ?_
 (refine wkax (w_2 hi hlm) w_t w_t (w_1 ch) w_t w_t w_y (w_r 0) (w_s ?_);intros)
 rename_i g3 g5 g6 svx;refine Zad (ι:=Nat × XX) (λs e m=>s.1≤l.length∧(e 1=iv i∧(e 3=.pbox 3 g3 0∧m 3=some (.box g3 42 [.sl 6 M,.sl 5 G] false))∧(e 5=.pbox 5 g5 0∧m 5=some (.box g5 47 [.sl 4 (s.2.1.map qtA),.sl 4 (s.2.2.map qtA)] false))∧(e 6=.pbox 6 g6 0∧m 6=some (.box g6 47 [.v (.slice none 0 0),.v (.slice none 0 0)] false)))∧(e 28=.sl 4 LA∧e 29=iv l.length∧e 30=iv s.1)∧I (l.drop s.1) s.2∧elF lem (l.drop s.1) s.2=elF lem l x0) (λs=>l.length - s.1) (0,x0) zr ?_ ?_
 ·rintro ⟨j,y⟩ e m ⟨hj,⟨e1,⟨e3,m3⟩,⟨e5,m5⟩,⟨e6,m6⟩⟩,⟨e28,e29,e30⟩,hIy,hF⟩
  simp only at hj e30 m5 hIy hF;by_cases hlt:j < l.length
  ·have hgj:=hg j hlt;have hdr:l.drop j=l[j] :: l.drop (j+1):=ZDl hlt;rw [hdr] at hIy hF;obtain⟨cL,h2⟩:=hI _ _ _ hIy;clear hI hg ch cn h0 hb hdr hIy;generalize l[j]=q at *;by_cases hz:(lem q).1=0
   ·rw [ZBo hz] at cL;obtain⟨cR,hn⟩:=h2 hz;clear h2;by_cases hbig:4000 < (elS q (lem q).2 y).1.length∨4000 < (elS q (lem q).2 y).2.length
    ·rw [ZBo hbig] at cR;have hres:R=.tup [.agg [.v (.slice none 0 0),.v (.slice none 0 0)],iv 4]:=by rw [hR,←hF,elF_b hz hbig,elT_e zd];exact elR_e _ rfl zd
     subst hres;have cL:Pure prog 333 [.agg [.sl 6 M,.sl 5 G],iv i,q.av] (.tup [.agg [.sl 4 ((lem q).2.1.map qtA),.sl 4 ((lem q).2.2.map qtA)],iv 0]):=cL;have cR:Pure prog 334 [.agg [.sl 4 (y.1.map qtA),.sl 4 (y.2.map qtA)],q.av,.agg [.sl 4 ((lem q).2.1.map qtA),.sl 4 ((lem q).2.2.map qtA)]] _:=cR;clear hF hR hn hz hbig hy1 hy2;generalize (lem q).2.1.map qtA=B1 at *;generalize (lem q).2.2.map qtA=B2 at *;generalize y.1.map qtA=Y1 at *;generalize y.2.map qtA=Y2 at *;obtain⟨q1,q2,q3,q4⟩:=q;have cL:Pure prog 333 [.agg [.sl 6 M,.sl 5 G],iv i,.agg [iv q1,iv q2,iv q3,iv q4]] _:=cL;have cR:Pure prog 334 [.agg [.sl 4 Y1,.sl 4 Y2],.agg [iv q1,iv q2,iv q3,iv q4],.agg [.sl 4 B1,.sl 4 B2]] _:=cR
     have hgj:LA.getD j .u=.agg [iv q1,iv q2,iv q3,iv q4]:=hgj
     (refine wkap (w_12 e1 e3 m3 e5 m5 e6 m6 e28 e29 e30 hlm hgj) (w_2 cL cR) (w_r 0) (w_s ?_);intros)
     all_goals exact gM (w_2 e6 m6)
    ·rw [ZBn hbig] at cR;have hn:=hn hbig;rw [elF_s hz hbig] at hF;have cL:Pure prog 333 [.agg [.sl 6 M,.sl 5 G],iv i,q.av] (.tup [.agg [.sl 4 ((lem q).2.1.map qtA),.sl 4 ((lem q).2.2.map qtA)],iv 0]):=cL;have cR:Pure prog 334 [.agg [.sl 4 (y.1.map qtA),.sl 4 (y.2.map qtA)],q.av,.agg [.sl 4 ((lem q).2.1.map qtA),.sl 4 ((lem q).2.2.map qtA)]] (.tup [.agg [.sl 4 ((elS q (lem q).2 y).1.map qtA),.sl 4 ((elS q (lem q).2 y).2.map qtA)],iv 0]):=cR;generalize elS q (lem q).2 y=y' at *;obtain⟨Z1,hZ1⟩:∃Z,Z=y'.1.map qtA:=⟨_,rfl⟩;obtain⟨Z2,hZ2⟩:∃Z,Z=y'.2.map qtA:=⟨_,rfl⟩;rw [←hZ1,←hZ2] at cR;clear hR hz hbig hy1 hy2
     generalize (lem q).2.1.map qtA=B1 at *;generalize (lem q).2.2.map qtA=B2 at *;generalize y.1.map qtA=Y1 at *;generalize y.2.map qtA=Y2 at *;obtain⟨q1,q2,q3,q4⟩:=q;have cL:Pure prog 333 [.agg [.sl 6 M,.sl 5 G],iv i,.agg [iv q1,iv q2,iv q3,iv q4]] _:=cL;have cR:Pure prog 334 [.agg [.sl 4 Y1,.sl 4 Y2],.agg [iv q1,iv q2,iv q3,iv q4],.agg [.sl 4 B1,.sl 4 B2]] _:=cR;have hgj:LA.getD j .u=.agg [iv q1,iv q2,iv q3,iv q4]:=hgj
     (refine wkap (w_12 e1 e3 m3 e5 m5 e6 m6 e28 e29 e30 hlm hgj) (w_2 cL cR) (w_r 0) (w_s ?_);intros)
     exact⟨(j+1,y'),⟨by show j+1≤_;omega,⟨gW e1,⟨gW e3,gW m3⟩,⟨gW e5,by rw [←hZ1,←hZ2];exact gW m5⟩,⟨gW e6,gW m6⟩⟩,⟨gW e28,gW e29,gS⟩,hn,hF⟩,by simp only;omega⟩
   ·rw [ZBn hz] at cL;have hres:R=.tup [.agg [.v (.slice none 0 0),.v (.slice none 0 0)],iv (lem q).1]:=by rw [hR,←hF,elF_l hz,elT_e hz];exact elR_e _ rfl hz
    subst hres;clear hF h2 hR hy1 hy2;generalize (lem q).1=z at *;generalize y.1.map qtA=Y1 at *;generalize y.2.map qtA=Y2 at *;obtain⟨q1,q2,q3,q4⟩:=q;have cL:Pure prog 333 [.agg [.sl 6 M,.sl 5 G],iv i,.agg [iv q1,iv q2,iv q3,iv q4]] _:=cL;have hgj:LA.getD j .u=.agg [iv q1,iv q2,iv q3,iv q4]:=hgj
    (refine wkap (w_13 e1 e3 m3 e5 m5 e6 m6 e28 e29 e30 hlm hgj hz) (w_1 cL) (w_r 0) (w_s ?_);intros)
    all_goals exact gM (w_2 e6 m6)
  ·have hjl:j=l.length:=zo;subst hjl;rw [ZG6] at hIy hF;have hF:(0,y)=elF lem l x0:=hF;obtain⟨b1,b2⟩:=hb _ _ hIy;have l1:(y.1.map qtA).length=y.1.length:=ZBr ..;have l2:(y.2.map qtA).length=y.2.length:=ZBr ..;clear hI hg ch h0 hb hIy hy1 hy2;by_cases n2:y.2=[]
   ·have hres:R=.tup [.agg [.v (.slice none 0 0),.v (.slice none 0 0)],iv 3]:=by rw [hR,←hF,elT_z n2];exact elR_e _ rfl zd
    subst hres;rw [n2] at m5;clear cn hF hR l1 l2;have m5:m 5=some (.box g5 47 [.sl 4 (y.1.map qtA),.sl 4 []] false):=m5;generalize y.1.map qtA=Y1 at *
    (refine wkap (w_11 e1 e3 m3 e5 m5 e6 m6 e28 e29 e30 hlm) w_t (w_r 0) (w_s ?_);intros)
    all_goals exact gM (w_2 e6 m6)
   ·have k2:¬y.2.length=0:=λh=>n2 (List.length_eq_zero_iff.1 h);have k2':¬(y.2.length:Int)=0:=zo;by_cases n1:y.1=[]
    ·have hres:R=.tup [.agg [.v (.slice none 0 0),.sl 4 [.agg [.v (.bool false),lim [1],lim [1],.sl 4 []]]],iv 0]:=by
      rw [hR,←hF,elT_n n2 n1];show AV.tup [.agg [.v (.slice none 0 0),.sl 4 [qtA ((1:Rat),[])]],iv 0]=_;rw [Zk8];rfl
     subst hres;rw [n1] at m5;have m5:m 5=some (.box g5 47 [.sl 4 [],.sl 4 (y.2.map qtA)] false):=m5;clear hF hR l1;generalize y.2.map qtA=Y2 at *
     (refine wkap (w_13 e1 e3 m3 e5 m5 e6 m6 e28 e29 e30 hlm l2 k2') (w_1 cn) (w_r 0) (w_s ?_);intros)
     all_goals exact gM (w_2 e6 m6)
    ·have k1:¬y.1.length=0:=λh=>n1 (List.length_eq_zero_iff.1 h);have k1':¬(y.1.length:Int)=0:=zo
     have hres:R=.tup [.agg [.sl 4 (y.1.map qtA),.sl 4 (y.2.map qtA)],iv 0]:=by
      rw [hR,←hF,elT_o n2 n1];unfold elR;rw [ZBo rfl,ZBn n1]
     subst hres;clear hF hR cn;generalize y.1.map qtA=Y1 at *;generalize y.2.map qtA=Y2 at *
     (refine wkap (w_15 e1 e3 m3 e5 m5 e6 m6 e28 e29 e30 hlm l1 l2 k1' k2') w_t (w_r 0) (w_s ?_);intros)
     all_goals exact gM (w_4 e5 m5 e6 m6)
 ·exact⟨ZBx _,⟨gC,⟨gC,gC⟩,⟨gC,by rw [←hy1,←hy2];exact gC⟩,⟨gC,gC⟩⟩,⟨gC,gW hlm,gC⟩,h0,rfl⟩
theorem scl_i1 (p:QTs):sclT ((1:Int):Rat) p=p:=by show sclT 1 p=_;exact Zi9 p
structure RoundOk (x:Int) (q:Qt) (l:List Qt) (K N:Nat) (y b:XX):Prop where
 h:EI x (q :: l) K N y
 hq:hasQ x q=true
 nf:q.norm=(q,1)
 b:LmOk x b
 k:K≤60000
 n:N≤900
section
variable {x:Int} {q:Qt} {l:List Qt} {K N:Nat} {y b:XX}
theorem RoundOk.l1 (h:RoundOk x q l K N y b):(elS q b y).1=rsX (rpN q y.1 b.1 b.2) b.2 (moQ q y.2 - moQ q y.1)∧(rsX (rpN q y.1 b.1 b.2) b.2 (moQ q y.2 - moQ q y.1)).length≤1728000:=by
 obtain⟨m1,m2⟩:=h.h.mo h.hq;refine⟨?_,Zxk h.h.l1 h.b.ln h.b.ld zo⟩;exact(rs_pw (rs_xb (i:=0) h.h.x1 h.b.xn h.b.xd m1 zo).1 h.b.xd.1 _).symm
theorem RoundOk.l2 (h:RoundOk x q l K N y b):(elS q b y).2=rsX (rpN q y.2 b.1 b.2) b.2 (moQ q y.1 - moQ q y.2)∧(rsX (rpN q y.2 b.1 b.2) b.2 (moQ q y.1 - moQ q y.2)).length≤1728000:=by
 obtain⟨m1,m2⟩:=h.h.mo h.hq;refine⟨?_,Zxk h.h.l2 h.b.ln h.b.ld zo⟩;exact(rs_pw (rs_xb (i:=0) h.h.x2 h.b.xn h.b.xd m2 zo).1 h.b.xd.1 _).symm
end
theorem elPart {x:Int} {q:Qt} {K N:Nat} {p:QTs} {b:XX} (z:Int) (hp:XB p K N) (lp:p.length≤4000) (hm:moQ q p≤2) (hz:(moQ q p:Int)+z≤2) (hz1:z≤2) (nf:q.norm=(q,1)) (hb:LmOk x b) (hK:K≤60000) (hN:N≤900) :
 Pure prog 340 [qpA p,q.av] (iv (moQ q p))∧Pure prog 342 [qpA p,q.av,.agg [qpA b.1,qpA b.2]] (.agg [qpA (rpN q p b.1 b.2),qpA (rpD q p b.2)])∧Pure prog 341 [qpA (rpN q p b.1 b.2),qpA b.2,iv z] (qpA (rsX (rpN q p b.1 b.2) b.2 z.toNat)):=by
 have hmq:maxQ=1000:=rfl;refine⟨elMost p q (n:=N) zo hp.2.1 zo,?_,?_⟩
 ·have c:=Zzz p b.1 b.2 q (L:=12) (LA:=4000) (M:=2) hp hb.xn hb.xd lp zd zd (by rw [nf];exact hm) hb.ln hb.ld zd zo zd zo;rw [nf] at c;simp only at c;rw [ZBn zd,scl_i1] at c;exact c
 ·refine elRaised _ _ z zo λi hi=>?_;have hx:=rs_xb (i:=i) hp hb.xn hb.xd hm zo;have hl:=Zxk (i:=i) (q:=q) lp hb.ln hb.ld zo;have h12:=ZCy hl hb.ld;exact Zz1 _ _ hx hb.xd zo (ZBv h12 zd) zo (by have:=hb.ld;omega) zo zo
theorem elRepl {x:Int} {q:Qt} {l:List Qt} {K N:Nat} {y b:XX} (h:RoundOk x q l K N y b):Pure prog 334 [.agg [qpA y.1,qpA y.2],q.av,.agg [qpA b.1,qpA b.2]] (if 4000 < (elS q b y).1.length∨4000 < (elS q b y).2.length then .tup [.agg [.v (.slice none 0 0),.v (.slice none 0 0)],iv 4] else .tup [.agg [qpA (elS q b y).1,qpA (elS q b y).2],iv 0]):=by
 obtain⟨m1,m2⟩:=h.h.mo h.hq;obtain⟨c1,c3,c5⟩:=elPart ((moQ q y.2:Int) - (moQ q y.1:Int)) h.h.x1 h.h.l1 m1 zo zo h.nf h.b h.k h.n;obtain⟨c2,c4,c6⟩:=elPart ((moQ q y.1:Int) - (moQ q y.2:Int)) h.h.x2 h.h.l2 m2 zo zo h.nf h.b h.k h.n;obtain⟨e1,l1⟩:=h.l1;obtain⟨e2,l2⟩:=h.l2;rw [show((moQ q y.2:Int) - (moQ q y.1:Int)).toNat=moQ q y.2 - moQ q y.1 by omega,←e1] at c5;rw [show((moQ q y.1:Int) - (moQ q y.2:Int)).toNat=moQ q y.1 - moQ q y.2 by omega,←e2] at c6;rw [←e1] at l1;rw [←e2] at l2;have k:=elReplV _ _ _ _ _ _ _ _ _ _ q.k q.a q.b q.c (moQ q y.1) (moQ q y.2) zo zo (by rw [ZBr];omega) (by rw [ZBr];omega) c1 c2 c3 c4 c5 c6
 rwa [ZBr,ZBr] at k
def lemQ (ss:List RS) (i:Nat) (hi:i < ss.length) (q:Qt):Int × XX:=if q.chk ss.length 64=0 then lmS ss i hi q else (q.chk ss.length 64,([],[]))
theorem lemQ_av {ss:List RS} {i:Nat} {hi:i < ss.length} {q:Qt}:lmA q ss.length (lmS ss i hi q) nilA=if (lemQ ss i hi q).1=0 then .tup [.agg [qpA (lemQ ss i hi q).2.1,qpA (lemQ ss i hi q).2.2],iv 0] else .tup [.agg [nilA,nilA],iv (lemQ ss i hi q).1]:=by
 unfold lmA lemQ;by_cases h:q.chk ss.length 64=0
 ·rw [ZBo h,ZBo h]
 ·rw [ZBn h,ZBn h,ZBn h]
theorem chk_okQ {q:Qt} {n:Int} (h:q.chk n 64=0):q.ok=true:=by
 cases g:q.ok with
 | true=>rfl
 | false=>unfold Qt.chk at h;rw [ZBn (by rw [g];simp)] at h;cases h
theorem lemQ_ok {ss:List RS} {i:Nat} (hi:i < ss.length) (h8:ss.length≤8) (he:errS ss i=0) (hr:ss[i].r.lm 2) {q:Qt} (h0:(lemQ ss i hi q).1=0):LmOk i (lemQ ss i hi q).2:=by
 have hA:=st_a hi h8 he hr;unfold lemQ at h0 ⊢;by_cases h:q.chk ss.length 64=0
 ·rw [ZBo h] at h0 ⊢;exact lm_ok hA (chk_okQ h) (λhs hx=>Zyu h hs hx) h0
 ·rw [ZBn h] at h0;exact absurd h0 h
def Ahead (x:Int) (l:List Qt) (y:XX):Prop:=∃K N,EI x l K N y∧K+l.length*1472≤50000∧N+l.length*20≤900∧∀q∈l,hasQ x q=true∧q.norm=(q,1)
theorem Ahead.beg {x:Int} {K N:Nat} {n d:QTs} (h1:XB n K N) (h2:XB d K N) (l1:n.length≤4000) (l2:d.length≤4000) (c1:∀t∈n,t.2.length≤2) (c2:∀t∈d,t.2.length≤2) (hk:K+(flQ n++flQ d).length*1472≤50000) (hn:N+(flQ n++flQ d).length*20≤900):Ahead x (hvL x (flQ n++flQ d)) (n,d):=by
 have hl:=Zzq x (flQ n++flQ d);have e1:(hvL x (flQ n++flQ d)).length*1472≤(flQ n++flQ d).length*1472:=ZB7 _ hl;have e2:(hvL x (flQ n++flQ d)).length*20≤(flQ n++flQ d).length*20:=ZB7 _ hl;refine⟨K,N,EI.beg h1 h2 l1 l2 c1 c2,zo,zo,λq hq=>?_⟩;obtain⟨hm,hx⟩:=Zr1.1 hq;refine⟨hx,?_⟩;rcases List.mem_append.1 hm with g | g
 ·obtain⟨t,ht,hqt⟩:=Znt.1 g;exact(h1.1.1 t ht).2.2 q hqt
 ·obtain⟨t,ht,hqt⟩:=Znt.1 g;exact(h2.1.1 t ht).2.2 q hqt
theorem Ahead.round {x:Int} {q:Qt} {l:List Qt} {y b:XX} (h:Ahead x (q :: l) y) (hb:LmOk x b):∃K N,RoundOk x q l K N y b:=by
 obtain⟨K,N,h1,h2,h3,h4⟩:=h;rw [ZB2] at h2 h3;exact⟨K,N,h1,(h4 q (.head _)).1,(h4 q (.head _)).2,hb,zo,zo⟩
theorem Ahead.step {x:Int} {q:Qt} {l:List Qt} {y b:XX} (h:Ahead x (q :: l) y) (hb:LmOk x b) (hn:¬(4000 < (elS q b y).1.length∨4000 < (elS q b y).2.length)):Ahead x l (elS q b y):=by
 obtain⟨K,N,h1,h2,h3,h4⟩:=h;rw [ZB2] at h2 h3;exact⟨K+1472,N+20,h1.step (h4 q (.head _)).1 hb zo zo,zo,zo,λu hu=>h4 u (.tail _ hu)⟩
abbrev elZ (ss:List RS) (i:Nat) (hi:i < ss.length) (x:XX):Int × XX:=elF (lemQ ss i hi) (hvL i (flQ x.1++flQ x.2)) x
theorem ZAc (ss:List RS) (gs:List RG) (i:Nat) (hi:i < ss.length) (h8:ss.length≤8) (he:errS ss i=0) (hr:ss[i].r.lm 2) (hL:∀k a b c,Pure prog 333 [figA ss gs,iv i,.agg [iv k,iv a,iv b,iv c]] (lmA ⟨k,a,b,c⟩ ss.length (lmS ss i hi ⟨k,a,b,c⟩) (.v (.slice none 0 0)))) (x:XX) (l1:x.1.length≤1000000) (l2:x.2.length≤1000000) (q1:∀t∈x.1,t.2.length≤1000000) (q2:∀t∈x.2,t.2.length≤1000000) (hf:(flQ x.1++flQ x.2).length≤1000000) (h0:Ahead i (hvL i (flQ x.1++flQ x.2)) x):Pure prog 331 [figA ss gs,iv i,.agg [qpA x.1,qpA x.2]] (elR (elT (elZ ss i hi x)) nilA):=by
 have hP:flP [x.1,x.2]=flQ x.1++flQ x.2:=by show flQ x.1++(flQ x.2++[])=_;rw [ZC4]
 have ch:=elHaving i [x.1,x.2] (by show 2≤1000000;decide) (λp hp=>by
  rcases List.mem_cons.1 hp with rfl | hp
  ·exact⟨l1,q1⟩
  ·rw [List.mem_singleton.1 hp];exact⟨l2,q2⟩) (by rw [hP];exact hf)
 rw [hP] at ch;have hn:=Zqc;rw [nx1,show qpA onX=.sl 4 [.agg [.v (.bool false),lim [1],lim [1],.sl 4 []]] from by show AV.sl 4 [qtA ((1:Rat),[])]=_;rw [Zk8];rfl] at hn;refine elElV (ss.map RS.av) (gs.map RG.av) i (by rw [ZBr];exact hi) _ x (lemQ ss i hi) (Ahead i) (ZBv (Zzq _ _) hf) ch hn h0 ?_ ?_
 ·rintro l y ⟨K,N,h1,-⟩
  have:=h1.l1;have:=h1.l2;exact⟨zo,zo⟩
 ·intro q r y hI;refine⟨?_,λhz=>?_⟩
  ·have c:=hL q.k q.a q.b q.c;have c:Pure prog 333 [figA ss gs,iv i,q.av] (lmA q ss.length (lmS ss i hi q) nilA):=c;rw [lemQ_av] at c;exact c
  ·have ok:=lemQ_ok hi h8 he hr hz;obtain⟨K,N,hR⟩:=hI.round ok;exact⟨elRepl hR,λhn=>hI.step ok hn⟩
abbrev pI40 (a:Int):Prop:=0≤a∧a < 40
theorem ZA6 (a b c:Int) (h:Qt.ok ⟨1,a,b,c⟩=true):Pure prog 23 [iv a,iv b,iv c] (.sl 4 ((ofX ⟨1,a,b,c⟩).map qtA)):=by
 have c1:Pure prog 64 [.agg [iv 1,iv a,iv b,iv c]] (.sl 4 ((ofX ⟨1,a,b,c⟩).map qtA)):=Zz0 h;show Pure _ _ [iv a,iv b,iv c] (.sl 4 ((ofX ⟨1,a,b,c⟩).map qtA));generalize (ofX ⟨1,a,b,c⟩).map qtA=G at *;refine pI func23 rfl ntmps23 results23 call23 ?_;(focus (refine wkap w_t (w_1 c1) (w_r 0) ?_;(repeat' first|exact w_t|apply w_l);all_goals intros));all_goals exact gL
theorem arPy (a b c:Int) (h:Qt.ok ⟨2,a,b,c⟩=true):Pure prog 30 [iv a,iv b,iv c] (.sl 4 ((ofX ⟨2,a,b,c⟩).map qtA)):=by
 have c1:Pure prog 64 [.agg [iv 2,iv a,iv b,iv c]] (.sl 4 ((ofX ⟨2,a,b,c⟩).map qtA)):=Zz0 h;show Pure _ _ [iv a,iv b,iv c] (.sl 4 ((ofX ⟨2,a,b,c⟩).map qtA));generalize (ofX ⟨2,a,b,c⟩).map qtA=G at *;refine pI func30 rfl ntmps30 results30 call30 ?_;(focus (refine wkap w_t (w_1 c1) (w_r 0) ?_;(repeat' first|exact w_t|apply w_l);all_goals intros));all_goals exact gL
theorem Zxy (a b c:Int) (h:Qt.ok ⟨1,a,b,c⟩=true):Pure prog 32 [iv a,iv b,iv c] (.sl 4 ((ofX ⟨1,a,b,c⟩).map qtA)):=by
 have c1:Pure prog 73 [.agg [iv 1,iv a,iv b,iv c]] (.sl 4 ((ofX ⟨1,a,b,c⟩).map qtA)):=rxOfS h;show Pure _ _ [iv a,iv b,iv c] (.sl 4 ((ofX ⟨1,a,b,c⟩).map qtA));generalize (ofX ⟨1,a,b,c⟩).map qtA=G at *;refine pI func32 rfl ntmps32 results32 call32 ?_;(focus (refine wkap w_t (w_1 c1) (w_r 0) ?_;(repeat' first|exact w_t|apply w_l);all_goals intros));all_goals exact gL
theorem raPy (a b c:Int) (h:Qt.ok ⟨2,a,b,c⟩=true):Pure prog 36 [iv a,iv b,iv c] (.sl 4 ((ofX ⟨2,a,b,c⟩).map qtA)):=by
 have c1:Pure prog 73 [.agg [iv 2,iv a,iv b,iv c]] (.sl 4 ((ofX ⟨2,a,b,c⟩).map qtA)):=rxOfS h;show Pure _ _ [iv a,iv b,iv c] (.sl 4 ((ofX ⟨2,a,b,c⟩).map qtA));generalize (ofX ⟨2,a,b,c⟩).map qtA=G at *;refine pI func36 rfl ntmps36 results36 call36 ?_;(focus (refine wkap w_t (w_1 c1) (w_r 0) ?_;(repeat' first|exact w_t|apply w_l);all_goals intros));all_goals exact gL
theorem arCrossV (a b c d:Int) (A B C:List AV) (c1:Pure prog 23 [iv a,iv b,iv d] (.sl 4 A)) (c2:Pure prog 23 [iv a,iv b,iv c] (.sl 4 B)) (c3:Pure prog 65 [.sl 4 A,.sl 4 B] (.sl 4 C)):Pure prog 24 [.sl 1 [iv a,iv b,iv c,iv d]] (.sl 4 C):=by
 refine pI func24 rfl ntmps24 results24 call24 ?_;(focus (refine wkad w_t (w_3 c1 c2 c3) (w_1 (w_d 1 [(9,.sl 4 A),(19,.sl 4 B),(20,.sl 4 C)] [] [])) ?_;(repeat' first|exact w_t|apply w_l);all_goals intros));all_goals exact gL
theorem Zsn {a b c d:Int} (ha:pI40 a) (hb:pI40 b) (hc:pI40 c) (hd:pI40 d):Pure prog 24 [.sl 1 [iv a,iv b,iv c,iv d]] (qpA (crX a b c d)) :=
 have x:=Zb3 (.inl rfl) ha hb hd;have y:=Zb3 (.inl rfl) ha hb hc
 arCrossV a b c d _ _ _ (ZA6 _ _ _ x) (ZA6 _ _ _ y) (Zmq (Zdg x).s (Zdg y).s)
theorem arDotV (a b c d:Int) (A B C:List AV) (c1:Pure prog 30 [iv b,iv a,iv d] (.sl 4 A)) (c2:Pure prog 30 [iv b,iv a,iv c] (.sl 4 B)) (c3:Pure prog 65 [.sl 4 A,.sl 4 B] (.sl 4 C)):Pure prog 25 [.sl 1 [iv a,iv b,iv c,iv d]] (.sl 4 C):=by
 refine pI func25 rfl ntmps25 results25 call25 ?_;(focus (refine wkad w_t (w_3 c1 c2 c3) (w_1 (w_d 1 [(9,.sl 4 A),(19,.sl 4 B),(20,.sl 4 C)] [] [])) ?_;(repeat' first|exact w_t|apply w_l);all_goals intros));all_goals exact gL
theorem arDot {a b c d:Int} (ha:pI40 a) (hb:pI40 b) (hc:pI40 c) (hd:pI40 d):Pure prog 25 [.sl 1 [iv a,iv b,iv c,iv d]] (qpA (doX a b c d)) :=
 have x:=Zb3 (.inr rfl) hb ha hd;have y:=Zb3 (.inr rfl) hb ha hc
 arDotV a b c d _ _ _ (arPy _ _ _ x) (arPy _ _ _ y) (Zmq (Zdg x).s (Zdg y).s)
theorem arLenV (a b c d:Int) (bo:Bool) (n m:List Nat) (A B C D E:List AV) (c1:Pure prog 30 [iv a,iv b,iv a] (.sl 4 A)) (c2:Pure prog 55 [.agg [.v (.bool bo),lim n,lim m]] (.sl 4 B)) (c3:Pure prog 30 [iv c,iv d,iv c] (.sl 4 C)) (c4:Pure prog 66 [.sl 4 B,.sl 4 C] (.sl 4 D)) (c5:Pure prog 65 [.sl 4 A,.sl 4 D] (.sl 4 E)):Pure prog 26 [.sl 1 [iv a,iv b,iv c,iv d],.agg [.v (.bool bo),lim n,lim m]] (.sl 4 E):=by
 refine pI func26 rfl ntmps26 results26 call26 ?_;(focus (refine wkad w_t (w_5 c1 c2 c3 c4 c5) (w_1 (w_d 1 [(9,.sl 4 A),(11,.sl 4 B),(21,.sl 4 C),(22,.sl 4 D),(23,.sl 4 E)] [] [])) ?_;(repeat' first|exact w_t|apply w_l);all_goals intros));all_goals exact gL
theorem arLen {a b c d:Int} {r:Rat} (ha:pI40 a) (hb:pI40 b) (hc:pI40 c) (hd:pI40 d) (hr:Sz r 2):Pure prog 26 [.sl 1 [iv a,iv b,iv c,iv d],ratQ r] (qpA (leX a b c d r)) :=
 have x:=Zb3 (.inr rfl) ha hb ha;have y:=Zb3 (.inr rfl) hc hd hc;have z:=(Zdv hr).mul (Zdg y)
 arLenV a b c d _ _ _ _ _ _ _ _ (arPy _ _ _ x) (Zmr hr) (arPy _ _ _ y) (Zue (Zdv hr) (Zdg y)) (Zmq (Zdg x).s z.s)
theorem arMidV (a b c:Int) (bo:Bool) (n m:List Nat) (T A B C D E F:List AV) (c1:Pure prog 27 [iv 2] (.agg [.v (.bool bo),lim n,lim m])) (c2:Pure prog 55 [.agg [.v (.bool bo),lim n,lim m]] (.sl 4 T)) (c3:Pure prog 30 [iv a,iv b,iv a] (.sl 4 A)) (c4:Pure prog 30 [iv a,iv c,iv a] (.sl 4 B)) (c5:Pure prog 69 [.sl 4 A,.sl 4 B] (.sl 4 C)) (c6:Pure prog 30 [iv b,iv a,iv c] (.sl 4 D)) (c7:Pure prog 66 [.sl 4 T,.sl 4 D] (.sl 4 E)) (c8:Pure prog 69 [.sl 4 C,.sl 4 E] (.sl 4 F)):Pure prog 28 [iv a,iv b,iv c] (.sl 4 F):=by
 refine pI func28 rfl ntmps28 results28 call28 ?_;(focus (refine wkax w_t (w_2 c1 c2) w_t w_t (w_6 c3 c4 c5 c6 c7 c8) w_t w_y (w_r 0) ?_;(repeat' first|exact w_t|apply w_l);all_goals intros));all_goals exact gL
theorem arMid {a b c:Int} (ha:pI40 a) (hb:pI40 b) (hc:pI40 c):Pure prog 28 [iv a,iv b,iv c] (qpA (mdX a b c)) :=
 have x:=Zb3 (.inr rfl) ha hb ha;have y:=Zb3 (.inr rfl) ha hc ha;have z:=Zb3 (.inr rfl) hb ha hc;have w:=(Zdg x).add (Zdg y);have v:=(Zdv Zjt).mul (Zdg z)
 arMidV a b c _ _ _ _ _ _ _ _ _ _ (Zo5 2 zo) (Zmr (Zjt.mono zd)) (arPy _ _ _ x) (arPy _ _ _ y) (Zz4 (Zdg x).s (Zdg y).s) (arPy _ _ _ z) (Zue (Zdv Zjt) (Zdg z)) (Zz4 w.s v.s)
theorem arXdV (A B C D E F G:List AV) (c1:Pure prog 66 [.sl 4 A,.sl 4 B] (.sl 4 E)) (c2:Pure prog 66 [.sl 4 C,.sl 4 D] (.sl 4 F)) (c3:Pure prog 65 [.sl 4 E,.sl 4 F] (.sl 4 G)):Pure prog 29 [.sl 4 A,.sl 4 B,.sl 4 C,.sl 4 D] (.sl 4 G):=by
 refine pI func29 rfl ntmps29 results29 call29 ?_;(focus (refine wkax w_t w_t w_t w_t (w_3 c1 c2 c3) w_t w_y (w_r 0) ?_;(repeat' first|exact w_t|apply w_l);all_goals intros));all_goals exact gL
theorem arXd {a b c d:QTs} (ha:XL a 3 1 2) (hb:XL b 3 1 2) (hc:XL c 3 1 2) (hd:XL d 3 1 2):Pure prog 29 [qpA a,qpA b,qpA c,qpA d] (qpA (xsX a b c d)) :=
 arXdV _ _ _ _ _ _ _ (Zue ha hb) (Zue hc hd) (Zmq (ha.mul hb).s (hc.mul hd).s)
theorem raCrossV (a b c d:Int) (A B C:List AV) (c1:Pure prog 32 [iv a,iv b,iv d] (.sl 4 A)) (c2:Pure prog 32 [iv a,iv b,iv c] (.sl 4 B)) (c3:Pure prog 35 [.sl 4 A,.sl 4 B] (.sl 4 C)):Pure prog 33 [iv a,iv b,iv c,iv d] (.sl 4 C):=by
 refine pI func33 rfl ntmps33 results33 call33 ?_;(focus (refine wkax w_t w_t w_t w_t (w_3 c1 c2 c3) w_t w_y (w_r 0) ?_;(repeat' first|exact w_t|apply w_l);all_goals intros));all_goals exact gL
theorem Zrg {a b c d:Int} (ha:pI40 a) (hb:pI40 b) (hc:pI40 c) (hd:pI40 d):Pure prog 33 [iv a,iv b,iv c,iv d] (qpA (crX a b c d)) :=
 have x:=Zb3 (.inl rfl) ha hb hd;have y:=Zb3 (.inl rfl) ha hb hc
 raCrossV a b c d _ _ _ (Zxy _ _ _ x) (Zxy _ _ _ y) (Zma (Zdg x).s (Zdg y).s)
theorem raDotV (a b c d:Int) (A B C:List AV) (c1:Pure prog 36 [iv b,iv a,iv d] (.sl 4 A)) (c2:Pure prog 36 [iv b,iv a,iv c] (.sl 4 B)) (c3:Pure prog 35 [.sl 4 A,.sl 4 B] (.sl 4 C)):Pure prog 34 [iv a,iv b,iv c,iv d] (.sl 4 C):=by
 refine pI func34 rfl ntmps34 results34 call34 ?_;(focus (refine wkax w_t w_t w_t w_t (w_3 c1 c2 c3) w_t w_y (w_r 0) ?_;(repeat' first|exact w_t|apply w_l);all_goals intros));all_goals exact gL
theorem raDot {a b c d:Int} (ha:pI40 a) (hb:pI40 b) (hc:pI40 c) (hd:pI40 d):Pure prog 34 [iv a,iv b,iv c,iv d] (qpA (doX a b c d)) :=
 have x:=Zb3 (.inr rfl) hb ha hd;have y:=Zb3 (.inr rfl) hb ha hc
 raDotV a b c d _ _ _ (raPy _ _ _ x) (raPy _ _ _ y) (Zma (Zdg x).s (Zdg y).s)
theorem mul_cst1 {u s:Rat} {q:Qt} (hu:u≠0) (hs:s≠0):mulX [(u,[])] [(s,[q])]=[(u*s,[q])]:=by
 have h:u*s≠0:=by intro h;rcases Rat.mul_eq_zero.1 h with h | h<;>contradiction
 show sumG ordQ [(u*s,muQ [] [q])]=_;rw [show muQ [] [q]=[q] from rfl];unfold sumG;simp only [ZCs,ZDk,h,ZCk];rw [sumH]
theorem Zjb {u:Rat} (hu:u≠0) (q:Qt):mulX (cstT u) (ofX q)=sclT u (ofX q):=by
 unfold cstT ofX;rw [ZBn hu];split
 ·show sumG ordQ []=[];unfold sumG;rw [ZDk,sumH]
 ·rename_i h;exact mul_cst1 hu (by intro h2;apply h;exact_mod_cast h2)
theorem arGoal1 (a b c:Int) (bo:Bool) (n m:List Nat) (G:List AV) (c0:Pure prog 22 [.agg [iv 1,.sl 1 [iv a,iv b,iv c],.v (.bool bo),lim n,lim m],iv 40] (iv 0)) (c1:Pure prog 23 [iv a,iv b,iv c] (.sl 4 G)):Pure prog 8 [.agg [iv 1,.sl 1 [iv a,iv b,iv c],.v (.bool bo),lim n,lim m]] (.tup [.sl 4 G,iv 0]):=by
 refine pI func8 rfl ntmps8 results8 call8 ?_;(focus (refine wkad w_t (w_2 c0 c1) (w_1 (w_d 7 [(9,.sl 4 G)] [] [])) ?_;(repeat' first|exact w_t|apply w_l);all_goals intros));all_goals exact gL
theorem arGoal2 (a b c d:Int) (bo:Bool) (n m:List Nat) (G:List AV) (c0:Pure prog 22 [.agg [iv 2,.sl 1 [iv a,iv b,iv c,iv d],.v (.bool bo),lim n,lim m],iv 40] (iv 0)) (c1:Pure prog 24 [.sl 1 [iv a,iv b,iv c,iv d]] (.sl 4 G)):Pure prog 8 [.agg [iv 2,.sl 1 [iv a,iv b,iv c,iv d],.v (.bool bo),lim n,lim m]] (.tup [.sl 4 G,iv 0]):=by
 refine pI func8 rfl ntmps8 results8 call8 ?_;(focus (refine wkad w_t (w_2 c0 c1) w_t ?_;(repeat' first|exact w_t|apply w_l);all_goals intros));all_goals exact gL
theorem arGoal3 (a b c d:Int) (bo:Bool) (n m:List Nat) (G:List AV) (c0:Pure prog 22 [.agg [iv 3,.sl 1 [iv a,iv b,iv c,iv d],.v (.bool bo),lim n,lim m],iv 40] (iv 0)) (c1:Pure prog 25 [.sl 1 [iv a,iv b,iv c,iv d]] (.sl 4 G)):Pure prog 8 [.agg [iv 3,.sl 1 [iv a,iv b,iv c,iv d],.v (.bool bo),lim n,lim m]] (.tup [.sl 4 G,iv 0]):=by
 refine pI func8 rfl ntmps8 results8 call8 ?_;(focus (refine wkad w_t (w_2 c0 c1) w_t ?_;(repeat' first|exact w_t|apply w_l);all_goals intros));all_goals exact gL
theorem arGoal4 (a b c d:Int) (bo:Bool) (n m:List Nat) (bo1:Bool) (n1 m1:List Nat) (G:List AV) (c0:Pure prog 22 [.agg [iv 4,.sl 1 [iv a,iv b,iv c,iv d],.v (.bool bo),lim n,lim m],iv 40] (iv 0)) (c1:Pure prog 27 [iv 1] (.agg [.v (.bool bo1),lim n1,lim m1])) (c2:Pure prog 26 [.sl 1 [iv a,iv b,iv c,iv d],.agg [.v (.bool bo1),lim n1,lim m1]] (.sl 4 G)):Pure prog 8 [.agg [iv 4,.sl 1 [iv a,iv b,iv c,iv d],.v (.bool bo),lim n,lim m]] (.tup [.sl 4 G,iv 0]):=by
 refine pI func8 rfl ntmps8 results8 call8 ?_;(focus (refine wkad w_t (w_3 c0 c1 c2) w_t ?_;(repeat' first|exact w_t|apply w_l);all_goals intros));all_goals exact gL
theorem arGoal5 (a b c:Int) (bo:Bool) (n m:List Nat) (G:List AV) (c0:Pure prog 22 [.agg [iv 5,.sl 1 [iv a,iv b,iv c],.v (.bool bo),lim n,lim m],iv 40] (iv 0)) (c1:Pure prog 28 [iv a,iv b,iv c] (.sl 4 G)):Pure prog 8 [.agg [iv 5,.sl 1 [iv a,iv b,iv c],.v (.bool bo),lim n,lim m]] (.tup [.sl 4 G,iv 0]):=by
 refine pI func8 rfl ntmps8 results8 call8 ?_;(focus (refine wkad w_t (w_2 c0 c1) (w_1 (w_d 15 [(9,.sl 4 G)] [] [])) ?_;(repeat' first|exact w_t|apply w_l);all_goals intros));all_goals exact gL
theorem arGoal6 (a b c d:Int) (bo:Bool) (n m:List Nat) (V1 V2 V3 V4 G:List AV) (c0:Pure prog 22 [.agg [iv 6,.sl 1 [iv a,iv b,iv c,iv d],.v (.bool bo),lim n,lim m],iv 40] (iv 0)) (c1:Pure prog 23 [iv b,iv a,iv c] (.sl 4 V1)) (c2:Pure prog 30 [iv a,iv d,iv c] (.sl 4 V2)) (c3:Pure prog 23 [iv d,iv a,iv c] (.sl 4 V3)) (c4:Pure prog 30 [iv a,iv b,iv c] (.sl 4 V4)) (c5:Pure prog 29 [.sl 4 V1,.sl 4 V2,.sl 4 V3,.sl 4 V4] (.sl 4 G)):Pure prog 8 [.agg [iv 6,.sl 1 [iv a,iv b,iv c,iv d],.v (.bool bo),lim n,lim m]] (.tup [.sl 4 G,iv 0]):=by
 refine pI func8 rfl ntmps8 results8 call8 ?_;(focus (refine wkad w_t (w_6 c0 c1 c2 c3 c4 c5) (w_1 (w_d 17 [(9,.sl 4 V1),(19,.sl 4 V2),(29,.sl 4 V3),(39,.sl 4 V4),(40,.sl 4 G)] [] [])) ?_;(repeat' first|exact w_t|apply w_l);all_goals intros));all_goals exact gL
theorem arGoal7 (a b c d e f g h:Int) (bo:Bool) (n m:List Nat) (V1 V2 V3 V4 G:List AV) (c0:Pure prog 22 [.agg [iv 7,.sl 1 [iv a,iv b,iv c,iv d,iv e,iv f,iv g,iv h],.v (.bool bo),lim n,lim m],iv 40] (iv 0)) (c1:Pure prog 24 [.sl 1 [iv a,iv b,iv c,iv d]] (.sl 4 V1)) (c2:Pure prog 25 [.sl 1 [iv e,iv f,iv g,iv h]] (.sl 4 V2)) (c3:Pure prog 24 [.sl 1 [iv e,iv f,iv g,iv h]] (.sl 4 V3)) (c4:Pure prog 25 [.sl 1 [iv a,iv b,iv c,iv d]] (.sl 4 V4)) (c5:Pure prog 29 [.sl 4 V1,.sl 4 V2,.sl 4 V3,.sl 4 V4] (.sl 4 G)):Pure prog 8 [.agg [iv 7,.sl 1 [iv a,iv b,iv c,iv d,iv e,iv f,iv g,iv h],.v (.bool bo),lim n,lim m]] (.tup [.sl 4 G,iv 0]):=by
 refine pI func8 rfl ntmps8 results8 call8 ?_;(focus (refine wkad w_t (w_6 c0 c1 c2 c3 c4 c5) (w_1 (w_d 19 [(2,.sl 4 V1),(5,.sl 4 V2),(8,.sl 4 V3),(11,.sl 4 V4),(12,.sl 4 G)] [] [])) ?_;(repeat' first|exact w_t|apply w_l);all_goals intros));all_goals exact gL
theorem arGoal8 (a b:Int) (bo:Bool) (n m:List Nat) (G:List AV) (c0:Pure prog 22 [.agg [iv 8,.sl 1 [iv a,iv b],.v (.bool bo),lim n,lim m],iv 40] (iv 0)) (c1:Pure prog 30 [iv a,iv b,iv a] (.sl 4 G)):Pure prog 8 [.agg [iv 8,.sl 1 [iv a,iv b],.v (.bool bo),lim n,lim m]] (.tup [.sl 4 G,iv 0]):=by
 refine pI func8 rfl ntmps8 results8 call8 ?_;(focus (refine wkad w_t (w_2 c0 c1) (w_1 (w_d 21 [(9,.sl 4 G)] [] [])) ?_;(repeat' first|exact w_t|apply w_l);all_goals intros));all_goals exact gL
theorem arGoal9 (a b c d:Int) (bo:Bool) (n m:List Nat) (G:List AV) (c0:Pure prog 22 [.agg [iv 9,.sl 1 [iv a,iv b,iv c,iv d],.v (.bool bo),lim n,lim m],iv 40] (iv 0)) (c1:Pure prog 26 [.sl 1 [iv a,iv b,iv c,iv d],.agg [.v (.bool bo),lim n,lim m]] (.sl 4 G)):Pure prog 8 [.agg [iv 9,.sl 1 [iv a,iv b,iv c,iv d],.v (.bool bo),lim n,lim m]] (.tup [.sl 4 G,iv 0]):=by
 refine pI func8 rfl ntmps8 results8 call8 ?_;(focus (refine wkad w_t (w_2 c0 c1) w_t ?_;(repeat' first|exact w_t|apply w_l);all_goals intros));all_goals exact gL
theorem arGoalE (k:Int) (ar:List Int) (bo:Bool) (n m:List Nat) (e:Int) (he:e≠0) (c0:Pure prog 22 [.agg [iv k,ivs ar,.v (.bool bo),lim n,lim m],iv 40] (iv e)):Pure prog 8 [.agg [iv k,ivs ar,.v (.bool bo),lim n,lim m]] (.tup [.v (.slice none 0 0),iv e]):=by
 refine pI func8 rfl ntmps8 results8 call8 ?_;(focus (refine wkad (w_1 he) (w_1 c0) w_t ?_;(repeat' first|exact w_t|apply w_l);all_goals intros));all_goals exact gL
theorem raGoal1 (a b c:Int) (bo:Bool) (n m:List Nat) (G:List AV) (c0:Pure prog 31 [.agg [iv 1,.sl 1 [iv a,iv b,iv c],.v (.bool bo),lim n,lim m],iv 40] (iv 0)) (c1:Pure prog 32 [iv a,iv b,iv c] (.sl 4 G)):Pure prog 9 [.agg [iv 1,.sl 1 [iv a,iv b,iv c],.v (.bool bo),lim n,lim m]] (.tup [.sl 4 G,iv 0]):=by
 refine pI func9 rfl ntmps9 results9 call9 ?_;(focus (refine wkad w_t (w_2 c0 c1) (w_1 (w_d 7 [(9,.sl 4 G)] [] [])) ?_;(repeat' first|exact w_t|apply w_l);all_goals intros));all_goals exact gL
theorem raGoal2 (a b c d:Int) (bo:Bool) (n m:List Nat) (G:List AV) (c0:Pure prog 31 [.agg [iv 2,.sl 1 [iv a,iv b,iv c,iv d],.v (.bool bo),lim n,lim m],iv 40] (iv 0)) (c1:Pure prog 33 [iv a,iv b,iv c,iv d] (.sl 4 G)):Pure prog 9 [.agg [iv 2,.sl 1 [iv a,iv b,iv c,iv d],.v (.bool bo),lim n,lim m]] (.tup [.sl 4 G,iv 0]):=by
 refine pI func9 rfl ntmps9 results9 call9 ?_;(focus (refine wkad w_t (w_2 c0 c1) (w_1 (w_d 9 [(12,.sl 4 G)] [] [])) ?_;(repeat' first|exact w_t|apply w_l);all_goals intros));all_goals exact gL
theorem raGoal3 (a b c d:Int) (bo:Bool) (n m:List Nat) (G:List AV) (c0:Pure prog 31 [.agg [iv 3,.sl 1 [iv a,iv b,iv c,iv d],.v (.bool bo),lim n,lim m],iv 40] (iv 0)) (c1:Pure prog 34 [iv a,iv b,iv c,iv d] (.sl 4 G)):Pure prog 9 [.agg [iv 3,.sl 1 [iv a,iv b,iv c,iv d],.v (.bool bo),lim n,lim m]] (.tup [.sl 4 G,iv 0]):=by
 refine pI func9 rfl ntmps9 results9 call9 ?_;(focus (refine wkad w_t (w_2 c0 c1) (w_1 (w_d 11 [(12,.sl 4 G)] [] [])) ?_;(repeat' first|exact w_t|apply w_l);all_goals intros));all_goals exact gL
theorem raGoal4 (a b c d:Int) (bo:Bool) (n m:List Nat) (V1 V2 G:List AV) (c0:Pure prog 31 [.agg [iv 4,.sl 1 [iv a,iv b,iv c,iv d],.v (.bool bo),lim n,lim m],iv 40] (iv 0)) (c1:Pure prog 36 [iv a,iv b,iv a] (.sl 4 V1)) (c2:Pure prog 36 [iv c,iv d,iv c] (.sl 4 V2)) (c3:Pure prog 35 [.sl 4 V1,.sl 4 V2] (.sl 4 G)):Pure prog 9 [.agg [iv 4,.sl 1 [iv a,iv b,iv c,iv d],.v (.bool bo),lim n,lim m]] (.tup [.sl 4 G,iv 0]):=by
 refine pI func9 rfl ntmps9 results9 call9 ?_;(focus (refine wkad w_t (w_4 c0 c1 c2 c3) (w_1 (w_d 13 [(9,.sl 4 V1),(19,.sl 4 V2),(20,.sl 4 G)] [] [])) ?_;(repeat' first|exact w_t|apply w_l);all_goals intros));all_goals exact gL
theorem raGoal5 (a b c:Int) (bo:Bool) (n m:List Nat) (bo1:Bool) (n1 m1:List Nat) (V1 V2 V3 V4 V5 G:List AV) (c0:Pure prog 31 [.agg [iv 5,.sl 1 [iv a,iv b,iv c],.v (.bool bo),lim n,lim m],iv 40] (iv 0)) (c1:Pure prog 36 [iv a,iv b,iv a] (.sl 4 V1)) (c2:Pure prog 36 [iv a,iv c,iv a] (.sl 4 V2)) (c3:Pure prog 37 [.sl 4 V1,.sl 4 V2] (.sl 4 V3)) (c4:Pure prog 36 [iv b,iv a,iv c] (.sl 4 V4)) (c5:Pure prog 39 [iv 2] (.agg [.v (.bool bo1),lim n1,lim m1])) (c6:Pure prog 38 [.sl 4 V4,.agg [.v (.bool bo1),lim n1,lim m1]] (.sl 4 V5)) (c7:Pure prog 37 [.sl 4 V3,.sl 4 V5] (.sl 4 G)):Pure prog 9 [.agg [iv 5,.sl 1 [iv a,iv b,iv c],.v (.bool bo),lim n,lim m]] (.tup [.sl 4 G,iv 0]):=by
 refine pI func9 rfl ntmps9 results9 call9 ?_;(focus (refine wkad w_t (w_8 c0 c1 c2 c3 c4 c5 c6 c7) (w_2 (w_d 15 [(9,.sl 4 V1),(19,.sl 4 V2),(20,.sl 4 V3)] [] []) (w_d 16 [(10,.sl 4 V4),(11,.agg [.v (.bool bo1),lim n1,lim m1]),(12,.sl 4 V5),(13,.sl 4 G)] [] [])) ?_;(repeat' first|exact w_t|apply w_l);all_goals intros));all_goals exact gL
theorem raGoal6 (a b c d:Int) (bo:Bool) (n m:List Nat) (V1 V2 V3 V4 V5 V6 G:List AV) (c0:Pure prog 31 [.agg [iv 6,.sl 1 [iv a,iv b,iv c,iv d],.v (.bool bo),lim n,lim m],iv 40] (iv 0)) (c1:Pure prog 32 [iv b,iv a,iv c] (.sl 4 V1)) (c2:Pure prog 36 [iv a,iv d,iv c] (.sl 4 V2)) (c3:Pure prog 40 [.sl 4 V1,.sl 4 V2] (.sl 4 V3)) (c4:Pure prog 32 [iv d,iv a,iv c] (.sl 4 V4)) (c5:Pure prog 36 [iv a,iv b,iv c] (.sl 4 V5)) (c6:Pure prog 40 [.sl 4 V4,.sl 4 V5] (.sl 4 V6)) (c7:Pure prog 35 [.sl 4 V3,.sl 4 V6] (.sl 4 G)):Pure prog 9 [.agg [iv 6,.sl 1 [iv a,iv b,iv c,iv d],.v (.bool bo),lim n,lim m]] (.tup [.sl 4 G,iv 0]):=by
 refine pI func9 rfl ntmps9 results9 call9 ?_;(focus (refine wkad w_t (w_8 c0 c1 c2 c3 c4 c5 c6 c7) (w_2 (w_d 18 [(9,.sl 4 V1),(19,.sl 4 V2),(20,.sl 4 V3)] [] []) (w_d 19 [(10,.sl 4 V4),(20,.sl 4 V5),(21,.sl 4 V6),(22,.sl 4 G)] [] [])) ?_;(repeat' first|exact w_t|apply w_l);all_goals intros));all_goals exact gL
theorem raGoal7 (a b c d e f g h:Int) (bo:Bool) (n m:List Nat) (V1 V2 V3 V4 V5 V6 G:List AV) (c0:Pure prog 31 [.agg [iv 7,.sl 1 [iv a,iv b,iv c,iv d,iv e,iv f,iv g,iv h],.v (.bool bo),lim n,lim m],iv 40] (iv 0)) (c1:Pure prog 33 [iv a,iv b,iv c,iv d] (.sl 4 V1)) (c2:Pure prog 34 [iv e,iv f,iv g,iv h] (.sl 4 V2)) (c3:Pure prog 40 [.sl 4 V1,.sl 4 V2] (.sl 4 V3)) (c4:Pure prog 33 [iv e,iv f,iv g,iv h] (.sl 4 V4)) (c5:Pure prog 34 [iv a,iv b,iv c,iv d] (.sl 4 V5)) (c6:Pure prog 40 [.sl 4 V4,.sl 4 V5] (.sl 4 V6)) (c7:Pure prog 35 [.sl 4 V3,.sl 4 V6] (.sl 4 G)):Pure prog 9 [.agg [iv 7,.sl 1 [iv a,iv b,iv c,iv d,iv e,iv f,iv g,iv h],.v (.bool bo),lim n,lim m]] (.tup [.sl 4 G,iv 0]):=by
 refine pI func9 rfl ntmps9 results9 call9 ?_;(focus (refine wkad w_t (w_8 c0 c1 c2 c3 c4 c5 c6 c7) (w_2 (w_d 21 [(12,.sl 4 V1),(25,.sl 4 V2),(26,.sl 4 V3)] [] []) (w_d 22 [(13,.sl 4 V4),(26,.sl 4 V5),(27,.sl 4 V6),(28,.sl 4 G)] [] [])) ?_;(repeat' first|exact w_t|apply w_l);all_goals intros));all_goals exact gL
theorem raGoal8 (a b:Int) (bo:Bool) (n m:List Nat) (G:List AV) (c0:Pure prog 31 [.agg [iv 8,.sl 1 [iv a,iv b],.v (.bool bo),lim n,lim m],iv 40] (iv 0)) (c1:Pure prog 36 [iv a,iv b,iv a] (.sl 4 G)):Pure prog 9 [.agg [iv 8,.sl 1 [iv a,iv b],.v (.bool bo),lim n,lim m]] (.tup [.sl 4 G,iv 0]):=by
 refine pI func9 rfl ntmps9 results9 call9 ?_;(focus (refine wkad w_t (w_2 c0 c1) (w_1 (w_d 24 [(9,.sl 4 G)] [] [])) ?_;(repeat' first|exact w_t|apply w_l);all_goals intros));all_goals exact gL
theorem raGoal9 (a b c d:Int) (bo:Bool) (n m:List Nat) (V1 V2 V3 G:List AV) (c0:Pure prog 31 [.agg [iv 9,.sl 1 [iv a,iv b,iv c,iv d],.v (.bool bo),lim n,lim m],iv 40] (iv 0)) (c1:Pure prog 36 [iv a,iv b,iv a] (.sl 4 V1)) (c2:Pure prog 36 [iv c,iv d,iv c] (.sl 4 V2)) (c3:Pure prog 38 [.sl 4 V2,.agg [.v (.bool bo),lim n,lim m]] (.sl 4 V3)) (c4:Pure prog 35 [.sl 4 V1,.sl 4 V3] (.sl 4 G)):Pure prog 9 [.agg [iv 9,.sl 1 [iv a,iv b,iv c,iv d],.v (.bool bo),lim n,lim m]] (.tup [.sl 4 G,iv 0]):=by
 refine pI func9 rfl ntmps9 results9 call9 ?_;(focus (refine wkad w_t (w_5 c0 c1 c2 c3 c4) (w_1 (w_d 25 [(9,.sl 4 V1),(19,.sl 4 V2),(22,.sl 4 V3),(23,.sl 4 G)] [] [])) ?_;(repeat' first|exact w_t|apply w_l);all_goals intros));all_goals exact gL
theorem raGoalE (k:Int) (ar:List Int) (bo:Bool) (n m:List Nat) (e:Int) (he:e≠0) (c0:Pure prog 31 [.agg [iv k,ivs ar,.v (.bool bo),lim n,lim m],iv 40] (iv e)):Pure prog 9 [.agg [iv k,ivs ar,.v (.bool bo),lim n,lim m]] (.tup [.v (.slice none 0 0),iv e]):=by
 refine pI func9 rfl ntmps9 results9 call9 ?_;(focus (refine wkad (w_1 he) (w_1 c0) w_t ?_;(repeat' first|exact w_t|apply w_l);all_goals intros));all_goals exact gL
theorem rxScl0 (A:List AV) (bo:Bool) (n m:List Nat) (hA:A.length≤100000000) (cz:Pure prog 75 [.agg [.v (.bool bo),lim n,lim m]] (iv 0)):Pure prog 38 [.sl 4 A,.agg [.v (.bool bo),lim n,lim m]] (.v (.slice none 0 0)):=by
 by_cases h:0 < A.length
 ·have h0:(0:Int) < A.length:=zo;refine pI func38 rfl ntmps38 results38 call38 ?_;(focus (refine wkax (w_2 h0 h) (w_1 cz) w_t w_t w_t w_t w_y (w_r 2) ?_;(repeat' first|exact w_t|apply w_l);all_goals intros));all_goals exact gL
 ·have h0:¬(0:Int) < A.length:=zo;refine pI func38 rfl ntmps38 results38 call38 ?_;(focus (refine wkax (w_2 h0 h) (w_1 cz) w_t w_t w_t w_t w_y (w_r 2) ?_;(repeat' first|exact w_t|apply w_l);all_goals intros));all_goals exact gL
def goR (g:RG):AV:=if errG g 40=0 then .tup [qpA (goX g.k g.ar g.r.q),iv 0] else .tup [.v (.slice none 0 0),iv (errG g 40)]
theorem li2 {l:List Int} (h:l.length=2):∃a b,l=[a,b]:=match l,h with | [a,b],_=>⟨a,b,rfl⟩
theorem li3 {l:List Int} (h:l.length=3):∃a b c,l=[a,b,c]:=match l,h with | [a,b,c],_=>⟨a,b,c,rfl⟩
theorem li4 {l:List Int} (h:l.length=4):∃a b c d,l=[a,b,c,d]:=match l,h with | [a,b,c,d],_=>⟨a,b,c,d,rfl⟩
theorem li8 {l:List Int} (h:l.length=8):∃a b c d e f g i,l=[a,b,c,d,e,f,g,i]:=match l,h with | [a,b,c,d,e,f,g,i],_=>⟨a,b,c,d,e,f,g,i,rfl⟩
theorem go_ok {g:RG} (h:errG g 40=0):arG g.k≠0∧(g.ar.length:Int)=arG g.k∧(∀i,i < g.ar.length→pI40 (gI g.ar i))∧(g.k=9→g.r.ok=true):=by
 unfold errG at h;split at h
 ·cases h
 ·rename_i h1;split at h
  ·cases h
  ·rename_i h2;split at h
   ·cases h
   ·rename_i h3;split at h
    ·cases h
    ·rename_i h4;refine⟨h1,Classical.not_not.1 h2,λi hi=>Zyg (Bool.not_eq_true _ ▸ h3) hi,λh9=>?_⟩
     cases hr:g.r.ok with
     | true=>rfl
     | false=>exact absurd (Or.inl ⟨h9,hr⟩) h4
theorem Zsb {k:Int} (h:arG k≠0):k=1∨k=2∨k=3∨k=4∨k=5∨k=6∨k=7∨k=8∨k=9:=by
 unfold arG at h;split at h
 ·omega
 ·split at h
  ·omega
  ·split at h
   ·omega
   ·split at h
    ·omega
    ·exact absurd rfl h
theorem Zkp {a b c:Int} (ha:pI40 a) (hb:pI40 b) (hc:pI40 c):XL (arX a b c) 1 1 1:=Zdg (Zb3 (.inl rfl) ha hb hc)
theorem Zdf {a b c:Int} (ha:pI40 a) (hb:pI40 b) (hc:pI40 c):XL (pyX a b c) 1 1 1:=Zdg (Zb3 (.inr rfl) ha hb hc)
theorem XL.u {p:QTs} (h:XL p 1 1 1):XL p 3 1 2:=h.mono zd zd zd
theorem Zm0 {a b c d:Int} (ha:pI40 a) (hb:pI40 b) (hc:pI40 c) (hd:pI40 d):XL (crX a b c d) 3 1 2:=(Zkp ha hb hd).sub (Zkp ha hb hc)
theorem Zmz {a b c d:Int} (ha:pI40 a) (hb:pI40 b) (hc:pI40 c) (hd:pI40 d):XL (doX a b c d) 3 1 2:=(Zdf hb ha hd).sub (Zdf hb ha hc)
theorem ZA8 (g:RG) (hs:g.sm) (hr:g.r.lm 2):Pure prog 8 [g.av] (goR g):=by
 have c0:=Zx9 g 40 zo hs;unfold goR;by_cases h:errG g 40=0
 ·rw [ZBo h];rw [h] at c0;obtain⟨hk,hl,hp,h9⟩:=go_ok h;clear h hs;obtain⟨k,ar,r⟩:=g;simp only at hk hl hp h9 hr ⊢;rcases Zsb hk with rfl | rfl | rfl | rfl | rfl | rfl | rfl | rfl | rfl
  ·obtain⟨a,b,c,rfl⟩:=li3 (show ar.length=3 from Int.ofNat.inj hl);exact arGoal1 a b c _ _ _ _ c0 (ZA6 _ _ _ (Zb3 (.inl rfl) (hp 0 zs) (hp 1 zs) (hp 2 zs)))
  ·obtain⟨a,b,c,d,rfl⟩:=li4 (show ar.length=4 from Int.ofNat.inj hl);exact arGoal2 a b c d _ _ _ _ c0 (Zsn (hp 0 zs) (hp 1 zs) (hp 2 zs) (hp 3 zs))
  ·obtain⟨a,b,c,d,rfl⟩:=li4 (show ar.length=4 from Int.ofNat.inj hl);exact arGoal3 a b c d _ _ _ _ c0 (arDot (hp 0 zs) (hp 1 zs) (hp 2 zs) (hp 3 zs))
  ·obtain⟨a,b,c,d,rfl⟩:=li4 (show ar.length=4 from Int.ofNat.inj hl);exact arGoal4 a b c d _ _ _ _ _ _ _ c0 (Zmd (z:=1) (.inr (.inr rfl))) (arLen (hp 0 zs) (hp 1 zs) (hp 2 zs) (hp 3 zs) (Zii.mono zd))
  ·obtain⟨a,b,c,rfl⟩:=li3 (show ar.length=3 from Int.ofNat.inj hl);exact arGoal5 a b c _ _ _ _ c0 (arMid (hp 0 zs) (hp 1 zs) (hp 2 zs))
  ·obtain⟨a,b,c,d,rfl⟩:=li4 (show ar.length=4 from Int.ofNat.inj hl);have ha:pI40 a:=hp 0 zs;have hb:pI40 b:=hp 1 zs;have hc:pI40 c:=hp 2 zs;have hd:pI40 d:=hp 3 zs;exact arGoal6 a b c d _ _ _ _ _ _ _ _ c0 (ZA6 _ _ _ (Zb3 (.inl rfl) hb ha hc)) (arPy _ _ _ (Zb3 (.inr rfl) ha hd hc)) (ZA6 _ _ _ (Zb3 (.inl rfl) hd ha hc)) (arPy _ _ _ (Zb3 (.inr rfl) ha hb hc)) (arXd (Zkp hb ha hc).u (Zdf ha hd hc).u (Zkp hd ha hc).u (Zdf ha hb hc).u)
  ·obtain⟨a,b,c,d,e,f,g,i,rfl⟩:=li8 (show ar.length=8 from Int.ofNat.inj hl);have ha:pI40 a:=hp 0 zs;have hb:pI40 b:=hp 1 zs;have hc:pI40 c:=hp 2 zs;have hd:pI40 d:=hp 3 zs;have he:pI40 e:=hp 4 zs;have hf:pI40 f:=hp 5 zs;have hg:pI40 g:=hp 6 zs;have hi:pI40 i:=hp 7 zs;exact arGoal7 a b c d e f g i _ _ _ _ _ _ _ _ c0 (Zsn ha hb hc hd) (arDot he hf hg hi) (Zsn he hf hg hi) (arDot ha hb hc hd) (arXd (Zm0 ha hb hc hd) (Zmz he hf hg hi) (Zm0 he hf hg hi) (Zmz ha hb hc hd))
  ·obtain⟨a,b,rfl⟩:=li2 (show ar.length=2 from Int.ofNat.inj hl);exact arGoal8 a b _ _ _ _ c0 (arPy _ _ _ (Zb3 (.inr rfl) (hp 0 zs) (hp 1 zs) (hp 0 zs)))
  ·obtain⟨a,b,c,d,rfl⟩:=li4 (show ar.length=4 from Int.ofNat.inj hl);obtain⟨e,hz⟩:=RQ.ok_av hr (h9 rfl);have c1:=arLen (hp 0 zs) (hp 1 zs) (hp 2 zs) (hp 3 zs) hz;rw [←e] at c1;exact arGoal9 a b c d _ _ _ _ c0 c1
 ·rw [ZBn h];exact arGoalE _ _ _ _ _ _ h c0
theorem raGoal (g:RG) (hs:g.sm) (hr:g.r.lm 2):Pure prog 9 [g.av] (goR g):=by
 have c0:=rrRight g 40 zo hs;unfold goR;by_cases h:errG g 40=0
 ·rw [ZBo h];rw [h] at c0;obtain⟨hk,hl,hp,h9⟩:=go_ok h;clear h hs;obtain⟨k,ar,r⟩:=g;simp only at hk hl hp h9 hr ⊢;rcases Zsb hk with rfl | rfl | rfl | rfl | rfl | rfl | rfl | rfl | rfl
  ·obtain⟨a,b,c,rfl⟩:=li3 (show ar.length=3 from Int.ofNat.inj hl);exact raGoal1 a b c _ _ _ _ c0 (Zxy _ _ _ (Zb3 (.inl rfl) (hp 0 zs) (hp 1 zs) (hp 2 zs)))
  ·obtain⟨a,b,c,d,rfl⟩:=li4 (show ar.length=4 from Int.ofNat.inj hl);exact raGoal2 a b c d _ _ _ _ c0 (Zrg (hp 0 zs) (hp 1 zs) (hp 2 zs) (hp 3 zs))
  ·obtain⟨a,b,c,d,rfl⟩:=li4 (show ar.length=4 from Int.ofNat.inj hl);exact raGoal3 a b c d _ _ _ _ c0 (raDot (hp 0 zs) (hp 1 zs) (hp 2 zs) (hp 3 zs))
  ·obtain⟨a,b,c,d,rfl⟩:=li4 (show ar.length=4 from Int.ofNat.inj hl);have ha:pI40 a:=hp 0 zs;have hb:pI40 b:=hp 1 zs;have hc:pI40 c:=hp 2 zs;have hd:pI40 d:=hp 3 zs
   have e:goX 4 [a,b,c,d] r.q=subX (pyX a b a) (pyX c d c):=by
    show subX _ (mulX (cstT 1) (pyX c d c))=_;rw [Zjb (by decide:(1:Rat)≠0) _,Zi9];rfl
   rw [e];exact raGoal4 a b c d _ _ _ _ _ _ c0 (raPy _ _ _ (Zb3 (.inr rfl) ha hb ha)) (raPy _ _ _ (Zb3 (.inr rfl) hc hd hc)) (Zma (Zdf ha hb ha).s (Zdf hc hd hc).s)
  ·obtain⟨a,b,c,rfl⟩:=li3 (show ar.length=3 from Int.ofNat.inj hl);have ha:pI40 a:=hp 0 zs;have hb:pI40 b:=hp 1 zs;have hc:pI40 c:=hp 2 zs;have z:=(Zdv Zjt).mul (Zdf hb ha hc);have e:mulX (cstT 2) (pyX b a c)=sclT 2 (pyX b a c):=Zjb (by decide:(2:Rat)≠0) _;have c5:=rxSclS (Zdf hb ha hc).s (Zjt.mono (by decide:1≤2)) zd;rw [←e] at c5;exact raGoal5 a b c _ _ _ _ _ _ _ _ _ _ _ _ c0 (raPy _ _ _ (Zb3 (.inr rfl) ha hb ha)) (raPy _ _ _ (Zb3 (.inr rfl) ha hc ha)) (rxAddS (Zdf ha hb ha).s (Zdf ha hc ha).s) (raPy _ _ _ (Zb3 (.inr rfl) hb ha hc)) (qOf 2 zo) c5 (rxAddS ((Zdf ha hb ha).add (Zdf ha hc ha)).s z.s)
  ·obtain⟨a,b,c,d,rfl⟩:=li4 (show ar.length=4 from Int.ofNat.inj hl);have ha:pI40 a:=hp 0 zs;have hb:pI40 b:=hp 1 zs;have hc:pI40 c:=hp 2 zs;have hd:pI40 d:=hp 3 zs;exact raGoal6 a b c d _ _ _ _ _ _ _ _ _ _ c0 (Zxy _ _ _ (Zb3 (.inl rfl) hb ha hc)) (raPy _ _ _ (Zb3 (.inr rfl) ha hd hc)) (Zs6 (Zkp hb ha hc).s (Zdf ha hd hc).s) (Zxy _ _ _ (Zb3 (.inl rfl) hd ha hc)) (raPy _ _ _ (Zb3 (.inr rfl) ha hb hc)) (Zs6 (Zkp hd ha hc).s (Zdf ha hb hc).s) (Zma ((Zkp hb ha hc).mul (Zdf ha hd hc)).s ((Zkp hd ha hc).mul (Zdf ha hb hc)).s)
  ·obtain⟨a,b,c,d,e,f,g,i,rfl⟩:=li8 (show ar.length=8 from Int.ofNat.inj hl);have ha:pI40 a:=hp 0 zs;have hb:pI40 b:=hp 1 zs;have hc:pI40 c:=hp 2 zs;have hd:pI40 d:=hp 3 zs;have he:pI40 e:=hp 4 zs;have hf:pI40 f:=hp 5 zs;have hg:pI40 g:=hp 6 zs;have hi:pI40 i:=hp 7 zs;exact raGoal7 a b c d e f g i _ _ _ _ _ _ _ _ _ _ c0 (Zrg ha hb hc hd) (raDot he hf hg hi) (Zs6 (Zm0 ha hb hc hd).s (Zmz he hf hg hi).s) (Zrg he hf hg hi) (raDot ha hb hc hd) (Zs6 (Zm0 he hf hg hi).s (Zmz ha hb hc hd).s) (Zma ((Zm0 ha hb hc hd).mul (Zmz he hf hg hi)).s ((Zm0 he hf hg hi).mul (Zmz ha hb hc hd)).s)
  ·obtain⟨a,b,rfl⟩:=li2 (show ar.length=2 from Int.ofNat.inj hl);exact raGoal8 a b _ _ _ _ c0 (raPy _ _ _ (Zb3 (.inr rfl) (hp 0 zs) (hp 1 zs) (hp 0 zs)))
  ·obtain⟨a,b,c,d,rfl⟩:=li4 (show ar.length=4 from Int.ofNat.inj hl);have ha:pI40 a:=hp 0 zs;have hb:pI40 b:=hp 1 zs;have hc:pI40 c:=hp 2 zs;have hd:pI40 d:=hp 3 zs;obtain⟨e,hz⟩:=RQ.ok_av hr (h9 rfl)
   have c3:Pure prog 38 [qpA (pyX c d c),ratQ r.q] (qpA (mulX (cstT r.q) (pyX c d c))):=by
    by_cases h0:r.q=0
    ·have cz:=qSign r.q hz zo;have:mulX (cstT r.q) (pyX c d c)=[]:=by unfold cstT;rw [ZBo h0];exact Zrz _
     rw [this];have hq:r.q.num.sign=0:=by rw [h0];rfl
     rw [hq] at cz;exact Zen (rxScl0 _ _ _ _ (by rw [ZBr];have:=(Zdf hc hd hc).l;omega) cz) (.nil 4)
    ·rw [Zjb h0 _];exact rxSclS (Zdf hc hd hc).s hz h0
   rw [←e] at c3;exact raGoal9 a b c d _ _ _ _ _ _ _ c0 (raPy _ _ _ (Zb3 (.inr rfl) ha hb ha)) (raPy _ _ _ (Zb3 (.inr rfl) hc hd hc)) c3 (Zma (Zdf ha hb ha).s ((Zdv hz).mul (Zdf hc hd hc)).s)
 ·rw [ZBn h];exact raGoalE _ _ _ _ _ _ h c0
end Go.Proofs.YtkefeinbjbeidaaGreatDoor
namespace Go.Proofs.YtkefeinbjbeidaaGreatDoor
open Go Go.RowKit Go.Pg Go.Pol Go.Proofs.Tryz
def adK:Nat→QTs→QTs→QTs
 | 0,_,_=>[]
 | _+1,[],q=>q
 | _+1,s :: p,[]=>s :: p
 | n+1,s :: p,t :: q =>
   if ordQ s.2 t.2 < 0 then s :: adK n p (t :: q)
   else if ordQ t.2 s.2 < 0 then t :: adK n (s :: p) q
   else if s.1+t.1=0 then adK n p q
   else (s.1+t.1,s.2) :: adK n p q
theorem ad_K:∀(n:Nat) (p q:QTs),p.length+q.length < n→Za1 p q=adK n p q
 | 0,_,_,h=>absurd h zo
 | n+1,[],q,_=>by unfold Za1;rw [addP];rfl
 | n+1,s :: p,[],_=>by unfold Za1;rw [addP];rfl
 | n+1,s :: p,t :: q,h=>by
   have h:p.length+1+(q.length+1) < n+1:=h;have e1:=ad_K n p (t :: q) (by show p.length+(q.length+1) < n;omega);have e2:=ad_K n (s :: p) q (by show p.length+1+q.length < n;omega);have e3:=ad_K n p q zo;unfold Za1 at *;rw [addP,e1,e2,e3];rfl
abbrev adX (p q:QTs):QTs:=adK (p.length+q.length+1) p q
theorem ad_X (p q:QTs):Za1 p q=adX p q:=ad_K _ p q (Nat.lt_succ_self _)
abbrev gatK (l:QTs):QTs:=Go.Pol.sumC ordQ l
theorem gat_K (l:QTs):gatM l=gatK l:=(Zm5 Zbq l).symm
abbrev muK (p q:QTs):QTs:=gatK (prodL muQ p q)
theorem mu_K (p q:QTs):mulX p q=muK p q:=gat_K _
def pwK (d:QTs):Nat→QTs
 | 0=>[((1:Rat),[])]
 | n+1=>muK (pwK d n) d
theorem pw_K (d:QTs):∀n,pwX d n=pwK d n
 | 0=>rfl
 | n+1=>by show mulX (pwX d n) d=muK (pwK d n) d;rw [pw_K d n,mu_K]
def rfK (P:Nat→QTs) (a d:QTs) (m:Nat):Nat→QTs
 | 0=>[]
 | k+1=>adX (rfK P a d m k) (muK (muK (P k) (pwK a k)) (pwK d (m - k)))
theorem rf_K (P:Nat→QTs) (a d:QTs) (m:Nat):∀n,rfX P a d m n=rfK P a d m n
 | 0=>rfl
 | n+1=>by
   show Za1 (rfX P a d m n) (mulX (mulX (P n) (pwX a n)) (pwX d (m - n)))=adX (rfK P a d m n) (muK (muK (P n) (pwK a n)) (pwK d (m - n)));rw [rf_K P a d m n,pw_K,pw_K,mu_K,mu_K,ad_X]
def rpK (q:Qt) (a num den:QTs):QTs:=rfK (λk=>gatK (woL q a k)) num den (moQ q a) (moQ q a+1)
theorem rp_K (q:Qt) (a num den:QTs):rpN q a num den=rpK q a num den:=by
 show rfX (λk=>gatM (woL q a k)) num den (moQ q a) (moQ q a+1)=_;rw [rf_K,show(λk=>gatM (woL q a k))=λk=>gatK (woL q a k) from funext λk=>gat_K _];rfl
def elSK (q:Qt) (b x:XX):XX:=(muK (rpK q x.1 b.1 b.2) (pwK b.2 (moQ q x.2 - moQ q x.1)),muK (rpK q x.2 b.1 b.2) (pwK b.2 (moQ q x.1 - moQ q x.2)))
theorem elS_K (q:Qt) (b x:XX):elS q b x=elSK q b x:=by
 unfold elS elSK;rw [rp_K,rp_K,pw_K,pw_K,mu_K,mu_K]
theorem ZAb {lem:Qt→Int × XX} {q:Qt} {l:List Qt} {x b y:XX} (h:lem q=(0,b)) (hs:elSK q b x=y) (h1:y.1.length≤4000) (h2:y.2.length≤4000):elF lem (q :: l) x=elF lem l y:=by
 have e:elS q (lem q).2 x=y:=by rw [h,elS_K];exact hs
 rw [elF_s (by rw [h]) (by rw [e];omega),e]
theorem mid_cG (a b t:Int):cbOf 2 [a,b] (1/2) t=some ⟨[a,b],[hlX,hlX],onX⟩:=by
 have e1:nX (1/2)=hlX:=by decide +kernel
 have e2:nX 1=onX:=by decide +kernel
 have e3:subX onX hlX=hlX:=add_C (exC (by decide +kernel)) (exC (by decide +kernel)) (by decide +kernel);show some (prC a b (nX (1/2)) (nX 1))=_;unfold prC;rw [e1,e2,e3]
def lmK (a b x:Int) (q:Qt):Int × XX :=
 if q.norm.2=0∨hasQ x q.norm.1=false then (0,(ofX q,onX))
 else (0,(sclT (q.norm.2:Rat) (adX (adX [] (muK hlX ((plOf q.norm.1 x).at a))) (muK hlX ((plOf q.norm.1 x).at b))),onX))
theorem lm_K (a b t x:Int) (q:Qt) (hm:(plOf q.norm.1 x).mid=false):lmX 2 [a,b] (1/2) t x q=lmK a b x q:=by
 unfold lmX lmK;by_cases h:q.norm.2=0∨hasQ x q.norm.1=false
 ·rw [ZBo h,ZBo h]
 ·rw [ZBn h,ZBn h,ZBn zd,mid_cG];simp only;rw [ZBn zs];unfold afN afD;rw [hm,ZBn zs,ZBn zs];show((0:Int),(sclT _ (Za1 (Za1 [] (mulX hlX ((plOf q.norm.1 x).at a))) (mulX hlX ((plOf q.norm.1 x).at b))),onX))=_;rw [mu_K,mu_K,ad_X,ad_X]
abbrev mlR:RQ:=⟨false,[1],[2]⟩
abbrev mlS:List RS:=[⟨1,⟨#[65]⟩,[],⟨false,[],[]⟩⟩,⟨1,⟨#[66]⟩,[],⟨false,[],[]⟩⟩,⟨1,⟨#[67]⟩,[],⟨false,[],[]⟩⟩,⟨2,⟨#[77]⟩,[1,2],mlR⟩,⟨2,⟨#[78]⟩,[0,2],mlR⟩]
abbrev mlGo:List RG:=[⟨2,[3,4,0,1],⟨false,[],[]⟩⟩]
theorem ml_e:∀i,i < mlS.length→errS mlS i=0:=by decide +kernel
theorem ml_r:∀s∈mlS,s.r.lm 2:=by
 intro s hs;have h:∀s∈mlS,(∀x∈s.r.l,x < 65536)∧(∀x∈s.r.d,x < 65536)∧s.r.l.length≤2∧s.r.d.length≤2:=by decide
 obtain⟨h1,h2,h3,h4⟩:=h s hs;exact⟨h1,h2,h3,h4⟩
abbrev sQ (a b c:Int):Qt:=⟨1,a,b,c⟩
abbrev ml0:QTs:=[((-1:Rat),[sQ 0 3 4]),((1:Rat),[sQ 1 3 4])]
abbrev ml1:QTs:=[((1/2:Rat),[sQ 0 2 3]),((1:Rat),[sQ 1 3 4])]
abbrev ml2:QTs:=[((1/2:Rat),[sQ 0 1 3]),((1/2:Rat),[sQ 0 2 3]),((-1/2:Rat),[sQ 1 2 3])]
abbrev ml3:QTs:=[((1/4:Rat),[sQ 0 1 2]),((1/2:Rat),[sQ 0 2 3]),((-1/2:Rat),[sQ 1 2 3])]
abbrev ml4:QTs:=[((-1/2:Rat),[sQ 1 2 3])]
theorem ml_goal:goX 2 [3,4,0,1] (RQ.q ⟨false,[],[]⟩)=ml0:=by
 show Za1 (ofX (sQ 3 4 1)) (sclT (-1) (ofX (sQ 3 4 0)))=_;rw [ad_X];decide +kernel
theorem ml_q:RQ.q mlR=(1/2:Rat):=by decide +kernel
theorem ml_L4 {q:Qt} {r:Int × XX} (hc:q.chk 5 64=0) (hm:(plOf q.norm.1 4).mid=false) (h:lmK 0 2 4 q=r):lemQ mlS 4 zd q=r:=by
 show(if q.chk 5 64=0 then lmS mlS 4 zd q else (q.chk 5 64,([],[])))=r;rw [ZBo hc,←h,←lm_K 0 2 0 4 q hm,←ml_q];rfl
theorem ml_L3 {q:Qt} {r:Int × XX} (hc:q.chk 5 64=0) (hm:(plOf q.norm.1 3).mid=false) (h:lmK 1 2 3 q=r):lemQ mlS 3 zd q=r:=by
 show(if q.chk 5 64=0 then lmS mlS 3 zd q else (q.chk 5 64,([],[])))=r;rw [ZBo hc,←h,←lm_K 1 2 0 3 q hm,←ml_q];rfl
theorem ml_z4:elT (elZ mlS 4 zd (ml0,onX))=(0,(ml2,onX)):=by
 have h:hvL ((4:Nat):Int) (flQ ml0++flQ onX)=[sQ 0 3 4,sQ 1 3 4]:=by decide +kernel
 show elT (elF _ (hvL ((4:Nat):Int) (flQ ml0++flQ onX)) (ml0,onX))=_;rw [h,ZAb (y:=(ml1,onX)) (ml_L4 (by decide +kernel) (by decide +kernel) rfl) (by decide +kernel) zd zd,ZAb (y:=(ml2,onX)) (ml_L4 (by decide +kernel) (by decide +kernel) rfl) (by decide +kernel) zd zd];decide +kernel
theorem ml_z3:elT (elZ mlS 3 zd (ml2,onX))=(0,([],onX)):=by
 have h:hvL ((3:Nat):Int) (flQ ml2++flQ onX)=[sQ 0 1 3,sQ 0 2 3,sQ 1 2 3]:=by decide +kernel
 show elT (elF _ (hvL ((3:Nat):Int) (flQ ml2++flQ onX)) (ml2,onX))=_;rw [h,ZAb (y:=(ml3,onX)) (ml_L3 (by decide +kernel) (by decide +kernel) rfl) (by decide +kernel) zd zd,ZAb (y:=(ml4,onX)) (ml_L3 (by decide +kernel) (by decide +kernel) rfl) (by decide +kernel) zd zd,ZAb (y:=([],onX)) (ml_L3 (by decide +kernel) (by decide +kernel) rfl) (by decide +kernel) zd zd];decide +kernel
theorem ml_a4:Ahead ((4:Nat):Int) (hvL ((4:Nat):Int) (flQ ml0++flQ onX)) (ml0,onX):=Ahead.beg (K:=1) (N:=1) (xbC _ _ (by decide +kernel)) ((Zol).mono zd zd) zd zd zd zd (by decide +kernel) (by decide +kernel)
theorem ml_x2:XB ml2 1 1:=by
 have h:(∀t∈ml2,t.1≠0∧(t.2.Pairwise λa b=>Qt.cmp a b≤0)∧(∀q∈t.2,q.norm=(q,1))∧t.2.length≤1∧t.1.den ∣ 2)∧(ml2.Pairwise λs t=>ordQ s.2 t.2 < 0)∧n1 ml2≤65535:=by decide +kernel
 exact⟨⟨λt ht=>⟨(h.1 t ht).1,(h.1 t ht).2.1,(h.1 t ht).2.2.1⟩,h.2.1⟩,λt ht=>(h.1 t ht).2.2.2.1,2,65535,by decide,by decide,by decide,⟨λt ht=>(h.1 t ht).2.2.2.2,h.2.2⟩⟩
theorem ml_a3:Ahead ((3:Nat):Int) (hvL ((3:Nat):Int) (flQ ml2++flQ onX)) (ml2,onX):=Ahead.beg (K:=1) (N:=1) ml_x2 ((Zol).mono zd zd) zd zd zd zd (by decide +kernel) (by decide +kernel)
end Go.Proofs.YtkefeinbjbeidaaGreatDoor
namespace Go.Proofs.YtkefeinbjbeidaaGreatDoor
open Go Go.RowKit Go.Pg Go.Pol Go.Proofs.Tryz
attribute [-bool_to_prop] Bool.and_eq_decide Bool.or_eq_decide Bool.decide_beq_decide decide_eq_decide
attribute [go_sem] szMQP zMQP
attribute [local go_sem] Zbt Zas Zav Zau Za7 Zbw Zks Zoj Za9 Zba Zca Zbp Zbr Zct Zcd Zcc Zcb Zcu Za8 Zsz ivkBL Zgo Zjr Zgh Zj4 Zl4 Zux
theorem exPoly0 (C V:List AV):Pure prog 58 [.sl 4 [],.agg [.sl 2 C,.sl 3 V]] (.tup [.v (.slice none 0 0),iv 0]):=by
 refine pI func58 rfl ntmps58 results58 call58 ?_;(focus (refine wkap w_t w_t (w_r 2) ?_;(repeat' first|exact w_t|apply w_l);all_goals intros));all_goals exact gL
theorem arProveV (M L A0 D0 A2 D2 C V R:List AV) (k:Int) (b:Bool) (l d:List Nat) (hR:R.length≤1000)
 (cg:Pure prog 8 [.agg [iv k,.sl 1 L,.v (.bool b),lim l,lim d]] (.tup [.sl 4 A0,iv 0]))
 (co:Pure prog 27 [iv 1] (.agg [.v (.bool false),lim [1],lim [1]])) (cc:Pure prog 55 [.agg [.v (.bool false),lim [1],lim [1]]] (.sl 4 D0))
 (cs:∀σ K,ACall prog 56 [.agg [.sl 6 M,.sl 5 [.agg [iv k,.sl 1 L,.v (.bool b),lim l,lim d]]],.agg [.sl 4 A0,.sl 4 D0],.ifc 101 (.agg [.sl 6 M,.sl 5 [.agg [iv k,.sl 1 L,.v (.bool b),lim l,lim d]]])] σ λr σ'=>∃sv,r=.tup [.own K sv,.agg [.sl 4 A2,.sl 4 D2],iv 0]∧σ'=upd σ K (some (.row sv 49 3 R 0)))
 (cf:Pure prog 57 [.agg [.sl 6 M,.sl 5 [.agg [iv k,.sl 1 L,.v (.bool b),lim l,lim d]]]] (.tup [.agg [.sl 2 C,.sl 3 V],iv 0]))
 (cp:Pure prog 58 [.sl 4 A2,.agg [.sl 2 C,.sl 3 V]] (.tup [.v (.slice none 0 0),iv 0])) :
 Pure prog 19 [.agg [.sl 6 M,.sl 5 [.agg [iv k,.sl 1 L,.v (.bool b),lim l,lim d]]],iv 0] (.tup [.sl 3 (R++[.agg [iv (-1),.v (.slice none 0 0),.sl 4 D0]]),iv 0]):=by
 refine pI func19 rfl ntmps19 results19 call19 ?_;(focus (refine wkap w_t (w_3 cg co cc) (w_r 0) ?_;(repeat' first|exact w_t|apply w_l);all_goals intros));refine Zgw (cs _ 45) ?_;intro sv;(focus (refine wkap (w_1 hR) (w_2 cf cp) (w_r 0) ?_;(repeat' first|exact w_t|apply w_l);all_goals intros));all_goals exact gL
def mlF (n:Nat) (k:Nat) (c:UInt8):AV:=.agg [iv 1,strA (if n < k then ⟨#[c]⟩ else .empty),.v (.slice none 0 0),.v (.bool false),.v (.slice none 0 0),.v (.slice none 0 0)]
def mlD (n:Nat) (k:Nat) (c:UInt8) (a b:Int):AV:=.agg [iv 2,strA (if n < k then ⟨#[c]⟩ else .empty),.sl 1 [iv a,iv b],.v (.bool false),lim [1],lim [2]]
def mlL (k:Nat):List AV:=[mlF 0 k 65,mlF 1 k 66,mlF 2 k 67,mlD 3 k 77 1 2,mlD 4 k 78 0 2]
theorem lwMl:Pure prog 20 [] (figA mlS mlGo):=by
 have cF:Pure prog 59 [iv 1,iv 2] (.agg [.v (.bool false),lim [1],lim [2]]):=by
  have h:=qFrac 1 2 zo zo zo;rw [show mkRat ((1:Nat):Int) 2=(1/2:Rat) from by decide +kernel] at h
  rwa [show ratQ (1/2)=.agg [.v (.bool false),lim [1],lim [2]] from by
   show AV.agg [.v (.bool (decide ((1/2:Rat).num < 0))),lim (toL (1/2:Rat).num.natAbs),lim (toL (1/2:Rat).den)]=_;rw [show(1/2:Rat).num=1 from by decide +kernel,show(1/2:Rat).den=2 from by decide +kernel,show toL 2=[2] from by decide +kernel,show toL (Int.natAbs 1)=[1] from by decide +kernel];rfl] at h
 refine Zen (r:=.agg [.sl 6 (mlL 5),.sl 5 [.agg [iv 2,.sl 1 [iv 3,iv 4,iv 0,iv 1],.v (.bool false),.v (.slice none 0 0),.v (.slice none 0 0)]]]) ?_ (Vk.aggL (.cons (Vk.slL rfl zd zd ?_) (.cons (Vk.slL rfl zd zd ?_) .nil)))
 ·refine pI func20 rfl ntmps20 results20 call20 ?_;(focus (refine wkad w_t (w_1 cF) w_t ?_;(repeat' first|exact w_t|apply w_l);all_goals intros));rename_i g0 g1 g2 s10 s13 s16 g3;refine Zad (ι:=Nat) (λi e m=>i≤5∧(e 3=.pbox 3 g3 0∧m 3=some (.box g3 42 [.own 16 s16,.v (.slice none 0 0)] false))∧(e 0=.pbox 0 g0 0∧m 0=some (.box g0 42 [.v (.slice none 0 0),.v (.slice none 0 0)] false))∧e 4=iv i∧m 16=some (.row s16 81 6 (mlL i) 0)) (λi=>5 - i) 0 zr ?_ ?_
  ·rintro i e m ⟨hi,⟨e3,m3⟩,⟨e0,m0'⟩,e4,m16⟩
   have h5:i=0∨i=1∨i=2∨i=3∨i=4∨i=5:=zo;rcases h5 with rfl | rfl | rfl | rfl | rfl | rfl
   ·simp [mlL,mlF,mlD] at m16;(focus (refine wkad (w_4 e3 m3 e4 m16) w_t (w_1 (w_d 7 [(5,.sl 1 [.v (.int .u8 65)])] [9] [])) ?_;(repeat' first|exact w_t|apply w_l);all_goals intros));exact⟨1,⟨zo,⟨gW e3,gW m3⟩,⟨gW e0,gW m0'⟩,gC,by simp [mlL,mlF,mlD];exact gW m16⟩,zo⟩
   ·simp [mlL,mlF,mlD] at m16;(focus (refine wkad (w_4 e3 m3 e4 m16) w_t (w_1 (w_d 7 [(5,.sl 1 [.v (.int .u8 66)])] [9] [])) ?_;(repeat' first|exact w_t|apply w_l);all_goals intros));exact⟨2,⟨zo,⟨gW e3,gW m3⟩,⟨gW e0,gW m0'⟩,gC,by simp [mlL,mlF,mlD];exact gW m16⟩,zo⟩
   ·simp [mlL,mlF,mlD] at m16;(focus (refine wkad (w_4 e3 m3 e4 m16) w_t (w_1 (w_d 7 [(5,.sl 1 [.v (.int .u8 67)])] [9] [])) ?_;(repeat' first|exact w_t|apply w_l);all_goals intros));exact⟨3,⟨zo,⟨gW e3,gW m3⟩,⟨gW e0,gW m0'⟩,gC,by simp [mlL,mlF,mlD];exact gW m16⟩,zo⟩
   ·simp [mlL,mlF,mlD] at m16;(focus (refine wkad (w_4 e3 m3 e4 m16) w_t (w_1 (w_d 7 [(5,.sl 1 [.v (.int .u8 77)])] [9] [])) ?_;(repeat' first|exact w_t|apply w_l);all_goals intros));exact⟨4,⟨zo,⟨gW e3,gW m3⟩,⟨gW e0,gW m0'⟩,gC,by simp [mlL,mlF,mlD];exact gW m16⟩,zo⟩
   ·simp [mlL,mlF,mlD] at m16;(focus (refine wkad (w_4 e3 m3 e4 m16) w_t (w_1 (w_d 7 [(5,.sl 1 [.v (.int .u8 78)])] [9] [])) ?_;(repeat' first|exact w_t|apply w_l);all_goals intros));exact⟨5,⟨zo,⟨gW e3,gW m3⟩,⟨gW e0,gW m0'⟩,gC,by simp [mlL,mlF,mlD];exact gW m16⟩,zo⟩
   ·simp [mlL,mlF,mlD] at m16;(focus (refine wkad (w_6 e3 m3 e0 m0' e4 m16) w_t w_t ?_;(repeat' first|exact w_t|apply w_l);all_goals intros));all_goals exact gM (w_3 e0 m0' m16)
  ·exact⟨zo,⟨gC,gC⟩,⟨gC,gC⟩,gC,by simp [mlL,mlF,mlD];exact gC⟩
 ·repeat first|exact .nil|refine .cons (.refl _) ?_|refine .cons (.nil 1) ?_
 ·repeat first|exact .nil|refine .cons (.refl _) ?_|refine .cons (.nil 1) ?_
theorem mlFig:figE mlS mlGo=0:=by decide +kernel
theorem mlOk:FigOk mlS:=by
 exact⟨by decide,ml_e,ml_r,by decide +kernel⟩
theorem mlBig:(List.range mlS.length).any (bigN mlS)=false:=by
 decide +kernel
theorem ml_k:∀i (h:i < mlS.length),mlS[i].k=1∨mlS[i].k=2:=by decide
theorem mlFrm:Pure prog 57 [figA mlS mlGo] (.tup [frmA (frN mlS mlS.length).cs (frN mlS mlS.length).vs,iv 0]):=by
 have sm:∀s∈mlS,s.sm:=λs hs=>by
  have h2:∀s∈mlS,s.nm.size≤1∧s.ar.length≤3:=by decide
  obtain⟨a,b⟩:=h2 s hs;exact⟨lm_mono (ml_r s hs) zd,ZBv a zd,ZBv b zd⟩
 have sg:∀g∈mlGo,g.sm:=λg hg=>by
  rw [List.mem_singleton.1 hg];exact⟨⟨λx hx=>(by cases hx),λx hx=>(by cases hx),ZBx _,ZBx _⟩,by decide⟩
 have cr:=lwRight mlS mlGo zd zd sm sg;rw [mlFig] at cr;have:=coFrameG mlS mlGo cr mlOk λi h σ KB KC KV g svC svV cs vs fr hB hV hC a b c hl hf hok hco=>by
  rcases ml_k i h with k | k
  ·exact cbStep1 σ KB KC KV g svC svV cs vs fr i mlS[i] hB hV hC a b c hl hf k
  ·exact cbStep2 σ KB KC KV g svC svV cs vs fr i mlS[i] hB hV hC a b c hl hf hok hco k
 rwa [ZBn (by rw [mlBig];decide)] at this
abbrev mlP:Nat→Int
 | 0=>4
 | 1=>3
 | _=>-1
abbrev mlA:Nat→List AV
 | 0=>ml0.map qtA
 | 1=>ml2.map qtA
 | _=>[]
theorem ml_g:Pure prog 8 [.agg [iv 2,.sl 1 [iv 3,iv 4,iv 0,iv 1],.v (.bool false),lim [],lim []]] (.tup [.sl 4 (mlA 0),iv 0]):=by
 have c:=ZA8 ⟨2,[3,4,0,1],⟨false,[],[]⟩⟩ ⟨⟨λx hx=>(by cases hx),λx hx=>(by cases hx),ZBx _,ZBx _⟩,by decide⟩ ⟨λx hx=>(by cases hx),λx hx=>(by cases hx),ZBx _,ZBx _⟩;unfold goR at c;rw [ZBo (by decide +kernel),ml_goal] at c;exact c
theorem Zvu:∀{p:QTs},p=ml0∨p=ml2∨p=[]→p.length≤1000000∧∀t∈p,t.2.length≤1000000:=by
 rintro p (rfl | rfl | rfl)<;>exact⟨by decide,by decide⟩
theorem ml_lst:∀i,i≤2→Pure prog 101 [.agg [.sl 6 (mlS.map RS.av),.sl 5 (mlGo.map RG.av)],.sl 4 (mlA i)] (iv (mlP i)):=by
 intro i hi;rcases (show i=0∨i=1∨i=2 by omega) with rfl | rfl | rfl
 ·have c:=ZA7 mlS mlGo ml0 zd (Zvu (.inl rfl)).1 (Zvu (.inl rfl)).2
  rwa [show laF mlS ml0 mlS.length=4 from by decide +kernel] at c
 ·have c:=ZA7 mlS mlGo ml2 zd (Zvu (.inr (.inl rfl))).1 (Zvu (.inr (.inl rfl))).2
  rwa [show laF mlS ml2 mlS.length=3 from by decide +kernel] at c
 ·have c:=ZA7 mlS mlGo [] zd (Zvu (.inr (.inr rfl))).1 (Zvu (.inr (.inr rfl))).2
  rwa [show laF mlS [] mlS.length=-1 from by decide +kernel] at c
theorem ml_lem (i:Nat) (hi:i < mlS.length) (h2:mlS[i].k=2) (k a b c:Int):Pure prog 333 [figA mlS mlGo,iv i,.agg [iv k,iv a,iv b,iv c]] (lmA ⟨k,a,b,c⟩ mlS.length (lmS mlS i hi ⟨k,a,b,c⟩) (.v (.slice none 0 0))) :=
 elLemmaG mlS mlGo i hi zd (ml_e i hi) (ml_r _ (ZB0 _)) (elComb2 mlS mlGo i hi zd (ml_e i hi) (ml_r _ (ZB0 _)) h2) (λh4=>by rw [h2] at h4;exact absurd h4 zd) k a b c
theorem ml_el4:Pure prog 331 [.agg [.sl 6 (mlS.map RS.av),.sl 5 (mlGo.map RG.av)],iv 4,.agg [.sl 4 (ml0.map qtA),.sl 4 (onX.map qtA)]] (.tup [.agg [.sl 4 (ml2.map qtA),.sl 4 (onX.map qtA)],iv 0]):=by
 have c:=ZAc mlS mlGo 4 zd zd (ml_e 4 zd) (ml_r _ (ZB0 _)) (ml_lem 4 zd zd) (ml0,onX) zd zd zd zd zd ml_a4;rw [ml_z4] at c;unfold elR at c
 rwa [ZBo rfl,ZBn zd] at c
theorem ml_el3:Pure prog 331 [.agg [.sl 6 (mlS.map RS.av),.sl 5 (mlGo.map RG.av)],iv 3,.agg [.sl 4 (ml2.map qtA),.sl 4 (onX.map qtA)]] (.tup [.agg [.sl 4 [],.sl 4 (onX.map qtA)],iv 0]):=by
 have c:=ZAc mlS mlGo 3 zd zd (ml_e 3 zd) (ml_r _ (ZB0 _)) (ml_lem 3 zd zd) (ml2,onX) zd zd zd zd zd ml_a3;rw [ml_z3] at c;unfold elR at c;rw [ZBo rfl,ZBo rfl] at c;exact Zen c (Vk.tupL (.cons (Vk.aggL (.cons (.nil 4) (.cons (.refl _) .nil))) (.cons (.refl _) .nil)))
theorem ml_stp (σ:Mem) (K:Nat):ACall prog 56 [.agg [.sl 6 (mlS.map RS.av),.sl 5 (mlGo.map RG.av)],.agg [.sl 4 (mlA 0),.sl 4 (onX.map qtA)],.ifc 101 (.agg [.sl 6 (mlS.map RS.av),.sl 5 (mlGo.map RG.av)])] σ λr σ'=>∃sv,r=.tup [.own K sv,.agg [.sl 4 [],.sl 4 (onX.map qtA)],iv 0]∧σ'=upd σ K (some (.row sv 49 3 (roS mlP mlA (λ_=>onX.map qtA) 2) 0)) :=
 arSteps σ K _ _ 2 zd mlP mlA (λ_=>onX.map qtA) (λi hi=>by rcases (show i=0∨i=1 by omega) with rfl | rfl<;>decide) zd ml_lst λi hi=>by
  rcases (show i=0∨i=1 by omega) with rfl | rfl
  ·exact arByL _ _ _ _ _ _ _ ml_el4
  ·exact arByL _ _ _ _ _ _ _ ml_el3
theorem ml_prv:Pure prog 19 [.agg [.sl 6 (mlS.map RS.av),.sl 5 (mlGo.map RG.av)],iv 0] (.tup [.sl 3 [.agg [iv 4,.sl 4 (ml2.map qtA),.sl 4 (onX.map qtA)],.agg [iv 3,.sl 4 [],.sl 4 (onX.map qtA)],.agg [iv (-1),.v (.slice none 0 0),.sl 4 (onX.map qtA)]],iv 0]):=by
 have co:Pure prog 27 [iv 1] (ratQ 1):=Zo5 1 zo;have cc:Pure prog 55 [ratQ 1] (qpA (nX 1)):=Zmr (Zii.mono zd);rw [nx1] at cc;rw [Znh] at co cc;exact arProveV _ _ _ _ _ _ _ _ (roS mlP mlA (λ_=>onX.map qtA) 2) 2 false [] [] (by rw [Zxn];decide) ml_g co cc ml_stp mlFrm (exPoly0 _ _)
theorem ml_nm:nmK mlS mlS.length=[⟨#[65]⟩,⟨#[66]⟩,⟨#[67]⟩,⟨#[77]⟩,⟨#[78]⟩]:=by decide +kernel
theorem on_ok:OkT onX 1:=λt ht=>by rw [List.mem_singleton.1 ht];exact⟨by decide,Zii⟩
theorem ml_txt:Pure prog 13 [.agg [.sl 6 (mlS.map RS.av),.sl 5 (mlGo.map RG.av)],.sl 3 [.agg [iv (-1),.v (.slice none 0 0),.sl 4 (onX.map qtA)]]] (.tup [strA ⟨#[119,105,116,104,111,117,116,32,97,108,108,58,32,48,32,111,118,101,114,32,49,10]⟩,iv 0]):=by
 have hs:∀s∈nmK mlS mlS.length,s.size≤1000:=by rw [ml_nm];decide
 have hl:(nmK mlS mlS.length).length=5:=by rw [ml_nm];rfl
 have c:=arText mlS mlGo (nmK mlS mlS.length) [(-1,[],onX)] hl zd hs zd (lnNames mlS mlGo zd zd) λt ht=>by
  rw [List.mem_singleton.1 ht];exact⟨Zzy [] _ (by rw [hl];decide) hs zd (k:=1) zd (λt ht=>by cases ht),Zzy onX _ (by rw [hl];decide) hs zd (k:=1) zd on_ok,
   λh=>ZAf hs zd (k:=1) zd (λt ht=>by cases ht) h,λh=>ZAf hs zd (k:=1) zd on_ok h⟩
 rw [ml_nm,show atR [⟨#[65]⟩,⟨#[66]⟩,⟨#[67]⟩,⟨#[77]⟩,⟨#[78]⟩] [(-1,[],onX)]=.tup [strA ⟨#[119,105,116,104,111,117,116,32,97,108,108,58,32,48,32,111,118,101,114,32,49,10]⟩,iv 0] from by
  unfold atR;rw [ZBo (by decide +kernel)];exact ZDt (λs=>AV.tup [strA s,iv 0]) (by decide +kernel)] at c
 refine Zhh c (.cons (.refl _) (.cons (Vk.slL rfl zd zd ?_) .nil))
 repeat first|exact .nil|refine .cons (.refl _) ?_|refine .cons (.nil 4) ?_
abbrev mdP:QTs:=[((1:Rat),[⟨2,0,1,0⟩]),((1:Rat),[⟨2,0,2,0⟩]),((2:Rat),[⟨2,1,0,2⟩])]
theorem ml_md:Pure prog 8 [.agg [iv 5,.sl 1 [iv 0,iv 1,iv 2],.v (.bool false),.v (.slice none 0 0),.v (.slice none 0 0)]] (.tup [.sl 4 (mdP.map qtA),iv 0]):=by
 have c:=ZA8 ⟨5,[0,1,2],⟨false,[],[]⟩⟩ ⟨⟨λx hx=>(by cases hx),λx hx=>(by cases hx),ZBx _,ZBx _⟩,by decide⟩ ⟨λx hx=>(by cases hx),λx hx=>(by cases hx),ZBx _,ZBx _⟩;unfold goR at c;rw [ZBo (by decide +kernel),show goX 5 [0,1,2] (RQ.q ⟨false,[],[]⟩)=mdP from by
  show Za1 (Za1 (pyX 0 1 0) (pyX 0 2 0)) (mulX (cstT 2) (pyX 1 0 2))=_;rw [mu_K,ad_X,ad_X];decide +kernel] at c
 refine Zhh c (.cons (Vk.aggL ?_) .nil)
 repeat first|exact .nil|refine .cons (.refl _) ?_|refine .cons (.nil 1) ?_
theorem ml_mt:Pure prog 21 [.sl 4 (mdP.map qtA),.sl 1 [strA ⟨#[77]⟩,strA ⟨#[65]⟩,strA ⟨#[66]⟩]] (.tup [strA ⟨#[80,40,77,44,32,65,44,32,77,41,32,43,32,80,40,77,44,32,66,44,32,77,41,32,43,32,50,42,80,40,65,44,32,77,44,32,66,41]⟩,iv 0]):=by
 have c:=Zzy mdP [⟨#[77]⟩,⟨#[65]⟩,⟨#[66]⟩] zd zd zd (k:=1) zo (λt ht=>by
  have h:∀t∈mdP,t.2.length≤1000∧(toL t.1.num.natAbs).length≤1∧(toL t.1.den).length≤1:=by decide +kernel
  obtain⟨a,b,d⟩:=h t ht;exact⟨a,b,d⟩)
 rw [ZBo (by decide +kernel),show eTxt [⟨#[77]⟩,⟨#[65]⟩,⟨#[66]⟩] mdP=⟨#[80,40,77,44,32,65,44,32,77,41,32,43,32,80,40,77,44,32,66,44,32,77,41,32,43,32,50,42,80,40,65,44,32,77,44,32,66,41]⟩from by decide +kernel] at c;exact c
theorem awake35V (M G A1 D1 A2 D2 D3 P:List AV) (cm:Pure prog 20 [] (.agg [.sl 6 M,.sl 5 G]))
 (cp:Pure prog 19 [.agg [.sl 6 M,.sl 5 G],iv 0] (.tup [.sl 3 [.agg [iv 4,.sl 4 A1,.sl 4 D1],.agg [iv 3,.sl 4 A2,.sl 4 D2],.agg [iv (-1),.v (.slice none 0 0),.sl 4 D3]],iv 0]))
 (ct:Pure prog 13 [.agg [.sl 6 M,.sl 5 G],.sl 3 [.agg [iv (-1),.v (.slice none 0 0),.sl 4 D3]]] (.tup [strA ⟨#[119,105,116,104,111,117,116,32,97,108,108,58,32,48,32,111,118,101,114,32,49,10]⟩,iv 0]))
 (cg:Pure prog 8 [.agg [iv 5,.sl 1 [iv 0,iv 1,iv 2],.v (.bool false),.v (.slice none 0 0),.v (.slice none 0 0)]] (.tup [.sl 4 P,iv 0]))
 (cx:Pure prog 21 [.sl 4 P,.sl 1 [strA ⟨#[77]⟩,strA ⟨#[65]⟩,strA ⟨#[66]⟩]] (.tup [strA ⟨#[80,40,77,44,32,65,44,32,77,41,32,43,32,80,40,77,44,32,66,44,32,77,41,32,43,32,50,42,80,40,65,44,32,77,44,32,66,41]⟩,iv 0])) :
 Pure prog 7 [] (.v (.bool true)):=by
 refine pI func7 rfl ntmps7 results7 call7 ?_;(focus (refine wkax w_t (w_3 cm cp ct) (w_1 (w_d 4 [(0,.agg [.sl 6 M,.sl 5 G]),(3,.tup [strA ⟨#[119,105,116,104,111,117,116,32,97,108,108,58,32,48,32,111,118,101,114,32,49,10]⟩,iv 0])] [] [])) (w_2 cg cx) w_t w_t w_y (w_r 0) ?_;(repeat' first|exact w_t|apply w_l);all_goals intros));all_goals exact gL
theorem awake35:Pure prog 7 [] (.v (.bool true)):=awake35V _ _ _ _ _ _ _ _ lwMl ml_prv ml_txt ml_md ml_mt
end Go.Proofs.YtkefeinbjbeidaaGreatDoor
