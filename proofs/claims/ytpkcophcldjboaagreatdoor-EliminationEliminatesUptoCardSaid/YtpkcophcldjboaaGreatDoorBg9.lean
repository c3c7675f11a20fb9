/- Contracts of the functions that the law reaches, and the rules by which they are walked. They say what a call hands back for every input within the bounds that each names; no other condition. -/
import Derived.Test.YtpkcophcldjboaaGreatDoorBg8
set_option linter.unusedSimpArgs false
set_option linter.unusedVariables false
set_option maxRecDepth 20000
set_option maxHeartbeats 16000000
namespace Go.Proofs.YtpkcophcldjboaaGreatDoor
open Go Go.RowKit Go.Pg Go.Pol Go.Proofs.Tryz
attribute [-bool_to_prop] Bool.and_eq_decide Bool.or_eq_decide Bool.decide_beq_decide decide_eq_decide
attribute [local go_sem] Zaw Zay Zax Zah Zap Zai Bool.and_self Zal Za8 Zba
theorem XB.gh {p q:QTs} {j k m n:Nat} (hp:XB p j m) (hq:XB q k n):GH (prodL muQ p q) (j+k+(j+k)) (m+n):=by
 obtain⟨a,b,D,B,c,d,e,f⟩:=hp;obtain⟨a',b',D',B',c',d',e',f'⟩:=hq;exact GH.of_nb (f.prodL f') (ZE8 c c') (by rw [ZDj];exact ZFt d d') (by rw [ZDj];exact ZFt e e') (Zit b b')
theorem Zx5 (p q:QTs) {j k m n:Nat} (hp:XB p j m) (hq:XB q k n) (hm:m≤100000) (hn:n≤100000) (hl:p.length*q.length≤100000000) (hpl:p.length≤100000000) (hql:q.length≤100000000) (hj:j≤100000) (hk:k≤100000):Pure prog 26 [qpA p,qpA q] (qpA (mulX p q)):=by
 have hpm:(p.map qtA).length=p.length:=ZCj ..;have hqm:(q.map qtA).length=q.length:=ZCj ..;have gp:∀i (h:i < p.length),(p.map qtA).getD i .u=qtA p[i]:=λi h=>Zak qtA h;have gq:∀i (h:i < q.length),(q.map qtA).getD i .u=qtA q[i]:=λi h=>Zak qtA h;have kp:=hp.qk;have kq:=hq.qk;have hop:∀t∈p,okQ t.2:=hp.1.dom;have hoq:∀t∈q,okQ t.2:=hq.1.dom;have hPl:(prodL muQ p q).length=p.length*q.length:=Ziu ..;have hstep:∀i l (h1:i < p.length) (h2:l < q.length),(prodL muQ p q).take (i*q.length+l+1)=(prodL muQ p q).take (i*q.length+l)++[(p[i].1*q[l].1,muQ p[i].2 q[l].2)]:=λi l h1 h2=>Zkv (Znp h1 h2)
 have cg:=Zng _ _ hPl (hp.gh hq) hl zo zo;have hfull:(prodL muQ p q).take (p.length*q.length)=prodL muQ p q:=ZEb zo;have htl:∀c,((prodL muQ p q).take c).length≤100000000:=λc=>by rw [ZCz];omega
 have ht0:(prodL muQ p q).take 0=[]:=ZEy;have cg:Pure prog 71 [.sl 4 (((prodL muQ p q).take (p.length*q.length)).map qtA)] (.sl 4 ((mulX p q).map qtA)):=by rw [hfull];exact cg
 clear hfull hPl hp hq;generalize mulX p q=RR at *;generalize hPR:(λc=>(prodL muQ p q).take c)=PR at *;have hPR:∀c,(prodL muQ p q).take c=PR c:=λc=>by rw [←hPR]
 simp only [hPR] at hstep cg htl ht0;clear hPR;show Pure _ _ [.sl 4 (p.map qtA),.sl 4 (q.map qtA)] (.sl 4 (RR.map qtA));generalize RR.map qtA=R at *;generalize p.map qtA=A at *;generalize q.map qtA=B at *;refine pI func26 rfl ntmps26 results26 call26 ?_
 (refine wkad w_t w_t w_t (w_s ?_);intros)
 refine Zdj (Frz.nilOwn (d:=5) 45 4 57 (gC)) ?_;refine Zad (ι:=Nat) (λi e M=>i≤p.length∧(e 0=.sl 4 A∧e 1=.sl 4 B)∧e 6=iv i∧∃sv,e 5=.own 45 sv∧M 45=some (.row sv 57 4 ((PR (i*q.length)).map qtA) 0)) (λi=>p.length - i) 0 zr ?_ ?_
 ·rintro i e M ⟨hi,⟨e0,e1⟩,e6,sv,e5,m45⟩
  by_cases hlt:i < p.length
  ·have gpi:=gp i hlt;have kpi:=kp _ (ZCt hlt);have hsti:=λl h2=>hstep i l hlt h2;have hopi:=hop _ (ZCt hlt);have hsucc:(i+1)*q.length=i*q.length+q.length:=ZD8 ..;clear gp kp hstep hop cg ht0;generalize p[i]=u at *;generalize i*q.length=ci at *;obtain⟨u1,u2⟩:=u;simp only at kpi hsti hopi;have gpi:A.getD i .u=.agg [.v (.bool (decide (u1.num < 0))),lim (toL u1.num.natAbs),lim (toL u1.den),.sl 4 (u2.map Qt.av)]:=gpi;have cm0:=fun(v:Rat) (hv:Sz v (k+k))=>qMul u1 v kpi.1 hv zo zo;have cm0:∀v:Rat,Sz v (k+k)→Pure prog 69 [.agg [.v (.bool (decide (u1.num < 0))),lim (toL u1.num.natAbs),lim (toL u1.den)],ratQ v] (ratQ (u1*v)):=cm0
   have ct0:=fun(v:List Qt) (ho:okQ v) (hv:v.length≤n)=>rxBoth u2 v hopi.1 ho.1 (by have:=kpi.2;omega) zo;have ct0:∀v:List Qt,okQ v→v.length≤n→Pure prog 70 [.sl 4 (u2.map Qt.av),qsA v] (qsA (muQ u2 v)):=ct0;clear kpi hopi;generalize toL u1.num.natAbs=un at *;generalize toL u1.den=ud at *;generalize decide (u1.num < 0)=us at *;generalize u2.map Qt.av=UQ at *
   (refine wkad (w_6 e0 e1 e5 m45 e6 hpm) w_t w_t (w_s ?_);intros)
   refine Zad (ι:=Nat) (λl e M=>l≤q.length∧(e 0=.sl 4 A∧e 1=.sl 4 B)∧e 6=iv i∧e 7=iv l∧∃sv,e 5=.own 45 sv∧M 45=some (.row sv 57 4 ((PR (ci+l)).map qtA) 0)) (λl=>q.length - l) 0 zr ?_ ?_
   ·clear e5 m45 e0 e1 e6
    rintro l e M ⟨hl2,⟨e0,e1⟩,e6,e7,sv,e5,m45⟩
    have hol:((PR (ci+l)).map qtA).length≤100000000:=by rw [ZCj];exact htl _
    by_cases hlq:l < q.length
    ·have gql:=gq l hlq;have kql:=kq _ (ZCt hlq);have hst:=hsti l hlq;have hoql:=hoq _ (ZCt hlq);clear gq kq hsti hoq htl;generalize q[l]=v at *;obtain⟨v1,v2⟩:=v;simp only at kql hst hoql;have gql:B.getD l .u=.agg [.v (.bool (decide (v1.num < 0))),lim (toL v1.num.natAbs),lim (toL v1.den),.sl 4 (v2.map Qt.av)]:=gql;have cm:=cm0 v1 kql.1;have ct:=ct0 v2 hoql kql.2;have cm:Pure prog 69 [.agg [.v (.bool us),lim un,lim ud],.agg [.v (.bool (decide (v1.num < 0))),lim (toL v1.num.natAbs),lim (toL v1.den)]] (.agg [.v (.bool (decide ((u1*v1).num < 0))),lim (toL (u1*v1).num.natAbs),lim (toL (u1*v1).den)]):=cm
     have ct:Pure prog 70 [.sl 4 UQ,.sl 4 (v2.map Qt.av)] (.sl 4 ((muQ u2 v2).map Qt.av)):=ct;have hmp:(PR (ci+(l+1))).map qtA=(PR (ci+l)).map qtA++[.agg [.v (.bool (decide ((u1*v1).num < 0))),lim (toL (u1*v1).num.natAbs),lim (toL (u1*v1).den),.sl 4 ((muQ u2 v2).map Qt.av)]]:=by rw [show ci+(l+1)=ci+l+1 from rfl,hst,ZDd];rfl
     clear cm0 ct0 hst kql;generalize (PR (ci+l)).map qtA=O at *;generalize toL (u1*v1).num.natAbs=wn at *;generalize toL (u1*v1).den=wd at *;generalize decide ((u1*v1).num < 0)=ws at *;generalize (muQ u2 v2).map Qt.av=MQ at *;generalize toL v1.num.natAbs=vn at *;generalize toL v1.den=vd at *;generalize decide (v1.num < 0)=vs at *;generalize v2.map Qt.av=VQ at *
     (refine wkad (w_10 e0 e1 e6 e7 e5 m45 hpm hqm gpi gql) (w_2 cm ct) (w_1 (w_d 8 [(11,.agg [.v (.bool ws),lim wn,lim wd]),(22,.sl 4 MQ)] [25,1025] [44,45])) (w_s ?_);intros)
     exact⟨l+1,⟨zo,⟨gW e0,gW e1⟩,gW e6,gS,_,gC,by rw [hmp];exact gC⟩,zo⟩
    ·have hle:l=q.length:=zo;subst hle;rw [←hsucc] at m45
     (refine wkad (w_7 e0 e1 e6 e7 e5 m45 hqm) w_t w_t (w_s ?_);intros)
     exact⟨i+1,⟨zo,⟨gW e0,gW e1⟩,gS,sv,gW e5,gW m45⟩,zo⟩
   ·exact⟨ZCr _,⟨gW e0,gW e1⟩,gW e6,gC,sv,gW e5,gW m45⟩
  ·have hil:i=p.length:=zo;subst hil;have hol:=htl (p.length*q.length);clear hstep gp gq kp kq hop hoq htl ht0;generalize PR (p.length*q.length)=S at *;have hll:(S.map qtA).length≤100000000:=by rw [ZCj];exact hol
   generalize S.map qtA=O at *
   (refine wkax (w_6 e0 e1 e6 e5 m45 hpm) w_t w_t (w_1 cg) w_t w_t w_y (w_r 0) (w_s ?_);intros)
   all_goals exact gL
 ·exact⟨ZCr _,⟨gC,gC⟩,gC,_,gC,by rw [ZE6,ht0];exact gC⟩
theorem Zri (p:QTs) (c:Rat) {j k n:Nat} (hp:QK p j n) (hc:Sz c k) (h0:c≠0) (hl:p.length≤100000000) (hj:j≤400000) (hk:k≤400000):Pure prog 64 [qpA p,ratQ c] (qpA (Zcv c p)):=by
 have hpm:(p.map qtA).length=p.length:=ZCj ..;have gp:∀i (h:i < p.length),(p.map qtA).getD i .u=qtA p[i]:=λi h=>Zak qtA h;have cz:=qSign c hc zo;have hz:¬c.num.sign=0:=by rw [Zd8];exact h0
 have hstep:∀i (h:i < p.length),(Zcv c p).take (i+1)=(Zcv c p).take i++[(p[i].1*c,p[i].2)]:=λi h=>Zkv (by unfold Zcv;rw [ZDn,ZCs h];rfl);have hfull:Zcv c p=(Zcv c p).take p.length:=(ZEb (by unfold Zcv;rw [ZCj];exact ZCi _)).symm;have ht0:(Zcv c p).take 0=[]:=ZEy;have htl:∀i,((Zcv c p).take i).length≤100000000:=λi=>by rw [ZCz];unfold Zcv;rw [ZCj];omega
 rw [hfull];clear hfull;generalize hPR:(λc'=>(Zcv c p).take c')=PR at *;have hPR:∀i,(Zcv c p).take i=PR i:=λi=>by rw [←hPR]
 simp only [hPR] at hstep htl ht0 ⊢;clear hPR;have cm0:=fun(u:Rat) (hu:Sz u j)=>qMul u c hu hc zo zo;show Pure _ _ [.sl 4 (p.map qtA),.agg [.v (.bool (decide (c.num < 0))),lim (toL c.num.natAbs),lim (toL c.den)]] (.sl 4 ((PR p.length).map qtA));have cm0:∀u:Rat,Sz u j→Pure prog 69 [ratQ u,.agg [.v (.bool (decide (c.num < 0))),lim (toL c.num.natAbs),lim (toL c.den)]] (ratQ (u*c)):=cm0;have cz:Pure prog 102 [.agg [.v (.bool (decide (c.num < 0))),lim (toL c.num.natAbs),lim (toL c.den)]] (iv c.num.sign):=cz;clear hc h0;generalize c.num.sign=z at *;generalize toL c.num.natAbs=cn at *;generalize toL c.den=cd at *
 generalize decide (c.num < 0)=cs at *;generalize p.map qtA=A at *;refine pI func64 rfl ntmps64 results64 call64 ?_
 (refine wkad w_t w_t w_t (w_s ?_);intros)
 rename_i g3;refine Zdj (Frz.nilOwn (d:=5) 33 4 57 (gC)) ?_;refine Zad (ι:=Nat) (λi e M=>i≤p.length∧e 0=.sl 4 A∧e 3=.pbox 3 g3 0∧M 3=some (.box g3 54 [.v (.bool cs),lim cn,lim cd] false)∧e 6=iv i∧∃sv,e 5=.own 33 sv∧M 33=some (.row sv 57 4 ((PR i).map qtA) 0)) (λi=>p.length - i) 0 zr ?_ ?_
 ·rintro i e M ⟨hi,e0,e3,m3,e6,sv,e5,m33⟩
  have hol:((PR i).map qtA).length≤100000000:=by rw [ZCj];exact htl _
  by_cases hlt:i < p.length
  ·have gpi:=gp i hlt;have kpi:=hp _ (ZCt hlt);have hst:=hstep i hlt;clear gp hp hstep htl ht0;generalize p[i]=u at *;obtain⟨u1,u2⟩:=u;simp only at kpi hst;have gpi:A.getD i .u=.agg [.v (.bool (decide (u1.num < 0))),lim (toL u1.num.natAbs),lim (toL u1.den),.sl 4 (u2.map Qt.av)]:=gpi;have cm:=cm0 u1 kpi.1;have cm:Pure prog 69 [.agg [.v (.bool (decide (u1.num < 0))),lim (toL u1.num.natAbs),lim (toL u1.den)],.agg [.v (.bool cs),lim cn,lim cd]] (.agg [.v (.bool (decide ((u1*c).num < 0))),lim (toL (u1*c).num.natAbs),lim (toL (u1*c).den)]):=cm;have hmp:(PR (i+1)).map qtA=(PR i).map qtA++[.agg [.v (.bool (decide ((u1*c).num < 0))),lim (toL (u1*c).num.natAbs),lim (toL (u1*c).den),.sl 4 (u2.map Qt.av)]]:=by rw [hst,ZDd];rfl
   clear cm0 hst kpi;generalize (PR i).map qtA=O at *;generalize toL (u1*c).num.natAbs=wn at *;generalize toL (u1*c).den=wd at *;generalize decide ((u1*c).num < 0)=ws at *;generalize toL u1.num.natAbs=un at *;generalize toL u1.den=ud at *;generalize decide (u1.num < 0)=us at *;generalize u2.map Qt.av=UQ at *
   (refine wkad (w_9 e0 e3 m3 e6 e5 m33 hpm gpi hz) (w_2 cz cm) (w_1 (w_d 5 [(7,.agg [.v (.bool ws),lim wn,lim wd])] [15,1015] [32,33])) (w_s ?_);intros)
   exact⟨i+1,⟨zo,gW e0,gW e3,gW m3,gS,_,gC,by rw [hmp];exact gC⟩,zo⟩
  ·have hil:i=p.length:=zo;subst hil;clear hstep gp hp htl ht0 cm0;have hlt':¬(p.length:Int) < (p.length:Int):=zo;generalize (PR p.length).map qtA=O at *
   (refine wkad (w_8 e0 e3 m3 e6 e5 m33 hpm hlt') w_t w_t (w_s ?_);intros)
   all_goals (all_goals (try simp (disch:=omega) only [go_sem,m33,hol,ZCp,ZCq,ZCh,ZCg,Int.reduceAdd,Int.reduceSub,Int.reduceToNat,ZC3]));(all_goals first|done|rfl|(congr 2;first|done|omega|(rw [ZDg];simp only [bool_to_prop,ZCy,ZDy,ZDz,ZD0,ZD1];omega))|skip)
   all_goals exact⟨⟨rfl,rfl⟩,rfl⟩
 ·exact⟨ZCr _,gC,gC,gC,gC,_,gC,by rw [ht0];exact gC⟩
end Go.Proofs.YtpkcophcldjboaaGreatDoor
namespace Go.Proofs.YtpkcophcldjboaaGreatDoor
open Go Go.RowKit Go.Pg Go.Proofs.Tryz
theorem szBld:szOf prog 221=some 2:=by kernel_rfl
theorem zBld:Za0 prog 221=some (.agg #[.pointer none,.slice none 0 0]):=by kernel_rfl
theorem szSl8:szOf prog 95=some 1:=by kernel_rfl
theorem zSl8:Za0 prog 95=some (.slice none 0 0):=by kernel_rfl
theorem szPB:szOf prog 219=some 1:=by kernel_rfl
theorem zPB:Za0 prog 219=some (.pointer none):=by kernel_rfl
theorem Zsq (w:World) (a:Addr) (n:Nat) (ad:Addr):(w.freeze a n).cell? ad=w.cell? ad:=by
 unfold World.freeze;split
 ·rfl
 ·unfold World.cell?;simp only [ZGb];by_cases h:a.block=ad.block
  ·rw [ZCh h]
   cases hh:w.heap[ad.block]? with
   | none=>rfl
   | some o=>cases o<;>rfl
  ·rw [ZCg h]
theorem Zql (w:World) (g n:Nat):w.grownBy (w.freeze ⟨g,0,none⟩ n) (some g):=by
 unfold World.freeze;split
 ·exact⟨rfl,rfl,rfl,ZCi _,λk _ _=>rfl⟩
 ·exact⟨rfl,rfl,rfl,by simp,λk _ hk=>by
   simp only [ZGb];rw [ZCg (λe=>hk (by rw [←e]))]⟩
theorem mem_drop {c:Cx} {σ:Mem} {w w':World} {imm:Imm} (h:Mx c σ w imm) {row:Option Nat} (hg:w.grownBy w' row) (hdw:w.drawn≤w'.drawn) (hB:∀g,row=some g→c.B≤g) (hcell:∀ad,imm ad→w'.cell? ad=w.cell? ad)
 (k:Nat) (hoth:∀j e2 b,j≠k→σ j=some e2→e2.blk=some b→some b≠row):Mx c (upd σ k none) w' imm∧Keeps w imm w' imm:=by
 refine⟨⟨⟨λj e2 hj=>?_,λj j' e1 e2 b h1 h2 h3 h4=>?_,λad h1=>ZEh (h.ok.lt ad h1) hg.size,λad h1=>h.ok.spot ad h1⟩,h.below.grown hg hdw h.lt (λg hg'=>hB g hg'),ZCk h.lt hg.size,h.old,h.new,λad h1=>(hcell ad (h.old ad h1)).trans (h.cells ad h1)⟩,λad h1=>⟨h1,hcell ad h1⟩⟩
 ·rw [Zaq] at hj;by_cases hjk:j=k
  ·rw [ZCh hjk] at hj;cases hj
  ·rw [ZCg hjk] at hj;refine(h.ok.ent j e2 hj).keep hg ?_ (λ_ h1=>h1) hcell λad h1=>.inl h1;rcases hb:e2.blk with _ | b
   ·exact .inl rfl
   ·exact .inr (hoth j e2 b hjk hj hb)
 ·rw [Zaq] at h1 h2;by_cases hjk:j=k
  ·rw [ZCh hjk] at h1;cases h1
  ·by_cases hjk':j'=k
   ·rw [ZCh hjk'] at h2;cases h2
   ·rw [ZCg hjk] at h1;rw [ZCg hjk'] at h2;exact h.ok.apart j j' e1 e2 b h1 h2 h3 h4
theorem ubVs {w:World} {imm:Imm} {KB g:Nat} {vs:Array Value} (hl:[AV.pbox KB g 0].length=vs.size) (hr:∀(j:Nat) (a:AV) (x:Value),[AV.pbox KB g 0][j]?=some a→vs[j]?=some x→Rs w imm a x):vs=#[.pointer (some ⟨g,0,none⟩)]:=by
 have h1:vs.size=1:=hl.symm;have h2:=hr 0 _ vs[0] rfl (ZDs zo);have h3:=h2.pbox_inv;refine Array.ext (by simpa using h1) λi hi hj=>?_;have:i=0:=zo;subst this
 simpa using h3
theorem ubCur {cur:Array Value} (h:2=cur.size):∃x y,cur=#[x,y]:=by
 refine⟨cur[0],cur[1],Array.ext (by simpa using h.symm) λi hi hj=>?_⟩
 match i,hi,hj with
 | 0,_,_=>rfl
 | 1,_,_=>rfl
 | i+2,hi,_=>omega
theorem bldCheck (σ:Mem) (KB g:Nat) (c0 c1:AV) (hB:σ KB=some (.box g 221 [c0,c1] false)) (h0:c0=.v (.pointer none)∨c0=.pbox KB g 0) :
 ACall prog 250 [.pbox KB g 0] σ λr σ'=>r=.tup []∧σ'=upd σ KB (some (.box g 221 [.pbox KB g 0,c1] false)):=by
 refine⟨call250,λc w imm vs hm hl hr=>?_⟩;obtain rfl:=ubVs hl hr;obtain⟨cur,hh,hBg,hlen,hone,hrs,hp,hq⟩:=hm.ok.ent KB _ hB;obtain⟨x,y,rfl⟩:=ubCur hlen;have hx:=hrs 0 _ x rfl rfl;have hy:=hrs 1 _ y rfl rfl;have c0':w.cell? ⟨g,0,none⟩=some x:=by rw [Lib.cell_of_heap hh];rfl
 rcases h0 with rfl | rfl
 ·obtain rfl:=hx.v_inv;refine(ubFresh g w c0' (by simp [World.shape?,hh]) (by simp [World.frozen?,hh])).mono ?_
  rintro e w' ⟨rfl,rfl⟩
  have hgr:w.grownBy (w.setCell ⟨g,0,none⟩ (.pointer (some ⟨g,0,none⟩))) (some g):=⟨rfl,rfl,rfl,by simp,λk _ hk=>heap_setCell_other w ⟨g,0,none⟩ k _ (λe=>hk (by simp [e]))⟩;have hcell:∀ad,imm ad→(w.setCell ⟨g,0,none⟩ (.pointer (some ⟨g,0,none⟩))).cell? ad=w.cell? ad:=λad h2=>Zc9 hgr (hm.ok.lt ad h2) (by
   have hne:ad.block≠g:=λe=>by have:=hp ad h2 e;cases this
   simpa using hne)
  have hkeep:Keeps w imm (w.setCell ⟨g,0,none⟩ (.pointer (some ⟨g,0,none⟩))) imm:=λad h2=>⟨h2,hcell ad h2⟩;refine⟨.tup [],_,imm,_,rfl,⟨rfl,rfl⟩,.pure (.tup [] #[] rfl λj a x h1 _=>by simp at h1),Zdr hm hgr (ZCi _) (λg' hg'=>by cases hg';exact hBg) hcell KB _ ⟨_,heap_setCell_same w g 0 _ _ _ hh,hBg,rfl,λb hb=>?_,λj b z h2 h3=>?_,hp,λh2=>by cases h2⟩ λj e2 b h2 h3 h4=>?_⟩
  ·simp only [ZF7,List.not_mem_nil,or_false] at hb;rcases hb with rfl | rfl
   ·rfl
   ·exact hone _ zs
  ·match j,h2,h3 with
   | 0,h2,h3 =>
     simp only [ZGc,Option.some.injEq] at h2;subst h2;have:z=.pointer (some ⟨g,0,none⟩):=by simpa using h3.symm
     subst this;exact .pbox _ _ _
   | 1,h2,h3 =>
     simp only [ZHe,ZGc,Option.some.injEq] at h2;subst h2;have:z=y:=by simpa using h3.symm
     subst this;exact hkeep.rs hy
   | j+2,h2,h3=>simp at h2
  ·have:b≠g:=λe=>h2 (hm.ok.apart j KB e2 _ g h3 hB (e ▸ h4) rfl);exact⟨by simpa using this,by simpa [Ent.blk] using λe=>this e.symm⟩
 ·obtain rfl:=hx.pbox_inv;refine(ubUsed g w c0').mono ?_
  rintro e w' ⟨rfl,rfl⟩
  have he:upd σ KB (some (.box g 221 [.pbox KB g 0,c1] false))=σ:=by
   funext k
   rw [Zaq];split
   ·rename_i h;rw [h,hB]
   ·rfl
  exact⟨.tup [],_,imm,_,rfl,⟨rfl,rfl⟩,.pure (.tup [] #[] rfl λj a x h1 _=>by simp at h1),by rw [he];exact hm,Keeps.refl _ _⟩
theorem ZBy (σ:Mem) (KB KT g:Nat) (sv:Value) (c0:AV) (l:List UInt8) (hB:σ KB=some (.box g 221 [c0,.own KT sv] false)) (hT:σ KT=some (.row sv 5 1 (l.map λb=>.v (.int .u8 b.toNat)) 0)) (h0:l≠[]) :
 ACall prog 223 [.pbox KB g 0] σ λr σ'=>r=.v (.string ⟨l.toArray⟩)∧σ'=upd σ KT none:=by
 refine⟨call223,λc w imm vs hm hl hr=>?_⟩;obtain rfl:=ubVs hl hr;obtain⟨cur,hh,hBg,hlen,hone,hrs,hp,hq⟩:=hm.ok.ent KB _ hB;obtain⟨x,y,rfl⟩:=ubCur hlen;have hy:=hrs 1 _ y rfl rfl;obtain rfl:=hy.own_inv;obtain⟨xs,hown,-,-,hrd,-,hpi,-⟩:=hm.ok.ent KT _ hT;have hl0:l.length≠0:=by simpa using h0
 have hll:(l.map λb=>AV.v (.int .u8 b.toNat)).length=l.length:=ZCj ..;rw [hll] at hown;rcases hown.2 with⟨_,h2⟩ | ⟨gr,cap,cur,rfl,hBr,hhr,hnc,hcm,hcs,htake⟩
 ·exact absurd h2 hl0
 have hxs:∀(j:Nat) (z:UInt8),l[j]?=some z→xs[j]?=some (Value.int .u8 z.toNat):=λj z hz=>by
  have hj:j < xs.length:=by rw [hown.1,ZFa];exact(List.getElem?_eq_some_iff.1 hz).1
  have:=hrd j (.v (.int .u8 z.toNat)) xs[j] (by rw [Zwg l λb:UInt8=>(.int .u8 b.toNat:Value),ZDn,hz];rfl) (ZCs hj);have:=(Rs.pure this).v_inv;rw [ZCs hj,this]
 refine(ubString g gr cap x cur l w hh hhr h0 hnc hcm (by rw [hcs,ZFa]) λj z hz=>?_).mono ?_
 ·have hj:=(List.getElem?_eq_some_iff.1 hz).1;have:=hown.cellAt j zo;rw [ZD5,ZC9,this,hxs j z hz]
 ·rintro e w' ⟨rfl,rfl⟩
  have hgr:w.grownBy (w.drew.freeze ⟨gr,0,none⟩ l.length) (some gr):=by
   have:=Zql w.drew gr l.length;exact⟨this.os,this.tape,this.output,this.size,this.block⟩
  have hdw:w.drawn≤w.drew.drawn:=Nat.le_succ w.drawn;have hcell:∀ad,imm ad→(w.drew.freeze ⟨gr,0,none⟩ l.length).cell? ad=w.cell? ad:=λad _=>by rw [Zsq];rfl
  obtain⟨h1,h2⟩:=mem_drop hm hgr (by have h1:(w.drew.freeze ⟨gr,0,none⟩ l.length).drawn=w.drew.drawn:=by unfold World.freeze;(repeat' split)<;>rfl
                                     rw [h1];exact hdw) (λg' hg'=>by cases hg';exact hBr) hcell KT λj e2 b h2 h3 h4 he=>h2 (hm.ok.apart j KT e2 _ gr h3 hT (by cases he;exact h4) rfl)
  exact⟨_,_,imm,_,rfl,⟨rfl,rfl⟩,.pure (.v _),h1,h2⟩
end Go.Proofs.YtpkcophcldjboaaGreatDoor
namespace Go.Proofs.YtpkcophcldjboaaGreatDoor
open Go Go.RowKit Go.Pg Go.Proofs.Tryz
attribute [-bool_to_prop] Bool.and_eq_decide Bool.or_eq_decide Bool.decide_beq_decide decide_eq_decide
attribute [go_sem] underlying221 underlying219 underlying49 szBld zBld szSl8 zSl8 szPB zPB
def by8 (b:UInt8):AV:=.v (.int .u8 b.toNat)
theorem bldLen (σ:Mem) (KB KT g:Nat) (sv:Value) (c0:AV) (l:List UInt8) (hB:σ KB=some (.box g 221 [c0,.own KT sv] false)) (hT:σ KT=some (.row sv 5 1 (l.map by8) 0)) :
 ACall prog 221 [.pbox KB g 0] σ λr σ'=>r=iv l.length∧σ'=σ:=by
 have mB:=Zcq hB;have mT:=Zcq hT;simp only [Ent.sh,AV.shL,AV.sh] at mB mT;have hl:(l.map by8).length=l.length:=ZCj ..;refine Zd3 func221 rfl ntmps221 results221 call221 zr zs ?_;generalize l.map by8=L at *
 (refine wkap (w_3 mB mT hl) w_t (w_r 0) (w_s ?_);intros)
 simp (disch:=omega) only [go_sem];exact Zwy (Sub.refl _) ⟨rfl,rfl⟩ (Agr.start σ)
theorem bldWrite (σ:Mem) (KB KT g:Nat) (sv:Value) (c0:AV) (l:List UInt8) (b:UInt8) (hB:σ KB=some (.box g 221 [c0,.own KT sv] false)) (hT:σ KT=some (.row sv 5 1 (l.map by8) 0))
 (h0:c0=.v (.pointer none)∨c0=.pbox KB g 0) (n2:KB≠KT) (hl:l.length≤100000000) :
 ACall prog 222 [.pbox KB g 0,by8 b] σ λr σ'=>∃sv',r=.v .nilIface∧σ'=upd (upd σ KT (some (.row sv' 5 1 ((l++[b]).map by8) 0))) KB (some (.box g 221 [.pbox KB g 0,.own KT sv'] false)):=by
 have mB:=Zcq hB;have mT:=Zcq hT;simp only [Ent.sh,AV.shL,AV.sh] at mB mT;have hl1:(l.map by8).length=l.length:=ZCj ..;rw [ZDd];have hcc:=bldCheck (Zeb σ) (KB+1000) g c0.sh (.own (KT+1000) sv) mB (by rcases h0 with rfl | rfl;exact .inl rfl;exact .inr rfl);refine Zd3 func222 rfl ntmps222 results222 call222 zr zs ?_;generalize l.map by8=L at *;have hb8:by8 b=.v (.int .u8 b.toNat):=rfl;rw [hb8];simp only [AV.shL,AV.sh]
 (refine wkap (w_3 mB mT hl1) w_t (w_r 0) (w_s ?_);intros)
 refine Zg6 hcc ?_
 (refine wkap (w_2 mT hl1) w_t (w_r 0) (w_s ?_);intros)
 simp (disch:=omega) only [go_sem];rename_i x1 x2;refine Zwy (Sub.refl _) ⟨x2,rfl,rfl⟩ ?_;have he:∀a c d:Option Ent,upd (upd σ KT a) KB d=upd (upd (upd σ KB c) KT a) KB d:=λa c d=>by
  funext j
  simp only [Zaq];by_cases h:j=KB
  ·rw [ZCh h,ZCh h]
  ·rw [ZCg h,ZCg h,ZCg h]
 rw [he _ (some (.box g 221 [.pbox KB g 0,.own KT sv] false)) _];refine Agr.put ?_ rfl rfl;refine Agr.put ?_ rfl rfl;refine Agr.own ?_ zo;refine Agr.put ?_ rfl rfl;exact Agr.start σ
end Go.Proofs.YtpkcophcldjboaaGreatDoor
namespace Go.Proofs.YtpkcophcldjboaaGreatDoor
open Go Go.RowKit Go.Pg Go.Proofs.Tryz
def digF:Nat→Nat→List UInt8
 | 0,_=>[]
 | f+1,n=>if n=0 then [] else digF f (n/10)++[UInt8.ofNat (48+n%10)]
def dig (n:Nat):List UInt8:=digF n n
theorem Zqs:∀(f g n:Nat),n≤f→n≤g→digF f n=digF g n
 | 0,0,_,_,_=>rfl
 | 0,g+1,n,h,_=>by
   have:n=0:=zo;subst this;rfl
 | f+1,0,n,_,h=>by
   have:n=0:=zo;subst this;rfl
 | f+1,g+1,n,h1,h2=>by
   unfold digF;by_cases h:n=0
   ·rw [ZCh h,ZCh h]
   ·rw [ZCg h,ZCg h,Zqs f g _ zo zo]
theorem Zu4:dig 0=[]:=rfl
theorem Zko {n:Nat} (h:n≠0):dig n=dig (n/10)++[UInt8.ofNat (48+n%10)]:=by
 obtain⟨m,rfl⟩:∃m,n=m+1:=⟨n - 1,zo⟩;show digF (m+1) (m+1)=_;rw [digF,ZCg h];rw [Zqs m ((m+1)/10) _ zo zo];rfl
theorem Zu5 {n:Nat}:(dig n).length=0↔n=0:=by
 constructor
 ·intro h;rcases ZDr n with h1 | h1
  ·exact h1
  ·rw [Zko zo] at h;simp at h
 ·rintro rfl;rfl
theorem ZBg:∀{k n:Nat},n < 10 ^ k→(dig n).length≤k
 | 0,n,h=>by
   have:n=0:=by simpa using h
   subst this;simp [Zu4]
 | k+1,n,h=>by
   rcases ZDr n with h1 | h1
   ·subst h1;simp [Zu4]
   ·rw [Zko zo,ZDa];have:=ZBg (k:=k) (n:=n/10) (by rw [ZDk] at h;omega);simp only [ZCu,ZC6];omega
theorem dig_lg (n:Nat):(dig n).length≤5*(toL n).length:=by
 refine ZBg ?_;have h1:=Zaf.1 (ZCi ((toL n).length))
 have h3:65536 ^ (toL n).length≤10 ^ (5*(toL n).length):=by
  rw [Nat.pow_mul];exact ZIc zd _
 omega
theorem decB_dig:∀(n:Nat) (s:ByteArray),decB n n s=⟨(dig n).toArray⟩++s:=by
 intro n
 induction n using Nat.strongRecOn with
 | ind n ih =>
   intro s;rcases ZDr n with h | h
   ·subst h;show s=ByteArray.empty++s;rw [ByteArray.empty_append]
   ·rw [ZBj zo,ih (n/10) zo,Zko (n:=n) zo,←ByteArray.append_assoc];congr 1
theorem decS_dig {n:Nat} (h:n≠0):decS n=⟨(dig n).toArray⟩:=by
 unfold decS;rw [ZCg h,decB_dig,ByteArray.append_empty]
def g4F:Nat→Nat→List Nat
 | 0,_=>[]
 | f+1,n=>if n=0 then [] else n%10000 :: g4F f (n/10000)
def g4 (n:Nat):List Nat:=g4F n n
theorem Zuy:∀(f g n:Nat),n≤f→n≤g→g4F f n=g4F g n
 | 0,0,_,_,_=>rfl
 | 0,g+1,n,h,_=>by
   have:n=0:=zo;subst this;rfl
 | f+1,0,n,_,h=>by
   have:n=0:=zo;subst this;rfl
 | f+1,g+1,n,h1,h2=>by
   unfold g4F;by_cases h:n=0
   ·rw [ZCh h,ZCh h]
   ·rw [ZCg h,ZCg h,Zuy f g _ zo zo]
theorem ZAq {n:Nat} (h:n≠0):g4 n=n%10000 :: g4 (n/10000):=by
 obtain⟨m,rfl⟩:∃m,n=m+1:=⟨n - 1,zo⟩;show g4F (m+1) (m+1)=_;rw [g4F,ZCg h];rw [Zuy m ((m+1)/10000) _ zo zo];rfl
theorem ZBf (n i:Nat):n/10000 ^ (i+1)=n/10000/10000 ^ i:=by
 rw [ZDk,ZDh,ZHj]
theorem Zu3 (n i:Nat):n/10000 ^ (i+1)=n/10000 ^ i/10000:=by
 rw [ZDk,ZHj]
theorem Zwf:∀(i n:Nat),i < (g4 n).length↔n/10000 ^ i≠0
 | i,n=>by
   rcases ZDr n with h | h
   ·subst h;simp [g4,g4F]
   ·rw [ZAq zo,ZCu]
    cases i with
    | zero=>simp;omega
    | succ i=>rw [ZBf,←Zwf i (n/10000)];omega
theorem ZAr:∀(i n:Nat) (h:i < (g4 n).length),(g4 n)[i]=n/10000 ^ i%10000
 | i,n,h=>by
   have h0:n≠0:=by rintro rfl;simp [g4,g4F] at h
   have e:=ZAq h0;have e2:(g4 n)[i]?=(n%10000 :: g4 (n/10000))[i]?:=by rw [e]
   rw [ZCs h] at e2
   cases i with
   | zero =>
     simp only [ZGc,Option.some.injEq] at e2;rw [e2];simp
   | succ i =>
     have h2:i < (g4 (n/10000)).length:=by rw [e,ZCu] at h;omega
     rw [ZHe,ZCs h2,Option.some.injEq,ZAr i _ h2,←ZBf] at e2;exact e2
theorem g4_len (n:Nat):(g4 n).length≤5*(toL n).length:=by
 rcases ZDr (g4 n).length with h | h
 ·omega
 ·have h0:=(Zwf ((g4 n).length - 1) n).1 zo;generalize (g4 n).length=L at *;have h1:=Zaf.1 (ZCi ((toL n).length))
  have h3:65536 ^ (toL n).length≤10000 ^ (2*(toL n).length):=by
   rw [Nat.pow_mul];exact ZIc zd _
  have h4:10000 ^ (L - 1)≤n:=by
   rcases ZC5 n (10000 ^ (L - 1)) with h5 | h5
   ·exact absurd (ZHk h5) h0
   ·exact h5
  have h5:10000 ^ (L - 1) < 10000 ^ (2*(toL n).length):=zo;have:=(Nat.pow_lt_pow_iff_right (by decide:1 < 10000)).1 h5;omega
end Go.Proofs.YtpkcophcldjboaaGreatDoor
namespace Go.Proofs.YtpkcophcldjboaaGreatDoor
open Go Go.RowKit Go.Pg Go.Proofs.Tryz
attribute [-bool_to_prop] Bool.and_eq_decide Bool.or_eq_decide Bool.decide_beq_decide decide_eq_decide
def w16 (x:Nat):AV:=.v (.int .u16 (x:Int))
theorem g4_take {n i:Nat} (h:n/10000 ^ i≠0):((g4 n).take (i+1)).map w16=((g4 n).take i).map w16++[.v (.int .u16 ((n/10000 ^ i%10000:Nat):Int))]:=by
 have hi:=(Zwf i n).2 h;rw [ZFp,ZCs hi,ZAr i n hi,ZDd];rfl
theorem g4_all {n i:Nat} (hi:i≤(g4 n).length) (h:n/10000 ^ i=0):i=(g4 n).length:=by
 rcases ZC5 i (g4 n).length with h1 | h1
 ·exact absurd h ((Zwf i n).1 h1)
 ·omega
theorem dig_w8 (x:Nat) (h:x < 10):by8 (UInt8.ofNat (48+x))=.v (.int .u8 ((48+x:Nat):Int)):=by
 unfold by8;rw [show(UInt8.ofNat (48+x)).toNat=48+x from(UInt8.toNat_ofNat' ..).trans zo]
def dl:Nat→Nat
 | 0=>1000 | 1=>100 | 2=>10 | 3=>1 | _=>0
def vl (V g:Nat):Nat→Nat
 | 0=>V | 1=>(V*10000+g)/1000 | 2=>(V*10000+g)/100 | 3=>(V*10000+g)/10 | _=>V*10000+g
theorem vl_step {V g j:Nat} (hg:g < 10000) (hj:j < 4):vl V g (j+1)=vl V g j*10+g/dl j%10∧(vl V g j=0→V=0)∧(vl V g j=0→(vl V g (j+1)=0↔g < dl j))∧dl j/10=dl (j+1)∧0 < dl j∧dl j≤1000∧vl V g j≤V*10000+g:=by
 match j,hj with
 | 0,_=>(show(V*10000+g)/1000=V*10+g/1000%10∧(V=0→V=0)∧(V=0→((V*10000+g)/1000=0↔g < 1000))∧1000/10=100∧0 < 1000∧1000≤1000∧V≤V*10000+g;omega)
 | 1,_=>(show(V*10000+g)/100=(V*10000+g)/1000*10+g/100%10∧((V*10000+g)/1000=0→V=0)∧((V*10000+g)/1000=0→((V*10000+g)/100=0↔g < 100))∧100/10=10∧0 < 100∧100≤1000∧(V*10000+g)/1000≤V*10000+g;omega)
 | 2,_=>(show(V*10000+g)/10=(V*10000+g)/100*10+g/10%10∧((V*10000+g)/100=0→V=0)∧((V*10000+g)/100=0→((V*10000+g)/10=0↔g < 10))∧10/10=1∧0 < 10∧10≤1000∧(V*10000+g)/100≤V*10000+g;omega)
 | 3,_=>(show V*10000+g=(V*10000+g)/10*10+g/1%10∧((V*10000+g)/10=0→V=0)∧((V*10000+g)/10=0→(V*10000+g=0↔g < 1))∧1/10=0∧0 < 1∧1≤1000∧(V*10000+g)/10≤V*10000+g;omega)
theorem dig_next {v x:Nat} (h:v*10+x≠0) (hx:x < 10):dig (v*10+x)=dig v++[UInt8.ofNat (48+x)]:=by
 rw [Zko h,show(v*10+x)/10=v from by omega,show(v*10+x)%10=x from by omega]
theorem Zzv (n:Nat) (hn:(toL n).length≤10000000):Pure prog 176 [lim (toL n)] (.v (.string (decS n))):=by
 have cn:=Zp4 n zo;by_cases h0:n=0
 ·subst h0;have l0:(toL 0).length=0:=by rw [Zaz];rfl
  refine pI func176 rfl ntmps176 results176 call176 ?_
  (refine wkvp (w_2 l0 @ZEo) (w_1 cn) (w_s ?_);intros)
  simp (disch:=omega) only [go_sem];rfl
 ·have hp:=Zbc.2 (ZEe h0);have hG:=g4_len n;have hD:=decS_dig h0;rw [hD];refine pI func176 rfl ntmps176 results176 call176 ?_
  (refine wkvp w_t (w_1 cn) (w_s ?_);intros)
  refine Zdj (Frz.nilOwn (d:=3) 500 1 128 (gC)) ?_;refine Zad (ι:=Nat) (λi e m=>i≤(g4 n).length∧e 0=lim (toL (n/10000 ^ i))∧∃sv,e 3=.own 500 sv∧m 500=some (.row sv 128 1 (((g4 n).take i).map w16) 0)) (λi=>(g4 n).length - i) 0 zr ?_ ?_
  ·rintro i e m ⟨hi,e0,sv,e3,m500⟩
   have hlr:(((g4 n).take i).map w16).length≤100000000:=by rw [ZCj,ZCz];omega
   by_cases hk0:n/10000 ^ i=0
   ·have hiL:=g4_all hi hk0;rw [hk0] at e0;subst hiL;rw [ZDu] at m500;clear hlr;have l0:(toL 0).length=0:=by rw [Zaz];rfl
    have hGl:((g4 n).map w16).length=(g4 n).length:=ZCj ..;have hGp:0 < (g4 n).length:=(Zwf 0 n).2 (by simpa using h0);have gg:∀i (h:i < (g4 n).length),((g4 n).map w16).getD i .u=.v (.int .u16 ((n/10000 ^ i%10000:Nat):Int)):=λi h=>by
     rw [Zak w16 h,ZAr i n h];rfl
    generalize (g4 n).map w16=W at *
    (refine wkvp (w_6 e0 e3 m500 l0 @ZEo hGl) w_t (w_s ?_);intros)
    rename_i gB;refine Zdj (Frz.nilBox (k:=6) 1 501 1 5 (gC) rfl zo) ?_;refine Zad (ι:=Nat) (λi e m=>i≤(g4 n).length∧(e 3=.own 500 sv∧e 6=.pbox 6 gB 0∧e 7=.v (.int .i64 (((g4 n).length:Int) - 1 - (i:Int)))∧m 500=some (.row sv 128 1 W 0))∧∃c0 sv2,m 6=some (.box gB 221 [c0,.own 501 sv2] false)∧(c0=.v (.pointer none)∨c0=.pbox 6 gB 0)∧m 501=some (.row sv2 5 1 ((dig (n/10000 ^ ((g4 n).length - i))).map by8) 0)) (λi=>(g4 n).length - i) 0 zr ?_ ?_
    ·rintro i e m ⟨hi,⟨e3,e6,e7,m500⟩,c0,sv2,m6,hc0,m501⟩
     by_cases hlt:i < (g4 n).length
     ·obtain⟨p,hp⟩:∃p,(g4 n).length=p+1+i:=⟨(g4 n).length - 1 - i,zo⟩;have ggp:=gg p zo;have hV:n/10000 ^ ((g4 n).length - i)=n/10000 ^ p/10000:=by rw [show(g4 n).length - i=p+1 from by omega,Zu3]
      have hV2:n/10000 ^ ((g4 n).length - (i+1))=n/10000 ^ p:=by rw [show(g4 n).length - (i+1)=p from by omega]
      have hT:n/10000 ^ p/10000*10000+n/10000 ^ p%10000=n/10000 ^ p:=zo;have hle:n/10000 ^ p≤n:=ZGp _ _;have e7:e 7=iv p:=by rw [e7];congr 2;omega
      have hgl:n/10000 ^ p%10000 < 10000:=ZD3 _ zo;rw [hV] at m501;clear gg hV;generalize n/10000 ^ p%10000=g at *;generalize hVe:n/10000 ^ p/10000=V at *
      (refine wkap (w_7 e3 e6 e7 m500 m6 m501 hGl) w_t (w_r 0) (w_s ?_);intros)
      refine Zad (ι:=Nat) (λj e m=>j≤4∧(e 3=.own 500 sv∧e 6=.pbox 6 gB 0∧e 7=iv p∧e 8=.v (.int .u16 (dl j:Nat))∧m 500=some (.row sv 128 1 W 0))∧∃c0 sv2,m 6=some (.box gB 221 [c0,.own 501 sv2] false)∧(c0=.v (.pointer none)∨c0=.pbox 6 gB 0)∧m 501=some (.row sv2 5 1 ((dig (vl V g j)).map by8) 0)) (λj=>4 - j) 0 zr ?_ ?_
      ·rintro j e m ⟨hj,⟨e3,e6,e7,e8,m500⟩,c0,sv2,m6,hc0,m501⟩
       by_cases hj4:j < 4
       ·obtain⟨s1,s2,s3,s4,s5,s6,s7⟩:=vl_step (V:=V) hgl hj4
        have hdl:(dig (vl V g j)).length≤100000000:=by
         have h1:=dig_lg (vl V g j);have h2:=Zc5 (n:=vl V g j) (m:=n) zo;omega
        have hdz:=Zu5 (n:=vl V g j);have hx:g/dl j%10 < 10:=ZD3 _ zo;have hdn:=dig_next (v:=vl V g j) (x:=g/dl j%10);rw [←s1] at hdn;obtain⟨v1,hv1⟩:∃v1,vl V g (j+1)=v1:=⟨_,rfl⟩;rw [hv1] at s1 s3 hdn;generalize vl V g j=v at *;generalize dl j=d at *
        have w0:IntKind.u16.wrap ((g/d:Nat):Int)=((g/d:Nat):Int):=by
         have:g/d≤g:=ZGp _ _;show((g/d:Nat):Int)%65536=_;generalize g/d=z at *;omega
        have w1:IntKind.u16.wrap (48+(((g/d:Nat):Int)).tmod 10)=((48+g/d%10:Nat):Int):=by
         rw [Int.tmod_eq_emod_of_nonneg (ZGd _)];show(48+((g/d:Nat):Int)%10)%65536=_;generalize g/d=z at *;omega
        have w3:IntKind.u16.wrap ((d:Int).tdiv 10)=((d/10:Nat):Int):=by
         rw [Int.tdiv_eq_ediv_of_nonneg (ZGd _)];show((d:Int)/10)%65536=_;omega
        have w2:IntKind.u8.wrap ((48+g/d%10:Nat):Int)=((48+g/d%10:Nat):Int):=by
         show(((48+g/d%10:Nat):Int))%256=_;omega
        have hb8:=dig_w8 (g/d%10) hx;have cl:=fun(m:Mem) a b=>bldLen m 6 501 gB sv2 c0 (dig v) a b;have cw:=fun(m:Mem) a b=>bldWrite m 6 501 gB sv2 c0 (dig v) (UInt8.ofNat (48+g/d%10)) a b hc0 zo hdl;rw [hb8] at cw
        (refine wkap (w_8 e3 e6 e7 e8 m500 m6 m501 hGl) w_t (w_r 0) (w_s ?_);intros)
        refine Zdp (cl _ (gW m6) (gW m501)) ?_
        rintro _ _ ⟨rfl,rfl⟩
        by_cases hv:v=0
        ·have hl0:=hdz.2 hv;by_cases hgd:g < d
         ·(refine wkap (w_16 e3 e6 e7 e8 m500 m6 m501 hGl ggp @Zdk w0 w1 w2 w3 hl0 @ZEo) w_t (w_r 0) (w_s ?_);intros)
          exact⟨j+1,⟨zo,⟨gW e3,gW e6,gW e7,by rw [←s4];exact gC,gW m500⟩,c0,sv2,gW m6,hc0,by rw [hv1,(s3 hv).2 hgd];rw [hv] at m501;exact gW m501⟩,zo⟩
         ·have hne:=λh=>hgd ((s3 hv).1 h)
          (refine wkap (w_16 e3 e6 e7 e8 m500 m6 m501 hGl ggp @Zdk w0 w1 w2 w3 hl0 @ZEo) w_t (w_r 0) (w_s ?_);intros)
          refine Zdp (cw _ (gW m6) (gW m501)) ?_
          rintro _ _ ⟨sv3,rfl,rfl⟩
          (refine wkap (w_7 e3 e6 e7 e8 m500 hGl w3) w_t (w_r 0) (w_s ?_);intros)
          exact⟨j+1,⟨zo,⟨gW e3,gW e6,gW e7,by rw [←s4];exact gC,gW m500⟩,.pbox 6 gB 0,sv3,gC,.inr rfl,by rw [hv1,hdn zo hx];exact gC⟩,zo⟩
        ·have hlp:0 < (dig v).length:=ZEe λh=>hv (hdz.1 h)
         (refine wkap (w_14 e3 e6 e7 e8 m500 m6 m501 hGl ggp @Zdk w0 w1 w2 w3) w_t (w_r 0) (w_s ?_);intros)
         refine Zdp (cw _ (gW m6) (gW m501)) ?_
         rintro _ _ ⟨sv3,rfl,rfl⟩
         (refine wkap (w_7 e3 e6 e7 e8 m500 hGl w3) w_t (w_r 0) (w_s ?_);intros)
         exact⟨j+1,⟨zo,⟨gW e3,gW e6,gW e7,by rw [←s4];exact gC,gW m500⟩,.pbox 6 gB 0,sv3,gC,.inr rfl,by rw [hv1,hdn zo hx];exact gC⟩,zo⟩
       ·have:j=4:=zo;subst this;have e8:e 8=.v (.int .u16 0):=e8;have h4:vl V g 4=n/10000 ^ p:=hT;rw [h4] at m501
        (refine wkap (w_8 e3 e6 e7 e8 m500 m6 m501 hGl) w_t (w_r 0) (w_s ?_);intros)
        exact⟨i+1,⟨zo,⟨gW e3,gW e6,by(simp (disch:=omega) only [go_sem,e7];congr 2;omega),gW m500⟩,c0,sv2,gW m6,hc0,by rw [hV2];exact gW m501⟩,zo⟩
      ·exact⟨zo,⟨gW e3,gW e6,gW e7,by show _=AV.v (.int .u16 1000);exact gC,gW m500⟩,c0,sv2,gW m6,hc0,by show _=some (Ent.row sv2 5 1 ((dig V).map by8) 0);exact gW m501⟩
     ·have:i=(g4 n).length:=zo;subst this;have e7:e 7=.v (.int .i64 (-1)):=by rw [e7];congr 2;omega
      rw [ZFz,ZGg,ZGa] at m501;have hne:dig n≠[]:=λh=>h0 (Zu5.1 (by rw [h];rfl));have cs:=fun(m:Mem) a (b:m 501=some (.row sv2 5 1 ((dig n).map by8) 0))=>ZBy m 6 501 gB sv2 c0 (dig n) a b hne
      (refine wkap (w_7 e3 e6 e7 m500 m6 m501 hGl) w_t (w_r 0) (w_s ?_);intros)
      refine Zdp (cs _ (gW m6) (gW m501)) ?_
      rintro _ _ ⟨rfl,rfl⟩
      (refine wkap w_t w_t (w_r 0) (w_s ?_);intros)
      all_goals simp (disch:=omega) only [go_sem]
    ·exact⟨ZCr _,⟨gW e3,gC,by(simp (disch:=omega) only [go_sem];congr 2;omega),gW m500⟩,.v (.pointer none),.slice none 0 0,gC,.inl rfl,by rw [ZFi,hk0];exact gC⟩
   ·have hkp:=Zbc.2 (ZEe hk0);have hilt:=(Zwf i n).2 hk0;have hlk:(toL (n/10000 ^ i)).length≤(toL n).length:=Zc5 (ZGp _ _);have ht:=g4_take hk0;have hdp:=Zu3 n i;have cb:=Zp3 (toL (n/10000 ^ i)) 10000 zo (Zar _) zo zo;rw [Zao,←hdp] at cb;clear hdp;generalize ((g4 n).take i).map w16=W at *;generalize n/10000 ^ i%10000=x at *;obtain⟨y,hy⟩:∃y,n/10000 ^ (i+1)=y:=⟨_,rfl⟩;rw [hy] at cb;generalize n/10000 ^ i=z at *
    (refine wkvp (w_3 e0 e3 m500) (w_1 cb) (w_s ?_);intros)
    exact⟨i+1,⟨zo,by rw [hy];exact gC,_,gC,by rw [ht];exact gC⟩,zo⟩
  ·exact⟨ZCr _,by rw [ZGg,ZGa];exact gC,_,gC,gC⟩
attribute [local go_sem] Zax Zay Zaw Zxn ZA3 List.append_eq
theorem intText (z:Int) (hz:(toL z.natAbs).length≤10000000):Pure prog 175 [intZ z] (.v (.string (decZ z))):=by
 have cs:=iSign z zo;have ct:=Zzv z.natAbs hz;have hs:=Zf8 z.natAbs;have h45:(Zgu [45]).size=1:=Zet _;unfold decZ;have e45:Zgu [45]=⟨#[45]⟩:=rfl;rw [e45] at h45 ⊢;generalize decS z.natAbs=s at *;by_cases h:z < 0
 ·rw [ZCh h];rw [ZGh h] at cs;rw [show intZ z=.agg [.v (.bool true),lim (toL z.natAbs)] from by unfold intZ intA;rw [ZCp h]] at *;refine pI func175 rfl ntmps175 results175 call175 ?_
  (refine wkvp (w_1 h45) (w_2 cs ct) (w_s ?_);intros)
  simp (disch:=omega) only [go_sem]
 ·rw [ZCg h];have h2:¬z.sign < 0:=by rw [Int.sign_neg_iff];exact h
  rw [show intZ z=.agg [.v (.bool false),lim (toL z.natAbs)] from by unfold intZ intA;rw [ZCq h]] at *;generalize z.sign=x at *;refine pI func175 rfl ntmps175 results175 call175 ?_
  (refine wkvp w_t (w_2 cs ct) (w_s ?_);intros)
  simp (disch:=omega) only [go_sem]
theorem ratText (q:Rat) {k:Nat} (h:Sz q k) (hk:k≤1000000):Pure prog 110 [ratQ q] (.v (.string (decQ q))):=by
 have cp:=Zgf q h zo;have h1:=h.1;have h2:=h.2;have cr:=Zeu (decide (q.num < 0)) q.num.natAbs q.den zo zo q.den_nz;rw [show zI (decide (q.num < 0)) q.num.natAbs=q.num from by unfold zI;by_cases hq:q.num < 0<;>simp [hq]<;>omega,ZGj] at cr;have co:=Zk9 q.den zo;have cz:=intText q.num zo;have cd:=Zzv q.den zo;have z1:=Zqt q.num;have z2:=Zf8 q.den;have e47:Zgu [47]=⟨#[47]⟩:=rfl;have h47:(Zgu [47]).size=1:=Zet _;rw [e47] at h47;unfold decQ;rw [e47];by_cases hd:q.den=1
 ·rw [ZCh hd];rw [ZCp hd] at co;generalize decZ q.num=s at *;refine pI func110 rfl ntmps110 results110 call110 ?_
  (refine wkad w_t (w_4 cp cr co cz) w_t (w_s ?_);intros)
  simp (disch:=omega) only [go_sem]
 ·rw [ZCg hd];rw [ZCq hd] at co;generalize decZ q.num=s at *;generalize decS q.den=t at *;have h3:(s++⟨#[47]⟩:ByteArray).size=s.size+1:=by rw [ZEt,h47]
  refine pI func110 rfl ntmps110 results110 call110 ?_
  (refine wkad (w_2 h47 h3) (w_5 cp cr co cz cd) (w_1 (w_d 5 [(2,.v (.string s)),(6,.v (.string t))] [] [])) (w_s ?_);intros)
  simp (disch:=omega) only [go_sem]
end Go.Proofs.YtpkcophcldjboaaGreatDoor
namespace Go.Proofs.YtpkcophcldjboaaGreatDoor
open Go Go.RowKit Go.Pg Go.Pol Go.Proofs.Tryz
def tS (ss:List ByteArray) (p:List Qt) (s0:ByteArray):Nat→ByteArray
 | 0=>s0
 | i+1=>(if (tS ss p s0 i).size=0 then tS ss p s0 i else tS ss p s0 i++⟨#[42]⟩)++(p.getD i Qt.zero).txt ss
def chkP (n:Int):List Qt→Int
 | []=>0
 | q :: l=>if Qt.chk q n 64=0 then chkP n l else Qt.chk q n 64
def absR (a:Rat):Rat:=if a.num < 0 then -a else a
def tTxt (ss:List ByteArray) (t:Rat × List Qt):ByteArray:=tS ss t.2 (if t.2.length≠0∧absR t.1=1 then ⟨#[]⟩ else decQ (absR t.1)) t.2.length
def eS (ss:List ByteArray) (l:QTs):Nat→ByteArray
 | 0=>⟨#[]⟩
 | i+1=>(if i=0 then (if (l.getD i (0,[])).1.num < 0 then ⟨#[45]⟩ else ⟨#[]⟩) else eS ss l i++(if (l.getD i (0,[])).1.num < 0 then ⟨#[32,45,32]⟩ else ⟨#[32,43,32]⟩))++tTxt ss (l.getD i (0,[]))
def chkE (n:Int):QTs→Int
 | []=>0
 | t :: l=>if chkP n t.2=0 then chkE n l else chkP n t.2
def eTxt (ss:List ByteArray) (l:QTs):ByteArray:=if l.length=0 then ⟨#[48]⟩ else eS ss l l.length
theorem Zu9 {n:Int}:∀{p:List Qt},(∀j (h:j < p.length),Qt.chk p[j] n 64=0)→chkP n p=0
 | [],_=>rfl
 | q :: l,h=>by
   have h0:Qt.chk q n 64=0:=h 0 zs;unfold chkP;rw [ZCh h0];exact Zu9 λj hj=>h (j+1) (by simpa using hj)
theorem ZBq {n:Int}:∀{p:List Qt} {i:Nat} (hi:i < p.length),(∀j (h:j < p.length),j < i→Qt.chk p[j] n 64=0)→Qt.chk p[i] n 64≠0→chkP n p=Qt.chk p[i] n 64
 | q :: l,0,_,_,h2=>by
   have h2:Qt.chk q n 64≠0:=h2;unfold chkP;rw [ZCg h2];rfl
 | q :: l,i+1,hi,h,h2=>by
   have h0:Qt.chk q n 64=0:=h 0 zs zo;unfold chkP;rw [ZCh h0];exact ZBq (by simpa using hi) (λj hj hji=>h (j+1) (by simpa using hj) zo) h2
theorem Zva {n:Int}:∀{l:QTs},(∀j (h:j < l.length),chkP n l[j].2=0)→chkE n l=0
 | [],_=>rfl
 | q :: l,h=>by
   have h0:chkP n q.2=0:=h 0 zs;unfold chkE;rw [ZCh h0];exact Zva λj hj=>h (j+1) (by simpa using hj)
theorem ZBr {n:Int}:∀{l:QTs} {i:Nat} (hi:i < l.length),(∀j (h:j < l.length),j < i→chkP n l[j].2=0)→chkP n l[i].2≠0→chkE n l=chkP n l[i].2
 | q :: l,0,_,_,h2=>by
   have h2:chkP n q.2≠0:=h2;unfold chkE;rw [ZCg h2];rfl
 | q :: l,i+1,hi,h,h2=>by
   have h0:chkP n q.2=0:=h 0 zs zo;unfold chkE;rw [ZCh h0];exact ZBr (by simpa using hi) (λj hj hji=>h (j+1) (by simpa using hj) zo) h2
theorem txt_pos (q:Qt) (ss:List ByteArray):0 < (q.txt ss).size:=by
 unfold Qt.txt;split<;>simp only [ZEt]<;>(have:(⟨#[41]⟩:ByteArray).size=1:=rfl;omega)
theorem txt_size (q:Qt) (ss:List ByteArray) (hs:∀s∈ss,s.size≤1000) (ha:q.a < 64):(q.txt ss).size≤4000:=by
 have h1:=Zgd hs q.a.toNat;have h2:=Zgd hs q.b.toNat;have h3:=Zgd hs q.c.toNat;have z:=Zf8 q.a.toNat;have zl:(toL q.a.toNat).length≤1:=Zaf.2 zo;have s1:(⟨#[83,40]⟩:ByteArray).size=2:=rfl;have s2:(⟨#[80,40]⟩:ByteArray).size=2:=rfl;have s3:(⟨#[44,32]⟩:ByteArray).size=2:=rfl;have s4:(⟨#[41]⟩:ByteArray).size=1:=rfl;have s5:(⟨#[116,40]⟩:ByteArray).size=2:=rfl;unfold Qt.txt;split
 ·simp only [ZEt];omega
 ·split<;>simp only [ZEt]<;>omega
theorem ZBo {q:Qt} {n:Int} (ss:List ByteArray) (hs:∀s∈ss,s.size≤1000) (h:Qt.chk q n 64=0):(q.txt ss).size≤4000:=by
 unfold Qt.txt;by_cases hk:q.k=3
 ·have ha:q.a < 64:=by
   rcases ZBp (k:=q.k) (a:=q.a) (b:=q.b) (c:=q.c) h with h1 | h1
   ·exact h1.2.2.1
   ·exact absurd hk h1.1
  exact txt_size q ss hs ha
 ·have h1:=Zgd hs q.a.toNat;have h2:=Zgd hs q.b.toNat;have h3:=Zgd hs q.c.toNat;have s1:(⟨#[83,40]⟩:ByteArray).size=2:=rfl;have s2:(⟨#[80,40]⟩:ByteArray).size=2:=rfl;have s3:(⟨#[44,32]⟩:ByteArray).size=2:=rfl;have s4:(⟨#[41]⟩:ByteArray).size=1:=rfl;rw [ZCg hk];split<;>simp only [ZEt]<;>omega
theorem tS_pos (ss:List ByteArray) (p:List Qt) (s0:ByteArray) (i:Nat) (h:0 < i):0 < (tS ss p s0 i).size:=by
 obtain⟨j,rfl⟩:∃j,i=j+1:=⟨i - 1,zo⟩;unfold tS;rw [ZEt];have:=txt_pos (p.getD j Qt.zero) ss;omega
theorem Zxl {ss:List ByteArray} {p:List Qt} {s0:ByteArray} {n:Int} (hs:∀s∈ss,s.size≤1000) {i:Nat} (hi:i≤p.length) (h:∀j (h:j < p.length),j < i→Qt.chk p[j] n 64=0):(tS ss p s0 i).size≤s0.size+i*4001:=by
 induction i with
 | zero=>unfold tS;omega
 | succ i ih =>
   have h1:=ih zo λj hj hji=>h j hj zo;have h2:=ZBo ss hs (h i zo zo);have e:p.getD i Qt.zero=p[i]:=by rw [ZCx,ZCs zo];rfl
   unfold tS;rw [ZEt,e];have s1:(⟨#[42]⟩:ByteArray).size=1:=rfl;split
   ·omega
   ·rw [ZEt];omega
theorem Zqu {q:Rat} {k:Nat} (h:Sz q k):(decQ q).size≤10*k+4:=by
 have h1:=h.1;have h2:=h.2;have z1:=Zqt q.num;have z2:=Zf8 q.den;have h47:(Zgu [47]).size=1:=Zet _;unfold decQ;split
 ·omega
 ·rw [ZEt,ZEt];omega
theorem Zow {q:Rat} {k:Nat} (h:Sz q k):Sz (absR q) k:=by
 unfold absR;split
 ·exact⟨by rw [show(-q).num=-q.num from rfl,ZHn];exact h.1,h.2⟩
 ·exact h
theorem ZCb (q:Rat):ratQ (absR q)=.agg [.v (.bool false),lim (toL q.num.natAbs),lim (toL q.den)]:=by
 unfold absR;split
 ·rename_i h;unfold ratQ;rw [show(-q).num=-q.num from rfl,show(-q).den=q.den from rfl,ZHn,ZCq zo]
 ·rename_i h;unfold ratQ;rw [ZCq h]
end Go.Proofs.YtpkcophcldjboaaGreatDoor
namespace Go.Proofs.YtpkcophcldjboaaGreatDoor
open Go Go.RowKit Go.Pg Go.Pol Go.Proofs.Tryz
attribute [-bool_to_prop] Bool.and_eq_decide Bool.or_eq_decide Bool.decide_beq_decide decide_eq_decide
attribute [local go_sem] Zaw Zay Zax Zah Zap Zai Bool.and_self Zal Za8 Zba Zo5 Zjx Zoy Zo6 Zbg List.append_eq
theorem ratNegN (a:Rat) {k:Nat} (h:Sz a k) (hk:k≤1000000) (h0:a.num < 0):Pure prog 109 [ratQ a] (.agg [.v (.bool false),lim (toL a.num.natAbs),lim (toL a.den)]):=by
 have cp:=Zgf a h zo;have h1:=h.1;have h2:=h.2;have cr:=Zeu false a.num.natAbs a.den zo zo a.den_nz
 have e:mkRat (zI false a.num.natAbs) a.den=-a:=by
  rw [show zI false a.num.natAbs=-a.num from by simp only [zI];simp;omega,←Rat.neg_mkRat,ZGj]
 have e2:absR a=-a:=by unfold absR;rw [ZCh h0]
 rw [e,←e2,ZCb] at cr;have e3:ratQ a=.agg [.v (.bool true),lim (toL a.num.natAbs),lim (toL a.den)]:=by unfold ratQ;rw [ZCp h0]
 have e4:intZ a.num=.agg [.v (.bool true),lim (toL a.num.natAbs)]:=by unfold intZ intA;rw [ZCp h0]
 have e5:intA false a.num.natAbs=.agg [.v (.bool false),lim (toL a.num.natAbs)]:=rfl;rw [e3,e4] at cp;rw [e5] at cr;rw [e3];clear e e2 e3 e4 e5;refine pI func109 rfl ntmps109 results109 call109 ?_
 (refine wkvp w_t (w_2 cp cr) (w_s ?_);intros)
 simp (disch:=omega) only [go_sem]
theorem Zeg {α:Type} {l:List α} {i:Nat} {d:α} (h:i < l.length):l.getD i d=l[i]:=by
 rw [ZCx,ZCs h];rfl
theorem exTerm (a:Rat) (p:List Qt) (ss:List ByteArray) (hl:ss.length≤1000000000) (hs:∀s∈ss,s.size≤1000) (hp:p.length≤1000) {k:Nat} (ha:Sz a k) (hk:k≤1000000) :
 Pure prog 50 [qtA (a,p),.sl 1 (ss.map strA)] (if chkP ss.length p=0 then .tup [strA (tTxt ss (a,p)),iv 0] else .tup [strA ⟨#[]⟩,iv (chkP ss.length p)]):=by
 have cs:=Ze1 a ha zo;have cn:=ratNegN a ha hk;have cx:=ratText (absR a) (Zow ha) hk;have c1:Pure prog 56 [iv 1] (ratQ 1):=Zvw 1 zo;have ce:=ratEqual (absR a) 1 (Zow ha) (k:=1) ⟨by show(toL 1).length≤1;rw [Zc8];omega,by show(toL 1).length≤1;rw [Zc8];omega⟩ hk zo;have hz:=Zqu (Zow ha);have hpl:(p.map Qt.av).length=p.length:=ZCj ..;have hq:∀i (h:i < p.length),(p.map Qt.av).getD i .u=Qt.av p[i]:=λi h=>Zak Qt.av h;have hx:tTxt ss (a,p)=tS ss p (if p.length≠0∧absR a=1 then ⟨#[]⟩ else decQ (absR a)) p.length:=rfl;have e0:decide (a.num.sign < 0)=decide (a.num < 0):=by rw [ZCl];exact Int.sign_neg_iff
 rw [ZCb] at cx ce;rw [hx,show qtA (a,p)=.agg [.v (.bool (decide (a.num < 0))),lim (toL a.num.natAbs),lim (toL a.den),.sl 4 (p.map Qt.av)] from rfl];have hne:(ratQ a)=.agg [.v (.bool (decide (a.num < 0))),lim (toL a.num.natAbs),lim (toL a.den)]:=rfl;rw [hne] at cs cn;have hng:decide (a.num < 0)=true→a.num < 0:=ZH1;have cn:=λh=>cn (hng h);generalize decide (a.num < 0)=sg at *;clear hng;generalize toL a.num.natAbs=An at *;generalize toL a.den=Ad at *;generalize hS:a.num.sign=sn at *;generalize decQ (absR a)=D at *;clear hS hx hne;have hemp:(⟨#[]⟩:ByteArray).size=0:=rfl;generalize hPA:p.map Qt.av=PA at *
 generalize hX:decide (absR a=1)=x at *;have hb:p.length=0→p=[]:=List.length_eq_zero_iff.1;have q1:∀c,chkP ss.length p=c→chkP ss.length p=c:=λ_ h=>h;have cq:∀i (h:i < p.length),Pure prog 112 [Qt.av p[i],.sl 1 (ss.map strA)] (if Qt.chk p[i] ss.length 64=0 then .tup [strA (p[i].txt ss),iv 0] else .tup [strA ⟨#[]⟩,iv (Qt.chk p[i] ss.length 64)]):=λi h=>quText p[i].k p[i].a p[i].b p[i].c ss hl hs;generalize ss.map strA=N at *;generalize hR:(if chkP ss.length p=0 then AV.tup [strA (tS ss p (if p.length≠0∧absR a=1 then ⟨#[]⟩ else D) p.length),iv 0] else .tup [strA ⟨#[]⟩,iv (chkP ss.length p)])=R at *
 refine pI func50 rfl ntmps50 results50 call50 ?_
 (refine wkvp w_t (w_1 cs) (w_s ?_);intros)
 refine r_cgX (λe m=>e 1=.sl 1 N∧(∃g2,e 2=.pbox 2 g2 0∧m 2=some (.box g2 57 [.v (.bool sg),lim An,lim Ad,.sl 4 PA] false))∧∃g6,e 6=.pbox 6 g6 0∧m 6=some (.box g6 54 [.v (.bool false),lim An,lim Ad] false)) ?_ ?_
 ·rw [e0]
  cases sg with
  | true =>
    have cn:=cn rfl;refine c_t ?_
    (refine wkad w_t (w_1 cn) w_t (w_s ?_);intros)
    exact⟨rfl,gC,⟨_,gC,gC⟩,_,gC,gC⟩
  | false =>
    refine c_f ?_
    (refine wkad w_t w_t w_t (w_s ?_);intros)
    exact⟨rfl,gC,⟨_,gC,gC⟩,_,gC,gC⟩
 ·rintro e m ⟨e1,⟨g2,e2,m2⟩,g6,e6,m6⟩
  by_cases hp0:p.length=0
  ·obtain rfl:=hb hp0;have hR:AV.tup [strA D,iv 0]=R:=hR;have hpl:PA.length=0:=hpl;rw [←hR]
   (refine wkax (w_7 e1 e2 m2 e6 m6 hpl @ZEo) (w_1 cx) (w_1 (w_d 5 [] [] [])) w_t w_t w_t w_y (w_r 1) (w_s ?_);intros)
   all_goals exact gL
  ·have hpp:0 < p.length:=ZEe hp0
   have hsx:(if p.length≠0∧absR a=1 then ⟨#[]⟩ else D:ByteArray)=if x=true then ⟨#[]⟩ else D:=by
    by_cases h1:absR a=1
    ·rw [ZCh ⟨hp0,h1⟩,ZCh (by rw [←hX];exact ZCp h1)]
    ·rw [ZCg (λh=>h1 h.2),ZCg (by rw [←hX,ZCq h1];decide)]
   rw [hsx] at hR;clear hsx;clear hX hb
   (repeat' (first|(with_reducible first|refine stp ?_|apply gx1|apply gx2|apply gx3|apply gx4|apply gx5|apply gx6|apply gx7|apply gy8|apply gz2|apply gz3|refine gw0 (cx) ?_ ?_|refine gw3 (cx) ?_ ?_ ?_|refine gw0 (c1) ?_ ?_|refine gw3 (c1) ?_ ?_ ?_|refine gw0 (ce) ?_ ?_|refine gw3 (ce) ?_ ?_ ?_)|(with_reducible refine Zcn ?_;intro _)|((with_reducible refine gE ?_);(try simp (disch:=omega) only [go_sem,e1,e2,m2,e6,m6,hpl])<;>first|rfl|omega)|with_reducible refine Zam zd ?_|((with_reducible apply gy1);iterate 3 focus rfl)|((with_reducible apply gy2);iterate 3 focus rfl)|((with_reducible apply gy3);iterate 2 focus rfl)|((with_reducible apply gy4);iterate 1 focus rfl)|((with_reducible apply gy5);iterate 4 focus rfl)|((with_reducible apply gy5c);iterate 4 focus rfl)|((with_reducible apply gy6);iterate 4 focus rfl)|((with_reducible apply Zlv);iterate 3 focus rfl)|((with_reducible apply Zlc);iterate 1 focus rfl)|((with_reducible apply gy7);iterate 1 focus rfl)|((with_reducible apply gy9);(focus ((with_reducible refine gE ?_);(try simp (disch:=omega) only [go_sem,e1,e2,m2,e6,m6,hpl])<;>rfl)))|((with_reducible apply gz1);(focus first|rfl|(simp (disch:=omega) only [go_sem,e1,e2,m2,e6,m6,hpl];done)))|((with_reducible apply Zcf (id:=5) (Zdv [(6,ratQ 1),(7,.v (.bool x))]) [] []);(focus kernel_rfl);(focus rfl);(focus kernel_rfl);(focus (simp only [ZCu,ZC6,Nat.reduceAdd];rfl)))))
   refine r_cgX (λe m=>e 1=.sl 1 N∧(e 2=.pbox 2 g2 0∧m 2=some (.box g2 57 [.v (.bool sg),lim An,lim Ad,.sl 4 PA] false))∧e 7=strA (if x=true then ⟨#[]⟩ else D)) ?_ ?_
   ·cases x with
    | true =>
      refine c_t ?_
      (refine wkad (w_3 e1 e2 m2) w_t w_t (w_s ?_);intros)
      exact⟨rfl,gW e1,⟨gW e2,gW m2⟩,gC⟩
    | false =>
      refine c_f ?_;exact⟨rfl,gW e1,⟨gW e2,gW m2⟩,gC⟩
   ·have hz2:(if x=true then ⟨#[]⟩ else D:ByteArray).size≤10*k+4:=by split;(rw [hemp];omega);exact hz
    clear hz cs cn c1 ce e0 cx;generalize (if x=true then ⟨#[]⟩ else D:ByteArray)=s0 at *;clear e1 e2 m2 e6 m6
    rintro e m ⟨e1,⟨e2,m2⟩,e7⟩
    (refine wkad (w_5 e1 e2 m2 e7 hpl) w_t w_t (w_s ?_);intros)
    refine Zad (ι:=Nat) (λi e m=>i≤p.length∧(e 1=.sl 1 N∧e 31=.sl 4 PA∧e 32=iv p.length∧e 33=iv i)∧e 7=strA (tS ss p s0 i)∧∀j (h:j < p.length),j < i→Qt.chk p[j] ss.length 64=0) (λi=>p.length - i) 0 zr ?_ ?_
    ·rintro i e m ⟨hi,⟨e1,e31,e32,e33⟩,e7,hc⟩
     by_cases hlt:i < p.length
     ·have cqi:=cq i hlt;have hqi:=hq i hlt;have hsz:=Zxl (s0:=s0) hs zo hc;by_cases hch:Qt.chk p[i] ss.length 64=0
      ·rw [ZCh hch] at cqi;have ht:=ZBo ss hs hch;have hnx:tS ss p s0 (i+1)=(if (tS ss p s0 i).size=0 then tS ss p s0 i else tS ss p s0 i++⟨#[42]⟩)++p[i].txt ss:=by rw [←Zeg (d:=Qt.zero) hlt];rfl
       have hpo:0 < i→0 < (tS ss p s0 i).size:=tS_pos ss p s0 i;have hc2:∀j (h:j < p.length),j < i+1→Qt.chk p[j] ss.length 64=0:=λj h hj=>by
        rcases ZC5 j i with h1 | h1
        ·exact hc j h h1
        ·have:j=i:=zo;subst this;exact hch
       have h42:(⟨#[42]⟩:ByteArray).size=1:=rfl;have h43:=ZEt (a:=tS ss p s0 i) (b:=⟨#[42]⟩);have qe:Qt.av p[i]=.agg [iv p[i].k,iv p[i].a,iv p[i].b,iv p[i].c]:=rfl;rw [qe] at cqi hqi;clear hc hch;generalize p[i].txt ss=T at *;generalize tS ss p s0 i=S at *;generalize p[i].k=qk at *;generalize p[i].a=qa at *;generalize p[i].b=qb at *;generalize p[i].c=qc at *;by_cases hS:S.size=0
       ·have hi0:decide ((0:Int) < (i:Int))=false:=ZCq zo;have hSz:=ZCp hS;rw [ZCh hS] at hnx
        (refine wkad (w_10 e1 e31 e32 e33 e7 hpl hqi @Zkw hi0 hSz) (w_1 cqi) w_t (w_s ?_);intros)
        exact⟨i+1,⟨zo,⟨gW e1,gW e31,gW e32,gS⟩,by rw [hnx];exact gC,hc2⟩,zo⟩
       ·have hSz:=ZCq hS;rw [ZCg hS] at hnx;by_cases hi0:i=0
        ·have hi0:decide ((0:Int) < (i:Int))=false:=ZCq zo
         (refine wkad (w_12 e1 e31 e32 e33 e7 hpl hqi @Zkw hi0 hSz h42 h43) (w_1 cqi) w_t (w_s ?_);intros)
         exact⟨i+1,⟨zo,⟨gW e1,gW e31,gW e32,gS⟩,by rw [hnx];exact gC,hc2⟩,zo⟩
        ·have hi0:decide ((0:Int) < (i:Int))=true:=ZCp zo
         (refine wkad (w_11 e1 e31 e32 e33 e7 hpl hqi @Zkw hi0 h42 h43) (w_1 cqi) w_t (w_s ?_);intros)
         exact⟨i+1,⟨zo,⟨gW e1,gW e31,gW e32,gS⟩,by rw [hnx];exact gC,hc2⟩,zo⟩
      ·rw [ZCg hch] at cqi;have hat:=ZBq hlt hc hch;rw [hat,ZCg hch] at hR;have qe:Qt.av p[i]=.agg [iv p[i].k,iv p[i].a,iv p[i].b,iv p[i].c]:=rfl;rw [qe] at cqi hqi;generalize Qt.chk p[i] ss.length 64=ch at *;generalize p[i].k=qk at *;generalize p[i].a=qa at *;generalize p[i].b=qb at *;generalize p[i].c=qc at *;rw [←hR]
       (refine wkad (w_7 e1 e31 e32 e33 e7 hpl hqi) (w_1 cqi) w_t (w_s ?_);intros)
       all_goals exact gL
     ·have:i=p.length:=zo;subst this;rw [ZCh (Zu9 λj h=>hc j h h)] at hR;rw [←hR]
      (refine wkad (w_6 e1 e31 e32 e33 e7 hpl) w_t w_t (w_s ?_);intros)
      all_goals exact gL
    ·exact⟨ZCr _,⟨gW e1,gC,gW hpl,gC⟩,gW e7,λj h hj=>zo⟩
section
attribute [local go_sem] underlying3 underlying4 underlying128 underlying50 underlying52 underlying54 underlying39 underlying55 underlying57 underlying26 underlying27 sz3 by3 z3 szB zB Zaw zRat Zay zInt Zax zNat Zah Zap Zai Bool.and_self Zal Za8 zSlQ szQT byQT zQT Zba zSlT szQP zQP underlying9 underlying167 underlying123 underlying165 Zo5 Zjx Zoy Zo6 Zbg zStr zSum zMap underlying33 underlying45 List.append_eq
end
theorem Zxk {ss:List ByteArray} {t:Rat × List Qt} (hs:∀s∈ss,s.size≤1000) (hp:t.2.length≤1000) {k:Nat} (ha:Sz t.1 k) (hk:k≤1000000) (h:chkP ss.length t.2=0):(tTxt ss t).size≤15000000:=by
 have hz:=Zqu (Zow ha)
 have hall:∀j (h:j < t.2.length),Qt.chk t.2[j] ss.length 64=0:=by
  generalize t.2=p at h;clear hp
  induction p with
  | nil=>intro j hj;simp at hj
  | cons q l ih =>
    unfold chkP at h;by_cases h0:Qt.chk q ss.length 64=0
    ·rw [ZCh h0] at h;intro j hj
     cases j with
     | zero=>exact h0
     | succ j=>exact ih h j (by simpa using hj)
    ·rw [ZCg h0] at h;exact absurd h h0
 have hemp:(⟨#[]⟩:ByteArray).size=0:=rfl;unfold tTxt;have h2:=Zxl (s0:=if t.2.length≠0∧absR t.1=1 then ⟨#[]⟩ else decQ (absR t.1)) hs (ZCi t.2.length) λj h _=>hall j h
 have h3:(if t.2.length≠0∧absR t.1=1 then ⟨#[]⟩ else decQ (absR t.1):ByteArray).size≤10*k+4:=by
  split
  ·rw [hemp];omega
  ·exact hz
 omega
theorem eS_size {ss:List ByteArray} {p:QTs} {i:Nat} (hi:i≤p.length) (h:∀j (h:j < p.length),j < i→(tTxt ss p[j]).size≤15000000):(eS ss p i).size≤i*15000003:=by
 induction i with
 | zero=>exact ZCr _
 | succ i ih =>
   have h1:=ih zo λj hj hji=>h j hj zo;have h2:=h i zo zo;have e:p.getD i (0,[])=p[i]:=Zeg zo;unfold eS;rw [ZEt,e];have s0:(⟨#[]⟩:ByteArray).size=0:=rfl;have s1:(⟨#[45]⟩:ByteArray).size=1:=rfl;have s2:(⟨#[32,45,32]⟩:ByteArray).size=3:=rfl;have s3:(⟨#[32,43,32]⟩:ByteArray).size=3:=rfl;split
   ·split<;>omega
   ·rw [ZEt];split<;>omega
def OkT (p:QTs) (k:Nat):Prop:=∀t∈p,t.2.length≤1000∧Sz t.1 k
theorem exText (p:QTs) (ss:List ByteArray) (hl:ss.length≤1000000000) (hs:∀s∈ss,s.size≤1000) (hp:p.length≤100000) {k:Nat} (hk:k≤1000000) (ho:OkT p k) :
 Pure prog 17 [.sl 4 (p.map qtA),.sl 1 (ss.map strA)] (if chkE ss.length p=0 then .tup [strA (eTxt ss p),iv 0] else .tup [strA ⟨#[]⟩,iv (chkE ss.length p)]):=by
 have hpl:(p.map qtA).length=p.length:=ZCj ..;have hq:∀i (h:i < p.length),(p.map qtA).getD i .u=.agg [.v (.bool (decide (p[i].1.num < 0))),lim (toL p[i].1.num.natAbs),lim (toL p[i].1.den),.sl 4 (p[i].2.map Qt.av)]:=λi h=>Zak qtA h;have ct:∀i (h:i < p.length),Pure prog 50 [.agg [.v (.bool (decide (p[i].1.num < 0))),lim (toL p[i].1.num.natAbs),lim (toL p[i].1.den),.sl 4 (p[i].2.map Qt.av)],.sl 1 (ss.map strA)] (if chkP ss.length p[i].2=0 then .tup [strA (tTxt ss p[i]),iv 0] else .tup [strA ⟨#[]⟩,iv (chkP ss.length p[i].2)]):=λi h=>exTerm p[i].1 p[i].2 ss hl hs (ho _ (ZCt h)).1 (ho _ (ZCt h)).2 hk
 have cs:∀i (h:i < p.length),Pure prog 42 [.agg [.v (.bool (decide (p[i].1.num < 0))),lim (toL p[i].1.num.natAbs),lim (toL p[i].1.den)]] (iv p[i].1.num.sign):=λi h=>Ze1 p[i].1 (ho _ (ZCt h)).2 zo;have hsz:∀i (h:i < p.length),chkP ss.length p[i].2=0→(tTxt ss p[i]).size≤15000000:=λi h h2=>Zxk hs (ho _ (ZCt h)).1 (ho _ (ZCt h)).2 hk h2;clear ho hk;generalize ss.map strA=N at *;generalize p.map qtA=P at *;generalize hR:(if chkE ss.length p=0 then AV.tup [strA (eTxt ss p),iv 0] else .tup [strA ⟨#[]⟩,iv (chkE ss.length p)])=R at *;have hemp:(⟨#[]⟩:ByteArray).size=0:=rfl
 refine pI func17 rfl ntmps17 results17 call17 ?_;by_cases hp0:p.length=0
 ·obtain rfl:=List.length_eq_zero_iff.1 hp0;have hR:AV.tup [strA ⟨#[48]⟩,iv 0]=R:=hR;have hpl:P.length=0:=hpl;rw [←hR]
  (refine wkap (w_2 hpl @ZEo) w_t (w_r 0) (w_s ?_);intros)
  all_goals exact gL
 ·have hpi:¬((p.length:Nat):Int)=0:=zo;have eTx:eTxt ss p=eS ss p p.length:=ZCg hp0;rw [eTx] at hR
  (refine wkap (w_2 hpl hpi) w_t (w_r 0) (w_s ?_);intros)
  refine Zad (ι:=Nat) (λi e m=>i≤p.length∧(e 1=.sl 1 N∧e 15=.sl 4 P∧e 16=iv p.length∧e 17=iv i)∧e 6=strA (eS ss p i)∧∀j (h:j < p.length),j < i→chkP ss.length p[j].2=0) (λi=>p.length - i) 0 zr ?_ ?_
  ·rintro i e m ⟨hi,⟨e1,e15,e16,e17⟩,e6,hc⟩
   by_cases hlt:i < p.length
   ·have cti:=ct i hlt;have csi:=cs i hlt;have hqi:=hq i hlt;have hes:=eS_size (ss:=ss) (p:=p) hi λj h hj=>hsz j h (hc j h hj);by_cases hch:chkP ss.length p[i].2=0
    ·rw [ZCh hch] at cti;have ht:=hsz i hlt hch;have hnx:eS ss p (i+1)=(if i=0 then (if p[i].1.num < 0 then ⟨#[45]⟩ else ⟨#[]⟩) else eS ss p i++(if p[i].1.num < 0 then ⟨#[32,45,32]⟩ else ⟨#[32,43,32]⟩))++tTxt ss p[i]:=by rw [←Zeg (d:=((0:Rat),([]:List Qt))) hlt];rfl
     have hc2:∀j (h:j < p.length),j < i+1→chkP ss.length p[j].2=0:=λj h hj=>by
      rcases ZC5 j i with h1 | h1
      ·exact hc j h h1
      ·have:j=i:=zo;subst this;exact hch
     have e0s:eS ss p 0=⟨#[]⟩:=rfl;have hn0:decide (p[i].1.num.sign < 0)=decide (p[i].1.num < 0):=by rw [ZCl];exact Int.sign_neg_iff
     have s45:(⟨#[45]⟩:ByteArray).size=1:=rfl;have s3:(⟨#[32,45,32]⟩:ByteArray).size=3:=rfl;have s4:(⟨#[32,43,32]⟩:ByteArray).size=3:=rfl;have z3:=ZEt (a:=eS ss p i) (b:=⟨#[32,45,32]⟩);have z4:=ZEt (a:=eS ss p i) (b:=⟨#[32,43,32]⟩);clear hc hch ct cs hsz hq;generalize tTxt ss p[i]=T at *;generalize p[i].2.map Qt.av=qs at *;by_cases hng:p[i].1.num < 0
     ·rw [ZCh hng,ZCh hng] at hnx;rw [ZCp hng] at hn0 csi cti hqi;clear hng;generalize p[i].1.num.sign=sn at *;generalize toL p[i].1.num.natAbs=An at *;generalize toL p[i].1.den=Ad at *;by_cases hi0:i=0
      ·subst hi0;rw [ZCh rfl] at hnx;rw [e0s] at e6;have e45:(⟨#[]⟩++⟨#[45]⟩:ByteArray)=⟨#[45]⟩:=rfl
       (refine wkap (w_12 e1 e15 e16 e17 hpl e6 hqi hn0 e45 hemp s45 @ZEo) (w_2 cti csi) (w_r 0) (w_s ?_);intros)
       exact⟨0+1,⟨zo,⟨gW e1,gW e15,gW e16,gS⟩,by rw [hnx];exact gC,hc2⟩,zo⟩
      ·rw [ZCg hi0] at hnx;have hi1:decide ((0:Int) < (i:Int))=true:=ZCp zo;have hi2:¬(i:Int)=0:=zo
       (refine wkap (w_12 e1 e15 e16 e17 hpl e6 hqi hn0 hi1 hi2 z3 s3) (w_2 cti csi) (w_r 0) (w_s ?_);intros)
       exact⟨i+1,⟨zo,⟨gW e1,gW e15,gW e16,gS⟩,by rw [hnx];exact gC,hc2⟩,zo⟩
     ·rw [ZCg hng,ZCg hng] at hnx;rw [ZCq hng] at hn0 csi cti hqi;clear hng;generalize p[i].1.num.sign=sn at *;generalize toL p[i].1.num.natAbs=An at *;generalize toL p[i].1.den=Ad at *;by_cases hi0:i=0
      ·subst hi0;rw [ZCh rfl] at hnx;rw [e0s] at e6
       (refine wkap (w_10 e1 e15 e16 e17 hpl e6 hqi hn0 hemp @ZEo) (w_2 cti csi) (w_r 0) (w_s ?_);intros)
       exact⟨0+1,⟨zo,⟨gW e1,gW e15,gW e16,gS⟩,by rw [hnx];exact gC,hc2⟩,zo⟩
      ·rw [ZCg hi0] at hnx;have hi1:decide ((0:Int) < (i:Int))=true:=ZCp zo;have hi2:¬(i:Int)=0:=zo
       (refine wkap (w_12 e1 e15 e16 e17 hpl e6 hqi hn0 hi1 hi2 z4 s4) (w_2 cti csi) (w_r 0) (w_s ?_);intros)
       exact⟨i+1,⟨zo,⟨gW e1,gW e15,gW e16,gS⟩,by rw [hnx];exact gC,hc2⟩,zo⟩
    ·rw [ZCg hch] at cti;have hat:=ZBr hlt hc hch;rw [hat,ZCg hch] at hR;generalize chkP ss.length p[i].2=ch at *;generalize p[i].2.map Qt.av=qs at *;generalize decide (p[i].1.num < 0)=ng at *;generalize toL p[i].1.num.natAbs=An at *;generalize toL p[i].1.den=Ad at *;rw [←hR]
     (refine wkap (w_7 e1 e15 e16 e17 hpl e6 hqi) (w_1 cti) (w_r 0) (w_s ?_);intros)
     all_goals exact gL
   ·have:i=p.length:=zo;subst this;rw [ZCh (Zva λj h=>hc j h h)] at hR;rw [←hR]
    (refine wkap (w_6 e1 e15 e16 e17 hpl e6) w_t (w_r 0) (w_s ?_);intros)
    all_goals exact gL
  ·exact⟨ZCr _,⟨gC,gC,gW hpl,gC⟩,gC,λj h hj=>zo⟩
attribute [local go_sem] Zb4 Zb6
theorem toL_two:toL 2=[2]:=by rw [Zex zo,show 2/65536=0 from rfl,Zaz]
theorem Zeh:Sz (2:Rat) 1:=⟨by show(toL 2).length≤1;rw [toL_two];decide,by show(toL 1).length≤1;rw [Zc8];omega⟩
theorem Zxm:Sz (-1:Rat) 1:=⟨by show(toL 1).length≤1;rw [Zc8];omega,by show(toL 1).length≤1;rw [Zc8];omega⟩
theorem Ztj (p:QTs) {j n:Nat} (h:QK p j n) (hl:p.length≤1000000) (hj:j≤1000000) (hn:n≤1000000):Pure prog 30 [qpA p,qpA p] (.v (.bool true)):=by
 have hpl:(p.map qtA).length=p.length:=ZCj ..;have hq:∀i (h:i < p.length),(p.map qtA).getD i .u=.agg [.v (.bool (decide (p[i].1.num < 0))),lim (toL p[i].1.num.natAbs),lim (toL p[i].1.den),.sl 4 (p[i].2.map Qt.av)]:=λi h=>Zak qtA h;have ce:∀i (h:i < p.length),Pure prog 72 [.agg [.v (.bool (decide (p[i].1.num < 0))),lim (toL p[i].1.num.natAbs),lim (toL p[i].1.den)],.agg [.v (.bool (decide (p[i].1.num < 0))),lim (toL p[i].1.num.natAbs),lim (toL p[i].1.den)]] (.v (.bool true)):=λi hi=>by
  have c:=qEqual p[i].1 p[i].1 (h _ (ZCt hi)).1 (h _ (ZCt hi)).1 hj hj;rw [ZCp rfl] at c;exact c
 have co:∀i (h:i < p.length),Pure prog 73 [.sl 4 (p[i].2.map Qt.av),.sl 4 (p[i].2.map Qt.av)] (iv 0):=λi hi=>by
  have hn:=(h _ (ZCt hi)).2;have c:=Zrk p[i].2 p[i].2 zo zo;rw [Zbb.refl] at c;exact c
 show Pure _ _ [.sl 4 (p.map qtA),.sl 4 (p.map qtA)] _;clear h;generalize p.map qtA=P at *;refine pI func30 rfl ntmps30 results30 call30 ?_
 (refine wkad (w_1 hpl) w_t w_t (w_s ?_);intros)
 refine Zad (ι:=Nat) (λi e m=>i≤p.length∧e 0=.sl 4 P∧e 1=.sl 4 P∧e 5=iv i) (λi=>p.length - i) 0 zr ?_ ?_
 ·rintro i e m ⟨hi,e0,e1,e5⟩
  by_cases hlt:i < p.length
  ·have hqi:=hq i hlt;have cei:=ce i hlt;have coi:=co i hlt;clear hq ce co;generalize p[i].2.map Qt.av=qs at *;generalize decide (p[i].1.num < 0)=ng at *;generalize toL p[i].1.num.natAbs=An at *;generalize toL p[i].1.den=Ad at *
   (refine wkad (w_5 e0 e1 e5 hpl hqi) (w_2 cei coi) (w_1 (w_d 6 [(10,.v (.bool true)),(23,iv 0)] [] [])) (w_s ?_);intros)
   exact⟨i+1,⟨zo,gW e0,gW e1,gS⟩,zo⟩
  ·(refine wkad (w_4 e0 e1 e5 hpl) w_t w_t (w_s ?_);intros)
   all_goals exact gL
 ·exact⟨ZCr _,gC,gC,gC⟩
def nrmT (l:List RE):QTs:=if l.all RE.ok=true then gatM (l.map RE.t) else []
section
attribute [local go_sem] underlying3 underlying4 underlying128 underlying50 underlying52 underlying54 underlying39 underlying55 underlying57 underlying26 underlying27 sz3 by3 z3 szB zB Zaw zRat Zay zInt Zax zNat Zah Zap Zai Bool.and_self Zal Za8 zSlQ szQT byQT zQT Zba zSlT szQP zQP underlying81 underlying29 szFr byFr zFr Zb4 Zb6 zSQP underlying33 underlying45 underlying9 Zbg zStr
end
section
variable {N n:Nat} {cs:List AV}
theorem shProd (h:Zcd prog N n 55 cs):∃l:List Qt,cs=[qsA l]∧l.length≤N:=by
 obtain⟨bs,rfl,hl,_⟩:=Zct (g:=λq:Qt=>[iv q.k,iv q.a,iv q.b,iv q.c]) (Q:=λ_=>True) underlying55 h λm x hx=>by
  obtain⟨k,a,b,c,rfl⟩:=shQuantP hx;exact⟨⟨k,a,b,c⟩,rfl,trivial⟩
 refine⟨bs,?_,hl⟩;rw [show prog.cellsOf 39=4 from by kernel_rfl];have:(bs.map λq:Qt=>Zcy prog 39 [iv q.k,iv q.a,iv q.b,iv q.c])=bs.map Qt.av:=ZE4 λb _=>ZB1 _;rw [this]
theorem shQTerm (h:Zcd prog N n 57 cs):∃t:RE,cs=[.v (.bool t.r.s),lim t.r.l,lim t.r.d,qsA t.q]∧t.r.lm N∧t.q.length≤N:=by
 obtain⟨m,rfl,hs⟩:=Zce underlying57 zk h;obtain⟨x,y,rfl,h1,hs⟩:=hs.inv;obtain⟨x2,y,rfl,h2,hs⟩:=hs.inv;obtain rfl:=hs.inv0;obtain⟨r,rfl,hr⟩:=shRat h1;obtain⟨l,rfl,hl⟩:=shProd h2;exact⟨⟨r,l⟩,rfl,hr,hl⟩
theorem Zxx {T:TypeId} (hu:prog.underlying T=some (.slice 57)) (h:Zcd prog N n T cs):∃l:List RE,cs=[.sl 4 (l.map RE.av)]∧l.length≤N∧(∀t∈l,t.r.lm N)∧∀t∈l,t.q.length≤N:=by
 obtain⟨bs,rfl,hl,hq⟩:=Zct (g:=λt:RE=>[.v (.bool t.r.s),lim t.r.l,lim t.r.d,qsA t.q]) (Q:=λt=>t.r.lm N∧t.q.length≤N) hu h λm x hx=>by
  obtain⟨t,h1,h2⟩:=shQTerm hx;exact⟨t,h1,h2⟩
 refine⟨bs,?_,hl,λt ht=>(hq t ht).1,λt ht=>(hq t ht).2⟩;rw [show prog.cellsOf 57=4 from by kernel_rfl];have:(bs.map λt:RE=>Zcy prog 57 [.v (.bool t.r.s),lim t.r.l,lim t.r.d,qsA t.q])=bs.map RE.av:=ZE4 λb _=>Zfw underlying57 _;rw [this]
end
def Zfe (Q:Nat) (t:RE):Bool:=decide (t.q.length≤Q) && t.r.tiny
def Zgz (T Q:Nat) (l:List RE):Bool:=decide (l.length≤T) && (l.all (Zfe Q) && rgtB l)
def RE.rt (t:RE):Rat × List Qt:=(t.r.q,t.q)
theorem rt_av {Q k:Nat} {l:List RE} (hr:∀t∈l,t.r.lm k) (h:l.all (Zfe Q)=true):l.map RE.av=(l.map RE.rt).map qtA:=by
 rw [List.map_map];refine ZE4 λt ht=>?_;have:=List.all_eq_true.1 h t ht;unfold Zfe at this;simp only [ZC2] at this;have e:=(RQ.tiny_av (hr t ht).1 (hr t ht).2.1 this.2).1;have e1:t.r.av=.agg [.v (.bool t.r.s),lim t.r.l,lim t.r.d]:=rfl;have e2:ratQ t.r.q=.agg [.v (.bool (decide (t.r.q.num < 0))),lim (toL t.r.q.num.natAbs),lim (toL t.r.q.den)]:=rfl;rw [e1,e2] at e;simp only [AV.agg.injEq,List.cons.injEq,and_true] at e;show AV.agg [.v (.bool t.r.s),lim t.r.l,lim t.r.d,qsA t.q]=.agg [.v (.bool (decide (t.r.q.num < 0))),lim (toL t.r.q.num.natAbs),lim (toL t.r.q.den),qsA t.q]
 rw [e.1,e.2.1,e.2.2]
theorem rt_qk {Q k:Nat} {l:List RE} (hr:∀t∈l,t.r.lm k) (h:l.all (Zfe Q)=true):QK (l.map RE.rt) 2 Q:=λu hu=>by
 obtain⟨t,ht,rfl⟩:=List.mem_map.1 hu;have:=List.all_eq_true.1 h t ht;unfold Zfe at this;simp only [ZC2,ZDb] at this;exact⟨(RQ.tiny_av (hr t ht).1 (hr t ht).2.1 this.2).2,this.1⟩
theorem Zx2 (l:List RE) (T Q:Nat) (hT:T≤100000) (hQ:Q≤100000) (hl:l.length≤9223372036854775807) (hr:∀t∈l,t.r.lm 9223372036854775807) (hq:∀t∈l,t.q.length≤9223372036854775807) :
 Pure prog 14 [.sl 4 (l.map RE.av),iv T,iv Q] (.v (.bool (Zgz T Q l))):=by
 have hpl:(l.map RE.av).length=l.length:=ZCj ..;have hg:∀i (h:i < l.length),(l.map RE.av).getD i .u=.agg [.v (.bool l[i].r.s),lim l[i].r.l,lim l[i].r.d,.sl 4 (l[i].q.map Qt.av)]:=λi h=>Zak RE.av h;have ct:∀i (h:i < l.length),Pure prog 45 [.agg [.v (.bool l[i].r.s),lim l[i].r.l,lim l[i].r.d]] (.v (.bool l[i].r.tiny)):=λi h=>rqTiny l[i].r (hr _ (ZCt h));have cr:l.length≤T→l.all (Zfe Q)=true→Pure prog 46 [.sl 4 (l.map RE.av)] (.v (.bool (rgtB l))):=λh1 h2=>by
  have h3:∀t∈l,t.q.length≤Q∧t.r.tiny=true:=λt ht=>by
   have:=List.all_eq_true.1 h2 t ht;unfold Zfe at this
   simpa only [ZC2,ZDb] using this
  refine rxRight l (J:=2) zo (λt ht=>?_) (λt ht=>by have:=h3 t ht;omega) zo;have h4:=(h3 t ht).2;unfold RQ.tiny at h4;simp only [ZC2,ZDb] at h4;exact⟨(hr t ht).1,(hr t ht).2.1,h4.1.1,h4.1.2⟩
 clear hr hq;generalize l.map RE.av=L at *;by_cases hlen:l.length≤T
 ·have h1:¬(T:Int) < (l.length:Int):=zo;have hsm:Zgz T Q l=(l.all (Zfe Q) && rgtB l):=by unfold Zgz;rw [ZCp hlen,ZEf]
  rw [hsm];refine pI func14 rfl ntmps14 results14 call14 ?_
  (refine wkad (w_2 hpl h1) w_t w_t (w_s ?_);intros)
  refine Zad (ι:=Nat) (λi e m=>i≤l.length∧(l.take i).all (Zfe Q)=true∧e 0=.sl 4 L∧e 2=iv Q∧e 7=iv i) (λi=>l.length - i) 0 zr ?_ ?_
  ·rintro i e m ⟨hi,hs,e0,e2,e7⟩
   by_cases hlt:i < l.length
   ·have hgi:=hg i hlt;have cti:=ct i hlt;have hql:(l[i].q.map Qt.av).length=l[i].q.length:=ZCj ..;have hst:Zfe Q l[i]=true→(l.take (i+1)).all (Zfe Q)=true:=Zhh hlt hs;have hsn:Zfe Q l[i]=false→l.all (Zfe Q)=false:=λh=>List.all_eq_false.2 ⟨l[i],ZCt hlt,by rw [h];decide⟩;have hsd:Zfe Q l[i]=(decide (l[i].q.length≤Q) && l[i].r.tiny):=rfl;clear hg ct cr hs hsm;generalize l[i].q.map Qt.av=qs at *;generalize l[i].q.length=qn at *;generalize l[i].r.tiny=tn at *;generalize l[i].r.s=ts at *;generalize l[i].r.l=tl at *;generalize l[i].r.d=td at *;by_cases h6:qn≤Q
    ·have g6:¬(Q:Int) < (qn:Int):=zo
     cases tn with
     | true =>
       have hsy:=hst (by rw [hsd,ZCp h6];rfl)
       (refine wkad (w_7 e0 e2 e7 hpl hgi hql g6) (w_1 cti) w_t (w_s ?_);intros)
       exact⟨i+1,⟨zo,hsy,gW e0,gW e2,gS⟩,zo⟩
     | false =>
       rw [hsn (by rw [hsd,ZGk]),ZDi]
       (refine wkad (w_7 e0 e2 e7 hpl hgi hql g6) (w_1 cti) w_t (w_s ?_);intros)
       all_goals exact gL
    ·have g6:(Q:Int) < (qn:Int):=zo;rw [hsn (by rw [hsd,ZCq h6];rfl),ZDi]
     (refine wkad (w_7 e0 e2 e7 hpl hgi hql g6) w_t w_t (w_s ?_);intros)
     all_goals exact gL
   ·have:i=l.length:=zo;subst this;rw [ZDu] at hs;have cr:=cr hlen hs;rw [hs,ZEf]
    (refine wkad (w_4 e0 e2 e7 hpl) (w_1 cr) w_t (w_s ?_);intros)
    all_goals exact gL
  ·exact⟨ZCr _,rfl,gC,gC,gC⟩
 ·have h1:(T:Int) < (l.length:Int):=zo;have hsm:Zgz T Q l=false:=by unfold Zgz;rw [ZCq hlen,ZDi]
  rw [hsm];refine pI func14 rfl ntmps14 results14 call14 ?_
  (refine wkad (w_2 hpl h1) w_t w_t (w_s ?_);intros)
  all_goals exact gL
theorem Zx4 (p q:QTs) {j k n:Nat} (hp:QK p j n) (hq:QK q k n) (lp:p.length≤100000000) (lq:q.length≤100000000) (hj:j≤900000) (hk:k≤900000) (hn:n≤1000000):Pure prog 68 [qpA p,qpA q] (qpA (Zav p q)):=by
 have c:=rxJoin p q hp hq lp lq zo zo hn;show Pure _ _ [.sl 4 (p.map qtA),.sl 4 (q.map qtA)] (.sl 4 ((Zav p q).map qtA));have c:Pure _ _ [.sl 4 (p.map qtA),.sl 4 (q.map qtA)] (.sl 4 ((Zav p q).map qtA)):=c;generalize (Zav p q).map qtA=R at *;generalize p.map qtA=A at *;generalize q.map qtA=B at *;refine pI func68 rfl ntmps68 results68 call68 ?_
 (refine wkap w_t (w_1 c) (w_r 0) (w_s ?_);intros)
 all_goals exact gL
theorem fst_of {α:Type} (F:α→Bool) (l:List α):∃n,n≤l.length∧(∀j (h:j < l.length),j < n→F l[j]=false)∧(∀h:n < l.length,F l[n]=true)∧l.any F=decide (n < l.length):=by
 induction l with
 | nil=>exact⟨0,by simp,by simp,by simp,by simp⟩
 | cons a l ih =>
   obtain⟨n,h1,h2,h3,h4⟩:=ih
   cases ha:F a with
   | true=>exact⟨0,by simp,λj h h'=>zo,λ_=>ha,by simp [ha]⟩
   | false =>
     refine⟨n+1,by simpa using h1,λj h h'=>?_,λh=>h3 (by simpa using h),by simp [ha,h4]⟩
     cases j with
     | zero=>exact ha
     | succ j=>exact h2 j (by simpa using h) zo
theorem Zt3 (q:Qt):q.pts.length≤40:=by
 unfold Qt.pts;split
 ·rw [ZCj];exact ZCk (ZG5 _ _) zs
 ·simp
theorem slIdxI (l:List Int) (x:Int) (hl:l.length≤1000000):∃z:Int,Pure prog 77 [ivs l,iv x] (iv z)∧decide (0≤z)=l.any λt=>decide (x=t):=by
 have hlm:(l.map iv).length=l.length:=ZCj ..;have hg:∀i (h:i < l.length),(l.map iv).getD i .u=iv l[i]:=λi h=>Zak iv h;obtain⟨n,h1,h2,h3,h4⟩:=fst_of (λt:Int=>decide (x=t)) l;refine⟨if n < l.length then (n:Int) else -1,?_,?_⟩
 ·show Pure _ _ [.sl 1 (l.map iv),iv x] _;generalize l.map iv=L at *;refine pI func77 rfl ntmps77 results77 call77 ?_
  (refine wkap (w_1 hlm) w_t (w_r 0) (w_s ?_);intros)
  refine Zad (ι:=Nat) (λk e m=>k≤n∧e 0=.sl 1 L∧e 1=iv x∧e 7=iv l.length∧e 8=iv k) (λk=>n - k) 0 zr ?_ ?_
  ·rintro k e m ⟨hk,e0,e1,e7,e8⟩
   by_cases hlt:k < l.length
   ·have hgk:=hg k hlt;by_cases hkn:k < n
    ·have hb:=of_decide_eq_false (h2 k hlt hkn);generalize l[k]=a at *
     (refine wkap (w_7 e0 e1 e7 e8 hgk hlm hb) w_t (w_r 0) (w_s ?_);intros)
     exact⟨k+1,⟨zo,gW e0,gW e1,gW e7,gS⟩,zo⟩
    ·have hkn:k=n:=zo;subst hkn;have hb:=ZH1 (h3 hlt);rw [ZCh hlt];rw [←hb] at hgk;clear hb
     (refine wkap (w_6 e0 e1 e7 e8 hgk hlm) w_t (w_r 0) (w_s ?_);intros)
     all_goals exact gL
   ·rw [ZCg zo]
    (refine wkap (w_5 e0 e1 e7 e8 hlm) w_t (w_r 0) (w_s ?_);intros)
    all_goals exact gL
  ·exact⟨ZCr _,gC,gC,gW hlm,gC⟩
 ·rw [h4,ZDg,ZDb,ZDb];split<;>omega
theorem slConI (l:List Int) (x:Int) (hl:l.length≤1000000):Pure prog 34 [ivs l,iv x] (.v (.bool (l.any λt=>decide (x=t)))):=by
 obtain⟨z,c,hz⟩:=slIdxI l x hl;rw [←hz];show Pure _ _ [.sl 1 (l.map iv),iv x] _;have c:Pure _ _ [.sl 1 (l.map iv),iv x] _:=c;generalize l.map iv=L at *;refine pI func34 rfl ntmps34 results34 call34 ?_
 (refine wkap w_t (w_1 c) (w_r 0) (w_s ?_);intros)
 all_goals exact gL
def hasQ (x:Int) (q:Qt):Bool:=q.pts.any λt=>decide (x=t)
def hasP (x:Int) (p:List Qt):Bool:=p.any (hasQ x)
def hasT (x:Int) (p:QTs):Bool:=p.any λt=>hasP x t.2
theorem Zos {α:Type} {f:α→Bool} {l:List α} {i:Nat} (h:i < l.length) (h1:(l.take i).any f=false) (h2:f l[i]=false):(l.take (i+1)).any f=false:=by
 rw [ZEs h,List.any_append,h1];simp [h2]
theorem Zsz {α:Type} {f:α→Bool} {l:List α} {i:Nat} (h:i < l.length) (h2:f l[i]=true):l.any f=true:=List.any_eq_true.2 ⟨_,ZCt h,h2⟩
theorem rxMinus (p q:QTs) {j k n:Nat} (hp:QK p j n) (hq:QK q k n) (lp:p.length≤100000000) (lq:q.length≤100000000) (hj:j≤300000) (hk:k≤300000) (hn:n≤1000000):Pure prog 129 [qpA p,qpA q] (qpA (Zav p (sclT (-1) q))):=by
 have hs:Sz (-1:Rat) 1:=⟨by show(toL 1).length≤1;rw [Zc8];omega,by show(toL 1).length≤1;rw [Zc8];omega⟩;have c1:=Zri q (-1) hq hs zd lq zo zo;have hq2:QK (Zcv (-1) q) (k+1) n:=λt ht=>by
  obtain⟨u,hu,rfl⟩:=List.mem_map.1 ht;exact⟨(hq u hu).1.mul hs,(hq u hu).2⟩
 have c2:=Zx4 p (Zcv (-1) q) hp hq2 lp (by unfold Zcv;rw [ZCj];exact lq) zo zo hn;have he:Zcv (-1) q=sclT (-1) q:=ZE4 λt _=>by rw [Rat.mul_comm]
 rw [he] at c1 c2;have c0:Pure prog 65 [iv (-1)] (.agg [.v (.bool (decide ((-1:Rat).num < 0))),lim (toL (-1:Rat).num.natAbs),lim (toL (-1:Rat).den)]):=qOfM;have c1:Pure prog 64 [.sl 4 (q.map qtA),.agg [.v (.bool (decide ((-1:Rat).num < 0))),lim (toL (-1:Rat).num.natAbs),lim (toL (-1:Rat).den)]] (.sl 4 ((sclT (-1) q).map qtA)):=c1;have c2:Pure prog 68 [.sl 4 (p.map qtA),.sl 4 ((sclT (-1) q).map qtA)] (.sl 4 ((Zav p (sclT (-1) q)).map qtA)):=c2;show Pure _ _ [.sl 4 (p.map qtA),.sl 4 (q.map qtA)] (.sl 4 ((Zav p (sclT (-1) q)).map qtA));generalize (Zav p (sclT (-1) q)).map qtA=R at *
 generalize (sclT (-1) q).map qtA=C at *;generalize p.map qtA=A at *;generalize q.map qtA=B at *;generalize decide ((-1:Rat).num < 0)=b1 at *;generalize toL (-1:Rat).num.natAbs=x1 at *;generalize toL (-1:Rat).den=y1 at *;refine pI func129 rfl ntmps129 results129 call129 ?_
 (refine wkap w_t (w_3 c0 c1 c2) (w_r 0) (w_s ?_);intros)
 all_goals exact gL
theorem rxHas (p:QTs) (x:Int) (hl:p.length≤1000000) (hq:∀t∈p,t.2.length≤1000000):Pure prog 57 [.sl 4 (p.map qtA),iv x] (.v (.bool (hasT x p))):=by
 have hlm:(p.map qtA).length=p.length:=ZCj ..;have hg:∀i (h:i < p.length),(p.map qtA).getD i .u=.agg [.v (.bool (decide (p[i].1.num < 0))),lim (toL p[i].1.num.natAbs),lim (toL p[i].1.den),.sl 4 (p[i].2.map Qt.av)]:=λi h=>Zak qtA h;have hq2:∀i (h:i < p.length),p[i].2.length≤1000000:=λi h=>hq _ (ZCt h);generalize p.map qtA=P at *;refine pI func57 rfl ntmps57 results57 call57 ?_
 (refine wkap w_t w_t (w_r 0) (w_s ?_);intros)
 refine Zad (ι:=Nat) (λi e m=>i≤p.length∧(e 0=.sl 4 P∧e 1=iv x∧e 5=iv i)∧(p.take i).any (λt=>hasP x t.2)=false) (λi=>p.length - i) 0 zr ?_ ?_
 ·rintro i e m ⟨hi,⟨e0,e1,e5⟩,hc⟩
  by_cases hlt:i < p.length
  ·have hgi:=hg i hlt;have hqi:=hq2 i hlt;have hqm:(p[i].2.map Qt.av).length=p[i].2.length:=ZCj ..;have hqe:∀b (h:b < p[i].2.length),(p[i].2.map Qt.av).getD b .u=.agg [iv p[i].2[b].k,iv p[i].2[b].a,iv p[i].2[b].b,iv p[i].2[b].c]:=λb h=>Zak Qt.av h;have hst:hasP x p[i].2=false→(p.take (i+1)).any (λt=>hasP x t.2)=false:=Zos hlt hc;have hht:hasP x p[i].2=true→hasT x p=true:=Zsz (f:=λt:Rat × List Qt=>hasP x t.2) hlt;generalize p[i].2=w at *;generalize w.map Qt.av=qs at *
   (refine wkap (w_6 e0 e1 e5 hlm hgi hqm) w_t (w_r 0) (w_s ?_);intros)
   refine Zad (ι:=Nat) (λb e m=>b≤w.length∧(e 0=.sl 4 P∧e 1=iv x∧e 5=iv i∧e 6=iv b)∧(w.take b).any (hasQ x)=false) (λb=>w.length - b) 0 zr ?_ ?_
   ·rintro b e m ⟨hb,⟨e0,e1,e5,e6⟩,hcb⟩
    by_cases hbl:b < w.length
    ·have hqb:=hqe b hbl;have cp:Pure prog 118 [.agg [iv w[b].k,iv w[b].a,iv w[b].b,iv w[b].c]] (.sl 1 (w[b].pts.map iv)):=rqPoints w[b].k w[b].a w[b].b w[b].c;have hpl:=Zt3 w[b];have hpm:(w[b].pts.map iv).length=w[b].pts.length:=ZCj ..;have hpg:∀c (h:c < w[b].pts.length),(w[b].pts.map iv).getD c .u=iv w[b].pts[c]:=λc h=>Zak iv h;have hs2:hasQ x w[b]=false→(w.take (b+1)).any (hasQ x)=false:=Zos hbl hcb;have hh2:hasQ x w[b]=true→hasT x p=true:=λh=>hht (Zsz (f:=hasQ x) hbl h);have hqd:hasQ x w[b]=w[b].pts.any λt=>decide (x=t):=rfl;rw [hqd] at hs2 hh2;clear hqd hqe hst hht
     generalize w[b]=y at *;obtain⟨y1,y2,y3,y4⟩:=y;simp only at *;generalize (Qt.pts ⟨y1,y2,y3,y4⟩)=pts at *;generalize pts.map iv=PP at *
     (refine wkap (w_8 e0 e1 e5 e6 hlm hgi hqm hqb) (w_1 cp) (w_r 0) (w_s ?_);intros)
     refine Zad (ι:=Nat) (λc e m=>c≤pts.length∧(e 0=.sl 4 P∧e 1=iv x∧e 5=iv i∧e 6=iv b∧e 7=.sl 1 PP∧e 8=iv c)∧(pts.take c).any (λt=>decide (x=t))=false) (λc=>pts.length - c) 0 zr ?_ ?_
     ·rintro c e m ⟨hcl,⟨e0,e1,e5,e6,e7,e8⟩,hcc⟩
      by_cases hc3:c < pts.length
      ·have hgc:=hpg c hc3;by_cases hx:x=pts[c]
       ·rw [hh2 (Zsz (f:=λt=>decide (x=t)) hc3 (ZCp hx))];rw [←hx] at hgc;clear hh2 hs2
        (refine wkap (w_8 e0 e1 e5 e6 e7 e8 hpm hgc) w_t (w_r 0) (w_s ?_);intros)
        all_goals exact gL
       ·have hs4:=Zos (f:=λt=>decide (x=t)) hc3 hcc (ZCq hx);have hx2:¬pts[c]=x:=λh=>hx h.symm;clear hh2 hs2;generalize pts[c]=z at *
        (refine wkap (w_9 e0 e1 e5 e6 e7 e8 hpm hgc hx2) w_t (w_r 0) (w_s ?_);intros)
        exact⟨c+1,⟨zo,⟨gW e0,gW e1,gW e5,gW e6,gW e7,gS⟩,hs4⟩,zo⟩
      ·have:c=pts.length:=zo;subst this;rw [ZDu] at hcc;have hs3:=hs2 hcc
       (refine wkap (w_7 e0 e1 e5 e6 e7 e8 hpm) w_t (w_r 0) (w_s ?_);intros)
       exact⟨b+1,⟨zo,⟨gW e0,gW e1,gW e5,gS⟩,hs3⟩,zo⟩
     ·exact⟨ZCr _,⟨gW e0,gW e1,gW e5,gW e6,gC,gC⟩,rfl⟩
    ·have:b=w.length:=zo;subst this;rw [ZDu] at hcb;have hs3:=hst hcb
     (refine wkap (w_7 e0 e1 e5 e6 hlm hgi hqm) w_t (w_r 0) (w_s ?_);intros)
     exact⟨i+1,⟨zo,⟨gW e0,gW e1,gS⟩,hs3⟩,zo⟩
   ·exact⟨ZCr _,⟨gW e0,gW e1,gW e5,gC⟩,rfl⟩
  ·have:i=p.length:=zo;subst this;rw [ZDu] at hc;rw [show hasT x p=false from hc]
   (refine wkap (w_4 e0 e1 e5 hlm) w_t (w_r 0) (w_s ?_);intros)
   all_goals exact gL
 ·exact⟨ZCr _,⟨gC,gC,gC⟩,rfl⟩
abbrev cQ (a:Rat):List AV:=[.v (.bool (decide (a.num < 0))),lim (toL a.num.natAbs),lim (toL a.den)]
def pV (ps:List PQ) (rs:List Rat) (t:Rat × List Qt):Nat→Rat
 | 0=>t.1
 | i+1=>pV ps rs t i*Qt.val (t.2.getD i Qt.zero) ps rs
def eV (ps:List PQ) (rs:List Rat) (l:QTs):Nat→Rat
 | 0=>0
 | i+1=>eV ps rs l i+pV ps rs (l.getD i (0,[])) (l.getD i (0,[])).2.length
def chQ (n m:Int):List Qt→Int
 | []=>0
 | q :: l=>if Qt.chk q n m=0 then chQ n m l else Qt.chk q n m
def chE (n m:Int):QTs→Int
 | []=>0
 | t :: l=>if chQ n m t.2=0 then chE n m l else chQ n m t.2
abbrev cQ0:List AV:=[.v (.bool false),.v (.slice none 0 0),.v (.slice none 0 0)]
section
attribute [local go_sem] underlying3 underlying4 underlying128 underlying50 underlying52 underlying54 underlying39 underlying55 underlying57 underlying26 underlying27 sz3 by3 z3 szB zB Zaw zRat Zay zInt Zax zNat Zah Zap Zai Bool.and_self Zal Za8 zSlQ szQT byQT zQT Zba zSlT szQP zQP underlying81 underlying29 szFr byFr zFr Zb4 Zb6 zSQP underlying33 underlying45 underlying9 Zbg zStr
end
end Go.Proofs.YtpkcophcldjboaaGreatDoor
namespace Go.Proofs.YtpkcophcldjboaaGreatDoor
open Go Go.RowKit Go.Pg Go.Pol Go.Proofs.Tryz
theorem Zot {α:Type} {R:α→α→Prop} (tr:∀a b c,R a b→R b c→R a c):∀{l:List α},(∀i (h:i+1 < l.length),R l[i] l[i+1])→l.Pairwise R
 | [],_=>.nil
 | [a],_=>ZGs _ _
 | a :: b :: l,h=>by
   have h0:R a b:=h 0 zs;have ht:(b :: l).Pairwise R:=Zot tr λi hi=>h (i+1) (by simpa using hi);refine List.pairwise_cons.2 ⟨λc hc=>?_,ht⟩;rcases List.mem_cons.1 hc with rfl | hc
   ·exact h0
   ·exact tr _ _ _ h0 ((List.pairwise_cons.1 ht).1 c hc)
theorem cmp_tr {α:Type} {cmp:α→α→Int} (o:CO cmp) (a b c:α) (h1:cmp a b≤0) (h2:cmp b c≤0):cmp a c≤0:=by
 rcases Int.lt_or_eq_of_le h1 with h | h
 ·rcases Int.lt_or_eq_of_le h2 with k | k
  ·have:=o.tr _ _ _ h k;omega
  ·rw [←o.eqz _ _ k];exact h1
 ·rw [o.eqz _ _ h];exact h2
theorem prod_ok {q:List Qt} (h:Zl7 q=true):okQ q:=by
 have hall:=λi (hi:i < q.length)=>List.all_eq_true.1 h i (List.mem_range.2 hi);refine⟨Zot (cmp_tr qtO) λi hi=>?_,λx hx=>?_⟩
 ·have:=hall (i+1) hi;unfold Zkc at this;simp only [ZC2,ZFg,ZDb,ZFb] at this;rcases this.2 with h1 | h1
  ·omega
  ·rwa [Zeg zo,Zeg hi] at h1
 ·obtain⟨i,hi,rfl⟩:=ZIe hx;have:=hall i hi;unfold Zkc at this;simp only [ZC2,ZDb] at this;have:=this.1
  rwa [Zeg hi] at this
theorem rgt_ex {l:List RE} (h:rgtB l=true):EX (l.map RE.rt):=by
 have hall:=λi (hi:i < l.length)=>List.all_eq_true.1 h i (List.mem_range.2 hi);refine⟨λt ht=>?_,List.pairwise_map.2 (Zot (R:=λa b:RE=>ordQ a.q b.q < 0) (λa b c h1 h2=>Zbb.tr _ _ _ h1 h2) λi hi=>?_)⟩
 ·obtain⟨u,hu,rfl⟩:=List.mem_map.1 ht;obtain⟨i,hi,rfl⟩:=ZIe hu;have:=hall i hi;unfold Zgt at this;simp only [ZC2,ZEz,ZFm] at this;rw [Zeg hi] at this;exact⟨this.2.1,prod_ok this.2.2.1⟩
 ·have:=hall (i+1) hi;unfold Zgt at this;simp only [ZC2,ZFg,ZDb,ZFb] at this;rcases this.2.2.2 with h1 | h1
  ·omega
  ·rwa [Zeg zo,Zeg hi] at h1
theorem Zu6:∀(l:QTs),(∀t∈l,(toL t.1.den).length≤2)→∃D,D≠0∧D < 65536 ^ (2*l.length+1)∧∀t∈l,t.1.den ∣ D
 | [],_=>⟨1,zo,by decide,λt ht=>by cases ht⟩
 | a :: l,h=>by
   obtain⟨D,h0,h1,h2⟩:=Zu6 l λt ht=>h t (.tail _ ht);have h3:=Zaf.1 (h a (.head _));refine⟨a.1.den*D,ZE8 a.1.den_nz h0,?_,λt ht=>?_⟩
   ·have h4:=ZFt h3 h1;rw [←ZDj] at h4;rw [ZCu,show 2*(l.length+1)+1=2+(2*l.length+1) from by omega];exact h4
   ·rcases List.mem_cons.1 ht with rfl | ht
    ·exact ZF2 _ _
    ·exact Nat.dvd_trans (h2 t ht) (ZH2 _ _)
theorem cl_small {a:Rat} (h:(toL a.num.natAbs).length≤2):cl a≤65536 ^ 2:=by
 have h3:=Zaf.1 h;refine ZBn.2 (ZCk (Nat.le_of_lt h3) (ZFn _ (ZEe a.den_nz)))
theorem Zue:∀(l:QTs),(∀t∈l,(toL t.1.num.natAbs).length≤2)→n1 l≤l.length*65536 ^ 2
 | [],_=>by simp [n1]
 | a :: l,h=>by
   rw [Zbd,ZCu,Nat.add_one_mul];have:=Zue l λt ht=>h t (.tail _ ht);have:=cl_small (h a (.head _));omega
theorem Ztf {T Q k:Nat} {l:List RE} (hr:∀t∈l,t.r.lm k) (h:Zgz T Q l=true) (hT:T≤8):XB (l.map RE.rt) 17 Q∧(l.map RE.rt).length≤T:=by
 unfold Zgz at h;simp only [ZC2,ZDb] at h;have hq:=rt_qk hr h.2.1;have hl:(l.map RE.rt).length=l.length:=ZCj ..;obtain⟨D,h0,h1,h2⟩:=Zu6 (l.map RE.rt) λt ht=>(hq t ht).1.2;have h3:=Zue (l.map RE.rt) λt ht=>(hq t ht).1.1;refine⟨⟨rgt_ex h.2.2,λt ht=>(hq t ht).2,D,n1 (l.map RE.rt),h0,ZEh h1 (ZDl zo zo),?_,h2,ZCi _⟩,zo⟩;have h4:(l.map RE.rt).length*65536 ^ 2≤8*65536 ^ 2:=ZCw _ zo;have h5:65536 ^ 3≤65536 ^ 17:=ZDl zo zo;have h6:8*65536 ^ 2 < 65536 ^ 3:=by decide
 omega
end Go.Proofs.YtpkcophcldjboaaGreatDoor
namespace Go.Proofs.YtpkcophcldjboaaGreatDoor
open Go Go.RowKit Go.Pg Go.Pol Go.Proofs.Tryz
attribute [-bool_to_prop] Bool.and_eq_decide Bool.or_eq_decide Bool.decide_beq_decide decide_eq_decide
attribute [local go_sem] Zaw Zay Zax Zah Zap Zai Bool.and_self Zal Za8 Zba Zb4 Zb6 Zbg
theorem XB.neg {q:QTs} {k n:Nat} (h:XB q k n):XB (sclT (-1) q) k n:=by
 obtain⟨a,b,D,B,c,d,e,f⟩:=h;refine⟨⟨λt ht=>?_,List.pairwise_map.2 a.2⟩,λt ht=>?_,D,B,c,d,e,λt ht=>?_,?_⟩
 ·obtain⟨u,hu,rfl⟩:=List.mem_map.1 ht;refine⟨λh=>(a.1 u hu).1 ?_,(a.1 u hu).2⟩;have h:(-1:Rat)*u.1=0:=h;rw [Rat.neg_mul,ZGl] at h;have:=ZD2 (λz:Rat=>-z) h
  simpa using this
 ·obtain⟨u,hu,rfl⟩:=List.mem_map.1 ht;exact b u hu
 ·obtain⟨u,hu,rfl⟩:=List.mem_map.1 ht;have:=f.1 u hu;show((-1:Rat)*u.1).den ∣ D;have e1:((-1:Rat)*u.1)=-u.1:=by rw [Rat.neg_mul,ZGl]
  rw [e1];exact this
 ·refine ZCk (Nat.le_of_eq ?_) f.2;unfold n1 sclT;rw [List.map_map];congr 1;refine ZE4 λu _=>?_;show cl ((-1:Rat)*u.1)=cl u.1;have e1:((-1:Rat)*u.1)=-u.1:=by rw [Rat.neg_mul,ZGl]
  rw [e1];unfold cl;rw [show(-u.1).num=-u.1.num from rfl,show(-u.1).den=u.1.den from rfl,ZHn]
def reP (p:QTs):List RE:=p.map λt=>⟨rawQ t.1,t.2⟩
theorem reP_av (p:QTs):(reP p).map RE.av=p.map qtA:=by unfold reP;rw [List.map_map];rfl
theorem sgP_ok {l:List Qt} (h:∀q∈l,q.norm=(q,1)):sgP l=1:=by
 have key:∀(l:List Qt) (s:Int),(∀q∈l,q.norm=(q,1))→l.foldl (λs q=>s*q.norm.2) s=s:=by
  intro l
  induction l with
  | nil=>intro s _;rfl
  | cons a l ih=>intro s h;rw [ZHd,h a (.head _),Int.mul_one];exact ih s λq hq=>h q (.tail _ hq)
 exact key l 1 h
theorem nsP_ok:∀{l:List Qt},(∀q∈l,q.norm=(q,1))→nsP l=l
 | [],_=>rfl
 | a :: l,h=>by
   show a.norm.1 :: nsP l=a :: l;rw [h a (.head _),nsP_ok λq hq=>h q (.tail _ hq)]
theorem putP_ok {l:List Qt} (h:okQ l):putP l=l:=by
 rw [←Zxs (by rw [sgP_ok h.2];decide),nsP_ok h.2];exact Ze8 qtO (Zby qtO.cp _) h.1 (Za3 _)
theorem reP_ok {p:QTs} (h:∀t∈p,okQ t.2):(reP p).all RE.ok=true:=by
 rw [ZFk];intro t ht;obtain⟨u,hu,rfl⟩:=List.mem_map.1 ht;show((rawQ u.1).ok && u.2.all Qt.ok)=true;rw [Zrq,ZEf,ZFk];exact λq hq=>Zg7 ((h u hu).2 q hq)
theorem reP_t:∀{p:QTs},(∀t∈p,okQ t.2)→(reP p).map RE.t=p
 | [],_=>rfl
 | u :: p,h=>by
   show RE.t ⟨rawQ u.1,u.2⟩ :: (reP p).map RE.t=u :: p;rw [reP_t λt ht=>h t (.tail _ ht)];show((rawQ u.1).q*(sgP u.2:Rat),putP u.2) :: p=u :: p;rw [Zyv,sgP_ok (h u (.head _)).2,putP_ok (h u (.head _)),show((1:Int):Rat)=1 from rfl,ZGt]
theorem nrm_re {p:QTs} (h:∀t∈p,okQ t.2):nrmR (reP p)=qpA (gatM p):=by rw [Zzu (reP_ok h),reP_t h]
theorem reP_lm {p:QTs} {j n:Nat} (h:QK p j n):(∀t∈reP p,t.r.lm j)∧∀t∈reP p,t.q.length≤n:=by
 refine⟨λt ht=>?_,λt ht=>?_⟩<;>obtain⟨u,hu,rfl⟩:=List.mem_map.1 ht
 ·exact Zk7 (h u hu).1
 ·exact(h u hu).2
theorem Zst (φ:List Qt→Rat) (s:Rat):∀p:QTs,evl φ (sclT s p)=s*evl φ p
 | []=>by show(0:Rat)=s*0;rw [ZGu]
 | t :: p=>by
   show s*t.1*φ t.2+evl φ (sclT s p)=s*(t.1*φ t.2+evl φ p);rw [Zst φ s p];grind
theorem EX.neg {p:QTs} (h:EX p):EX (sclT (-1) p):=by
 refine⟨λt ht=>?_,List.pairwise_map.2 h.2⟩;obtain⟨u,hu,rfl⟩:=List.mem_map.1 ht;refine⟨λh0=>(h.1 u hu).1 ?_,(h.1 u hu).2⟩;have h0:(-1:Rat)*u.1=0:=h0
 grind
theorem NB.nz {D B:Nat} {l:QTs} (h:NB D B l):NB D B (nzT l):=by
 refine⟨λt ht=>h.1 t (List.mem_filter.1 ht).1,ZCk ?_ h.2⟩;clear h;unfold nzT
 induction l with
 | nil=>exact ZCi _
 | cons t l ih =>
   rw [Zbd];by_cases h0:t.1=0
   ·rw [ZF3 (by simpa using h0)];omega
   ·rw [ZF4 (by simpa using h0),Zbd];omega
theorem exNrmG (p:QTs) {D C a b n:Nat} (hN:NB D C p) (h0:D≠0) (hd:D < 65536 ^ a) (hb:C < 65536 ^ b) (ho:∀t∈p,okQ t.2) (hl:p.length≤1000000) (hq:∀t∈p,t.2.length≤n) (hn:n≤maxQ) (hj:a+b≤900000):Pure prog 78 [qpA p] (qpA (gatM p)):=by
 have hqk:=Zwa hN h0 hd hb hq;have c:=exNormG (reP p) (J:=a+b) (JA:=a+b) (nQ:=n) (by show(List.map _ _).length≤_;rw [ZCj];exact hl) (reP_lm hqk).1 (reP_lm hqk).2 hn hj zo λi hi _=>by
  have e:((reP p).take i).map RE.t=p.take i:=by
   have e1:(reP p).take i=reP (p.take i):=by unfold reP;rw [List.map_take]
   rw [e1,reP_t λt ht=>ho t (ZDw ht)]
  rw [e];have hmem:∀t∈nzT (p.take i),t∈p:=λt ht=>ZDw (List.mem_filter.1 ht).1;have hnb:=acc_nb (nzT (p.take i)) [] (NB.nil D 0) (NB.nz (hN.take i));rw [ZC9] at hnb;refine⟨Zwa hnb h0 hd hb ?_,?_,?_⟩
  ·exact Zjp (P:=λx=>x.length≤n) _ [] (λt ht=>by cases ht) λt ht=>hq t (hmem t ht)
  ·exact Zjp (P:=λx=>∀q∈x,q.b8) _ [] (λt ht=>by cases ht) λt ht=>(ho t (hmem t ht)).b8
  ·have h1:=ZCa (nzT (p.take i)) [];have h2:=Zr0 (p.take i);rw [ZCz] at h2;rw [ZC6] at h1;exact ZCk h1 zo
 rwa [reP_av,nrm_re ho] at c
theorem Ztg {T Q k:Nat} {l:List RE} (hr:∀t∈l,t.r.lm k) (h:Zgz T Q l=true):l.map RE.av=(l.map RE.rt).map qtA:=by
 unfold Zgz at h;simp only [ZC2,ZDb] at h;exact rt_av hr h.2.1
end Go.Proofs.YtpkcophcldjboaaGreatDoor
namespace Go.Proofs.YtpkcophcldjboaaGreatDoor
open Go Go.RowKit Go.Pg Go.Pol Go.Proofs.Tryz
def tmQ (q:Qt) (l:List Qt):Nat:=(l.filter λx=>decide (x=q)).length
def woQ (q:Qt) (l:List Qt):List Qt:=l.filter λx=>decide (x≠q)
def woL (q:Qt) (a:QTs) (k:Nat):QTs:=(a.filter λt=>decide (tmQ q t.2=k)).map λt=>(t.1,woQ q t.2)
def moQ (q:Qt) (a:QTs):Nat:=a.foldl (λn t=>max n (tmQ q t.2)) 0
theorem Zq5 (q:Qt):∀l:List Qt,tmQ q l+(woQ q l).length=l.length
 | []=>rfl
 | a :: l=>by
   have ih:=Zq5 q l;unfold tmQ woQ at *;by_cases h:a=q
   ·rw [ZF4 (by simpa using h),ZF3 (by simpa using h),ZCu,ZCu];omega
   ·rw [ZF3 (by simpa using h),ZF4 (by simpa using h),ZCu,ZCu];omega
theorem Zxf (q:Qt) (l:List Qt):tmQ q l≤l.length:=by have:=Zq5 q l;omega
theorem Zsb (q:Qt) (a:QTs) (t:Rat × List Qt):moQ q (a++[t])=max (moQ q a) (tmQ q t.2):=by unfold moQ;rw [ZGm];rfl
theorem mo_le {q:Qt} {n:Nat} {a:QTs} (h:∀t∈a,t.2.length≤n):moQ q a≤n:=by
 have key:∀(a:QTs) (s:Nat),s≤n→(∀t∈a,t.2.length≤n)→a.foldl (λn t=>max n (tmQ q t.2)) s≤n:=by
  intro a
  induction a with
  | nil=>exact λs hs _=>hs
  | cons t a ih=>exact λs hs h=>ih _ (by show max s (tmQ q t.2)≤n;have:=Zxf q t.2;have:=h t (.head _);omega) λu hu=>h u (.tail _ hu)
 exact key a 0 (ZCr _) h
theorem Zw6 (q:Qt) (a:QTs) (t:Rat × List Qt) (k:Nat):woL q (a++[t]) k=if tmQ q t.2=k then woL q a k++[(t.1,woQ q t.2)] else woL q a k:=by
 unfold woL;rw [ZFe,ZDd];split
 ·rename_i h;rw [ZF4 (by simpa using h)];rfl
 ·rename_i h;rw [ZF3 (by simpa using h)];simp
theorem wo_above {q:Qt}:∀{a:QTs} {k:Nat},moQ q a < k→woL q a k=[]:=by
 intro a k h
 have key:∀(a:QTs) (s:Nat),a.foldl (λn t=>max n (tmQ q t.2)) s < k→s < k∧a.filter (λt=>decide (tmQ q t.2=k))=[]:=by
  intro a
  induction a with
  | nil=>exact λs hs=>⟨hs,rfl⟩
  | cons t a ih =>
    intro s hs;obtain⟨h1,h2⟩:=ih _ hs;have h1:max s (tmQ q t.2) < k:=h1;refine⟨zo,?_⟩;rw [ZF3 (by simp;omega)];exact h2
 unfold woL;rw [(key a 0 h).2];rfl
theorem Zoz (q:Qt) (a:QTs) (k:Nat):(woL q a k).length≤a.length:=by unfold woL;rw [ZCj];exact ZG5 _ _
theorem okQ.wo {l:List Qt} (h:okQ l) (q:Qt):okQ (woQ q l):=⟨h.1.filter _,λx hx=>h.2 x (List.mem_filter.1 hx).1⟩
theorem Ziy {q:Qt} {a:QTs} {k:Nat} {u:Rat × List Qt} (h:u∈woL q a k):∃t∈a,u=(t.1,woQ q t.2):=by
 obtain⟨t,ht,rfl⟩:=List.mem_map.1 h;exact⟨t,(List.mem_filter.1 ht).1,rfl⟩
theorem Zs4 {a:QTs} (h:∀t∈a,okQ t.2) (q:Qt) (k:Nat):∀t∈woL q a k,okQ t.2:=λu hu=>by
 obtain⟨t,ht,rfl⟩:=Ziy hu;exact(h t ht).wo q
theorem Zm7 {a:QTs} {n:Nat} (h:∀t∈a,t.2.length≤n) (q:Qt) (k:Nat):∀t∈woL q a k,t.2.length≤n:=λu hu=>by
 obtain⟨t,ht,rfl⟩:=Ziy hu;exact ZCk (by have:=Zq5 q t.2;show(woQ q t.2).length≤_;omega) (h t ht)
theorem Zzx (q:Qt) (k:Nat):∀a:QTs,n1 (woL q a k)≤n1 a
 | []=>ZCi _
 | t :: a=>by
   have ih:=Zzx q k a;unfold woL at *;by_cases h:tmQ q t.2=k
   ·rw [ZF4 (by simpa using h),ZDq,Zbd,Zbd];exact Nat.add_le_add_left ih _
   ·rw [ZF3 (by simpa using h),Zbd];omega
abbrev paQ (q:Qt) (a:QTs) (k:Nat):QTs:=gatM (woL q a k)
theorem XB.part {a:QTs} {k n:Nat} (h:XB a k n) (q:Qt) (i:Nat):XB (paQ q a i) k n:=by
 obtain⟨a1,b,D,B,c,d,e,f⟩:=h;refine⟨Zgy Zbb (Zs4 a1.dom q i),Zi6 (Zm7 b q i),D,B,c,d,e,NB.sumG ⟨λt ht=>?_,ZCk (Zzx q i a) f.2⟩⟩;obtain⟨u,hu,rfl⟩:=Ziy ht;exact f.1 u hu
theorem gat_len (l:QTs):(gatM l).length≤l.length:=by
 obtain⟨j,hj⟩:∃j,QK l j ((l.map λt=>t.2.length).sum):=by
  induction l with
  | nil=>exact⟨0,λt ht=>by cases ht⟩
  | cons a l ih =>
    obtain⟨j,hj⟩:=ih;refine⟨max j (max (toL a.1.num.natAbs).length (toL a.1.den).length),λt ht=>?_⟩;rw [ZDq,List.sum_cons];rcases List.mem_cons.1 ht with rfl | ht
    ·exact⟨⟨zo,zo⟩,zo⟩
    ·exact⟨(hj t ht).1.mono zo,by have:=(hj t ht).2;omega⟩
 exact(Zmv _ l rfl hj).2
theorem Zt7 (q:Qt) (a:QTs) (k:Nat):(paQ q a k).length≤a.length:=ZCk (gat_len _) (Zoz q a k)
abbrev pwX (d:QTs) (i:Nat):QTs:=pwG ordQ muQ [] d i
abbrev hnX (P:Nat→QTs) (a d:QTs) (m i:Nat):QTs:=hnG ordQ muQ [] P a d m i
abbrev rfX (P:Nat→QTs) (a d:QTs) (m i:Nat):QTs:=rfG ordQ muQ [] P a d m i
theorem Zs3:XB [((1:Rat),[])] 1 0:=xbC _ _ (by decide +kernel)
theorem Zmb:XB [] 1 0:=xbC _ _ (by decide +kernel)
theorem XB.pw {d:QTs} {k n:Nat} (h:XB d k n):∀i,XB (pwX d i) (1+i*k) (i*n)
 | 0=>by rw [ZE6,ZE6];exact Zs3
 | i+1=>(XB.mul (h.pw i) h).mono (by rw [ZD8];omega) (by rw [ZD8];omega)
theorem Zgq {d:QTs} {L:Nat} (h:d.length≤L):∀i,(pwX d i).length≤L ^ i
 | 0=>ZCi _
 | i+1=>ZCk (Zc4 _ _) (by rw [ZDk];exact ZDe (Zgq h i) h)
section
variable {P:Nat→QTs} {a d:QTs} {kp kb np nb LP L:Nat}
theorem XB.hn (hP:∀k,XB (P k) kp np) (ha:XB a kb nb) (hd:XB d kb nb) (m:Nat):∀i,XB (hnX P a d m i) (1+i*(kp+kb+2+i*kb)) (np+i*nb)
 | 0=>Zmb.mono zo (ZCr _)
 | i+1=>by
   have h1:=((XB.hn hP ha hd m i).mul ha).add ((hP (m - i)).mul (hd.pw i));refine XB.mono h1 ?_ ?_
   ·have e:(i+1)*(kp+kb+2+(i+1)*kb)=i*(kp+kb+2+i*kb)+i*kb+(kp+kb+2+(i*kb+kb)):=by grind
    rw [e];omega
   ·rw [ZD8];exact Nat.max_le.2 ⟨zo,zo⟩
theorem hn_len (hP:∀k,(P k).length≤LP) (ha:a.length≤L) (hd:d.length≤L) (hL:1≤L) (m:Nat):∀i,(hnX P a d m i).length≤i*LP*L ^ i
 | 0=>ZCr _
 | i+1=>by
   refine ZCk (Zfo _ _) ?_;have h1:=ZCk (Zc4 (hnX P a d m i) a) (ZDe (hn_len hP ha hd hL m i) ha);have h2:=ZCk (Zc4 (P (m - i)) (pwX d i)) (ZDe (hP _) (Zgq hd i));have h3:LP*L ^ i≤LP*L ^ i*L:=ZFn _ hL;refine ZCk (ZDt h1 h2) ?_;have e:(i+1)*LP*L ^ (i+1)=i*LP*L ^ i*L+LP*L ^ i*L:=by rw [ZDk];grind
   rw [e];omega
theorem XB.rf (hP:∀k,XB (P k) kp np) (ha:XB a kb nb) (hd:XB d kb nb) (m:Nat):∀i,i≤m+1→XB (rfX P a d m i) (1+i*(kp+3+m*kb)) (np+m*nb)
 | 0,_=>Zmb.mono zo (ZCr _)
 | i+1,hi=>by
   have h1:=(XB.rf hP ha hd m i zo).add (((hP i).mul (ha.pw i)).mul (hd.pw (m - i)));have e1:i*kb+(m - i)*kb=m*kb:=by rw [←ZC8];congr 1;omega
   have e2:i*nb+(m - i)*nb=m*nb:=by rw [←ZC8];congr 1;omega
   refine XB.mono h1 ?_ ?_
   ·rw [ZD8];omega
   ·exact Nat.max_le.2 ⟨zo,zo⟩
theorem Ztr (hP:∀k,(P k).length≤LP) (ha:a.length≤L) (hd:d.length≤L) (m:Nat):∀i,i≤m+1→(rfX P a d m i).length≤i*(LP*L ^ m)
 | 0,_=>ZCr _
 | i+1,hi=>by
   refine ZCk (Zfo _ _) ?_;have h1:=Ztr hP ha hd m i zo;have h2:=ZCk (Zc4 (P i) (pwX a i)) (ZDe (hP _) (Zgq ha i));have h3:=ZCk (Zc4 (mulX (P i) (pwX a i)) (pwX d (m - i))) (ZDe h2 (Zgq hd (m - i)));have e:LP*L ^ i*L ^ (m - i)=LP*L ^ m:=by rw [ZDm,←ZDj];congr 2;omega
   rw [e] at h3;rw [ZD8];exact ZDt h1 h3
end
abbrev rpN (q:Qt) (a num den:QTs):QTs:=rfX (paQ q a) num den (moQ q a) (moQ q a+1)
abbrev rpD (q:Qt) (a den:QTs):QTs:=pwX den (moQ q a)
theorem Zx9 (q:Qt) {a num den:QTs} (ha:EX a) (hn:EX num) (hd:EX den):hnX (paQ q a) num den (moQ q a) (moQ q a+1)=rpN q a num den :=
 horner rgQ (λk=>Zgy Zbb (Zs4 ha.dom q k)) hn hd _
theorem Zk1 (p:QTs):sclT 1 p=p:=Zti p
theorem mul_neg {p:QTs} (h:EX p):mulX [((-1:Rat),[])] p=sclT (-1) p :=
 Zhb (D:=okQ) Zbb (Zbh rgQ ⟨λt ht=>by rw [List.mem_singleton.1 ht];exact⟨by decide +kernel,rgQ.de⟩,ZGs _ _⟩ h) h.neg λφ=>by
  rw [Zfu Zbb,Zst];show(-1:Rat)*evl (λk=>φ (muQ [] k)) p+0=_;rw [ZEu];congr 1
  have key:∀p:QTs,(∀t∈p,okQ t.2)→evl (λk=>φ (muQ [] k)) p=evl φ p:=by
   intro p
   induction p with
   | nil=>intro _;rfl
   | cons t p ih =>
     intro h;show t.1*φ (muQ [] t.2)+_=t.1*φ t.2+_;rw [ih λu hu=>h u (.tail _ hu),rgQ.comm,rgQ.one _ (h t (.head _))]
  exact key p h.dom
structure XN (p:QTs) (D B n:Nat):Prop where
 ex:EX p
 q:∀t∈p,t.2.length≤n
 nb:NB D B p
theorem XN.mono {p:QTs} {D B n E C m:Nat} (h:XN p D B n) (hd:D ∣ E) (hb:B≤C) (hn:n≤m):XN p E C m:=⟨h.ex,λt ht=>ZCk (h.q t ht) hn,h.nb.mono hd hb⟩
theorem XN.mul {p q:QTs} {D B n E C m:Nat} (h:XN p D B n) (g:XN q E C m):XN (mulX p q) (D*E) (B*C) (n+m) :=
 ⟨Zbh rgQ h.ex g.ex,Zi6 (Zit h.q g.q),(h.nb.prodL g.nb).sumG⟩
theorem XN.add {p q:QTs} {D B n C m:Nat} (h:XN p D B n) (g:XN q D C m):XN (Zav p q) D (B+C) (max n m):=by
 refine⟨Zgp Zbb h.ex g.ex,λt ht=>?_,h.nb.addP g.nb⟩;rcases Zg8 ht with h1 | h1 | ⟨s,hs,u,hu,rfl⟩
 ·have:=h.q t h1;omega
 ·have:=g.q t h1;omega
 ·have:=h.q s hs;show s.2.length≤_;omega
theorem XN.xb {p:QTs} {D B n k:Nat} (h:XN p D B n) (h0:D≠0) (hd:D < 65536 ^ k) (hb:B < 65536 ^ k):XB p k n:=⟨h.ex,h.q,D,B,h0,hd,hb,h.nb⟩
theorem XN.nil (D:Nat):XN [] D 0 0:=⟨Zmb.1,λt ht=>(by cases ht),NB.nil D 0⟩
theorem XN.one:XN [((1:Rat),[])] 1 1 0:=⟨Zs3.1,λt ht=>by rw [List.mem_singleton.1 ht];exact ZCi _,λt ht=>by rw [List.mem_singleton.1 ht];decide +kernel,by decide +kernel⟩
theorem XN.pw {d:QTs} {E C n:Nat} (h:XN d E C n):∀i,XN (pwX d i) (E ^ i) (C ^ i) (i*n)
 | 0=>by rw [ZGg,ZGg,ZE6];exact XN.one
 | i+1=>by rw [ZDk,ZDk,ZD8];exact(h.pw i).mul h
theorem XN.part {a:QTs} {D B n:Nat} (h:XN a D B n) (q:Qt) (k:Nat):XN (paQ q a k) D B n :=
 ⟨Zgy Zbb (Zs4 h.ex.dom q k),Zi6 (Zm7 h.q q k),NB.sumG ⟨λt ht=>by obtain⟨u,hu,rfl⟩:=Ziy ht;exact h.nb.1 u hu,ZCk (Zzx q k a) h.nb.2⟩⟩
section
variable {P:Nat→QTs} {a d:QTs} {D B E C np nb:Nat}
theorem XN.hn (hP:∀k,XN (P k) D B np) (ha:XN a E C nb) (hd:XN d E C nb) (hC:1≤C) (m:Nat):∀i,XN (hnX P a d m i) (D*E ^ i) (i*(B*C ^ i)) (np+i*nb)
 | 0=>by rw [ZE6,ZE6];exact(XN.nil _).mono (ZEv _) (ZCi _) (ZCr _)
 | i+1=>by
   have h1:=(XN.hn hP ha hd hC m i).mul ha;have h2:=(hP (m - i)).mul (hd.pw i);have e1:D*E ^ (i+1)=D*E ^ i*E:=by rw [ZDk,ZDm]
   have e2:(i+1)*(B*C ^ (i+1))=i*(B*C ^ i)*C+B*C ^ i*C:=by rw [ZDk];grind
   have h3:=XN.add h1 (h2.mono (E:=D*E ^ i*E) (ZF2 _ _) (ZCi _) (ZCi _));rw [e1,e2];exact h3.mono (ZEv _) (Nat.add_le_add_left (ZFn _ hC) _) (by rw [ZD8];exact Nat.max_le.2 ⟨zo,zo⟩)
theorem XN.rf (hP:∀k,XN (P k) D B np) (ha:XN a E C nb) (hd:XN d E C nb) (m:Nat):∀i,i≤m+1→XN (rfX P a d m i) (D*E ^ m) (i*(B*C ^ m)) (np+m*nb)
 | 0,_=>by rw [ZE6];exact(XN.nil _).mono (ZEv _) (ZCi _) (ZCr _)
 | i+1,hi=>by
   have h1:=XN.rf hP ha hd m i zo;have h2:=((hP i).mul (ha.pw i)).mul (hd.pw (m - i));have e1:D*E ^ i*E ^ (m - i)=D*E ^ m:=by rw [ZDm,←ZDj];congr 2;omega
   have e2:B*C ^ i*C ^ (m - i)=B*C ^ m:=by rw [ZDm,←ZDj];congr 2;omega
   have e3:np+i*nb+(m - i)*nb=np+m*nb:=by rw [ZHa,←ZC8];congr 2;omega
   rw [e1,e2,e3] at h2;have h3:=h1.add h2;rw [ZD8];exact h3.mono (ZEv _) (ZCi _) zo
end
theorem two_xn {a d:QTs} {k n:Nat} (ha:XB a k n) (hd:XB d k n):∃E C,E≠0∧1≤C∧E < 65536 ^ (2*k)∧C < 65536 ^ k∧XN a E C n∧XN d E C n:=by
 obtain⟨a1,b1,D1,B1,c1,d1,e1,f1⟩:=ha;obtain⟨a2,b2,D2,B2,c2,d2,e2,f2⟩:=hd;have hk:k≠0:=λh=>by rw [h,ZGg] at d1;omega
 have hp:65536≤65536 ^ k:=Nat.le_self_pow hk _;refine⟨D1*D2,max 1 (max B1 B2),ZE8 c1 c2,zo,?_,zo,⟨a1,b1,f1.mono (ZF2 ..) zo⟩,⟨a2,b2,f2.mono (ZH2 ..) zo⟩⟩;rw [Nat.two_mul,ZDj];exact ZFt d1 d2
theorem Zza {E k:Nat} (h:E < 65536 ^ k) (i:Nat):E ^ i≤65536 ^ (i*k):=by
 rw [ZDh,Nat.pow_mul];exact ZIc (Nat.le_of_lt h) i
theorem Zz4 {B C k j i m:Nat} (hB:B < 65536 ^ k) (hC:C < 65536 ^ j) (hi:i≤65536):i*(B*C ^ m) < 65536 ^ (k+1+m*(2*j)):=by
 have h1:C ^ m≤65536 ^ (m*(2*j)):=ZCk (Zza hC m) (ZDl zd (ZEc _ zo));have h0:0 < 65536 ^ (m*(2*j)):=ZGf zd;have h2:B*C ^ m < 65536 ^ k*65536 ^ (m*(2*j)):=ZG3 (ZEc _ h1) (ZHl hB h0);have e:65536 ^ (k+1+m*(2*j))=65536*(65536 ^ k*65536 ^ (m*(2*j))):=by rw [ZDj,ZDk];grind
 rw [e];rcases ZDr i with rfl | h3
 ·rw [ZE6];exact Nat.mul_pos zd (Nat.mul_pos (ZGf zd) h0)
 ·exact ZEh ((Nat.mul_lt_mul_left h3).2 h2) (ZCw _ hi)
theorem Zz5 {D E k j m:Nat} (hD:D < 65536 ^ k) (hE:E < 65536 ^ (2*j)):D*E ^ m < 65536 ^ (k+1+m*(2*j)):=by
 have h1:E ^ m≤65536 ^ (m*(2*j)):=Zza hE m;have h0:0 < 65536 ^ (m*(2*j)):=ZGf zd;have h2:D*E ^ m < 65536 ^ k*65536 ^ (m*(2*j)):=ZG3 (ZEc _ h1) (ZHl hD h0);rw [←ZDj] at h2;exact ZEh h2 (ZDl zd zo)
theorem hn_xb {a num den:QTs} {ka kb na nb:Nat} (ha:XB a ka na) (hu:XB num kb nb) (hd:XB den kb nb) (q:Qt) (m i:Nat) (hi:i≤65536):XB (hnX (paQ q a) num den m i) (ka+1+i*(2*kb)) (na+i*nb):=by
 obtain⟨E,C,e0,c0,e1,c1,g1,g2⟩:=two_xn hu hd;obtain⟨a1,b1,D,B,d0,d1,d2,d3⟩:=ha;have g:XN a D B na:=⟨a1,b1,d3⟩;exact(XN.hn (λk=>g.part q k) g1 g2 c0 m i).xb (ZE8 d0 (Nat.ne_of_gt (ZGf (ZEe e0)))) (Zz5 d1 e1) (Zz4 d2 c1 hi)
theorem rf_xb {a num den:QTs} {ka kb na nb:Nat} (ha:XB a ka na) (hu:XB num kb nb) (hd:XB den kb nb) (q:Qt) (m i:Nat) (hm:m < 65536) (hi:i≤m+1):XB (rfX (paQ q a) num den m i) (ka+1+m*(2*kb)) (na+m*nb):=by
 obtain⟨E,C,e0,c0,e1,c1,g1,g2⟩:=two_xn hu hd;obtain⟨a1,b1,D,B,d0,d1,d2,d3⟩:=ha;have g:XN a D B na:=⟨a1,b1,d3⟩;exact(XN.rf (λk=>g.part q k) g1 g2 m i hi).xb (ZE8 d0 (Nat.ne_of_gt (ZGf (ZEe e0)))) (Zz5 d1 e1) (Zz4 d2 c1 zo)
theorem hn_len2 {P:Nat→QTs} {a d:QTs} {LP L:Nat} (hP:∀k,(P k).length≤LP) (ha:a.length≤L) (hd:d.length≤L) (hL:1≤L) (m i M:Nat) (hi:i≤M):(hnX P a d m i).length≤M*LP*L ^ M :=
 ZCk (hn_len hP ha hd hL m i) (ZDe (ZCw _ hi) (ZDl hL hi))
end Go.Proofs.YtpkcophcldjboaaGreatDoor
namespace Go.Proofs.YtpkcophcldjboaaGreatDoor
open Go Go.RowKit Go.Pg Go.Pol Go.Proofs.Tryz
attribute [-bool_to_prop] Bool.and_eq_decide Bool.or_eq_decide Bool.decide_beq_decide decide_eq_decide
attribute [local go_sem] Zaw Zay Zax Zah Zap Zai Bool.and_self Zal Za8 Zba Zb4 Zb6
theorem Zq6 (q:Qt) (l:List Qt) (x:Qt):tmQ q (l++[x])=if x=q then tmQ q l+1 else tmQ q l:=by
 unfold tmQ;rw [ZFe,ZDa];split
 ·rename_i h;rw [ZF4 (by simpa using h)];rfl
 ·rename_i h;rw [ZF3 (by simpa using h)];rfl
theorem woQ_y {q x:Qt} (l:List Qt) (h:x≠q):woQ q (l++[x])=woQ q l++[x]:=by unfold woQ;rw [ZFe,ZF4 (by simpa using h)];rfl
theorem woQ_n {q x:Qt} (l:List Qt) (h:x=q):woQ q (l++[x])=woQ q l:=by unfold woQ;rw [ZFe,ZF3 (by simpa using h)];simp
theorem ZBl (a:Rat):nrmR (cstE a)=qpA (if a=0 then [] else [(a,[])]):=by
 have h:=nrm_re (p:=[(a,[])]) (λt ht=>by rw [List.mem_singleton.1 ht];exact rgQ.de)
 rwa [Zlo] at h
theorem cst_one:nrmR (cstE 1)=qpA [((1:Rat),[])]:=by rw [ZBl,ZCg (by decide +kernel)]
theorem Zrh (l:List Qt) (q:Qt) (hl:l.length≤1000000):Pure prog 59 [qsA l,q.av] (iv (tmQ q l)):=by
 have hlm:(l.map Qt.av).length=l.length:=ZCj ..;have hg:∀k (h:k < l.length),(l.map Qt.av).getD k .u=Qt.av l[k]:=λk h=>Zak Qt.av h;have hts:∀k (h:k < l.length),tmQ q (l.take (k+1))=if l[k]=q then tmQ q (l.take k)+1 else tmQ q (l.take k):=λk h=>by rw [ZEs h,Zq6]
 have hb:∀k,tmQ q (l.take k)≤1000000:=λk=>by have:=Zxf q (l.take k);rw [ZCz] at this;omega
 have hf:l.take l.length=l:=ZDu;obtain⟨q1,q2,q3,q4⟩:=q;show Pure _ _ [.sl 4 (l.map Qt.av),.agg [iv q1,iv q2,iv q3,iv q4]] _;generalize l.map Qt.av=A at *;refine pI func59 rfl ntmps59 results59 call59 ?_
 (refine wkad w_t w_t w_t (w_s ?_);intros)
 rename_i g3;refine Zad (ι:=Nat) (λk e m=>k≤l.length∧e 0=.sl 4 A∧(e 3=.pbox 3 g3 0∧m 3=some (.box g3 39 [iv q1,iv q2,iv q3,iv q4] false))∧e 5=iv (tmQ ⟨q1,q2,q3,q4⟩ (l.take k))∧e 6=iv k) (λk=>l.length - k) 0 zr ?_ ?_
 ·rintro k e m ⟨hk,e0,⟨e3,m3⟩,e5,e6⟩
  by_cases hlt:k < l.length
  ·have hgk:=hg k hlt;have htk:=hts k hlt;have hbk:=hb k;have c:=Zpg l[k].k l[k].a l[k].b l[k].c q1 q2 q3 q4;by_cases hx:l[k]=⟨q1,q2,q3,q4⟩
   ·rw [ZCh hx] at htk;rw [hx] at hgk c;rw [qtO.refl] at c;clear hts hg hb hf hx;generalize tmQ _ (l.take k)=tn at *;have hs:(tn:Int)+1=((tn+1:Nat):Int):=zo
    (refine wkad (w_8 e0 e3 m3 e5 e6 hlm hgk hs) (w_1 c) (w_1 (w_d 5 [(5,iv 0)] [] [])) (w_s ?_);intros)
    exact⟨k+1,⟨zo,gW e0,⟨gW e3,gW m3⟩,by rw [htk];exact gW (And.intro e5 hs),gS⟩,zo⟩
   ·rw [ZCg hx] at htk;have hz:Qt.cmp l[k] ⟨q1,q2,q3,q4⟩≠0:=λh=>hx (qtO.eqz _ _ h);have c:Pure prog _ _ (iv (Qt.cmp l[k] ⟨q1,q2,q3,q4⟩)):=c;clear hts hg hb hf hx;generalize Qt.cmp _ _=z at *;generalize l[k]=y at *;obtain⟨y1,y2,y3,y4⟩:=y;generalize tmQ _ (l.take k)=tn at *
    (refine wkad (w_8 e0 e3 m3 e5 e6 hlm hgk hz) (w_1 c) (w_1 (w_d 5 [(5,iv z)] [] [])) (w_s ?_);intros)
    exact⟨k+1,⟨zo,gW e0,⟨gW e3,gW m3⟩,by rw [htk];exact gW e5,gS⟩,zo⟩
  ·have:k=l.length:=zo;subst this;rw [hf] at e5;generalize tmQ _ l=tn at *
   (refine wkad (w_6 e0 e3 m3 e5 e6 hlm) w_t w_t (w_s ?_);intros)
   all_goals exact gL
 ·exact⟨ZCr _,gC,⟨gC,gC⟩,gC,gC⟩
theorem rxMost (a:QTs) (q:Qt) {n:Nat} (hl:a.length≤1000000) (hq:∀t∈a,t.2.length≤n) (hn:n≤1000000):Pure prog 24 [qpA a,q.av] (iv (moQ q a)):=by
 have hlm:(a.map qtA).length=a.length:=ZCj ..;have hg:∀k (h:k < a.length),(a.map qtA).getD k .u=qtA a[k]:=λk h=>Zak qtA h;have hts:∀k (h:k < a.length),moQ q (a.take (k+1))=max (moQ q (a.take k)) (tmQ q a[k].2):=λk h=>by rw [ZEs h,Zsb]
 have hf:a.take a.length=a:=ZDu;have ct:∀k (h:k < a.length),Pure prog 59 [qsA a[k].2,q.av] (iv (tmQ q a[k].2)):=λk h=>Zrh _ q (ZCk (hq _ (ZCt h)) hn);obtain⟨q1,q2,q3,q4⟩:=q;show Pure _ _ [.sl 4 (a.map qtA),.agg [iv q1,iv q2,iv q3,iv q4]] _;generalize a.map qtA=A at *;refine pI func24 rfl ntmps24 results24 call24 ?_
 (refine wkad w_t w_t w_t (w_s ?_);intros)
 rename_i g3;refine Zad (ι:=Nat) (λk e m=>k≤a.length∧e 0=.sl 4 A∧(e 3=.pbox 3 g3 0∧m 3=some (.box g3 39 [iv q1,iv q2,iv q3,iv q4] false))∧e 5=iv (moQ ⟨q1,q2,q3,q4⟩ (a.take k))∧e 6=iv k) (λk=>a.length - k) 0 zr ?_ ?_
 ·rintro k e m ⟨hk,e0,⟨e3,m3⟩,e5,e6⟩
  by_cases hlt:k < a.length
  ·have hgk:=hg k hlt;have htk:=hts k hlt;have c:=ct k hlt;clear hts hg hf hq ct;generalize moQ _ (a.take k)=mo at *;generalize a[k]=u at *;obtain⟨u1,u2⟩:=u;simp only at htk c;have hgk:A.getD k .u=.agg [.v (.bool (decide (u1.num < 0))),lim (toL u1.num.natAbs),lim (toL u1.den),.sl 4 (u2.map Qt.av)]:=hgk;have c:Pure prog 59 [.sl 4 (u2.map Qt.av),.agg [iv q1,iv q2,iv q3,iv q4]] (iv (tmQ ⟨q1,q2,q3,q4⟩ u2)):=c;generalize tmQ _ u2=tn at *;generalize u2.map Qt.av=UQ at *;generalize toL u1.num.natAbs=un at *;generalize toL u1.den=ud at *;generalize decide (u1.num < 0)=us at *;by_cases hc:(tn:Int) > (mo:Int)
   ·have hm:moQ ⟨q1,q2,q3,q4⟩ (a.take (k+1))=tn:=zo
    (refine wkad (w_8 e0 e3 m3 e5 e6 hlm hgk hc) (w_1 c) (w_1 (w_d 5 [(7,iv tn)] [] [])) (w_s ?_);intros)
    exact⟨k+1,⟨zo,gW e0,⟨gW e3,gW m3⟩,by rw [hm];exact gW (And.intro e5 hc),gS⟩,zo⟩
   ·have hm:moQ ⟨q1,q2,q3,q4⟩ (a.take (k+1))=mo:=zo
    (refine wkad (w_8 e0 e3 m3 e5 e6 hlm hgk hc) (w_1 c) (w_1 (w_d 5 [(7,iv tn)] [] [])) (w_s ?_);intros)
    exact⟨k+1,⟨zo,gW e0,⟨gW e3,gW m3⟩,by rw [hm];exact gW (And.intro e5 hc),gS⟩,zo⟩
  ·have:k=a.length:=zo;subst this;rw [hf] at e5;generalize moQ _ a=tn at *
   (refine wkad (w_6 e0 e3 m3 e5 e6 hlm) w_t w_t (w_s ?_);intros)
   all_goals exact gL
 ·exact⟨ZCr _,gC,⟨gC,gC⟩,gC,gC⟩
theorem Ztl:Pure prog 66 [.agg [.v (.bool false),lim [1],lim [1]]] (.sl 4 [.agg [.v (.bool false),lim [1],lim [1],.sl 4 []]]):=by
 have c:=Zx6 1 Zh7 zo;rw [cst_one,Zkg] at c;simp only [qpA,ZDq,ZE3,Ze2] at c;exact c
theorem rxOf1:Pure prog 65 [iv 1] (.agg [.v (.bool false),lim [1],lim [1]]):=by rw [←Zkg];exact qOfS (.inr (.inr rfl))
theorem Zrj (a:QTs) (n:Nat) {k nq L:Nat} (ha:XB a k nq) (hL:a.length≤L) (h1:1≤L) (hb:L ^ (n+1)≤100000000) (hk:1+n*k+k≤100000) (hn:n*nq+nq≤100000) (hn2:n≤1000000):Pure prog 27 [qpA a,iv n] (qpA (pwX a n)):=by
 have hi:∀i,i≤n→i*k≤n*k∧i*nq≤n*nq∧L ^ i≤L ^ n:=λi hi=>⟨ZCw _ hi,ZCw _ hi,ZDl h1 hi⟩;have e2:L ^ (n+1)=L ^ n*L:=ZDk ..;have e3:L ^ n≤L ^ n*L:=ZFn _ h1;have e4:L≤L ^ n*L:=ZHm _ (ZGf zo);have cm:∀i,i < n→Pure prog 26 [.sl 4 ((pwX a i).map qtA),.sl 4 (a.map qtA)] (.sl 4 ((pwX a (i+1)).map qtA)):=λi h=>by
  obtain⟨a1,a2,a3⟩:=hi i zo;have h2:=Zgq hL i;have h3:(pwX a i).length*a.length≤L ^ n*L:=ZDe (ZCk h2 a3) hL;exact Zx5 (pwX a i) a (ha.pw i) ha zo zo zo zo zo zo zo
 have c1:=Ztl;have c0:=rxOf1
 have h0:(pwX a 0).map qtA=[.agg [.v (.bool false),lim [1],lim [1],.sl 4 []]]:=by
  show [qtA ((1:Rat),[])]=_;rw [Ze2];rfl
 show Pure _ _ [.sl 4 (a.map qtA),iv n] (.sl 4 ((pwX a n).map qtA));generalize a.map qtA=A at *;generalize hPP:(λi=>(pwX a i).map qtA)=PP at *;have hPP:∀i,(pwX a i).map qtA=PP i:=λi=>by rw [←hPP]
 simp only [hPP] at cm h0 ⊢;clear hPP hi e2 e3 e4;refine pI func27 rfl ntmps27 results27 call27 ?_
 (refine wkad w_t (w_2 c0 c1) w_t (w_s ?_);intros)
 refine Zad (ι:=Nat) (λi e m=>i≤n∧e 0=.sl 4 A∧e 1=iv n∧e 5=.sl 4 (PP i)∧e 6=iv i) (λi=>n - i) 0 zr ?_ ?_
 ·rintro i e m ⟨hi,e0,e1,e5,e6⟩
  by_cases hlt:i < n
  ·have cmi:=cm i hlt
   (refine wkad (w_4 e0 e1 e5 e6) (w_1 cmi) w_t (w_s ?_);intros)
   exact⟨i+1,⟨zo,gW e0,gW e1,gC,gS⟩,zo⟩
  ·have:i=n:=zo;subst this
   (refine wkad (w_4 e0 e1 e5 e6) w_t w_t (w_s ?_);intros)
   all_goals exact gL
 ·exact⟨ZCr _,gC,gC,by rw [h0];exact gC,gC⟩
theorem Zx1 (a:QTs) (q:Qt) (k:Nat) {kb n:Nat} (ha:XB a kb n) (hl:a.length≤1000000) (hn:n≤1000000) (hk:kb≤400000) (hk2:k≤1000000):Pure prog 67 [qpA a,q.av,iv k] (qpA (paQ q a k)):=by
 have hlm:(a.map qtA).length=a.length:=ZCj ..;have hg:∀k (h:k < a.length),(a.map qtA).getD k .u=qtA a[k]:=λk h=>Zak qtA h;have hws:∀i (h:i < a.length),woL q (a.take (i+1)) k=if tmQ q a[i].2=k then woL q (a.take i) k++[(a[i].1,woQ q a[i].2)] else woL q (a.take i) k:=λi h=>by rw [ZEs h,Zw6]
 have hwl:∀i,((woL q (a.take i) k).map qtA).length≤1000000:=λi=>by
  rw [ZCj];have:=Zoz q (a.take i) k;rw [ZCz] at this;omega
 have hq:∀i (h:i < a.length),a[i].2.length≤n:=λi h=>ha.2.1 _ (ZCt h);have ct:∀i (h:i < a.length),Pure prog 59 [qsA a[i].2,q.av] (iv (tmQ q a[i].2)):=λi h=>Zrh _ q (ZCk (hq i h) hn);have hf:a.take a.length=a:=ZDu
 have cg:Pure prog 71 [.sl 4 ((woL q a k).map qtA)] (.sl 4 ((paQ q a k).map qtA)):=by
  obtain⟨a1,b,D,B,c,d,e,f⟩:=ha;have hw:NB D B (woL q a k):=⟨λt ht=>by obtain⟨u,hu,rfl⟩:=Ziy ht;exact f.1 u hu,ZCk (Zzx q k a) f.2⟩;exact Zng _ (woL q a k) rfl (GH.of_nb hw c d e (Zm7 b q k)) (by have:=Zoz q a k;omega) zo zo
 clear ha;obtain⟨q1,q2,q3,q4⟩:=q;generalize hQ:(⟨q1,q2,q3,q4⟩:Qt)=q at *;have hqv:q.av=.agg [iv q1,iv q2,iv q3,iv q4]:=by rw [←hQ]
 show Pure _ _ [.sl 4 (a.map qtA),q.av,iv k] (.sl 4 ((paQ q a k).map qtA));rw [hqv];rw [hqv] at ct;generalize (paQ q a k).map qtA=RR at *;generalize a.map qtA=A at *;refine pI func67 rfl ntmps67 results67 call67 ?_
 (refine wkad w_t w_t w_t (w_s ?_);intros)
 rename_i g4;refine Zdj (Frz.nilOwn (d:=7) 67 4 57 (gC)) ?_;refine Zad (ι:=Nat) (λi e m=>i≤a.length∧(e 0=.sl 4 A∧e 2=iv k)∧(e 4=.pbox 4 g4 0∧m 4=some (.box g4 39 [iv q1,iv q2,iv q3,iv q4] false))∧e 8=iv i∧∃sv,e 7=.own 67 sv∧m 67=some (.row sv 57 4 ((woL q (a.take i) k).map qtA) 0)) (λi=>a.length - i) 0 zr ?_ ?_
 ·rintro i e m ⟨hi,⟨e0,e2⟩,⟨e4,m4⟩,e8,sv,e7,m67⟩
  by_cases hlt:i < a.length
  ·have hgi:=hg i hlt;have hwi:=hws i hlt;have c:=ct i hlt;have hqi:=hq i hlt;have hwli:=hwl i;clear hg hws ct hq hf cg hwl;generalize woL q (a.take i) k=W at *;generalize a[i]=u at *;obtain⟨u1,u2⟩:=u;simp only at hwi c hqi;have hgi:A.getD i .u=.agg [.v (.bool (decide (u1.num < 0))),lim (toL u1.num.natAbs),lim (toL u1.den),.sl 4 (u2.map Qt.av)]:=hgi;have c:Pure prog 59 [.sl 4 (u2.map Qt.av),.agg [iv q1,iv q2,iv q3,iv q4]] (iv (tmQ q u2)):=c;by_cases htk:tmQ q u2=k
   ·rw [ZCh htk] at hwi;have hum:(u2.map Qt.av).length=u2.length:=ZCj ..;have gu:∀k (h:k < u2.length),(u2.map Qt.av).getD k .u=Qt.av u2[k]:=λk h=>Zak Qt.av h;have hmp:(woL q (a.take (i+1)) k).map qtA=W.map qtA++[.agg [.v (.bool (decide (u1.num < 0))),lim (toL u1.num.natAbs),lim (toL u1.den),.sl 4 ((woQ q u2).map Qt.av)]]:=by rw [hwi,ZDd];rfl
    rw [htk] at c;clear hwi htk;generalize W.map qtA=WA at *;generalize u2.map Qt.av=UQ at *;generalize toL u1.num.natAbs=un at *;generalize toL u1.den=ud at *;generalize decide (u1.num < 0)=us at *
    (refine wkad (w_9 e0 e2 e4 m4 e8 e7 m67 hlm hgi) (w_1 c) (w_1 (w_d 5 [(6,iv k)] [] [])) (w_s ?_);intros)
    refine Zdj (Frz.nilOwn (d:=9) 57 4 39 (gC)) ?_;refine Zad (ι:=Nat) (λb e m=>b≤u2.length∧(e 0=.sl 4 A∧e 2=iv k)∧(e 4=.pbox 4 g4 0∧m 4=some (.box g4 39 [iv q1,iv q2,iv q3,iv q4] false))∧e 8=iv i∧(e 7=.own 67 sv∧m 67=some (.row sv 57 4 WA 0))∧e 10=iv b∧∃s9,e 9=.own 57 s9∧m 57=some (.row s9 39 4 ((woQ q (u2.take b)).map Qt.av) 0)) (λb=>u2.length - b) 0 zr ?_ ?_
    ·clear e0 e2 e4 m4 e8 e7 m67
     rintro b e m ⟨hb,⟨e0,e2⟩,⟨e4,m4⟩,e8,⟨e7,m67⟩,e10,s9,e9,m57⟩
     by_cases hbl:b < u2.length
     ·have gub:=gu b hbl;have hts:u2.take (b+1)=u2.take b++[u2[b]]:=by rw [ZEs hbl]
      have hwm:((woQ q (u2.take b)).map Qt.av).length≤1000000:=by
       have:=Zq5 q (u2.take b);rw [ZCz] at this;rw [ZCj];omega
      have cc:=Zpg u2[b].k u2[b].a u2[b].b u2[b].c q1 q2 q3 q4;by_cases hx:u2[b]=q
      ·have hnx:(woQ q (u2.take (b+1))).map Qt.av=(woQ q (u2.take b)).map Qt.av:=by rw [hts,woQ_n _ hx]
       rw [hx,←hQ] at gub cc;rw [qtO.refl] at cc;clear gu hts;generalize (woQ q (u2.take b)).map Qt.av=R at *
       (refine wkad (w_14 e0 e2 e4 m4 e8 e7 m67 e10 e9 m57 hlm hgi hum gub) (w_1 cc) (w_1 (w_d 10 [(9,iv 0)] [] [])) (w_s ?_);intros)
       exact⟨b+1,⟨zo,⟨gW e0,gW e2⟩,⟨gW e4,gW m4⟩,gW e8,⟨gW e7,gW m67⟩,gS,s9,gW e9,by rw [hnx];exact gW m57⟩,zo⟩
      ·have hmp2:(woQ q (u2.take (b+1))).map Qt.av=(woQ q (u2.take b)).map Qt.av++[Qt.av u2[b]]:=by rw [hts,woQ_y _ hx,ZDd];rfl
       have hz:Qt.cmp u2[b] ⟨q1,q2,q3,q4⟩≠0:=λh=>hx (by rw [←hQ];exact qtO.eqz _ _ h);have cc:Pure prog _ _ (iv (Qt.cmp u2[b] ⟨q1,q2,q3,q4⟩)):=cc;clear gu hts hx;generalize Qt.cmp _ _=z at *;generalize (woQ q (u2.take b)).map Qt.av=R at *;generalize u2[b]=y at *;obtain⟨y1,y2,y3,y4⟩:=y
       (refine wkad (w_15 e0 e2 e4 m4 e8 e7 m67 e10 e9 m57 hlm hgi hum gub hz) (w_1 cc) (w_1 (w_d 10 [(9,iv z)] [] [])) (w_s ?_);intros)
       exact⟨b+1,⟨zo,⟨gW e0,gW e2⟩,⟨gW e4,gW m4⟩,gW e8,⟨gW e7,gW m67⟩,gS,_,gC,by rw [hmp2];exact gC⟩,zo⟩
     ·have hbu:b=u2.length:=zo;subst hbu;rw [ZDu] at m57
      have hwm:((woQ q u2).map Qt.av).length≤1000000:=by
       have:=Zq5 q u2;rw [ZCj];omega
      generalize (woQ q u2).map Qt.av=R at *
      (refine wkad (w_13 e0 e2 e4 m4 e8 e7 m67 e10 e9 m57 hlm hgi hum) w_t w_t (w_s ?_);intros)
      exact⟨i+1,⟨zo,⟨gW e0,gW e2⟩,⟨gW e4,gW m4⟩,gS,_,gC,by rw [hmp];exact gC⟩,zo⟩
    ·exact⟨ZCr _,⟨gW e0,gW e2⟩,⟨gW e4,gW m4⟩,gW e8,⟨gW e7,gW m67⟩,gC,_,gC,gC⟩
   ·rw [ZCg htk] at hwi;have htk:(tmQ q u2:Int)≠(k:Int):=zo;rw [←hwi] at m67;clear hwi;generalize tmQ q u2=tn at *;generalize u2.map Qt.av=UQ at *;generalize toL u1.num.natAbs=un at *;generalize toL u1.den=ud at *;generalize decide (u1.num < 0)=us at *
    (refine wkad (w_10 e0 e2 e4 m4 e8 e7 m67 hlm hgi htk) (w_1 c) (w_1 (w_d 5 [(6,iv tn)] [] [])) (w_s ?_);intros)
    exact⟨i+1,⟨zo,⟨gW e0,gW e2⟩,⟨gW e4,gW m4⟩,gS,_,gW e7,gW m67⟩,zo⟩
  ·have:i=a.length:=zo;subst this;rw [hf] at m67;generalize (woL q a k).map qtA=WA at *
   (refine wkax (w_8 e0 e2 e4 m4 e8 e7 m67 hlm) w_t w_t (w_1 cg) w_t w_t w_y (w_r 0) (w_s ?_);intros)
   all_goals exact gL
 ·exact⟨ZCr _,⟨gC,gC⟩,⟨gC,gC⟩,gC,_,gC,gC⟩
theorem Zyz {α:Type} (f:Nat→α) {n k:Nat} (x:α) (h:k < n):((List.range n).map f).set k x=(List.range n).map λj=>if j=k then x else f j:=by
 refine List.ext_getElem? λj=>?_;by_cases hj:j < n
 ·by_cases hjk:j=k
  ·subst hjk;rw [ZIf (by simp;omega)];simp [ZDn,ZFf hj]
  ·rw [List.getElem?_set_ne (ZEi hjk)];simp [ZDn,ZFf hj,hjk]
 ·rw [ZD6 (by simp;omega),ZD6 (by simp;omega)]
theorem Zvx {α:Type} (f:Nat→α) (n:Nat):(List.range (n+1)).map f=(List.range n).map f++[f n]:=by rw [List.range_succ,ZDd];rfl
structure PtM (m:Mem) (sv:Value) (S:Nat→Value) (L:Nat→List AV) (len:Nat):Prop where
 top:m 12=some (.row sv 27 1 ((List.range len).map λj=>.own (2000+j) (S j)) 0)
 el:∀j,j < len→m (2000+j)=some (.row (S j) 57 4 (L j) 0)
theorem PtM.upd {m:Mem} {sv:Value} {S:Nat→Value} {L:Nat→List AV} {len k:Nat} {x:Option Ent} (h:PtM m sv S L len) (hk:k≠12) (hk2:k < 2000):PtM (upd m k x) sv S L len :=
 ⟨by rw [Zfx (ZEi hk)];exact h.top,λj hj=>by rw [Zfx zo];exact h.el j hj⟩
theorem Zll {P:Program} {n:Nat} {K:St→Prop} {st:St} (h:K st):Zj7 P n [] K st:=h
theorem exSplit (a:QTs) (q:Qt) {n:Nat} (hl:a.length≤100000) (hq:∀t∈a,t.2.length≤n) (hn:n≤100000):Pure prog 115 [qpA a,q.av] (.sl 1 ((List.range (moQ q a+1)).map λk=>qpA (woL q a k))):=by
 have hpm:(a.map qtA).length=a.length:=ZCj ..;have gp:∀i (h:i < a.length),(a.map qtA).getD i .u=qtA a[i]:=λi h=>Zak qtA h;have hmo:∀i,moQ q (a.take i)≤n:=λi=>mo_le λt ht=>hq t (ZDw ht);have hwl:∀i k,((woL q (a.take i) k).map qtA).length≤100000:=λi k=>by
  rw [ZCj];have:=Zoz q (a.take i) k;rw [ZCz] at this;omega
 have hfull:a.take a.length=a:=ZDu;obtain⟨q1,q2,q3,q4⟩:=q;generalize hQ:(⟨q1,q2,q3,q4⟩:Qt)=q at *;show Pure _ _ [.sl 4 (a.map qtA),q.av] (.sl 1 ((List.range (moQ q a+1)).map λk=>.sl 4 ((woL q a k).map qtA)));generalize a.map qtA=A at *;have hqv:q.av=.agg [iv q1,iv q2,iv q3,iv q4]:=by rw [←hQ]
 rw [hqv];refine pI func115 rfl ntmps115 results115 call115 ?_
 (refine wkad w_t w_t w_t (w_s ?_);intros)
 rename_i g3 s12;refine Zdj (Frz.elNil (K:=12) (j:=0) 2000 4 57 (gC) zo zr) ?_;refine r_loopZ ?_;refine Zad (ι:=Nat) (λi e m=>i≤a.length∧(e 3=.pbox 3 g3 0∧m 3=some (.box g3 39 [iv q1,iv q2,iv q3,iv q4] false))∧(e 13=.sl 4 A∧e 14=iv a.length∧e 15=iv i)∧∃sv S,e 5=.own 12 sv∧PtM m sv S (λk=>(woL q (a.take i) k).map qtA) (moQ q (a.take i)+1)) (λi=>a.length - i) 0 zr ?_ ?_
 ·rintro i e m ⟨hi,⟨e3,m3⟩,⟨e13,e14,e15⟩,sv,S,e5,hM⟩
  by_cases hlt:i < a.length
  ·have gpi:=gp i hlt;have hql:a[i].2.length≤n:=hq _ (ZCt hlt);have hmi:=hmo i;have hsn:a.take (i+1)=a.take i++[a[i]]:=by rw [ZEs hlt]
   have hm2:moQ q (a.take (i+1))=max (moQ q (a.take i)) (tmQ q a[i].2):=by rw [hsn,Zsb]
   have hw2:∀k,woL q (a.take (i+1)) k=if tmQ q a[i].2=k then woL q (a.take i) k++[(a[i].1,woQ q a[i].2)] else woL q (a.take i) k:=λk=>by rw [hsn,Zw6]
   have habv:∀k,moQ q (a.take i) < k→woL q (a.take i) k=[]:=λk h=>wo_above h;have hwl:=hwl i;clear gp hq hmo hsn;generalize woL q (a.take i)=W at *;generalize moQ q (a.take i)=mo at *;generalize a[i]=u at *;obtain⟨u1,u2⟩:=u;simp only at hql hm2 hw2;have gpi:A.getD i .u=.agg [.v (.bool (decide (u1.num < 0))),lim (toL u1.num.natAbs),lim (toL u1.den),.sl 4 (u2.map Qt.av)]:=gpi;have hqt:[(u1,woQ q u2)].map qtA=[.agg [.v (.bool (decide (u1.num < 0))),lim (toL u1.num.natAbs),lim (toL u1.den),.sl 4 ((woQ q u2).map Qt.av)]]:=rfl;have hum:(u2.map Qt.av).length=u2.length:=ZCj ..;have gu:∀k (h:k < u2.length),(u2.map Qt.av).getD k .u=Qt.av u2[k]:=λk h=>Zak Qt.av h
   generalize toL u1.num.natAbs=un at *;generalize toL u1.den=ud at *;generalize decide (u1.num < 0)=us at *;generalize u2.map Qt.av=UQ at *
   (refine wkad (w_8 e3 m3 e13 e14 e15 e5 hpm gpi) w_t w_t (w_s ?_);intros)
   rename_i g7;refine Zdj (Frz.nilOwn (d:=8) 500 4 39 (gC)) ?_;refine Zad (ι:=Nat) (λk e m=>k≤u2.length∧(e 3=.pbox 3 g3 0∧m 3=some (.box g3 39 [iv q1,iv q2,iv q3,iv q4] false))∧(e 13=.sl 4 A∧e 14=iv a.length∧e 15=iv i∧e 5=.own 12 sv)∧(e 7=.pbox 7 g7 0∧m 7=some (.box g7 57 [.v (.bool us),lim un,lim ud,.sl 4 UQ] false))∧(e 20=.sl 4 UQ∧e 21=iv u2.length∧e 22=iv k)∧(∃s8,e 8=.own 500 s8∧m 500=some (.row s8 39 4 ((woQ q (u2.take k)).map Qt.av) 0))∧PtM m sv S (λk=>(W k).map qtA) (mo+1)) (λk=>u2.length - k) 0 zr ?_ ?_
   ·clear e3 m3 e13 e14 e15 e5 hM
    rintro k e m ⟨hk,⟨e3,m3⟩,⟨e13,e14,e15,e5⟩,⟨e7,m7⟩,⟨e20,e21,e22⟩,⟨s8,e8,m8⟩,hM⟩
    by_cases hkl:k < u2.length
    ·have guk:=gu k hkl
     have hwk:(woQ q (u2.take k)).length≤100000:=by
      have:=Zq5 q (u2.take k);rw [ZCz] at this;omega
     have hwm:((woQ q (u2.take k)).map Qt.av).length≤100000:=by rw [ZCj];exact hwk
     have hts:u2.take (k+1)=u2.take k++[u2[k]]:=by rw [ZEs hkl]
     by_cases hx:u2[k]=q
     ·have hnx:(woQ q (u2.take (k+1))).map Qt.av=(woQ q (u2.take k)).map Qt.av:=by rw [hts,woQ_n _ hx]
      rw [hx,hqv] at guk;clear gu hts;generalize (woQ q (u2.take k)).map Qt.av=R at *
      (refine wkad (w_15 e3 m3 e13 e14 e15 e5 e7 m7 e20 e21 e22 e8 m8 hum guk) w_t w_t (w_s ?_);intros)
      exact⟨k+1,⟨zo,⟨gW e3,gW m3⟩,⟨gW e13,gW e14,gW e15,gW e5⟩,⟨gW e7,gW m7⟩,⟨gW e20,gW e21,gS⟩,⟨s8,gW e8,by rw [hnx];exact gW m8⟩,by(repeat' first|exact hM|refine PtM.upd ?_ zd zd)⟩,zo⟩
     ·have hnx:woQ q (u2.take (k+1))=woQ q (u2.take k)++[u2[k]]:=by rw [hts,woQ_y _ hx]
      have hmp:(woQ q (u2.take (k+1))).map Qt.av=(woQ q (u2.take k)).map Qt.av++[Qt.av u2[k]]:=by rw [hnx,ZDd];rfl
      clear gu hts hnx;generalize (woQ q (u2.take k)).map Qt.av=R at *;generalize u2[k]=x at *;obtain⟨x1,x2,x3,x4⟩:=x;have hx:¬(x1=q1∧x2=q2∧x3=q3∧x4=q4):=λh=>hx (by rw [←hQ];obtain⟨rfl,rfl,rfl,rfl⟩:=h;rfl)
      (refine wkad (w_15 e3 m3 e13 e14 e15 e5 e7 m7 e20 e21 e22 e8 m8 hum guk) w_t w_t (w_s ?_);intros)
      all_goals exact⟨k+1,⟨zo,⟨gW e3,gW m3⟩,⟨gW e13,gW e14,gW e15,gW e5⟩,⟨gW e7,gW m7⟩,⟨gW e20,gW e21,gS⟩,⟨_,gC,by rw [hmp];exact gC⟩,by(repeat' first|exact hM|refine PtM.upd ?_ zd zd)⟩,zo⟩
    ·have hku:k=u2.length:=zo;subst hku;rw [ZDu] at m8;have htw:=Zq5 q u2;have hRm:((woQ q u2).map Qt.av).length=(woQ q u2).length:=ZCj ..;have hn1:(u2.length:Int) - ((woQ q u2).length:Int)=(tmQ q u2:Int):=zo;have hn2:(tmQ q u2:Int)≤n:=zo;generalize (woQ q u2).map Qt.av=R at *;generalize (woQ q u2).length=rl at *;generalize tmQ q u2=tn at *
     (refine wkad (w_16 e3 m3 e13 e14 e15 e5 e7 m7 e20 e21 e22 e8 m8 hum hRm hn1) w_t w_t (w_s ?_);intros)
     refine Zy1 (ι:=Nat) (λj e m=>(mo+1≤j∧j≤max mo tn+1)∧(e 3=.pbox 3 g3 0∧m 3=some (.box g3 39 [iv q1,iv q2,iv q3,iv q4] false))∧(e 13=.sl 4 A∧e 14=iv a.length∧e 15=iv i)∧(e 7=.pbox 7 g7 0∧m 7=some (.box g7 57 [.v (.bool us),lim un,lim ud,.sl 4 UQ] false))∧(e 8=.own 500 s8∧m 500=some (.row s8 39 4 R 0))∧e 11=iv tn∧∃sv S,e 5=.own 12 sv∧PtM m sv S (λk=>(W k).map qtA) j) (λj=>max mo tn+1 - j) (mo+1) zr ?_ ?_
     ·clear e3 m3 e13 e14 e15 e5 hM e7 m7 e8 m8 e20 e21 e22
      rintro j e m ⟨⟨hj1,hj2⟩,⟨e3,m3⟩,⟨e13,e14,e15⟩,⟨e7,m7⟩,⟨e8,m8⟩,e11,sv,S,e5,hM⟩
      have hlE:((List.range j).map λk=>AV.own (2000+k) (S k)).length=j:=by rw [ZCj,List.length_range]
      by_cases hjt:j≤tn
      ·obtain⟨top,el⟩:=hM;have hjt':(j:Int)≤(tn:Int):=zo;have hW:=habv j zo;have n3:¬3=2000+j:=zo;have n7:¬7=2000+j:=zo;have n5:¬500=2000+j:=zo;have hset:∀x y:AV,(((List.range j).map λk=>AV.own (2000+k) (S k))++[x]).set j y=((List.range j).map λk=>AV.own (2000+k) (S k))++[y]:=λx y=>by
        rw [List.set_append_right _ _ zo,hlE,ZFz];rfl
       have hnw:(List.range (j+1)).map (λk=>AV.own (2000+k) (if k=j then .slice none 0 0 else S k))=((List.range j).map λk=>AV.own (2000+k) (S k))++[.own (2000+j) (.slice none 0 0)]:=by
        rw [Zvx,ZCh rfl];congr 1;exact ZE4 λk hk=>by rw [ZCg (by have:=List.mem_range.1 hk;omega)]
       generalize (List.range j).map (λk=>AV.own (2000+k) (S k))=E at *
       (refine wkad (w_14 e3 m3 e13 e14 e15 e7 m7 e8 m8 e11 e5 top hlE hjt') w_t w_t (w_s ?_);intros)
       refine⟨j+1,_,Frz.elNil (K:=12) (j:=j) (2000+j) 4 57 (gC) zo (by rw [ZEa zo,hlE,ZFz];rfl),⟨⟨zo,zo⟩,⟨gW e3,gW (And.intro m3 n3)⟩,⟨gW e13,gW e14,gW e15⟩,⟨gW e7,gW (And.intro m7 n7)⟩,⟨gW e8,gW (And.intro m8 n5)⟩,gW e11,_,(λk=>if k=j then .slice none 0 0 else S k),gC,⟨?_,λk hk=>?_⟩⟩,zo⟩
       ·dsimp only;rw [Zju,hset,←hnw]
       ·by_cases hkj:k=j
        ·subst hkj;dsimp only;rw [Zfx zo,Zju,if_pos rfl,hW];rfl
        ·rw [ZCg hkj];simp (disch:=omega) only [Zfx,marks];exact el k zo
      ·have hjt':¬(j:Int)≤(tn:Int):=zo;have hjm:j=max mo tn+1:=zo;have hM2:=hM.top
       (refine wkax (w_14 e3 m3 e13 e14 e15 e7 m7 e8 m8 e11 e5 hM2 hlE hjt') w_t w_t w_t w_t w_t w_t (w_r 0) (w_s ?_);intros)
       refine r_frzD (Frz.own (d:=8) (k:=500) (sv:=s8) (ty:=39) (mm:=4) (es:=R) (pub:=0) (gW e8) (by exact m8)) ?_;have hM:PtM (Go.Pg.mark m 500) sv S (λk=>(W k).map qtA) j:=hM.upd zo zo;obtain⟨top,el⟩:=hM;have etn:=el tn zo
       have hgE:((List.range j).map λk=>AV.own (2000+k) (S k)).getD tn .u=.own (2000+tn) (S tn):=by
        rw [ZCx,ZDn,ZFf zo];rfl
       have hwt:=hwl tn;have hset:=λx:AV=>Zyz (λk=>AV.own (2000+k) (S k)) (n:=j) x (show tn < j by omega);have w7:Go.Pg.mark m 500 7=some (.box g7 57 [.v (.bool us),lim un,lim ud,.sl 4 UQ] false):=by show Go.Pg.upd m 500 _ 7=_;rw [Zfx zo];exact m7
       have w3:Go.Pg.mark m 500 3=some (.box g3 39 [iv q1,iv q2,iv q3,iv q4] false):=by show Go.Pg.upd m 500 _ 3=_;rw [Zfx zo];exact m3
       have htj:(tn:Int) < (j:Int):=zo;have htj2:tn < j:=zo;obtain⟨kn,hkn⟩:∃kn,kn=2000+tn:=⟨_,rfl⟩;rw [←hkn] at etn hgE;have b3:(3 == kn)=false:=by rw [ZG2];omega
       have b7:(7 == kn)=false:=by rw [ZG2];omega
       have b12:(12 == kn)=false:=by rw [ZG2];omega
       have n3:¬3=kn:=zo;have n7:¬7=kn:=zo;have n12:¬12=kn:=zo;have n12':¬kn=12:=zo;have hWn:∀k,(woL q (a.take (i+1)) k).map qtA=if tn=k then (W k).map qtA++[.agg [.v (.bool us),lim un,lim ud,.sl 4 R]] else (W k).map qtA:=λk=>by
        rw [hw2];by_cases h:tn=k
        ·rw [ZCh h,ZCh h,ZDd,hqt]
        ·rw [ZCg h,ZCg h]
       generalize Go.Pg.mark m 500=m1 at *;clear m3 m7 m8 hM2 hw2;generalize hLT:(W tn).map qtA=LT at *;generalize (List.range j).map (λk=>AV.own (2000+k) (S k))=E at *;refine Zjj 13 (Zdv [(10,.sl 4 [.agg [.v (.bool us),lim un,lim ud,.sl 4 R]])]) [11,1011] [kn] (by simp only [ZG0,ZEy];rfl) (by simp only [ZGz,ZEl];rfl) zk zr zk zk (by simp only [ZCu,ZC6,Nat.reduceAdd];rfl) ?_
       (refine wkax (w_22 e3 w3 e13 e14 e15 e7 w7 e11 e5 top hlE hgE etn b3 b7 b12 n12 n12' n3 n7 hwt htj) w_t w_t w_t w_t w_t w_t (w_r 0) (w_s ?_);intros)
       rename_i svn;intro hrel;have h1:=own_one (d:=58) (k:=kn) (sv:=svn) (gC) hrel;unfold Value.oneCell' at h1;refine⟨_,Frz.slotV (d:=58) (k:=kn) (gC),?_⟩
       (refine wkax (w_17 h1 e3 w3 e13 e14 e15 e7 w7 e11 e5 top hlE n12 n12' n3 n7 htj) w_t w_t w_t w_t w_t w_t (w_r 0) (w_s ?_);intros)
       refine⟨_,Frz.elOwn (K:=12) (k:=kn) (j:=tn) (gW n12) (gW n12') (by rw [ZIf zo]),?_⟩;refine Zll ?_
       (refine wkax (w_13 e3 w3 e13 e14 e15 e7 w7 e11 e5 n12 n12' n3 n7) w_t w_t w_t w_t w_t w_t (w_r 0) (w_s ?_);intros)
       refine⟨i+1,⟨zo,⟨gW e3,gW (And.intro w3 n3)⟩,⟨gW e13,gW e14,gS⟩,_,(λk=>if k=tn then svn else S k),gW e5,⟨?_,λk hk=>?_⟩⟩,zo⟩
       ·dsimp only;rw [Zju,List.set_set,hset,hm2,←hjm];congr 2;refine List.map_congr_left λk hk=>?_;by_cases h:k=tn
        ·rw [ZCh h,ZCh h,hkn,h]
        ·rw [ZCg h,ZCg h]
       ·dsimp only;by_cases h:k=tn
        ·subst h;rw [←hkn,ZCh rfl,hWn,ZCh rfl,hLT];simp (disch:=omega) only [Zfx,Zju,marks]
        ·rw [ZCg h,hWn,ZCg (λh2=>h h2.symm)];simp (disch:=omega) only [Zfx,marks];exact el k zo
     ·exact⟨⟨ZCi _,zo⟩,⟨gW e3,gW m3⟩,⟨gW e13,gW e14,gW e15⟩,⟨gW e7,gW m7⟩,⟨gW e8,gW m8⟩,gC,_,_,gW e5,by(repeat' first|exact hM|refine PtM.upd ?_ zd zd)⟩
   ·exact⟨ZCr _,⟨gW e3,gW m3⟩,⟨gW e13,gW e14,gW e15,gW e5⟩,⟨gC,gC⟩,⟨gC,gW hum,gC⟩,⟨_,gC,gC⟩,by(repeat' first|exact hM|refine PtM.upd ?_ zd zd)⟩
  ·have hia:i=a.length:=zo;subst hia;rw [hfull] at hM;have hM2:=hM.top
   (refine wkad (w_8 e3 m3 e13 e14 e15 e5 hM2 hpm) w_t w_t (w_s ?_);intros)
   refine Exists.elim (Frz.elsPub (K:=12) (d:=5) (mm:=4) (λj=>2000+j) S _ hM2 (λj hj=>⟨hM.el j hj,zo⟩) (λi j _ _ h=>zo) (gW e5)) λm' hF=>⟨_,hF,?_⟩
   (refine wkad (w_8 e3 m3 e13 e14 e15 e5 hM2 hpm) w_t w_t (w_s ?_);intros)
   all_goals exact gL
 ·refine⟨ZCr _,⟨gC,gC⟩,⟨gC,gW hpm,gC⟩,s12,(λ_=>.slice none 0 0),gC,⟨?_,λj hj=>?_⟩⟩
  ·rw [Zju];rfl
  ·have hj0:j=0:=by
    have:moQ q (a.take 0)=0:=rfl;omega
   subst hj0;rw [Zfx zd,Zju];rfl
theorem XB.scl {p:QTs} {k n:Nat} (h:XB p k n) {s:Int} (hs:s=-1∨s=1):XB (sclT (s:Rat) p) k n:=by
 rcases hs with rfl | rfl
 ·exact h.neg
 ·show XB (sclT 1 p) k n;rw [Zk1];exact h
theorem Zpc (c:Rat) (p:QTs):Zcv c p=sclT c p:=by
 unfold Zcv sclT;exact ZE4 λt _=>by rw [Rat.mul_comm]
theorem ratOfm1:Pure prog 56 [iv (-1)] (ratQ (-1:Rat)):=Zpk (z:=-1) (.inl rfl)
theorem ZAy:Pure prog 55 [ratQ (-1:Rat)] (.sl 4 ([((-1:Rat),[])].map qtA)):=by
 have c:=Zss (-1) Zxm zo
 rwa [ZBl,ZCg (by decide +kernel)] at c
theorem ratOf1':Pure prog 56 [iv 1] (.agg [.v (.bool false),lim [1],lim [1]]):=by rw [←Zkg];exact Zpk (z:=1) (.inr (.inr rfl))
theorem ZAu (a num den:QTs) (q:Qt) {ka kb na nb L LA M:Nat} (ha:XB a ka na) (hu:XB num kb nb) (hd:XB den kb nb) (la:a.length≤LA) (hLA:1≤LA∧LA≤100000) (hMM:M≤1000) (hmo:moQ q.norm.1 a≤M) (lu:num.length≤L) (ld:den.length≤L) (h1:1≤L)
 (hq:na+(M+1)*nb≤maxQ) (hL:(M+1)*LA*L ^ (M+1)≤100000000) (hk:ka+(M+1)*(2*kb)+10≤100000) :
 Pure prog 54 [qpA a,q.av,.agg [qpA num,qpA den]] (if q.norm.2=0 then .agg [qpA a,qpA [((1:Rat),[])]] else .agg [qpA (rpN q.norm.1 a (sclT (q.norm.2:Rat) num) den),qpA (rpD q.norm.1 a den)]):=by
 have cn0:=Zy3 q.k q.a q.b q.c;have cn:Pure prog 33 [q.av] (.tup [q.norm.1.av,iv q.norm.2]):=cn0;clear cn0;have hs:=Zgi q;have c1:=ratOf1';have cc:=awConst1
 have o1:qpA [((1:Rat),[])]=.sl 4 [.agg [.v (.bool false),lim [1],lim [1],.sl 4 []]]:=by
  show AV.sl 4 [qtA ((1:Rat),[])]=_;rw [Ze2];rfl
 obtain⟨q1,q2,q3,q4⟩:=q;generalize hN:Qt.norm ⟨q1,q2,q3,q4⟩=nn at *;obtain⟨n,s⟩:=nn;simp only at hs cn ⊢;by_cases hs0:s=0
 ·subst hs0;rw [ZCh rfl,o1];show Pure _ _ [.sl 4 (a.map qtA),.agg [iv q1,iv q2,iv q3,iv q4],.agg [.sl 4 (num.map qtA),.sl 4 (den.map qtA)]] (.agg [.sl 4 (a.map qtA),.sl 4 [.agg [.v (.bool false),lim [1],lim [1],.sl 4 []]]]);obtain⟨n1,n2,n3,n4⟩:=n;generalize a.map qtA=A at *;generalize num.map qtA=U at *;generalize den.map qtA=D at *;refine pI func54 rfl ntmps54 results54 call54 ?_
  (refine wkad w_t (w_3 cn c1 cc) w_t (w_s ?_);intros)
  all_goals exact gL
 ·rw [ZCg hs0];have hs':s=-1∨s=1:=by rcases hs with h | h | h;exact .inl h;exact absurd h hs0;exact .inr h
  have hv:=hu.scl hs';have lv:(sclT (s:Rat) num).length≤L:=by rw [Zco];exact lu
  obtain⟨mm,hmm⟩:∃mm,mm=moQ n a:=⟨_,rfl⟩;have hm:mm≤M:=by rw [hmm];exact hmo
  have e0:L ^ (M+1)=L ^ M*L:=ZDk ..;have p1:∀i,i≤M+1→L ^ i≤L ^ (M+1):=λi hi=>ZDl h1 hi;have p0:∀i,i≤M→L ^ i≤L ^ M:=λi hi=>ZDl h1 hi;have p2:∀i,i≤M+1→i*nb≤(M+1)*nb:=λi hi=>ZCw _ hi;have p3:∀i,i≤M+1→i*kb≤(M+1)*(2*kb):=λi hi=>ZDe hi zo;have r3:∀i,i≤M+1→i*(2*kb)≤(M+1)*(2*kb):=λi hi=>ZCw _ hi;have hM:=Zii;have b0:(M+1)*LA*L ^ (M+1)≤100000000:=hL;have b1:(M+1)*LA*L ^ (M+1)=M*LA*L ^ (M+1)+LA*L ^ (M+1):=by rw [ZD8,ZC8]
  have b2:L ^ M≤L ^ (M+1):=ZDl h1 zo;have b3:L≤L ^ (M+1):=by have h:=p1 1 zo;rwa [Nat.pow_one] at h
  have b4:M*LA*L ^ M≤M*LA*L ^ (M+1):=ZEc _ b2;have b6':L ^ (M+1)≤LA*L ^ (M+1):=ZHm _ zo;have b7':LA*L ^ M≤LA*L ^ (M+1):=ZEc _ b2;have b8:1*(2*kb)≤(M+1)*(2*kb):=ZCw _ zo;have b5:nb≤(M+1)*nb:=ZHm _ zo;have hpa:∀k,XB (paQ n a k) ka na:=λk=>ha.part n k;have hpl:∀k,(paQ n a k).length≤LA:=λk=>ZCk (Zt7 n a k) la;have hpn:=Zx9 n (num:=sclT (s:Rat) num) ha.1 hv.1 hd.1;rw [←hpn];show Pure _ _ _ (.agg [.sl 4 ((hnX (paQ n a) (sclT (s:Rat) num) den (moQ n a) (moQ n a+1)).map qtA),.sl 4 ((pwX den (moQ n a)).map qtA)])
  rw [←hmm];have hlen:∀i,i≤mm→(hnX (paQ n a) (sclT (s:Rat) num) den mm i).length≤M*LA*L ^ M:=λi hi=>hn_len2 hpl lv ld h1 mm i M zo;have hlp:∀i,i≤mm→(pwX den i).length≤L ^ M:=λi hi=>ZCk (Zgq ld i) (p0 i zo);have hx:∀i,i≤mm→XB (hnX (paQ n a) (sclT (s:Rat) num) den mm i) (ka+1+i*(2*kb)) (na+i*nb):=λi hi=>hn_xb ha hv hd n mm i zo;have cX:∀i,i≤mm→Pure prog 40 [.sl 4 ((hnX (paQ n a) (sclT (s:Rat) num) den mm i).map qtA),.sl 4 ((sclT (s:Rat) num).map qtA)] (.sl 4 ((mulX (hnX (paQ n a) (sclT (s:Rat) num) den mm i) (sclT (s:Rat) num)).map qtA)):=λi hi=>by
   have l1:=hlen i hi;have l2:(hnX (paQ n a) (sclT (s:Rat) num) den mm i).length*(sclT (s:Rat) num).length≤M*LA*L ^ M*L:=ZDe l1 lv;rw [ZDm (M*LA),←e0] at l2;have l3:=p2 i zo;have l6:=r3 i zo;have l4:i*nb≤M*nb:=ZCw _ zo;have l5:(M+1)*nb=M*nb+nb:=ZD8 ..;exact ZAw _ _ (hx i hi) hv zo zo zo zo zo zo
  have cN:∀k,Pure prog 78 [.sl 4 ((woL n a k).map qtA)] (.sl 4 ((paQ n a k).map qtA)):=λk=>by
   obtain⟨a1,a2,D,C,a3,a4,a5,a6⟩:=ha;exact exNrmG (woL n a k) (D:=D) (C:=C) ⟨λt ht=>by obtain⟨u,hu,rfl⟩:=Ziy ht;exact a6.1 u hu,ZCk (Zzx n k a) a6.2⟩ a3 a4 a5 (Zs4 a1.dom n k) (by have:=Zoz n a k;omega) (Zm7 a2 n k) zo zo
  have cY:∀i,i≤mm→Pure prog 40 [.sl 4 ((paQ n a (mm - i)).map qtA),.sl 4 ((pwX den i).map qtA)] (.sl 4 ((mulX (paQ n a (mm - i)) (pwX den i)).map qtA)):=λi hi=>by
   have l1:=hlp i hi;have l0:=hpl (mm - i);have l2:(paQ n a (mm - i)).length*(pwX den i).length≤LA*L ^ M:=ZDe l0 l1;have l3:=p2 i zo;have l4:=p3 i zo;exact ZAw _ _ (hpa _) (hd.pw i) zo zo zo zo zo zo
  have cA:∀i,i≤mm→Pure prog 82 [.sl 4 ((mulX (hnX (paQ n a) (sclT (s:Rat) num) den mm i) (sclT (s:Rat) num)).map qtA),.sl 4 ((mulX (paQ n a (mm - i)) (pwX den i)).map qtA)] (.sl 4 ((hnX (paQ n a) (sclT (s:Rat) num) den mm (i+1)).map qtA)):=λi hi=>by
   have x1:=(hx i hi).mul hv;have x2:=(hpa (mm - i)).mul (hd.pw i);have l1:=ZCk (Zc4 (hnX (paQ n a) (sclT (s:Rat) num) den mm i) (sclT (s:Rat) num)) (ZDe (hlen i hi) lv);rw [ZDm (M*LA),←e0] at l1;have l7:=r3 (i+1) zo;rw [ZD8] at l7;have l2:=ZCk (Zc4 (paQ n a (mm - i)) (pwX den i)) (ZDe (hpl (mm - i)) (hlp i hi));have l3:=p2 i zo;have l4:=p3 i zo;have l5:i*nb≤M*nb:=ZCw _ zo;have l6:(M+1)*nb=M*nb+nb:=ZD8 ..;exact exPlus _ _ (x1.mono (k:=_) (ZCi _) (show _≤na+(M+1)*nb by omega)).qk (x2.mono (k:=_) (ZCi _) (show _≤na+(M+1)*nb by omega)).qk x1.nz x2.nz zo zo zo zo zo
  have cD:∀i,i < mm→Pure prog 40 [.sl 4 ((pwX den i).map qtA),.sl 4 (den.map qtA)] (.sl 4 ((pwX den (i+1)).map qtA)):=λi hi=>by
   have l1:=hlp i zo;have l2:(pwX den i).length*den.length≤L ^ M*L:=ZDe l1 ld;rw [←e0] at l2;have l3:=p2 (i+1) zo;have l4:=p3 (i+1) zo;have l5:(i+1)*nb=i*nb+nb:=ZD8 ..;have l6:(i+1)*kb=i*kb+kb:=ZD8 ..;exact ZAw _ _ (hd.pw i) hd zo zo zo zo zo zo
  have cS0:=exSplit a n zo ha.2.1 zo;rw [←hmm] at cS0
  have cM:Pure prog 40 [.sl 4 ([((-1:Rat),[])].map qtA),.sl 4 (num.map qtA)] (.sl 4 ((mulX [((-1:Rat),[])] num).map qtA)):=by
   have hx1:XB [((-1:Rat),[])] 1 0:=xbC _ _ (by decide +kernel);have l1:([((-1:Rat),[])]:QTs).length*num.length≤1*L:=ZDe zs lu;have l2:([((-1:Rat),[])]:QTs).length≤1:=by simp
   exact ZAw _ _ hx1 hu zo zo zo zo zo zo
  have hVW:s=-1→(sclT (s:Rat) num).map qtA=(mulX [((-1:Rat),[])] num).map qtA:=λh=>by rw [h,mul_neg hu.1];rfl
  have hVU:s=1→(sclT (s:Rat) num).map qtA=num.map qtA:=λh=>by rw [h];show(sclT 1 num).map qtA=_;rw [Zk1]
  have cM1:=ratOfm1;have cM2:=ZAy;have hpl2:((List.range (mm+1)).map λk=>qpA (woL n a k)).length=mm+1:=by rw [ZCj,List.length_range]
  have hpg:∀k,k≤mm→((List.range (mm+1)).map λk=>qpA (woL n a k)).getD k .u=.sl 4 ((woL n a k).map qtA):=λk hk=>by
   rw [ZCx,ZDn,ZFf zo];rfl
  have d00:(pwX den 0).map qtA=[.agg [.v (.bool false),lim [1],lim [1],.sl 4 []]]:=by
   show [qtA ((1:Rat),[])]=_;rw [Ze2];rfl
  clear hx hlen hlp hpa hpl b0 b1 b2 b3 b4 b5 b6' b7' b8 p1 p0 p2 p3 r3 e0 hq hL hk;have cS1:Pure prog 115 [.sl 4 (a.map qtA),n.av] (.sl 1 ((List.range (mm+1)).map λk=>qpA (woL n a k))):=cS0;clear cS0;show Pure _ _ [.sl 4 (a.map qtA),.agg [iv q1,iv q2,iv q3,iv q4],.agg [.sl 4 (num.map qtA),.sl 4 (den.map qtA)]] _;have h00:(hnX (paQ n a) (sclT (s:Rat) num) den mm 0).map qtA=[]:=rfl;generalize hHN:(λi=>(hnX (paQ n a) (sclT (s:Rat) num) den mm i).map qtA)=HN at *;have hHN:∀i,(hnX (paQ n a) (sclT (s:Rat) num) den mm i).map qtA=HN i:=λi=>by rw [←hHN]
  generalize hXX:(λi=>(mulX (hnX (paQ n a) (sclT (s:Rat) num) den mm i) (sclT (s:Rat) num)).map qtA)=XX at *;have hXX:∀i,(mulX (hnX (paQ n a) (sclT (s:Rat) num) den mm i) (sclT (s:Rat) num)).map qtA=XX i:=λi=>by rw [←hXX]
  generalize hYY:(λi=>(mulX (paQ n a (mm - i)) (pwX den i)).map qtA)=YY at *;have hYY:∀i,(mulX (paQ n a (mm - i)) (pwX den i)).map qtA=YY i:=λi=>by rw [←hYY]
  generalize hDN:(λi=>(pwX den i).map qtA)=DN at *;have hDN:∀i,(pwX den i).map qtA=DN i:=λi=>by rw [←hDN]
  generalize hPN:(λi=>(paQ n a i).map qtA)=PN at *;have hPN:∀i,(paQ n a i).map qtA=PN i:=λi=>by rw [←hPN]
  simp only [hHN,hXX,hYY,hDN,hPN] at cX cN cY cA cD h00 d00 ⊢;clear hHN hXX hYY hDN hPN;generalize (List.range (mm+1)).map (λk=>qpA (woL n a k))=PT at *;obtain⟨n1,n2,n3,n4⟩:=n;generalize a.map qtA=A at *;have cUV:s=1→num.map qtA=(sclT (s:Rat) num).map qtA:=λh=>by rw [h];show _=(sclT 1 num).map qtA;rw [Zk1]
  generalize (sclT (s:Rat) num).map qtA=V at *;generalize (mulX [((-1:Rat),[])] num).map qtA=W at *;generalize num.map qtA=U at *;generalize den.map qtA=D at *;generalize [((-1:Rat),[])].map qtA=NG at *;have cS:Pure prog 115 [.sl 4 A,.agg [iv n1,iv n2,iv n3,iv n4]] (.sl 1 PT):=cS1;clear cS1;have hmm1:((mm+1:Nat):Int) - 1=(mm:Int):=zo;clear hN hs hs0 hpn hv lv hu hd ha hmm;rcases hs' with rfl | rfl
  rotate_left
  have hV:=hVU rfl
  rotate_left
  have hV:=hVW rfl;all_goals (
   subst hV;clear hVU hVW;refine pI func54 rfl ntmps54 results54 call54 ?_
   (refine wkad (w_2 hmm1 hpl2) (w_7 cn cM1 cM2 cM cS c1 cc) w_t (w_s ?_);intros)
   refine Zdj (Frz.nil (d:=11) 4 (gC)) ?_;refine Zad (ι:=Nat) (λi e m=>i≤mm+1∧(∃g x,e 5=.pbox 5 g 0∧m 5=some (.box g 29 [x,.sl 4 D] false))∧(∃g,e 6=.pbox 6 g 0∧m 6=some (.box g 29 [.v (.slice none 0 0),.v (.slice none 0 0)] false))∧(e 9=.sl 4 V∧e 10=.sl 1 PT)∧e 11=.sl 4 (HN i)∧e 12=.sl 4 (DN (min i mm))∧e 13=.v (.int .i64 ((mm:Int) - (i:Int)))) (λi=>mm+1 - i) 0 zr ?_ ?_
   ·rintro i e m ⟨hi,⟨g5,x5,e5,m5⟩,⟨g6,e6,m6⟩,⟨e9,e10⟩,e11,e12,e13⟩
    by_cases hlt:i≤mm
    ·obtain⟨k,hk⟩:∃k,mm=i+k:=⟨mm - i,zo⟩;have h13:(mm:Int) - (i:Int)=(k:Int):=zo;have hmin:min i mm=i:=zo;have x1:=cX i hlt;have y1:=cY i hlt;have a1:=cA i hlt;have k1:=cN k;have hg:=hpg k zo;have hk3:k < PT.length:=zo;have h13':(k:Int) - 1=(mm:Int) - ((i+1:Nat):Int):=zo;rw [h13] at e13;rw [hmin] at e12;rw [show mm - i=k by omega] at y1;have cDi:=cD i;clear cX cY cA cN cD hpg cn cS c1 cc cM cM1 cM2 h00 d00;generalize (woL _ a k).map qtA=WK at *;by_cases hk0:k=0
     ·have hmin':min (i+1) mm=i:=zo;have hk0':¬(k:Int) > 0:=zo
      (refine wkad (w_12 e5 m5 e6 m6 e9 e10 e11 e12 e13 hpl2 hg hk0') (w_4 k1 x1 y1 a1) (w_1 (w_d 13 [(2,.sl 4 (XX i)),(7,.sl 4 (PN k)),(9,.sl 4 (YY i)),(10,.sl 4 (HN (i+1)))] [] [])) (w_s ?_);intros)
      exact⟨i+1,⟨zo,⟨g5,x5,gW e5,gW m5⟩,⟨g6,gW e6,gW m6⟩,⟨gW e9,gW e10⟩,gC,by rw [hmin'];exact gW e12,by rw [←h13'];exact gC⟩,zo⟩
     ·have hmin':min (i+1) mm=i+1:=zo;have hk0':(k:Int) > 0:=zo;have d1:=cDi zo
      (refine wkad (w_12 e5 m5 e6 m6 e9 e10 e11 e12 e13 hpl2 hg hk0') (w_5 k1 x1 y1 a1 d1) (w_1 (w_d 13 [(2,.sl 4 (XX i)),(7,.sl 4 (PN k)),(9,.sl 4 (YY i)),(10,.sl 4 (HN (i+1)))] [] [])) (w_s ?_);intros)
      exact⟨i+1,⟨zo,⟨g5,x5,gW e5,gW m5⟩,⟨g6,gW e6,gW m6⟩,⟨gW e9,gW e10⟩,gC,by rw [hmin'];exact gC,by rw [←h13'];exact gC⟩,zo⟩
    ·have him:i=mm+1:=zo;have h13:(mm:Int) - (i:Int)=-1:=zo;have hmin:min i mm=mm:=zo;rw [h13] at e13;rw [hmin] at e12;subst him;clear cX cY cA cN cD hpg cn cS c1 cc cM cM1 cM2 h00 d00 h13 hmin;generalize HN (mm+1)=H at *;generalize DN mm=E at *
     (refine wkad (w_9 e5 m5 e6 m6 e9 e10 e11 e12 e13) w_t w_t (w_s ?_);intros)
     all_goals exact gM (w_2 e6 m6)
   ·exact⟨ZCr _,⟨_,_,gC,gC⟩,⟨_,gC,gC⟩,⟨gC,gC⟩,by rw [h00];exact gC,by rw [Nat.zero_min,d00];exact gC,by rw [show(mm:Int) - ((0:Nat):Int)=(mm:Int) by omega];exact gC⟩)
theorem Zen:szOf prog 83=some 3:=by kernel_rfl
theorem Zer:Zh5 prog 83=some 72:=by kernel_rfl
theorem zCmb:Za0 prog 83=some (.agg #[.slice none 0 0,.slice none 0 0,.slice none 0 0]):=by kernel_rfl
theorem Zel:szOf prog 119=some 1:=by kernel_rfl
theorem szFn:szOf prog 117=some 1:=by kernel_rfl
theorem zFn:Za0 prog 117=some .nilFunc:=by kernel_rfl
theorem zSch:Za0 prog 119=some (.agg #[.nilFunc]):=by kernel_rfl
theorem Zem:szOf prog 79=some 4:=by kernel_rfl
theorem zPlc:Za0 prog 79=some (.agg #[.int .i64 0,.int .i64 0,.int .i64 0,.bool false]):=by kernel_rfl
end Go.Proofs.YtpkcophcldjboaaGreatDoor
