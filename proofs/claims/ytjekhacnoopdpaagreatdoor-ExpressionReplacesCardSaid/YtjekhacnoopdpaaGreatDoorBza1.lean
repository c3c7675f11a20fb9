/- Contracts of the functions that the law reaches, and the rules by which they are walked. They say what a call hands back for every input within the bounds that each names; no other condition. -/
import Derived.Test.YtjekhacnoopdpaaGreatDoorBz5
set_option linter.unusedSimpArgs false
set_option linter.unusedVariables false
set_option maxRecDepth 20000
set_option maxHeartbeats 16000000
namespace Go.Proofs.YtjekhacnoopdpaaGreatDoor
open Go Go.RowKit Go.Pg
attribute [-bool_to_prop] Bool.and_eq_decide Bool.or_eq_decide Bool.decide_beq_decide decide_eq_decide
section
variable {N n:Nat} {cs:List AV}
theorem shQuantP (h:Zcl Tryz.prog N n 25 cs):∃k a b c:Int,cs=[iv k,iv a,iv b,iv c]:=by
 obtain⟨m,rfl,hs⟩:=Zc0 Tryz.underlying25 (by kernel_rfl) h;obtain⟨x,y,rfl,h1,hs⟩:=hs.inv;obtain⟨x2,y,rfl,h2,hs⟩:=hs.inv;obtain⟨x3,y,rfl,h3,hs⟩:=hs.inv;obtain⟨x4,y,rfl,h4,hs⟩:=hs.inv;obtain rfl:=hs.inv0;obtain⟨k,rfl,_⟩:=Zf4 Tryz.underlying3 h1;obtain⟨a,rfl,_⟩:=Zf4 Tryz.underlying3 h2;obtain⟨b,rfl,_⟩:=Zf4 Tryz.underlying3 h3;obtain⟨c,rfl,_⟩:=Zf4 Tryz.underlying3 h4;exact⟨k,a,b,c,rfl⟩
theorem aggQuantP (cs:List AV):Zc2 Tryz.prog 25 cs=.agg cs:=Zfz Tryz.underlying25 cs
end
attribute [local go_sem] Tryz.underlying3 Tryz.underlying2 Tryz.underlying169 Tryz.underlying4 Tryz.underlying36 Tryz.underlying25 Tryz.underlying47 Tryz.underlying45 Tryz.underlying41 Tryz.underlying43 Tryz.underlying110 Tryz.underlying56 Tryz.underlying55 sz3 by3 z3 szL byL zL Zaj Zaw Zhl zErr Zbd zRat Zbe zNat Zbf zInt szB zB szPt byPt zPt Zak Bool.and_self
def RQ.tiny (r:RQ):Bool:=decide (r.l.length≤2) && decide (r.d.length≤2) && r.ok
theorem RQ.tiny_av {r:RQ} (h1:Lm r.l) (h2:Lm r.d) (h:r.tiny=true):r.av=ratQ r.q∧Sz r.q 2:=by
 unfold RQ.tiny at h;simp only [Bool.and_eq_true,decide_eq_true_eq] at h;exact RQ.ok_av ⟨h1,h2,h.1.1,h.1.2⟩ h.2
def RP.tiny (p:RP):Bool:=p.x.tiny && p.y.tiny
def RP.q (p:RP):PQ:=(p.x.q,p.y.q)
theorem RP.tiny_av {p:RP} {k:Nat} (hl:p.lm k) (h:p.tiny=true):p.av=p.q.av∧p.q.sz 2:=by
 unfold RP.tiny at h;simp only [Bool.and_eq_true] at h;obtain⟨ex,sx⟩:=RQ.tiny_av hl.1.1 hl.1.2.1 h.1;obtain⟨ey,sy⟩:=RQ.tiny_av hl.2.1 hl.2.2.1 h.2;refine⟨?_,sx,sy⟩;show AV.agg (p.x.av.cells++p.y.av.cells)=AV.agg ((ratQ p.x.q).cells++(ratQ p.y.q).cells);rw [ex,ey]
theorem rqTiny (r:RQ) (h:r.lm 9223372036854775807):Pure Tryz.prog 20 [.agg [.v (.bool r.s),lim r.l,lim r.d]] (.v (.bool r.tiny)):=by
 obtain⟨s,l,d⟩:=r;obtain⟨h1,h2,h3,h4⟩:=h;unfold RQ.tiny;simp only at *;by_cases hl:l.length≤2
 ·by_cases hd:d.length≤2
  ·have c:=Zu9 s l d h1 h2 (by omega) (by omega);generalize RQ.ok ⟨s,l,d⟩=v at *;rw [decide_eq_true hl,decide_eq_true hd];refine Zaa (tok:=0) Tryz.func20 rfl Tryz.ntmps20 Tryz.results20 Tryz.call20 (by rfl) (by simp) ?_;(focus (refine wkld (w_1 @Zbx) (w_1 c) (w_1 @Bool.true_and) w_t ?_;(repeat' first|exact w_t|apply w_l);all_goals intros))
  ·rw [decide_eq_true hl,decide_eq_false hd];refine Zaa (tok:=0) Tryz.func20 rfl Tryz.ntmps20 Tryz.results20 Tryz.call20 (by rfl) (by simp) ?_;(focus (refine wkld (w_1 @Zbx) w_t (w_2 @Bool.true_and @Bool.false_and) w_t ?_;(repeat' first|exact w_t|apply w_l);all_goals intros))
 ·rw [decide_eq_false hl];refine Zaa (tok:=0) Tryz.func20 rfl Tryz.ntmps20 Tryz.results20 Tryz.call20 (by rfl) (by simp) ?_;(focus (refine wkld (w_1 @Zbx) w_t (w_1 @Bool.false_and) w_t ?_;(repeat' first|exact w_t|apply w_l);all_goals intros))
def mildB (ps:List RP) (rs:List RQ):Bool:=decide (ps.length≤10) && decide (rs.length≤10) && ps.all RP.tiny && rs.all RQ.tiny
end Go.Proofs.YtjekhacnoopdpaaGreatDoor
namespace Go.Proofs.YtjekhacnoopdpaaGreatDoor
open Go Go.RowKit Go.Pg Go.Pol
attribute [-bool_to_prop] Bool.and_eq_decide Bool.or_eq_decide Bool.decide_beq_decide decide_eq_decide
attribute [local go_sem] Tryz.underlying3 Tryz.underlying4 Tryz.underlying169 Tryz.underlying41 Tryz.underlying43 Tryz.underlying45 Tryz.underlying25 Tryz.underlying47 Tryz.underlying49 Tryz.underlying22 Tryz.underlying23 sz3 by3 z3 szB zB Zbd zRat Zbf zInt Zbe zNat Zaj Zaw Zak Bool.and_self Zan Zbs zSlQ szQT byQT zQT Zby zSlT szQP zQP
def qOkAt (q:List Qt) (i:Nat):Bool:=decide ((q.getD i Qt.zero).norm=(q.getD i Qt.zero,1)) && (decide (i=0) || decide (Qt.cmp (q.getD (i - 1) Qt.zero) (q.getD i Qt.zero)≤0))
def prodB (q:List Qt):Bool:=(List.range q.length).all (qOkAt q)
def RE.zero:RE:=⟨⟨false,[],[]⟩,[]⟩
def tOkAt (l:List RE) (i:Nat):Bool:=(l.getD i RE.zero).r.ok && (!decide ((l.getD i RE.zero).r.q=0) && (prodB (l.getD i RE.zero).q && (decide (i=0) || decide (ordQ (l.getD (i - 1) RE.zero).q (l.getD i RE.zero).q < 0))))
def rgtB (l:List RE):Bool:=(List.range l.length).all (tOkAt l)
theorem range_bad {n i:Nat} {p:Nat→Bool} (h:i < n) (hp:p i=false):(List.range n).all p=false:=by
 rw [List.all_eq_false];exact⟨i,List.mem_range.2 h,by simp [hp]⟩
theorem range_good {n:Nat} {p:Nat→Bool} (h:∀i,i < n→p i=true):(List.range n).all p=true:=by
 rw [List.all_eq_true];exact λi hi=>h i (List.mem_range.1 hi)
theorem qt_atD {l:List Qt} {i:Nat} (h:i < l.length):(l.map Qt.av).getD i .u=Qt.av (l.getD i Qt.zero):=qt_at h
theorem rxProd (q:List Qt) (hl:q.length≤1000000):Pure Tryz.prog 81 [qsA q] (.v (.bool (prodB q))):=by
 have hlm:(q.map Qt.av).length=q.length:=List.length_map ..;have hg:∀j,j < q.length→(q.map Qt.av).getD j .u=Qt.av (q.getD j Qt.zero):=λj h=>qt_atD h;have hbad:∀i,i < q.length→qOkAt q i=false→prodB q=false:=λi h hp=>range_bad h hp;have hgood:(∀i,i < q.length→qOkAt q i=true)→prodB q=true:=range_good;show Pure _ _ [.sl 4 (q.map Qt.av)] _;generalize q.map Qt.av=A at *;generalize hB:prodB q=B at *;refine Zaa (tok:=0) Tryz.func81 rfl Tryz.ntmps81 Tryz.results81 Tryz.call81 (by rfl) (by simp) ?_;(focus (refine wkad w_t w_t w_t ?_;(repeat' first|exact w_t|apply w_l);all_goals intros));refine Zad (ι:=Nat) (λi e _=>i≤q.length∧(∀j,j < i→qOkAt q j=true)∧e 0=.sl 4 A∧e 3=iv i) (λi=>q.length - i) 0 (by rfl) ?_ ?_
 ·rintro i e m ⟨hi,hj,e0,e3⟩
  by_cases hlt:i < q.length
  ·have g1:=hg i hlt;have hb:=hbad i hlt;have hnx:qOkAt q i=true→∀j,j < i+1→qOkAt q j=true:=λh j hji=>by
    by_cases e:j=i
    ·rw [e];exact h
    ·exact hj j (by omega)
   clear hgood hbad hj;have c1:=Zuo (q.getD i Qt.zero).k (q.getD i Qt.zero).a (q.getD i Qt.zero).b (q.getD i Qt.zero).c;have c2:=Zpg (q.getD i Qt.zero).norm.1.k (q.getD i Qt.zero).norm.1.a (q.getD i Qt.zero).norm.1.b (q.getD i Qt.zero).norm.1.c (q.getD i Qt.zero).k (q.getD i Qt.zero).a (q.getD i Qt.zero).b (q.getD i Qt.zero).c
   cases i with
   | zero =>
     have hv:qOkAt q 0=decide ((q.getD 0 Qt.zero).norm=(q.getD 0 Qt.zero,1)):=by unfold qOkAt;simp
     rw [hv] at hb hnx;clear hv hg;generalize q.getD 0 Qt.zero=y at *;generalize hn:y.norm=nn at *;obtain⟨nn,ns⟩:=nn;obtain⟨y1,y2,y3,y4⟩:=y;obtain⟨n1,n2,n3,n4⟩:=nn;simp only at *;by_cases h1:ns=1
     ·by_cases h2:(⟨n1,n2,n3,n4⟩:Qt)=⟨y1,y2,y3,y4⟩
      ·rw [h2,qtO.refl] at c2;have hny:=hnx (by rw [h1,h2];exact decide_eq_true rfl);rw [h2] at c1;clear hb h2 hn;subst h1;(focus (refine wkad (w_4 e0 e3 hlm g1) (w_2 c1 c2) (w_1 (w_d 5 [(8,iv 0)] [] [])) ?_;(repeat' first|exact w_t|apply w_l);all_goals intros));exact⟨1,⟨by omega,hny,by exact gW e0,by exact gC⟩,by omega⟩
      ·have hz:Qt.cmp ⟨n1,n2,n3,n4⟩ ⟨y1,y2,y3,y4⟩≠0:=λh=>h2 (qtO.eqz _ _ h);have hb:=hb (by rw [h1];exact decide_eq_false λh=>h2 (congrArg Prod.fst h));subst hb;clear hnx h2 hn;subst h1;generalize Qt.cmp _ _=z at *;(focus (refine wkad (w_5 e0 e3 hlm g1 hz) (w_2 c1 c2) (w_1 (w_d 5 [(8,iv z)] [] [])) ?_;(repeat' first|exact w_t|apply w_l);all_goals intros));all_goals exact gL
     ·have hb:=hb (decide_eq_false λh=>h1 (congrArg Prod.snd h));subst hb;clear hnx hn c2;(focus (refine wkad (w_5 e0 e3 hlm g1 h1) (w_1 c1) w_t ?_;(repeat' first|exact w_t|apply w_l);all_goals intros));all_goals exact gL
   | succ i =>
     have g2:=hg i (by omega);have hv:qOkAt q (i+1)=(decide ((q.getD (i+1) Qt.zero).norm=(q.getD (i+1) Qt.zero,1)) && decide (Qt.cmp (q.getD i Qt.zero) (q.getD (i+1) Qt.zero)≤0)):=by unfold qOkAt;simp
     rw [hv] at hb hnx;have c3:=Zpg (q.getD i Qt.zero).k (q.getD i Qt.zero).a (q.getD i Qt.zero).b (q.getD i Qt.zero).c (q.getD (i+1) Qt.zero).k (q.getD (i+1) Qt.zero).a (q.getD (i+1) Qt.zero).b (q.getD (i+1) Qt.zero).c;clear hv hg;have ei:(i:Int)+1 - 1=(i:Int):=by omega
     have en:((i+1:Nat):Int) - 1=(i:Int):=by omega
     have ek:i+1 - 1=i:=rfl;generalize q.getD (i+1) Qt.zero=y at *;generalize q.getD i Qt.zero=x at *;generalize hn:y.norm=nn at *;obtain⟨nn,ns⟩:=nn;obtain⟨y1,y2,y3,y4⟩:=y;obtain⟨x1,x2,x3,x4⟩:=x;obtain⟨n1,n2,n3,n4⟩:=nn;simp only at *;by_cases h1:ns=1
     ·by_cases h2:(⟨n1,n2,n3,n4⟩:Qt)=⟨y1,y2,y3,y4⟩
      ·rw [h2,qtO.refl] at c2;by_cases h3:Qt.cmp ⟨x1,x2,x3,x4⟩ ⟨y1,y2,y3,y4⟩≤0
       ·have hny:=hnx (by rw [h1,h2,decide_eq_true rfl,decide_eq_true h3];rfl);rw [h2] at c1;clear hb h2 hn;subst h1;generalize Qt.cmp _ _=z at *;have h4:¬0 < z:=by omega
        (focus (refine wkad (w_10 e0 e3 hlm g1 g2 h3 h4 ei en ek) (w_3 c1 c2 c3) (w_1 (w_d 5 [(8,iv 0),(24,iv z)] [] [])) ?_;(repeat' first|exact w_t|apply w_l);all_goals intros));exact⟨i+1+1,⟨by omega,hny,by exact gW e0,by exact gS⟩,by omega⟩
       ·have hb:=hb (by rw [decide_eq_false h3,Bool.and_false]);subst hb;rw [h2] at c1;clear hnx h2 hn;subst h1;generalize Qt.cmp _ _=z at *;have h4:0 < z:=by omega
        (focus (refine wkad (w_9 e0 e3 hlm g1 g2 h4 ei en ek) (w_3 c1 c2 c3) (w_1 (w_d 5 [(8,iv 0),(24,iv z)] [] [])) ?_;(repeat' first|exact w_t|apply w_l);all_goals intros));all_goals exact gL
      ·have hz:Qt.cmp ⟨n1,n2,n3,n4⟩ ⟨y1,y2,y3,y4⟩≠0:=λh=>h2 (qtO.eqz _ _ h);have hb:=hb (by rw [h1,decide_eq_false λh=>h2 (congrArg Prod.fst h)];rfl);subst hb;clear hnx h2 hn c3;subst h1;generalize Qt.cmp ⟨n1,n2,n3,n4⟩ _=z at *;(focus (refine wkad (w_5 e0 e3 hlm g1 hz) (w_2 c1 c2) (w_1 (w_d 5 [(8,iv z)] [] [])) ?_;(repeat' first|exact w_t|apply w_l);all_goals intros));all_goals exact gL
     ·have hb:=hb (by rw [decide_eq_false λh=>h1 (congrArg Prod.snd h)];rfl);subst hb;clear hnx hn c2 c3;(focus (refine wkad (w_5 e0 e3 hlm g1 h1) (w_1 c1) w_t ?_;(repeat' first|exact w_t|apply w_l);all_goals intros));all_goals exact gL
  ·have hil:i=q.length:=by omega
   subst hil;have hb:=hgood hj;subst hb;clear hgood hbad hj hg;(focus (refine wkad (w_3 e0 e3 hlm) w_t w_t ?_;(repeat' first|exact w_t|apply w_l);all_goals intros));all_goals exact gL
 ·exact⟨Nat.zero_le _,λj h=>by omega,by exact gC,by exact gC⟩
theorem re_atD {l:List RE} {i:Nat} (h:i < l.length):(l.map RE.av).getD i .u=RE.av (l.getD i RE.zero):=by
 rw [List.getD_eq_getElem?_getD,List.getD_eq_getElem?_getD,List.getElem?_eq_getElem (by rw [List.length_map];exact h),List.getElem?_eq_getElem h,List.getElem_map];rfl
theorem re_memD {l:List RE} {i:Nat} (h:i < l.length):l.getD i RE.zero∈l:=by
 rw [List.getD_eq_getElem?_getD,List.getElem?_eq_getElem h];exact List.getElem_mem h
theorem tOk_r {l:List RE} {i:Nat} (h:(l.getD i RE.zero).r.ok=false):tOkAt l i=false:=by unfold tOkAt;rw [h];rfl
theorem tOk_z {l:List RE} {i:Nat} (h:(l.getD i RE.zero).r.q=0):tOkAt l i=false:=by unfold tOkAt;rw [decide_eq_true h];simp
theorem tOk_p {l:List RE} {i:Nat} (h:prodB (l.getD i RE.zero).q=false):tOkAt l i=false:=by unfold tOkAt;rw [h];simp
theorem tOk_o {l:List RE} {i:Nat} (h:¬ordQ (l.getD i RE.zero).q (l.getD (i+1) RE.zero).q < 0):tOkAt l (i+1)=false:=by
 unfold tOkAt;rw [show i+1 - 1=i from rfl,decide_eq_false h];simp
theorem tOk_y {l:List RE} {i:Nat} (h1:(l.getD i RE.zero).r.ok=true) (h2:(l.getD i RE.zero).r.q≠0) (h3:prodB (l.getD i RE.zero).q=true) (h4:i=0∨ordQ (l.getD (i - 1) RE.zero).q (l.getD i RE.zero).q < 0):tOkAt l i=true:=by
 unfold tOkAt;rw [h1,h3,decide_eq_false h2];simpa using h4
theorem rxRight (l:List RE) {J:Nat} (hl:l.length≤1000000) (hr:∀t∈l,t.r.lm J) (hq:∀t∈l,t.q.length≤1000000) (hJ:J≤100000):Pure Tryz.prog 25 [.sl 4 (l.map RE.av)] (.v (.bool (rgtB l))):=by
 have hlm:(l.map RE.av).length=l.length:=List.length_map ..;have hg:∀j,j < l.length→(l.map RE.av).getD j .u=RE.av (l.getD j RE.zero):=λj h=>re_atD h;have hr:∀j,j < l.length→(l.getD j RE.zero).r.lm J:=λj h=>hr _ (re_memD h);have hq:∀j,j < l.length→(l.getD j RE.zero).q.length≤1000000:=λj h=>hq _ (re_memD h);have hbad:∀i,i < l.length→tOkAt l i=false→rgtB l=false:=λi h hp=>range_bad h hp;have hgood:(∀i,i < l.length→tOkAt l i=true)→rgtB l=true:=range_good;generalize l.map RE.av=A at *;generalize hB:rgtB l=B at *;refine Zaa (tok:=0) Tryz.func25 rfl Tryz.ntmps25 Tryz.results25 Tryz.call25 (by rfl) (by simp) ?_
 (focus (refine wkad w_t w_t w_t ?_;(repeat' first|exact w_t|apply w_l);all_goals intros));refine Zad (ι:=Nat) (λi e _=>i≤l.length∧(∀j,j < i→tOkAt l j=true)∧e 0=.sl 4 A∧e 3=iv i) (λi=>l.length - i) 0 (by rfl) ?_ ?_
 ·rintro i e m ⟨hi,hj,e0,e3⟩
  by_cases hlt:i < l.length
  ·have g1:=hg i hlt;have hri:=hr i hlt;have hqi:=hq i hlt;have hb:=hbad i hlt;have hnx:tOkAt l i=true→∀j,j < i+1→tOkAt l j=true:=λh j hji=>by
    by_cases e:j=i
    ·rw [e];exact h
    ·exact hj j (by omega)
   clear hgood hbad hj;have g1:A.getD i .u=.agg [.v (.bool (l.getD i RE.zero).r.s),lim (l.getD i RE.zero).r.l,lim (l.getD i RE.zero).r.d,.sl 4 ((l.getD i RE.zero).q.map Qt.av)]:=g1;have crq:=Zu9 (l.getD i RE.zero).r.s (l.getD i RE.zero).r.l (l.getD i RE.zero).r.d hri.1 hri.2.1 (by have:=hri.2.2.1;omega) (by have:=hri.2.2.2;omega)
   cases hro:(l.getD i RE.zero).r.ok with
   | false =>
     have crq:Pure Tryz.prog 67 [.agg [.v (.bool (l.getD i RE.zero).r.s),lim (l.getD i RE.zero).r.l,lim (l.getD i RE.zero).r.d]] (.v (.bool (l.getD i RE.zero).r.ok)):=crq;rw [hro] at crq;have hb:=hb (tOk_r hro);subst hb;clear hnx hg hr hq hro hri hqi;generalize l.getD i RE.zero=t at *;obtain⟨⟨s,x,d⟩,q⟩:=t;simp only at *;generalize q.map Qt.av=Q at *;(focus (refine wkad (w_4 e0 e3 hlm g1) (w_1 crq) (w_1 (w_d 4 [(5,.v (.bool false))] [] [])) ?_;(repeat' first|exact w_t|apply w_l);all_goals intros));all_goals exact gL
   | true =>
     have crq:Pure Tryz.prog 67 [.agg [.v (.bool (l.getD i RE.zero).r.s),lim (l.getD i RE.zero).r.l,lim (l.getD i RE.zero).r.d]] (.v (.bool (l.getD i RE.zero).r.ok)):=crq;rw [hro] at crq;have hz:=(RQ.ok_av hri hro).2;have cz:=qSign _ hz (by omega);have hre:=RQ.ok_eq hri hro;have cz:Pure Tryz.prog 66 [.agg [.v (.bool (decide ((l.getD i RE.zero).r.q.num < 0))),lim (toL (l.getD i RE.zero).r.q.num.natAbs),lim (toL (l.getD i RE.zero).r.q.den)]] (iv (l.getD i RE.zero).r.q.num.sign):=cz;have e1:(l.getD i RE.zero).r.s=decide ((l.getD i RE.zero).r.q.num < 0):=congrArg RQ.s hre;have e2:(l.getD i RE.zero).r.l=toL (l.getD i RE.zero).r.q.num.natAbs:=congrArg RQ.l hre
     have e4:(l.getD i RE.zero).r.d=toL (l.getD i RE.zero).r.q.den:=congrArg RQ.d hre;rw [←e1,←e2,←e4] at cz;clear e1 e2 e4 hre hz;have cp:=rxProd (l.getD i RE.zero).q hqi;have cp:Pure Tryz.prog 81 [.sl 4 ((l.getD i RE.zero).q.map Qt.av)] (.v (.bool (prodB (l.getD i RE.zero).q))):=cp;by_cases hx:(l.getD i RE.zero).r.q=0
     ·have hz2:(l.getD i RE.zero).r.q.num.sign=0:=by rw [Zdq];exact hx
      rw [hz2] at cz;have hb:=hb (tOk_z hx);subst hb;clear hnx hg hr hq hro hri hqi hx hz2 cp;generalize l.getD i RE.zero=t at *;obtain⟨⟨s,x,d⟩,q⟩:=t;simp only at *;generalize q.map Qt.av=Q at *;(focus (refine wkad (w_4 e0 e3 hlm g1) (w_2 crq cz) (w_1 (w_d 4 [(5,.v (.bool true)),(13,iv 0)] [] [])) ?_;(repeat' first|exact w_t|apply w_l);all_goals intros));all_goals exact gL
     ·have hz2:¬(l.getD i RE.zero).r.q.num.sign=0:=by rw [Zdq];exact hx
      cases hpb:prodB (l.getD i RE.zero).q with
      | false =>
        rw [hpb] at cp;have hb:=hb (tOk_p hpb);subst hb;clear hnx hg hr hq hro hri hqi hx hpb;generalize (l.getD i RE.zero).r.q.num.sign=z at *;generalize l.getD i RE.zero=t at *;obtain⟨⟨s,x,d⟩,q⟩:=t;simp only at *;generalize q.map Qt.av=Q at *;(focus (refine wkad (w_5 e0 e3 hlm g1 hz2) (w_3 crq cz cp) (w_1 (w_d 4 [(5,.v (.bool true)),(13,iv z),(22,.v (.bool false))] [] [])) ?_;(repeat' first|exact w_t|apply w_l);all_goals intros));all_goals exact gL
      | true =>
        rw [hpb] at cp
        cases i with
        | zero =>
          have hnx:=hnx (tOk_y hro hx hpb (.inl rfl));clear hb hg hr hq hro hri hqi hx hpb;generalize (l.getD 0 RE.zero).r.q.num.sign=z at *;generalize l.getD 0 RE.zero=t at *;obtain⟨⟨s,x,d⟩,q⟩:=t;simp only at *;generalize q.map Qt.av=Q at *;(focus (refine wkad (w_5 e0 e3 hlm g1 hz2) (w_3 crq cz cp) (w_1 (w_d 4 [(5,.v (.bool true)),(13,iv z),(22,.v (.bool true))] [] [])) ?_;(repeat' first|exact w_t|apply w_l);all_goals intros));exact⟨1,⟨by omega,hnx,by exact gW e0,by exact gC⟩,by omega⟩
        | succ i =>
          have g2:=hg i (by omega);have g2:A.getD i .u=.agg [.v (.bool (l.getD i RE.zero).r.s),lim (l.getD i RE.zero).r.l,lim (l.getD i RE.zero).r.d,.sl 4 ((l.getD i RE.zero).q.map Qt.av)]:=g2;have co:=Zpc (l.getD i RE.zero).q (l.getD (i+1) RE.zero).q (hq i (by omega)) hqi;have co:Pure Tryz.prog 68 [.sl 4 ((l.getD i RE.zero).q.map Qt.av),.sl 4 ((l.getD (i+1) RE.zero).q.map Qt.av)] (iv (ordQ (l.getD i RE.zero).q (l.getD (i+1) RE.zero).q)):=co;have en:((i+1:Nat):Int) - 1=(i:Int):=by omega
          by_cases ho:ordQ (l.getD i RE.zero).q (l.getD (i+1) RE.zero).q < 0
          ·have hnx:=hnx (tOk_y hro hx hpb (.inr ho));clear hb hg hr hq hro hri hqi hx hpb;have ho2:¬0≤ordQ (l.getD i RE.zero).q (l.getD (i+1) RE.zero).q:=by omega
           generalize (l.getD (i+1) RE.zero).r.q.num.sign=z at *;generalize ordQ (l.getD i RE.zero).q (l.getD (i+1) RE.zero).q=w at *;generalize l.getD (i+1) RE.zero=t at *;generalize l.getD i RE.zero=u at *;obtain⟨⟨s,x,d⟩,q⟩:=t;obtain⟨⟨s',x',d'⟩,q'⟩:=u;simp only at *;generalize q.map Qt.av=Q at *;generalize q'.map Qt.av=Q' at *;(focus (refine wkad (w_9 e0 e3 hlm g1 g2 hz2 ho ho2 en) (w_4 crq cz cp co) (w_1 (w_d 4 [(5,.v (.bool true)),(13,iv z),(22,.v (.bool true)),(40,iv w)] [] [])) ?_;(repeat' first|exact w_t|apply w_l);all_goals intros));exact⟨i+1+1,⟨by omega,hnx,by exact gW e0,by exact gS⟩,by omega⟩
          ·have hb:=hb (tOk_o ho);subst hb;clear hnx hg hr hq hro hri hqi hx hpb;have ho2:0≤ordQ (l.getD i RE.zero).q (l.getD (i+1) RE.zero).q:=by omega
           generalize (l.getD (i+1) RE.zero).r.q.num.sign=z at *;generalize ordQ (l.getD i RE.zero).q (l.getD (i+1) RE.zero).q=w at *;generalize l.getD (i+1) RE.zero=t at *;generalize l.getD i RE.zero=u at *;obtain⟨⟨s,x,d⟩,q⟩:=t;obtain⟨⟨s',x',d'⟩,q'⟩:=u;simp only at *;generalize q.map Qt.av=Q at *;generalize q'.map Qt.av=Q' at *;(focus (refine wkad (w_9 e0 e3 hlm g1 g2 hz2 ho ho2 en) (w_4 crq cz cp co) (w_1 (w_d 4 [(5,.v (.bool true)),(13,iv z),(22,.v (.bool true)),(40,iv w)] [] [])) ?_;(repeat' first|exact w_t|apply w_l);all_goals intros));all_goals exact gL
  ·have hil:i=l.length:=by omega
   subst hil;have hb:=hgood hj;subst hb;clear hgood hbad hj hg hr hq;(focus (refine wkad (w_3 e0 e3 hlm) w_t w_t ?_;(repeat' first|exact w_t|apply w_l);all_goals intros));all_goals exact gL
 ·exact⟨Nat.zero_le _,λj h=>by omega,by exact gC,by exact gC⟩
section
attribute [local go_sem] Tryz.underlying3 Tryz.underlying4 Tryz.underlying169 Tryz.underlying41 Tryz.underlying43 Tryz.underlying45 Tryz.underlying25 Tryz.underlying47 Tryz.underlying49 Tryz.underlying22 Tryz.underlying23 sz3 by3 z3 szB zB Zbd zRat Zbf zInt Zbe zNat Zaj Zaw Zak Bool.and_self Zan Zbs zSlQ szQT byQT zQT Zby zSlT szQP zQP
end
attribute [local go_sem] Tryz.underlying92 Tryz.underlying27 szFr byFr zFr Zfu Zfx zSQP Tryz.underlying36 Tryz.underlying33 Tryz.underlying9 Zcr zStr
theorem rxEqSame (p:QTs) {j n:Nat} (h:QK p j n) (hl:p.length≤1000000) (hj:j≤1000000) (hn:n≤1000000):Pure Tryz.prog 21 [qpA p,qpA p] (.v (.bool true)):=by
 have hpl:(p.map qtA).length=p.length:=List.length_map ..;have hq:∀i (h:i < p.length),(p.map qtA).getD i .u=.agg [.v (.bool (decide (p[i].1.num < 0))),lim (toL p[i].1.num.natAbs),lim (toL p[i].1.den),.sl 4 (p[i].2.map Qt.av)]:=λi h=>Za0 qtA h;have ce:∀i (h:i < p.length),Pure Tryz.prog 33 [.agg [.v (.bool (decide (p[i].1.num < 0))),lim (toL p[i].1.num.natAbs),lim (toL p[i].1.den)],.agg [.v (.bool (decide (p[i].1.num < 0))),lim (toL p[i].1.num.natAbs),lim (toL p[i].1.den)]] (.v (.bool true)):=λi hi=>by
  have c:=Zvb p[i].1 p[i].1 (h _ (List.getElem_mem hi)).1 (h _ (List.getElem_mem hi)).1 hj hj;rw [decide_eq_true rfl] at c;exact c
 have co:∀i (h:i < p.length),Pure Tryz.prog 68 [.sl 4 (p[i].2.map Qt.av),.sl 4 (p[i].2.map Qt.av)] (iv 0):=λi hi=>by
  have hn:=(h _ (List.getElem_mem hi)).2;have c:=Zpc p[i].2 p[i].2 (by omega) (by omega);rw [Zcc.refl] at c;exact c
 show Pure _ _ [.sl 4 (p.map qtA),.sl 4 (p.map qtA)] _;clear h;generalize p.map qtA=P at *;refine Zaa (tok:=0) Tryz.func21 rfl Tryz.ntmps21 Tryz.results21 Tryz.call21 (by rfl) (by simp) ?_;(focus (refine wkad (w_1 hpl) w_t w_t ?_;(repeat' first|exact w_t|apply w_l);all_goals intros));refine Zad (ι:=Nat) (λi e m=>i≤p.length∧e 0=.sl 4 P∧e 1=.sl 4 P∧e 5=iv i) (λi=>p.length - i) 0 (by rfl) ?_ ?_
 ·rintro i e m ⟨hi,e0,e1,e5⟩
  by_cases hlt:i < p.length
  ·have hqi:=hq i hlt;have cei:=ce i hlt;have coi:=co i hlt;clear hq ce co;generalize p[i].2.map Qt.av=qs at *;generalize decide (p[i].1.num < 0)=ng at *;generalize toL p[i].1.num.natAbs=An at *;generalize toL p[i].1.den=Ad at *;(focus (refine wkad (w_5 e0 e1 e5 hpl hqi) (w_2 cei coi) (w_1 (w_d 6 [(10,.v (.bool true)),(23,iv 0)] [] [])) ?_;(repeat' first|exact w_t|apply w_l);all_goals intros));exact⟨i+1,⟨by omega,by exact gW e0,by exact gW e1,by exact gS⟩,by omega⟩
  ·(focus (refine wkad (w_4 e0 e1 e5 hpl) w_t w_t ?_;(repeat' first|exact w_t|apply w_l);all_goals intros));all_goals exact gL
 ·exact⟨Nat.zero_le _,by exact gC,by exact gC,by exact gC⟩
def nrmT (l:List RE):QTs:=if l.all RE.ok=true then gatM (l.map RE.t) else []
def REsm (t:RE):Bool:=decide (t.q.length≤6) && (decide (t.r.l.length≤2) && decide (t.r.d.length≤2))
section
attribute [local go_sem] Tryz.underlying3 Tryz.underlying4 Tryz.underlying169 Tryz.underlying41 Tryz.underlying43 Tryz.underlying45 Tryz.underlying25 Tryz.underlying47 Tryz.underlying49 Tryz.underlying22 Tryz.underlying23 sz3 by3 z3 szB zB Zbd zRat Zbf zInt Zbe zNat Zaj Zaw Zak Bool.and_self Zan Zbs zSlQ szQT byQT zQT Zby zSlT szQP zQP Tryz.underlying92 Tryz.underlying27 szFr byFr zFr Zfu Zfx zSQP Tryz.underlying36 Tryz.underlying33 Tryz.underlying9 Zcr zStr
end
section
variable {N n:Nat} {cs:List AV}
theorem shProd (h:Zcl Tryz.prog N n 47 cs):∃l:List Qt,cs=[qsA l]∧l.length≤N:=by
 obtain⟨bs,rfl,hl,_⟩:=Zc4 (g:=λq:Qt=>[iv q.k,iv q.a,iv q.b,iv q.c]) (Q:=λ_=>True) Tryz.underlying47 h λm x hx=>by
  obtain⟨k,a,b,c,rfl⟩:=shQuantP hx;exact⟨⟨k,a,b,c⟩,rfl,trivial⟩
 refine⟨bs,?_,hl⟩;rw [show Tryz.prog.cellsOf 25=4 from by kernel_rfl];have:(bs.map λq:Qt=>Zc2 Tryz.prog 25 [iv q.k,iv q.a,iv q.b,iv q.c])=bs.map Qt.av:=List.map_congr_left λb _=>aggQuantP _;rw [this]
theorem shQTerm (h:Zcl Tryz.prog N n 49 cs):∃t:RE,cs=[.v (.bool t.r.s),lim t.r.l,lim t.r.d,qsA t.q]∧t.r.lm N∧t.q.length≤N:=by
 obtain⟨m,rfl,hs⟩:=Zc0 Tryz.underlying49 (by kernel_rfl) h;obtain⟨x,y,rfl,h1,hs⟩:=hs.inv;obtain⟨x2,y,rfl,h2,hs⟩:=hs.inv;obtain rfl:=hs.inv0;obtain⟨r,rfl,hr⟩:=shRat h1;obtain⟨l,rfl,hl⟩:=shProd h2;exact⟨⟨r,l⟩,rfl,hr,hl⟩
theorem shTerms {T:TypeId} (hu:Tryz.prog.underlying T=some (.slice 49)) (h:Zcl Tryz.prog N n T cs):∃l:List RE,cs=[.sl 4 (l.map RE.av)]∧l.length≤N∧(∀t∈l,t.r.lm N)∧∀t∈l,t.q.length≤N:=by
 obtain⟨bs,rfl,hl,hq⟩:=Zc4 (g:=λt:RE=>[.v (.bool t.r.s),lim t.r.l,lim t.r.d,qsA t.q]) (Q:=λt=>t.r.lm N∧t.q.length≤N) hu h λm x hx=>by
  obtain⟨t,h1,h2⟩:=shQTerm hx;exact⟨t,h1,h2⟩
 refine⟨bs,?_,hl,λt ht=>(hq t ht).1,λt ht=>(hq t ht).2⟩;rw [show Tryz.prog.cellsOf 49=4 from by kernel_rfl];have:(bs.map λt:RE=>Zc2 Tryz.prog 49 [.v (.bool t.r.s),lim t.r.l,lim t.r.d,qsA t.q])=bs.map RE.av:=List.map_congr_left λb _=>Zfz Tryz.underlying49 _;rw [this]
end
def smTerm (Q:Nat) (t:RE):Bool:=decide (t.q.length≤Q) && t.r.tiny
def smallB (T Q:Nat) (l:List RE):Bool:=decide (l.length≤T) && (l.all (smTerm Q) && rgtB l)
def RE.rt (t:RE):Rat × List Qt:=(t.r.q,t.q)
theorem rt_av {Q k:Nat} {l:List RE} (hr:∀t∈l,t.r.lm k) (h:l.all (smTerm Q)=true):l.map RE.av=(l.map RE.rt).map qtA:=by
 rw [List.map_map];refine List.map_congr_left λt ht=>?_;have:=List.all_eq_true.1 h t ht;unfold smTerm at this;simp only [Bool.and_eq_true] at this;have e:=(RQ.tiny_av (hr t ht).1 (hr t ht).2.1 this.2).1;have e1:t.r.av=.agg [.v (.bool t.r.s),lim t.r.l,lim t.r.d]:=rfl;have e2:ratQ t.r.q=.agg [.v (.bool (decide (t.r.q.num < 0))),lim (toL t.r.q.num.natAbs),lim (toL t.r.q.den)]:=rfl;rw [e1,e2] at e;simp only [AV.agg.injEq,List.cons.injEq,and_true] at e;show AV.agg [.v (.bool t.r.s),lim t.r.l,lim t.r.d,qsA t.q]=.agg [.v (.bool (decide (t.r.q.num < 0))),lim (toL t.r.q.num.natAbs),lim (toL t.r.q.den),qsA t.q]
 rw [e.1,e.2.1,e.2.2]
theorem rt_qk {Q k:Nat} {l:List RE} (hr:∀t∈l,t.r.lm k) (h:l.all (smTerm Q)=true):QK (l.map RE.rt) 2 Q:=λu hu=>by
 obtain⟨t,ht,rfl⟩:=List.mem_map.1 hu;have:=List.all_eq_true.1 h t ht;unfold smTerm at this;simp only [Bool.and_eq_true,decide_eq_true_eq] at this;exact⟨(RQ.tiny_av (hr t ht).1 (hr t ht).2.1 this.2).2,this.1⟩
theorem rxSmall (l:List RE) (T Q:Nat) (hT:T≤100000) (hQ:Q≤100000) (hl:l.length≤9223372036854775807) (hr:∀t∈l,t.r.lm 9223372036854775807) (hq:∀t∈l,t.q.length≤9223372036854775807) :
 Pure Tryz.prog 11 [.sl 4 (l.map RE.av),iv T,iv Q] (.v (.bool (smallB T Q l))):=by
 have hpl:(l.map RE.av).length=l.length:=List.length_map ..;have hg:∀i (h:i < l.length),(l.map RE.av).getD i .u=.agg [.v (.bool l[i].r.s),lim l[i].r.l,lim l[i].r.d,.sl 4 (l[i].q.map Qt.av)]:=λi h=>Za0 RE.av h;have ct:∀i (h:i < l.length),Pure Tryz.prog 20 [.agg [.v (.bool l[i].r.s),lim l[i].r.l,lim l[i].r.d]] (.v (.bool l[i].r.tiny)):=λi h=>rqTiny l[i].r (hr _ (List.getElem_mem h));have cr:l.length≤T→l.all (smTerm Q)=true→Pure Tryz.prog 25 [.sl 4 (l.map RE.av)] (.v (.bool (rgtB l))):=λh1 h2=>by
  have h3:∀t∈l,t.q.length≤Q∧t.r.tiny=true:=λt ht=>by
   have:=List.all_eq_true.1 h2 t ht;unfold smTerm at this
   simpa only [Bool.and_eq_true,decide_eq_true_eq] using this
  refine rxRight l (J:=2) (by omega) (λt ht=>?_) (λt ht=>by have:=h3 t ht;omega) (by omega);have h4:=(h3 t ht).2;unfold RQ.tiny at h4;simp only [Bool.and_eq_true,decide_eq_true_eq] at h4;exact⟨(hr t ht).1,(hr t ht).2.1,h4.1.1,h4.1.2⟩
 clear hr hq;generalize l.map RE.av=L at *;by_cases hlen:l.length≤T
 ·have h1:¬(T:Int) < (l.length:Int):=by omega
  have hsm:smallB T Q l=(l.all (smTerm Q) && rgtB l):=by unfold smallB;rw [decide_eq_true hlen,Bool.true_and]
  rw [hsm];refine Zaa (tok:=0) Tryz.func11 rfl Tryz.ntmps11 Tryz.results11 Tryz.call11 (by rfl) (by simp) ?_;(focus (refine wkad (w_2 hpl h1) w_t w_t ?_;(repeat' first|exact w_t|apply w_l);all_goals intros));refine Zad (ι:=Nat) (λi e m=>i≤l.length∧(l.take i).all (smTerm Q)=true∧e 0=.sl 4 L∧e 2=iv Q∧e 7=iv i) (λi=>l.length - i) 0 (by rfl) ?_ ?_
  ·rintro i e m ⟨hi,hs,e0,e2,e7⟩
   by_cases hlt:i < l.length
   ·have hgi:=hg i hlt;have cti:=ct i hlt;have hql:(l[i].q.map Qt.av).length=l[i].q.length:=List.length_map ..;have hst:smTerm Q l[i]=true→(l.take (i+1)).all (smTerm Q)=true:=Zgj hlt hs;have hsn:smTerm Q l[i]=false→l.all (smTerm Q)=false:=λh=>List.all_eq_false.2 ⟨l[i],List.getElem_mem hlt,by rw [h];decide⟩;have hsd:smTerm Q l[i]=(decide (l[i].q.length≤Q) && l[i].r.tiny):=rfl;clear hg ct cr hs hsm;generalize l[i].q.map Qt.av=qs at *;generalize l[i].q.length=qn at *;generalize l[i].r.tiny=tn at *;generalize l[i].r.s=ts at *;generalize l[i].r.l=tl at *;generalize l[i].r.d=td at *;by_cases h6:qn≤Q
    ·have g6:¬(Q:Int) < (qn:Int):=by omega
     cases tn with
     | true =>
       have hsy:=hst (by rw [hsd,decide_eq_true h6];rfl);(focus (refine wkad (w_7 e0 e2 e7 hpl hgi hql g6) (w_1 cti) w_t ?_;(repeat' first|exact w_t|apply w_l);all_goals intros));exact⟨i+1,⟨by omega,hsy,by exact gW e0,by exact gW e2,by exact gS⟩,by omega⟩
     | false =>
       rw [hsn (by rw [hsd,Bool.and_false]),Bool.false_and];(focus (refine wkad (w_7 e0 e2 e7 hpl hgi hql g6) (w_1 cti) w_t ?_;(repeat' first|exact w_t|apply w_l);all_goals intros));all_goals exact gL
    ·have g6:(Q:Int) < (qn:Int):=by omega
     rw [hsn (by rw [hsd,decide_eq_false h6];rfl),Bool.false_and];(focus (refine wkad (w_7 e0 e2 e7 hpl hgi hql g6) w_t w_t ?_;(repeat' first|exact w_t|apply w_l);all_goals intros));all_goals exact gL
   ·have:i=l.length:=by omega
    subst this;rw [List.take_length] at hs;have cr:=cr hlen hs;rw [hs,Bool.true_and];(focus (refine wkad (w_4 e0 e2 e7 hpl) (w_1 cr) w_t ?_;(repeat' first|exact w_t|apply w_l);all_goals intros));all_goals exact gL
  ·exact⟨Nat.zero_le _,rfl,by exact gC,by exact gC,by exact gC⟩
 ·have h1:(T:Int) < (l.length:Int):=by omega
  have hsm:smallB T Q l=false:=by unfold smallB;rw [decide_eq_false hlen,Bool.false_and]
  rw [hsm];refine Zaa (tok:=0) Tryz.func11 rfl Tryz.ntmps11 Tryz.results11 Tryz.call11 (by rfl) (by simp) ?_;(focus (refine wkad (w_2 hpl h1) w_t w_t ?_;(repeat' first|exact w_t|apply w_l);all_goals intros));all_goals exact gL
def mrgQ:List Qt→List Qt→List Qt
 | a,[]=>a
 | [],y :: b=>y :: b
 | x :: a,y :: b=>if Qt.cmp x y≤0 then x :: mrgQ a (y :: b) else y :: mrgQ (x :: a) b
termination_by a b=>a.length+b.length
theorem mrg_perm (a b:List Qt):(mrgQ a b).Perm (a++b):=by
 fun_induction mrgQ a b with
 | case1 a=>rw [List.append_nil]
 | case2 y b=>exact .refl _
 | case3 x a y b h ih=>exact ih.cons x
 | case4 x a y b h ih=>exact(ih.cons y).trans List.perm_middle.symm
theorem mrg_asc {a b:List Qt} (ha:Asc Qt.cmp a) (hb:Asc Qt.cmp b):Asc Qt.cmp (mrgQ a b):=by
 fun_induction mrgQ a b with
 | case1 a=>exact ha
 | case2 y b=>exact hb
 | case3 x a y b h ih =>
   have ha':=List.pairwise_cons.1 ha;refine List.pairwise_cons.2 ⟨λz hz=>?_,ih ha'.2 hb⟩;rcases List.mem_append.1 ((mrg_perm _ _).mem_iff.1 hz) with h1 | h1
   ·exact ha'.1 z h1
   ·rcases List.mem_cons.1 h1 with rfl | h1
    ·exact h
    ·exact qtO.le_tr h ((List.pairwise_cons.1 hb).1 z h1)
 | case4 x a y b h ih =>
   have hb':=List.pairwise_cons.1 hb;have hyx:=qtO.le_total x y (by omega);refine List.pairwise_cons.2 ⟨λz hz=>?_,ih ha hb'.2⟩;rcases List.mem_append.1 ((mrg_perm _ _).mem_iff.1 hz) with h1 | h1
   ·rcases List.mem_cons.1 h1 with rfl | h1
    ·exact hyx
    ·exact qtO.le_tr hyx ((List.pairwise_cons.1 ha).1 z h1)
   ·exact hb'.1 z h1
theorem mrg_eq {a b:List Qt} (ha:Asc Qt.cmp a) (hb:Asc Qt.cmp b):mrgQ a b=muQ a b :=
 Zhh qtO (mrg_asc ha hb) (Zc3 qtO.cp _) ((mrg_perm a b).trans (Zbt _).symm)
theorem mrg_l {a b:List Qt} {i k:Nat} (hi:i < a.length) (hk:k < b.length) (h:Qt.cmp a[i] b[k]≤0):mrgQ (a.drop i) (b.drop k)=a[i] :: mrgQ (a.drop (i+1)) (b.drop k):=by
 rw [List.drop_eq_getElem_cons hi,List.drop_eq_getElem_cons hk,mrgQ,if_pos h]
theorem mrg_r {a b:List Qt} {i k:Nat} (hk:k < b.length) (h:∀hi:i < a.length,¬Qt.cmp a[i] b[k]≤0):mrgQ (a.drop i) (b.drop k)=b[k] :: mrgQ (a.drop i) (b.drop (k+1)):=by
 rw [List.drop_eq_getElem_cons hk];by_cases hi:i < a.length
 ·rw [List.drop_eq_getElem_cons hi,mrgQ,if_neg (h hi)]
 ·rw [List.drop_eq_nil_of_le (by omega),mrgQ];cases b.drop (k+1)<;>simp [mrgQ]
theorem rxBoth (a b:List Qt) (ha:Asc Qt.cmp a) (hb:Asc Qt.cmp b) (la:a.length≤1000000) (lb:b.length≤1000000):Pure Tryz.prog 104 [qsA a,qsA b] (qsA (muQ a b)):=by
 have ham:(a.map Qt.av).length=a.length:=List.length_map ..;have hbm:(b.map Qt.av).length=b.length:=List.length_map ..;have ga:∀i (h:i < a.length),(a.map Qt.av).getD i .u=Qt.av a[i]:=λi h=>Za0 Qt.av h;have gb:∀i (h:i < b.length),(b.map Qt.av).getD i .u=Qt.av b[i]:=λi h=>Za0 Qt.av h;have hda:∀i,(a.map Qt.av).drop i=(a.drop i).map Qt.av:=λi=>List.map_drop.symm;rw [←mrg_eq ha hb];clear ha hb;show Pure _ _ [.sl 4 (a.map Qt.av),.sl 4 (b.map Qt.av)] (.sl 4 ((mrgQ a b).map Qt.av));generalize a.map Qt.av=A at *;generalize b.map Qt.av=B at *;refine Zaa (tok:=0) Tryz.func104 rfl Tryz.ntmps104 Tryz.results104 Tryz.call104 (by rfl) (by simp) ?_
 (focus (refine wkad (w_2 ham hbm) w_t w_t ?_;(repeat' first|exact w_t|apply w_l);all_goals intros));refine Zad (ι:=Nat × Nat) (λx e m=>(x.1≤b.length∧x.2≤a.length)∧(e 0=.sl 4 A∧e 1=.sl 4 B)∧e 7=iv x.1∧e 6=iv x.2∧∃sv out,e 5=.own 13 sv∧m 13=some (.row sv 25 4 (out.map Qt.av) 0)∧out.length≤x.1+x.2∧mrgQ a b=out++mrgQ (a.drop x.2) (b.drop x.1)) (λx=>b.length - x.1) (0,0) (by rfl) ?_ ?_
 ·rintro ⟨k,i0⟩ e m ⟨⟨hk,hi0⟩,⟨e0,e1⟩,e7,e6,sv,out,e5,m13,ho,hs⟩
  simp only at hk hi0 e7 e6 ho hs;by_cases hkl:k < b.length
  ·have gbk:=gb k hkl;(focus (refine wkad (w_4 e0 e1 e7 hbm) w_t w_t ?_;(repeat' first|exact w_t|apply w_l);all_goals intros));refine Zf6 (λe m=>(e 0=.sl 4 A∧e 1=.sl 4 B)∧e 7=iv k∧∃i sv out,i≤a.length∧e 6=iv i∧e 5=.own 13 sv∧m 13=some (.row sv 25 4 (out.map Qt.av) 0)∧out.length≤k+i∧mrgQ a b=out++b[k] :: mrgQ (a.drop i) (b.drop (k+1))) 2 ?_ ?_
   ·refine Zad (ι:=Nat) (λi e m=>i≤a.length∧(e 0=.sl 4 A∧e 1=.sl 4 B)∧e 7=iv k∧e 6=iv i∧∃sv out,e 5=.own 13 sv∧m 13=some (.row sv 25 4 (out.map Qt.av) 0)∧out.length≤k+i∧mrgQ a b=out++mrgQ (a.drop i) (b.drop k)) (λi=>a.length - i) i0 (by rfl) ?_ ?_
    ·rintro i e m ⟨hi,⟨e0,e1⟩,e7,e6,sv,out,e5,m13,ho,hs⟩
     have hol:(out.map Qt.av).length=out.length:=List.length_map ..;by_cases hil:i < a.length
     ·have gai:=ga i hil;have cc:=Zpg a[i].k a[i].a a[i].b a[i].c b[k].k b[k].a b[k].b b[k].c;by_cases hz:Qt.cmp a[i] b[k]≤0
      ·rw [mrg_l hil hkl hz] at hs;have hmp:(out++[a[i]]).map Qt.av=out.map Qt.av++[Qt.av a[i]]:=by rw [List.map_append];rfl
       have hs2:mrgQ a b=(out++[a[i]])++mrgQ (a.drop (i+1)) (b.drop k):=by rw [hs,List.append_assoc];rfl
       clear hs;have hlo:(out++[a[i]]).length≤k+(i+1):=by rw [List.length_append,List.length_cons,List.length_nil];omega
       generalize out++[a[i]]=out' at *;clear ga gb hda;generalize a[i]=x at *;generalize b[k]=y at *;generalize hz1:Qt.cmp x y=z at *;clear hz1;generalize out.map Qt.av=O at *;obtain⟨x1,x2,x3,x4⟩:=x;obtain⟨y1,y2,y3,y4⟩:=y;simp only at *;(focus (refine wkad (w_12 e0 e1 e7 e6 e5 m13 ham hbm gai gbk hz hol) (w_1 cc) (w_1 (w_d 6 [(13,iv z)] [] [])) ?_;(repeat' first|exact w_t|apply w_l);all_goals intros));exact⟨i+1,⟨by omega,⟨by exact gW e0,by exact gW e1⟩,by exact gW e7,by exact gS,_,out',by exact gC,by rw [hmp];exact gC,hlo,hs2⟩,by omega⟩
      ·rw [mrg_r hkl (λ_=>hz)] at hs;clear ga gb hda;generalize a[i]=x at *;generalize b[k]=y at *;generalize hz1:Qt.cmp x y=z at *;clear hz1;generalize hO:out.map Qt.av=O at *;obtain⟨x1,x2,x3,x4⟩:=x;obtain⟨y1,y2,y3,y4⟩:=y;simp only at *;(focus (refine wkad (w_12 e0 e1 e7 e6 e5 m13 ham hbm gai gbk hz hol) (w_1 cc) (w_1 (w_d 6 [(13,iv z)] [] [])) ?_;(repeat' first|exact w_t|apply w_l);all_goals intros));exact⟨rfl,⟨by exact gW e0,by exact gW e1⟩,by exact gW e7,i,sv,out,hi,by exact gW e6,by exact gW e5,by rw [hO];exact gW m13,ho,hs⟩
     ·rw [mrg_r hkl (λh=>absurd h hil)] at hs;have hil':¬(i:Int) < (a.length:Int):=by omega
      (focus (refine wkad (w_8 e0 e1 e7 e6 e5 m13 ham hil') w_t (w_1 (w_d 6 [] [] [])) ?_;(repeat' first|exact w_t|apply w_l);all_goals intros));exact⟨rfl,⟨by exact gW e0,by exact gW e1⟩,by exact gW e7,i,sv,out,hi,by exact gW e6,by exact gW e5,by exact gW m13,ho,hs⟩
    ·exact⟨hi0,⟨by exact gW e0,by exact gW e1⟩,by exact gW e7,by exact gW e6,sv,out,by exact gW e5,by exact gW m13,ho,hs⟩
   ·clear e5 m13 hs ho e0 e1 e7 e6
    rintro e m ⟨⟨e0,e1⟩,e7,i,sv,out,hi,e6,e5,m13,ho,hs⟩
    have hol:(out.map Qt.av).length=out.length:=List.length_map ..;have hmp:(out++[b[k]]).map Qt.av=out.map Qt.av++[Qt.av b[k]]:=by rw [List.map_append];rfl
    have hs2:mrgQ a b=(out++[b[k]])++mrgQ (a.drop i) (b.drop (k+1)):=by rw [hs,List.append_assoc];rfl
    clear hs;have hlo:(out++[b[k]]).length≤k+1+i:=by rw [List.length_append,List.length_cons,List.length_nil];omega
    generalize out++[b[k]]=out' at *;clear ga gb hda;generalize b[k]=y at *;generalize out.map Qt.av=O at *;obtain⟨y1,y2,y3,y4⟩:=y;(focus (refine wkad (w_9 e0 e1 e7 e6 e5 m13 hbm gbk hol) w_t w_t ?_;(repeat' first|exact w_t|apply w_l);all_goals intros));exact⟨(k+1,i),⟨⟨by show k+1≤b.length;omega,hi⟩,⟨by exact gW e0,by exact gW e1⟩,by exact gS,by exact gW e6,_,out',by exact gC,by rw [hmp];exact gC,hlo,hs2⟩,by show b.length - (k+1) < b.length - k;omega⟩
  ·have hkb:k=b.length:=by omega
   subst hkb;have hol:(out.map Qt.av).length=out.length:=List.length_map ..;rw [List.drop_eq_nil_of_le (Nat.le_refl b.length),mrgQ] at hs;have hmp:(mrgQ a b).map Qt.av=out.map Qt.av++A.drop i0:=by rw [hs,List.map_append,hda]
   rw [hmp];have hdl:(A.drop i0).length=a.length - i0:=by rw [List.length_drop,ham]
   have htk:A.take a.length=A:=List.take_of_length_le (by omega);generalize out.map Qt.av=O at *;(focus (refine wkad (w_11 e0 e1 e7 e6 e5 m13 ham hbm hol hdl htk) w_t w_t ?_;(repeat' first|exact w_t|apply w_l);all_goals intros));all_goals exact gL
 ·exact⟨⟨Nat.zero_le _,Nat.zero_le _⟩,⟨by exact gC,by exact gC⟩,by exact gC,by exact gC,_,[],by exact gC,by exact gC,Nat.zero_le _,rfl⟩
theorem XB.gh {p q:QTs} {j k m n:Nat} (hp:XB p j m) (hq:XB q k n):GH (prodL muQ p q) (j+k+(j+k)) (m+n):=by
 obtain⟨a,b,D,B,c,d,e,f⟩:=hp;obtain⟨a',b',D',B',c',d',e',f'⟩:=hq;exact GH.of_nb (f.prodL f') (Nat.mul_ne_zero c c') (by rw [Nat.pow_add];exact Nat.mul_lt_mul_of_lt_of_lt d d') (by rw [Nat.pow_add];exact Nat.mul_lt_mul_of_lt_of_lt e e') (Zjp b b')
theorem rxMul (p q:QTs) {j k m n:Nat} (hp:XB p j m) (hq:XB q k n) (hm:m≤100000) (hn:n≤100000) (hl:p.length*q.length≤100000000) (hpl:p.length≤100000000) (hql:q.length≤100000000) (hj:j≤100000) (hk:k≤100000):Pure Tryz.prog 45 [qpA p,qpA q] (qpA (mulX p q)):=by
 have hpm:(p.map qtA).length=p.length:=List.length_map ..;have hqm:(q.map qtA).length=q.length:=List.length_map ..;have gp:∀i (h:i < p.length),(p.map qtA).getD i .u=qtA p[i]:=λi h=>Za0 qtA h;have gq:∀i (h:i < q.length),(q.map qtA).getD i .u=qtA q[i]:=λi h=>Za0 qtA h;have kp:=hp.qk;have kq:=hq.qk;have hop:∀t∈p,okQ t.2:=hp.1.dom;have hoq:∀t∈q,okQ t.2:=hq.1.dom;have hPl:(prodL muQ p q).length=p.length*q.length:=Zhr ..;have hstep:∀i l (h1:i < p.length) (h2:l < q.length),(prodL muQ p q).take (i*q.length+l+1)=(prodL muQ p q).take (i*q.length+l)++[(p[i].1*q[l].1,muQ p[i].2 q[l].2)]:=λi l h1 h2=>Zjc (Zlz h1 h2)
 have cg:=Zlp _ _ hPl (hp.gh hq) hl (by omega) (by omega);have hfull:(prodL muQ p q).take (p.length*q.length)=prodL muQ p q:=List.take_of_length_le (by omega);have htl:∀c,((prodL muQ p q).take c).length≤100000000:=λc=>by rw [List.length_take];omega
 have ht0:(prodL muQ p q).take 0=[]:=List.take_zero;have cg:Pure Tryz.prog 79 [.sl 4 (((prodL muQ p q).take (p.length*q.length)).map qtA)] (.sl 4 ((mulX p q).map qtA)):=by rw [hfull];exact cg
 clear hfull hPl hp hq;generalize mulX p q=RR at *;generalize hPR:(λc=>(prodL muQ p q).take c)=PR at *;have hPR:∀c,(prodL muQ p q).take c=PR c:=λc=>by rw [←hPR]
 simp only [hPR] at hstep cg htl ht0;clear hPR;show Pure _ _ [.sl 4 (p.map qtA),.sl 4 (q.map qtA)] (.sl 4 (RR.map qtA));generalize RR.map qtA=R at *;generalize p.map qtA=A at *;generalize q.map qtA=B at *;refine Zaa (tok:=0) Tryz.func45 rfl Tryz.ntmps45 Tryz.results45 Tryz.call45 (by rfl) (by simp) ?_;(focus (refine wkad w_t w_t w_t ?_;(repeat' first|exact w_t|apply w_l);all_goals intros));refine Zej (Frz.nilOwn (d:=5) 45 4 49 (by exact gC)) ?_;refine Zad (ι:=Nat) (λi e M=>i≤p.length∧(e 0=.sl 4 A∧e 1=.sl 4 B)∧e 6=iv i∧∃sv,e 5=.own 45 sv∧M 45=some (.row sv 49 4 ((PR (i*q.length)).map qtA) 0)) (λi=>p.length - i) 0 (by rfl) ?_ ?_
 ·rintro i e M ⟨hi,⟨e0,e1⟩,e6,sv,e5,m45⟩
  by_cases hlt:i < p.length
  ·have gpi:=gp i hlt;have kpi:=kp _ (List.getElem_mem hlt);have hsti:=λl h2=>hstep i l hlt h2;have hopi:=hop _ (List.getElem_mem hlt);have hsucc:(i+1)*q.length=i*q.length+q.length:=Nat.succ_mul ..;clear gp kp hstep hop cg ht0;generalize p[i]=u at *;generalize i*q.length=ci at *;obtain⟨u1,u2⟩:=u;simp only at kpi hsti hopi;have gpi:A.getD i .u=.agg [.v (.bool (decide (u1.num < 0))),lim (toL u1.num.natAbs),lim (toL u1.den),.sl 4 (u2.map Qt.av)]:=gpi;have cm0:=fun(v:Rat) (hv:Sz v (k+k))=>qMul u1 v kpi.1 hv (by omega) (by omega);have cm0:∀v:Rat,Sz v (k+k)→Pure Tryz.prog 78 [.agg [.v (.bool (decide (u1.num < 0))),lim (toL u1.num.natAbs),lim (toL u1.den)],ratQ v] (ratQ (u1*v)):=cm0
   have ct0:=fun(v:List Qt) (ho:okQ v) (hv:v.length≤n)=>rxBoth u2 v hopi.1 ho.1 (by have:=kpi.2;omega) (by omega);have ct0:∀v:List Qt,okQ v→v.length≤n→Pure Tryz.prog 104 [.sl 4 (u2.map Qt.av),qsA v] (qsA (muQ u2 v)):=ct0;clear kpi hopi;generalize toL u1.num.natAbs=un at *;generalize toL u1.den=ud at *;generalize decide (u1.num < 0)=us at *;generalize u2.map Qt.av=UQ at *;(focus (refine wkad (w_6 e0 e1 e5 m45 e6 hpm) w_t w_t ?_;(repeat' first|exact w_t|apply w_l);all_goals intros));refine Zad (ι:=Nat) (λl e M=>l≤q.length∧(e 0=.sl 4 A∧e 1=.sl 4 B)∧e 6=iv i∧e 7=iv l∧∃sv,e 5=.own 45 sv∧M 45=some (.row sv 49 4 ((PR (ci+l)).map qtA) 0)) (λl=>q.length - l) 0 (by rfl) ?_ ?_
   ·clear e5 m45 e0 e1 e6
    rintro l e M ⟨hl2,⟨e0,e1⟩,e6,e7,sv,e5,m45⟩
    have hol:((PR (ci+l)).map qtA).length≤100000000:=by rw [List.length_map];exact htl _
    by_cases hlq:l < q.length
    ·have gql:=gq l hlq;have kql:=kq _ (List.getElem_mem hlq);have hst:=hsti l hlq;have hoql:=hoq _ (List.getElem_mem hlq);clear gq kq hsti hoq htl;generalize q[l]=v at *;obtain⟨v1,v2⟩:=v;simp only at kql hst hoql;have gql:B.getD l .u=.agg [.v (.bool (decide (v1.num < 0))),lim (toL v1.num.natAbs),lim (toL v1.den),.sl 4 (v2.map Qt.av)]:=gql;have cm:=cm0 v1 kql.1;have ct:=ct0 v2 hoql kql.2;have cm:Pure Tryz.prog 78 [.agg [.v (.bool us),lim un,lim ud],.agg [.v (.bool (decide (v1.num < 0))),lim (toL v1.num.natAbs),lim (toL v1.den)]] (.agg [.v (.bool (decide ((u1*v1).num < 0))),lim (toL (u1*v1).num.natAbs),lim (toL (u1*v1).den)]):=cm
     have ct:Pure Tryz.prog 104 [.sl 4 UQ,.sl 4 (v2.map Qt.av)] (.sl 4 ((muQ u2 v2).map Qt.av)):=ct;have hmp:(PR (ci+(l+1))).map qtA=(PR (ci+l)).map qtA++[.agg [.v (.bool (decide ((u1*v1).num < 0))),lim (toL (u1*v1).num.natAbs),lim (toL (u1*v1).den),.sl 4 ((muQ u2 v2).map Qt.av)]]:=by rw [show ci+(l+1)=ci+l+1 from rfl,hst,List.map_append];rfl
     clear cm0 ct0 hst kql;generalize (PR (ci+l)).map qtA=O at *;generalize toL (u1*v1).num.natAbs=wn at *;generalize toL (u1*v1).den=wd at *;generalize decide ((u1*v1).num < 0)=ws at *;generalize (muQ u2 v2).map Qt.av=MQ at *;generalize toL v1.num.natAbs=vn at *;generalize toL v1.den=vd at *;generalize decide (v1.num < 0)=vs at *;generalize v2.map Qt.av=VQ at *;(focus (refine wkad (w_10 e0 e1 e6 e7 e5 m45 hpm hqm gpi gql) (w_2 cm ct) (w_1 (w_d 8 [(11,.agg [.v (.bool ws),lim wn,lim wd]),(22,.sl 4 MQ)] [25,1025] [44,45])) ?_;(repeat' first|exact w_t|apply w_l);all_goals intros));exact⟨l+1,⟨by omega,⟨by exact gW e0,by exact gW e1⟩,by exact gW e6,by exact gS,_,by exact gC,by rw [hmp];exact gC⟩,by omega⟩
    ·have hle:l=q.length:=by omega
     subst hle;rw [←hsucc] at m45;(focus (refine wkad (w_7 e0 e1 e6 e7 e5 m45 hqm) w_t w_t ?_;(repeat' first|exact w_t|apply w_l);all_goals intros));exact⟨i+1,⟨by omega,⟨by exact gW e0,by exact gW e1⟩,by exact gS,sv,by exact gW e5,by exact gW m45⟩,by omega⟩
   ·exact⟨Nat.zero_le _,⟨by exact gW e0,by exact gW e1⟩,by exact gW e6,by exact gC,sv,by exact gW e5,by exact gW m45⟩
  ·have hil:i=p.length:=by omega
   subst hil;have hol:=htl (p.length*q.length);clear hstep gp gq kp kq hop hoq htl ht0;generalize PR (p.length*q.length)=S at *;have hll:(S.map qtA).length≤100000000:=by rw [List.length_map];exact hol
   generalize S.map qtA=O at *;(focus (refine wkax (w_6 e0 e1 e6 e5 m45 hpm) w_t w_t (w_1 cg) w_t w_t (w_r 0) ?_;(repeat' first|exact w_t|apply w_l);all_goals intros));all_goals exact gL
 ·exact⟨Nat.zero_le _,⟨by exact gC,by exact gC⟩,by exact gC,_,by exact gC,by rw [Nat.zero_mul,ht0];exact gC⟩
theorem rxScale (p:QTs) (c:Rat) {j k n:Nat} (hp:QK p j n) (hc:Sz c k) (h0:c≠0) (hl:p.length≤100000000) (hj:j≤400000) (hk:k≤400000):Pure Tryz.prog 60 [qpA p,ratQ c] (qpA (Zc6 c p)):=by
 have hpm:(p.map qtA).length=p.length:=List.length_map ..;have gp:∀i (h:i < p.length),(p.map qtA).getD i .u=qtA p[i]:=λi h=>Za0 qtA h;have cz:=qSign c hc (by omega);have hz:¬c.num.sign=0:=by rw [Zdq];exact h0
 have hstep:∀i (h:i < p.length),(Zc6 c p).take (i+1)=(Zc6 c p).take i++[(p[i].1*c,p[i].2)]:=λi h=>Zjc (by unfold Zc6;rw [List.getElem?_map,List.getElem?_eq_getElem h];rfl);have hfull:Zc6 c p=(Zc6 c p).take p.length:=(List.take_of_length_le (by unfold Zc6;rw [List.length_map];exact Nat.le_refl _)).symm;have ht0:(Zc6 c p).take 0=[]:=List.take_zero;have htl:∀i,((Zc6 c p).take i).length≤100000000:=λi=>by rw [List.length_take];unfold Zc6;rw [List.length_map];omega
 rw [hfull];clear hfull;generalize hPR:(λc'=>(Zc6 c p).take c')=PR at *;have hPR:∀i,(Zc6 c p).take i=PR i:=λi=>by rw [←hPR]
 simp only [hPR] at hstep htl ht0 ⊢;clear hPR;have cm0:=fun(u:Rat) (hu:Sz u j)=>qMul u c hu hc (by omega) (by omega);show Pure _ _ [.sl 4 (p.map qtA),.agg [.v (.bool (decide (c.num < 0))),lim (toL c.num.natAbs),lim (toL c.den)]] (.sl 4 ((PR p.length).map qtA));have cm0:∀u:Rat,Sz u j→Pure Tryz.prog 78 [ratQ u,.agg [.v (.bool (decide (c.num < 0))),lim (toL c.num.natAbs),lim (toL c.den)]] (ratQ (u*c)):=cm0;have cz:Pure Tryz.prog 66 [.agg [.v (.bool (decide (c.num < 0))),lim (toL c.num.natAbs),lim (toL c.den)]] (iv c.num.sign):=cz;clear hc h0;generalize c.num.sign=z at *;generalize toL c.num.natAbs=cn at *
 generalize toL c.den=cd at *;generalize decide (c.num < 0)=cs at *;generalize p.map qtA=A at *;refine Zaa (tok:=0) Tryz.func60 rfl Tryz.ntmps60 Tryz.results60 Tryz.call60 (by rfl) (by simp) ?_;(focus (refine wkad w_t w_t w_t ?_;(repeat' first|exact w_t|apply w_l);all_goals intros));rename_i g3;refine Zej (Frz.nilOwn (d:=5) 33 4 49 (by exact gC)) ?_;refine Zad (ι:=Nat) (λi e M=>i≤p.length∧e 0=.sl 4 A∧e 3=.pbox 3 g3 0∧M 3=some (.box g3 45 [.v (.bool cs),lim cn,lim cd] false)∧e 6=iv i∧∃sv,e 5=.own 33 sv∧M 33=some (.row sv 49 4 ((PR i).map qtA) 0)) (λi=>p.length - i) 0 (by rfl) ?_ ?_
 ·rintro i e M ⟨hi,e0,e3,m3,e6,sv,e5,m33⟩
  have hol:((PR i).map qtA).length≤100000000:=by rw [List.length_map];exact htl _
  by_cases hlt:i < p.length
  ·have gpi:=gp i hlt;have kpi:=hp _ (List.getElem_mem hlt);have hst:=hstep i hlt;clear gp hp hstep htl ht0;generalize p[i]=u at *;obtain⟨u1,u2⟩:=u;simp only at kpi hst;have gpi:A.getD i .u=.agg [.v (.bool (decide (u1.num < 0))),lim (toL u1.num.natAbs),lim (toL u1.den),.sl 4 (u2.map Qt.av)]:=gpi;have cm:=cm0 u1 kpi.1;have cm:Pure Tryz.prog 78 [.agg [.v (.bool (decide (u1.num < 0))),lim (toL u1.num.natAbs),lim (toL u1.den)],.agg [.v (.bool cs),lim cn,lim cd]] (.agg [.v (.bool (decide ((u1*c).num < 0))),lim (toL (u1*c).num.natAbs),lim (toL (u1*c).den)]):=cm;have hmp:(PR (i+1)).map qtA=(PR i).map qtA++[.agg [.v (.bool (decide ((u1*c).num < 0))),lim (toL (u1*c).num.natAbs),lim (toL (u1*c).den),.sl 4 (u2.map Qt.av)]]:=by rw [hst,List.map_append];rfl
   clear cm0 hst kpi;generalize (PR i).map qtA=O at *;generalize toL (u1*c).num.natAbs=wn at *;generalize toL (u1*c).den=wd at *;generalize decide ((u1*c).num < 0)=ws at *;generalize toL u1.num.natAbs=un at *;generalize toL u1.den=ud at *;generalize decide (u1.num < 0)=us at *;generalize u2.map Qt.av=UQ at *;(focus (refine wkad (w_9 e0 e3 m3 e6 e5 m33 hpm gpi hz) (w_2 cz cm) (w_1 (w_d 5 [(7,.agg [.v (.bool ws),lim wn,lim wd])] [15,1015] [32,33])) ?_;(repeat' first|exact w_t|apply w_l);all_goals intros));exact⟨i+1,⟨by omega,by exact gW e0,by exact gW e3,by exact gW m3,by exact gS,_,by exact gC,by rw [hmp];exact gC⟩,by omega⟩
  ·have hil:i=p.length:=by omega
   subst hil;clear hstep gp hp htl ht0 cm0;have hlt':¬(p.length:Int) < (p.length:Int):=by omega
   generalize (PR p.length).map qtA=O at *;(focus (refine wkad (w_8 e0 e3 m3 e6 e5 m33 hpm hlt') w_t w_t ?_;(repeat' first|exact w_t|apply w_l);all_goals intros));all_goals (all_goals (try simp (disch:=omega) only [go_sem,m33,hol,decide_eq_true,decide_eq_false,if_pos,if_neg,Int.reduceAdd,Int.reduceSub,Int.reduceToNat,Int.zero_add]));(all_goals first|done|rfl|(congr 2;first|done|omega|(rw [Bool.eq_iff_iff];simp only [bool_to_prop,Bool.false_eq_true,iff_true,true_iff,iff_false,false_iff];omega))|skip)
   all_goals exact⟨⟨rfl,rfl⟩,rfl⟩
 ·exact⟨Nat.zero_le _,by exact gC,by exact gC,by exact gC,by exact gC,_,by exact gC,by rw [ht0];exact gC⟩
attribute [local go_sem] Tryz.underlying130
theorem rxPlus (p q:QTs) {j k n:Nat} (hp:QK p j n) (hq:QK q k n) (lp:p.length≤100000000) (lq:q.length≤100000000) (hj:j≤900000) (hk:k≤900000) (hn:n≤1000000):Pure Tryz.prog 43 [qpA p,qpA q] (qpA (Zb4 p q)):=by
 have c:=rxJoin p q hp hq lp lq (by omega) (by omega) hn;show Pure _ _ [.sl 4 (p.map qtA),.sl 4 (q.map qtA)] (.sl 4 ((Zb4 p q).map qtA));have c:Pure _ _ [.sl 4 (p.map qtA),.sl 4 (q.map qtA)] (.sl 4 ((Zb4 p q).map qtA)):=c;generalize (Zb4 p q).map qtA=R at *;generalize p.map qtA=A at *;generalize q.map qtA=B at *;refine Zaa (tok:=0) Tryz.func43 rfl Tryz.ntmps43 Tryz.results43 Tryz.call43 (by rfl) (by simp) ?_;(focus (refine wkad w_t (w_1 c) w_t ?_;(repeat' first|exact w_t|apply w_l);all_goals intros));all_goals exact gL
def hasQ (x:Int) (q:Qt):Bool:=q.pts.any λt=>decide (x=t)
def hasP (x:Int) (p:List Qt):Bool:=p.any (hasQ x)
def hasT (x:Int) (p:QTs):Bool:=p.any λt=>hasP x t.2
section
attribute [local go_sem] Tryz.underlying3 Tryz.underlying4 Tryz.underlying169 Tryz.underlying41 Tryz.underlying43 Tryz.underlying45 Tryz.underlying25 Tryz.underlying47 Tryz.underlying49 Tryz.underlying22 Tryz.underlying23 sz3 by3 z3 szB zB Zbd zRat Zbf zInt Zbe zNat Zaj Zaw Zak Bool.and_self Zan Zbs zSlQ szQT byQT zQT Zby zSlT szQP zQP Tryz.underlying92 Tryz.underlying27 szFr byFr zFr Zfu Zfx zSQP Tryz.underlying36 Tryz.underlying33 Tryz.underlying9 Zcr zStr Tryz.underlying130
end
section
attribute [local go_sem] Tryz.underlying3 Tryz.underlying4 Tryz.underlying169 Tryz.underlying41 Tryz.underlying43 Tryz.underlying45 Tryz.underlying25 Tryz.underlying47 Tryz.underlying49 Tryz.underlying22 Tryz.underlying23 sz3 by3 z3 szB zB Zbd zRat Zbf zInt Zbe zNat Zaj Zaw Zak Bool.and_self Zan Zbs zSlQ szQT byQT zQT Zby zSlT szQP zQP Tryz.underlying92 Tryz.underlying27 szFr byFr zFr Zfu Zfx zSQP Tryz.underlying36 Tryz.underlying33 Tryz.underlying9 Zcr zStr Tryz.underlying130
end
end Go.Proofs.YtjekhacnoopdpaaGreatDoor
namespace Go.Proofs.YtjekhacnoopdpaaGreatDoor
open Go Go.RowKit Go.Pg Go.Pol
theorem adj_pair {α:Type} {R:α→α→Prop} (tr:∀a b c,R a b→R b c→R a c):∀{l:List α},(∀i (h:i+1 < l.length),R l[i] l[i+1])→l.Pairwise R
 | [],_=>.nil
 | [a],_=>List.pairwise_singleton _ _
 | a :: b :: l,h=>by
   have h0:R a b:=h 0 (by simp);have ht:(b :: l).Pairwise R:=adj_pair tr λi hi=>h (i+1) (by simpa using hi);refine List.pairwise_cons.2 ⟨λc hc=>?_,ht⟩;rcases List.mem_cons.1 hc with rfl | hc
   ·exact h0
   ·exact tr _ _ _ h0 ((List.pairwise_cons.1 ht).1 c hc)
theorem cmp_tr {α:Type} {cmp:α→α→Int} (o:CO cmp) (a b c:α) (h1:cmp a b≤0) (h2:cmp b c≤0):cmp a c≤0:=by
 rcases Int.lt_or_eq_of_le h1 with h | h
 ·rcases Int.lt_or_eq_of_le h2 with k | k
  ·have:=o.tr _ _ _ h k;omega
  ·rw [←o.eqz _ _ k];exact h1
 ·rw [o.eqz _ _ h];exact h2
theorem prod_ok {q:List Qt} (h:prodB q=true):okQ q:=by
 have hall:=λi (hi:i < q.length)=>List.all_eq_true.1 h i (List.mem_range.2 hi);refine⟨adj_pair (cmp_tr qtO) λi hi=>?_,λx hx=>?_⟩
 ·have:=hall (i+1) hi;unfold qOkAt at this;simp only [Bool.and_eq_true,Bool.or_eq_true,decide_eq_true_eq,Nat.add_sub_cancel] at this;rcases this.2 with h1 | h1
  ·omega
  ·rwa [Zcz (by omega),Zcz hi] at h1
 ·obtain⟨i,hi,rfl⟩:=List.getElem_of_mem hx;have:=hall i hi;unfold qOkAt at this;simp only [Bool.and_eq_true,decide_eq_true_eq] at this;have:=this.1
  rwa [Zcz hi] at this
theorem rgt_ex {l:List RE} (h:rgtB l=true):EX (l.map RE.rt):=by
 have hall:=λi (hi:i < l.length)=>List.all_eq_true.1 h i (List.mem_range.2 hi);refine⟨λt ht=>?_,List.pairwise_map.2 (adj_pair (R:=λa b:RE=>ordQ a.q b.q < 0) (λa b c h1 h2=>Zcc.tr _ _ _ h1 h2) λi hi=>?_)⟩
 ·obtain⟨u,hu,rfl⟩:=List.mem_map.1 ht;obtain⟨i,hi,rfl⟩:=List.getElem_of_mem hu;have:=hall i hi;unfold tOkAt at this;simp only [Bool.and_eq_true,Bool.not_eq_true',decide_eq_false_iff_not] at this;rw [Zcz hi] at this;exact⟨this.2.1,prod_ok this.2.2.1⟩
 ·have:=hall (i+1) hi;unfold tOkAt at this;simp only [Bool.and_eq_true,Bool.or_eq_true,decide_eq_true_eq,Nat.add_sub_cancel] at this;rcases this.2.2.2 with h1 | h1
  ·omega
  ·rwa [Zcz (by omega),Zcz hi] at h1
theorem den_prod:∀(l:QTs),(∀t∈l,(toL t.1.den).length≤2)→∃D,D≠0∧D < 65536 ^ (2*l.length+1)∧∀t∈l,t.1.den ∣ D
 | [],_=>⟨1,by omega,by decide,λt ht=>by cases ht⟩
 | a :: l,h=>by
   obtain⟨D,h0,h1,h2⟩:=den_prod l λt ht=>h t (.tail _ ht);have h3:=Zag.1 (h a (.head _));refine⟨a.1.den*D,Nat.mul_ne_zero a.1.den_nz h0,?_,λt ht=>?_⟩
   ·have h4:=Nat.mul_lt_mul_of_lt_of_lt h3 h1;rw [←Nat.pow_add] at h4;rw [List.length_cons,show 2*(l.length+1)+1=2+(2*l.length+1) from by omega];exact h4
   ·rcases List.mem_cons.1 ht with rfl | ht
    ·exact Nat.dvd_mul_right _ _
    ·exact Nat.dvd_trans (h2 t ht) (Nat.dvd_mul_left _ _)
theorem cl_small {a:Rat} (h:(toL a.num.natAbs).length≤2):cl a≤65536 ^ 2:=by
 have h3:=Zag.1 h;refine cl_le.2 (Nat.le_trans (Nat.le_of_lt h3) (Nat.le_mul_of_pos_right _ (Nat.pos_of_ne_zero a.den_nz)))
theorem n1_small:∀(l:QTs),(∀t∈l,(toL t.1.num.natAbs).length≤2)→n1 l≤l.length*65536 ^ 2
 | [],_=>by simp [n1]
 | a :: l,h=>by
   rw [Zbk,List.length_cons,Nat.add_one_mul];have:=n1_small l λt ht=>h t (.tail _ ht);have:=cl_small (h a (.head _));omega
theorem small_xb {T Q k:Nat} {l:List RE} (hr:∀t∈l,t.r.lm k) (h:smallB T Q l=true) (hT:T≤8):XB (l.map RE.rt) 17 Q∧(l.map RE.rt).length≤T:=by
 unfold smallB at h;simp only [Bool.and_eq_true,decide_eq_true_eq] at h;have hq:=rt_qk hr h.2.1;have hl:(l.map RE.rt).length=l.length:=List.length_map ..;obtain⟨D,h0,h1,h2⟩:=den_prod (l.map RE.rt) λt ht=>(hq t ht).1.2;have h3:=n1_small (l.map RE.rt) λt ht=>(hq t ht).1.1;refine⟨⟨rgt_ex h.2.2,λt ht=>(hq t ht).2,D,n1 (l.map RE.rt),h0,Nat.lt_of_lt_of_le h1 (Nat.pow_le_pow_right (by omega) (by omega)),?_,h2,Nat.le_refl _⟩,by omega⟩;have h4:(l.map RE.rt).length*65536 ^ 2≤8*65536 ^ 2:=Nat.mul_le_mul_right _ (by omega);have h5:65536 ^ 3≤65536 ^ 17:=Nat.pow_le_pow_right (by omega) (by omega);have h6:8*65536 ^ 2 < 65536 ^ 3:=by decide
 omega
end Go.Proofs.YtjekhacnoopdpaaGreatDoor
namespace Go.Proofs.YtjekhacnoopdpaaGreatDoor
open Go Go.RowKit Go.Pg Go.Pol
attribute [-bool_to_prop] Bool.and_eq_decide Bool.or_eq_decide Bool.decide_beq_decide decide_eq_decide
attribute [local go_sem] Tryz.underlying3 Tryz.underlying4 Tryz.underlying169 Tryz.underlying41 Tryz.underlying43 Tryz.underlying45 Tryz.underlying25 Tryz.underlying47 Tryz.underlying49 Tryz.underlying22 Tryz.underlying23 sz3 by3 z3 szB zB Zbd zRat Zbf zInt Zbe zNat Zaj Zaw Zak Bool.and_self Zan Zbs zSlQ szQT byQT zQT Zby zSlT szQP zQP Tryz.underlying92 Tryz.underlying27 szFr byFr zFr Zfu Zfx zSQP Tryz.underlying36 Tryz.underlying33 Tryz.underlying9 Zcr zStr Tryz.underlying110 Tryz.underlying55 Tryz.underlying56
theorem XB.neg {q:QTs} {k n:Nat} (h:XB q k n):XB (sclT (-1) q) k n:=by
 obtain⟨a,b,D,B,c,d,e,f⟩:=h;refine⟨⟨λt ht=>?_,List.pairwise_map.2 a.2⟩,λt ht=>?_,D,B,c,d,e,λt ht=>?_,?_⟩
 ·obtain⟨u,hu,rfl⟩:=List.mem_map.1 ht;refine⟨λh=>(a.1 u hu).1 ?_,(a.1 u hu).2⟩;have h:(-1:Rat)*u.1=0:=h;rw [Rat.neg_mul,Rat.one_mul] at h;have:=congrArg (λz:Rat=>-z) h
  simpa using this
 ·obtain⟨u,hu,rfl⟩:=List.mem_map.1 ht;exact b u hu
 ·obtain⟨u,hu,rfl⟩:=List.mem_map.1 ht;have:=f.1 u hu;show((-1:Rat)*u.1).den ∣ D;have e1:((-1:Rat)*u.1)=-u.1:=by rw [Rat.neg_mul,Rat.one_mul]
  rw [e1];exact this
 ·refine Nat.le_trans (Nat.le_of_eq ?_) f.2;unfold n1 sclT;rw [List.map_map];congr 1;refine List.map_congr_left λu _=>?_;show cl ((-1:Rat)*u.1)=cl u.1;have e1:((-1:Rat)*u.1)=-u.1:=by rw [Rat.neg_mul,Rat.one_mul]
  rw [e1];unfold cl;rw [show(-u.1).num=-u.1.num from rfl,show(-u.1).den=u.1.den from rfl,Int.natAbs_neg]
def reP (p:QTs):List RE:=p.map λt=>⟨rawQ t.1,t.2⟩
theorem reP_av (p:QTs):(reP p).map RE.av=p.map qtA:=by unfold reP;rw [List.map_map];rfl
theorem sgP_ok {l:List Qt} (h:∀q∈l,q.norm=(q,1)):sgP l=1:=by
 have key:∀(l:List Qt) (s:Int),(∀q∈l,q.norm=(q,1))→l.foldl (λs q=>s*q.norm.2) s=s:=by
  intro l
  induction l with
  | nil=>intro s _;rfl
  | cons a l ih=>intro s h;rw [List.foldl_cons,h a (.head _),Int.mul_one];exact ih s λq hq=>h q (.tail _ hq)
 exact key l 1 h
theorem nsP_ok:∀{l:List Qt},(∀q∈l,q.norm=(q,1))→nsP l=l
 | [],_=>rfl
 | a :: l,h=>by
   show a.norm.1 :: nsP l=a :: l;rw [h a (.head _),nsP_ok λq hq=>h q (.tail _ hq)]
theorem putP_ok {l:List Qt} (h:okQ l):putP l=l:=by
 rw [←Zub (by rw [sgP_ok h.2];decide),nsP_ok h.2];exact Zhh qtO (Zc3 qtO.cp _) h.1 (Zbt _)
theorem reP_ok {p:QTs} (h:∀t∈p,okQ t.2):(reP p).all RE.ok=true:=by
 rw [List.all_eq_true];intro t ht;obtain⟨u,hu,rfl⟩:=List.mem_map.1 ht;show((rawQ u.1).ok && u.2.all Qt.ok)=true;rw [Zh8,Bool.true_and,List.all_eq_true];exact λq hq=>Zvy ((h u hu).2 q hq)
theorem reP_t:∀{p:QTs},(∀t∈p,okQ t.2)→(reP p).map RE.t=p
 | [],_=>rfl
 | u :: p,h=>by
   show RE.t ⟨rawQ u.1,u.2⟩ :: (reP p).map RE.t=u :: p;rw [reP_t λt ht=>h t (.tail _ ht)];show((rawQ u.1).q*(sgP u.2:Rat),putP u.2) :: p=u :: p;rw [Zq4,sgP_ok (h u (.head _)).2,putP_ok (h u (.head _)),show((1:Int):Rat)=1 from rfl,Rat.mul_one]
theorem nrm_re {p:QTs} (h:∀t∈p,okQ t.2):nrmR (reP p)=qpA (gatM p):=by rw [Zks (reP_ok h),reP_t h]
theorem reP_lm {p:QTs} {j n:Nat} (h:QK p j n):(∀t∈reP p,t.r.lm j)∧∀t∈reP p,t.q.length≤n:=by
 refine⟨λt ht=>?_,λt ht=>?_⟩<;>obtain⟨u,hu,rfl⟩:=List.mem_map.1 ht
 ·exact Zhe (h u hu).1
 ·exact(h u hu).2
theorem evl_scl (φ:List Qt→Rat) (s:Rat):∀p:QTs,evl φ (sclT s p)=s*evl φ p
 | []=>by show(0:Rat)=s*0;rw [Rat.mul_zero]
 | t :: p=>by
   show s*t.1*φ t.2+evl φ (sclT s p)=s*(t.1*φ t.2+evl φ p);rw [evl_scl φ s p];grind
theorem EX.neg {p:QTs} (h:EX p):EX (sclT (-1) p):=by
 refine⟨λt ht=>?_,List.pairwise_map.2 h.2⟩;obtain⟨u,hu,rfl⟩:=List.mem_map.1 ht;refine⟨λh0=>(h.1 u hu).1 ?_,(h.1 u hu).2⟩;have h0:(-1:Rat)*u.1=0:=h0
 grind
theorem exNrm (p:QTs) {j n:Nat} (h:QK p j n) (ho:∀t∈p,okQ t.2) (hl:p.length≤12) (hn:n≤12) (hj:j≤1000):Pure Tryz.prog 22 [qpA p] (qpA (gatM p)):=by
 have c:=Zk4 (reP p) (by show(List.map _ _).length≤_;rw [List.length_map];exact hl) (reP_lm h).1 (λt ht=>Nat.le_trans ((reP_lm h).2 t ht) hn) hj
 rwa [reP_av,nrm_re ho] at c
theorem small_av {T Q k:Nat} {l:List RE} (hr:∀t∈l,t.r.lm k) (h:smallB T Q l=true):l.map RE.av=(l.map RE.rt).map qtA:=by
 unfold smallB at h;simp only [Bool.and_eq_true,decide_eq_true_eq] at h;exact rt_av hr h.2.1
end Go.Proofs.YtjekhacnoopdpaaGreatDoor
namespace Go.Proofs.YtjekhacnoopdpaaGreatDoor
open Go Go.RowKit Go.Pg Go.Pol
def tmQ (q:Qt) (l:List Qt):Nat:=(l.filter λx=>decide (x=q)).length
def woQ (q:Qt) (l:List Qt):List Qt:=l.filter λx=>decide (x≠q)
def woL (q:Qt) (a:QTs) (k:Nat):QTs:=(a.filter λt=>decide (tmQ q t.2=k)).map λt=>(t.1,woQ q t.2)
def moQ (q:Qt) (a:QTs):Nat:=a.foldl (λn t=>max n (tmQ q t.2)) 0
theorem tm_wo (q:Qt):∀l:List Qt,tmQ q l+(woQ q l).length=l.length
 | []=>rfl
 | a :: l=>by
   have ih:=tm_wo q l;unfold tmQ woQ at *;by_cases h:a=q
   ·rw [List.filter_cons_of_pos (by simpa using h),List.filter_cons_of_neg (by simpa using h),List.length_cons,List.length_cons];omega
   ·rw [List.filter_cons_of_neg (by simpa using h),List.filter_cons_of_pos (by simpa using h),List.length_cons,List.length_cons];omega
theorem tm_le (q:Qt) (l:List Qt):tmQ q l≤l.length:=by have:=tm_wo q l;omega
theorem mo_snoc (q:Qt) (a:QTs) (t:Rat × List Qt):moQ q (a++[t])=max (moQ q a) (tmQ q t.2):=by unfold moQ;rw [List.foldl_append];rfl
theorem mo_le {q:Qt} {n:Nat} {a:QTs} (h:∀t∈a,t.2.length≤n):moQ q a≤n:=by
 have key:∀(a:QTs) (s:Nat),s≤n→(∀t∈a,t.2.length≤n)→a.foldl (λn t=>max n (tmQ q t.2)) s≤n:=by
  intro a
  induction a with
  | nil=>exact λs hs _=>hs
  | cons t a ih=>exact λs hs h=>ih _ (by show max s (tmQ q t.2)≤n;have:=tm_le q t.2;have:=h t (.head _);omega) λu hu=>h u (.tail _ hu)
 exact key a 0 (Nat.zero_le _) h
theorem wo_snoc (q:Qt) (a:QTs) (t:Rat × List Qt) (k:Nat):woL q (a++[t]) k=if tmQ q t.2=k then woL q a k++[(t.1,woQ q t.2)] else woL q a k:=by
 unfold woL;rw [List.filter_append,List.map_append];split
 ·rename_i h;rw [List.filter_cons_of_pos (by simpa using h)];rfl
 ·rename_i h;rw [List.filter_cons_of_neg (by simpa using h)];simp
theorem wo_above {q:Qt}:∀{a:QTs} {k:Nat},moQ q a < k→woL q a k=[]:=by
 intro a k h
 have key:∀(a:QTs) (s:Nat),a.foldl (λn t=>max n (tmQ q t.2)) s < k→s < k∧a.filter (λt=>decide (tmQ q t.2=k))=[]:=by
  intro a
  induction a with
  | nil=>exact λs hs=>⟨hs,rfl⟩
  | cons t a ih =>
    intro s hs;obtain⟨h1,h2⟩:=ih _ hs;have h1:max s (tmQ q t.2) < k:=h1;refine⟨by omega,?_⟩;rw [List.filter_cons_of_neg (by simp;omega)];exact h2
 unfold woL;rw [(key a 0 h).2];rfl
theorem wo_len (q:Qt) (a:QTs) (k:Nat):(woL q a k).length≤a.length:=by unfold woL;rw [List.length_map];exact List.length_filter_le _ _
theorem okQ.wo {l:List Qt} (h:okQ l) (q:Qt):okQ (woQ q l):=⟨h.1.filter _,λx hx=>h.2 x (List.mem_filter.1 hx).1⟩
theorem mem_wo {q:Qt} {a:QTs} {k:Nat} {u:Rat × List Qt} (h:u∈woL q a k):∃t∈a,u=(t.1,woQ q t.2):=by
 obtain⟨t,ht,rfl⟩:=List.mem_map.1 h;exact⟨t,(List.mem_filter.1 ht).1,rfl⟩
theorem wo_dom {a:QTs} (h:∀t∈a,okQ t.2) (q:Qt) (k:Nat):∀t∈woL q a k,okQ t.2:=λu hu=>by
 obtain⟨t,ht,rfl⟩:=mem_wo hu;exact(h t ht).wo q
theorem wo_qlen {a:QTs} {n:Nat} (h:∀t∈a,t.2.length≤n) (q:Qt) (k:Nat):∀t∈woL q a k,t.2.length≤n:=λu hu=>by
 obtain⟨t,ht,rfl⟩:=mem_wo hu;exact Nat.le_trans (by have:=tm_wo q t.2;show(woQ q t.2).length≤_;omega) (h t ht)
theorem wo_qk {a:QTs} {j n:Nat} (h:QK a j n) (q:Qt) (k:Nat):QK (woL q a k) j n:=λu hu=>by
 refine⟨?_,wo_qlen (λt ht=>(h t ht).2) q k u hu⟩;obtain⟨t,ht,rfl⟩:=mem_wo hu;exact(h t ht).1
theorem n1_wo (q:Qt) (k:Nat):∀a:QTs,n1 (woL q a k)≤n1 a
 | []=>Nat.le_refl _
 | t :: a=>by
   have ih:=n1_wo q k a;unfold woL at *;by_cases h:tmQ q t.2=k
   ·rw [List.filter_cons_of_pos (by simpa using h),List.map_cons,Zbk,Zbk];exact Nat.add_le_add_left ih _
   ·rw [List.filter_cons_of_neg (by simpa using h),Zbk];omega
abbrev paQ (q:Qt) (a:QTs) (k:Nat):QTs:=gatM (woL q a k)
theorem XB.part {a:QTs} {k n:Nat} (h:XB a k n) (q:Qt) (i:Nat):XB (paQ q a i) k n:=by
 obtain⟨a1,b,D,B,c,d,e,f⟩:=h;refine⟨Zhm Zcc (wo_dom a1.dom q i),Zmf (wo_qlen b q i),D,B,c,d,e,NB.sumG ⟨λt ht=>?_,Nat.le_trans (n1_wo q i a) f.2⟩⟩;obtain⟨u,hu,rfl⟩:=mem_wo ht;exact f.1 u hu
theorem gat_len (l:QTs):(gatM l).length≤l.length:=by
 obtain⟨j,hj⟩:∃j,QK l j ((l.map λt=>t.2.length).sum):=by
  induction l with
  | nil=>exact⟨0,λt ht=>by cases ht⟩
  | cons a l ih =>
    obtain⟨j,hj⟩:=ih;refine⟨max j (max (toL a.1.num.natAbs).length (toL a.1.den).length),λt ht=>?_⟩;rw [List.map_cons,List.sum_cons];rcases List.mem_cons.1 ht with rfl | ht
    ·exact⟨⟨by omega,by omega⟩,by omega⟩
    ·exact⟨(hj t ht).1.mono (by omega),by have:=(hj t ht).2;omega⟩
 exact(Zk2 _ l rfl hj).2
theorem pa_len (q:Qt) (a:QTs) (k:Nat):(paQ q a k).length≤a.length:=Nat.le_trans (gat_len _) (wo_len q a k)
abbrev pwX (d:QTs) (i:Nat):QTs:=pwG ordQ muQ [] d i
abbrev hnX (P:Nat→QTs) (a d:QTs) (m i:Nat):QTs:=hnG ordQ muQ [] P a d m i
abbrev rfX (P:Nat→QTs) (a d:QTs) (m i:Nat):QTs:=rfG ordQ muQ [] P a d m i
theorem xb_one:XB [((1:Rat),[])] 1 0:=xbC _ _ (by decide +kernel)
theorem xb_nil:XB [] 1 0:=xbC _ _ (by decide +kernel)
theorem XB.pw {d:QTs} {k n:Nat} (h:XB d k n):∀i,XB (pwX d i) (1+i*k) (i*n)
 | 0=>by rw [Nat.zero_mul,Nat.zero_mul];exact xb_one
 | i+1=>(XB.mul (h.pw i) h).mono (by rw [Nat.succ_mul];omega) (by rw [Nat.succ_mul];omega)
theorem pw_len {d:QTs} {L:Nat} (h:d.length≤L):∀i,(pwX d i).length≤L ^ i
 | 0=>Nat.le_refl _
 | i+1=>Nat.le_trans (Zfm _ _) (by rw [Nat.pow_succ];exact Nat.mul_le_mul (pw_len h i) h)
section
variable {P:Nat→QTs} {a d:QTs} {kp kb np nb LP L:Nat}
theorem XB.hn (hP:∀k,XB (P k) kp np) (ha:XB a kb nb) (hd:XB d kb nb) (m:Nat):∀i,XB (hnX P a d m i) (1+i*(kp+kb+2+i*kb)) (np+i*nb)
 | 0=>xb_nil.mono (by omega) (Nat.zero_le _)
 | i+1=>by
   have h1:=((XB.hn hP ha hd m i).mul ha).add ((hP (m - i)).mul (hd.pw i));refine XB.mono h1 ?_ ?_
   ·have e:(i+1)*(kp+kb+2+(i+1)*kb)=i*(kp+kb+2+i*kb)+i*kb+(kp+kb+2+(i*kb+kb)):=by grind
    rw [e];omega
   ·rw [Nat.succ_mul];exact Nat.max_le.2 ⟨by omega,by omega⟩
theorem hn_len (hP:∀k,(P k).length≤LP) (ha:a.length≤L) (hd:d.length≤L) (hL:1≤L) (m:Nat):∀i,(hnX P a d m i).length≤i*LP*L ^ i
 | 0=>Nat.zero_le _
 | i+1=>by
   refine Nat.le_trans (Zmt _ _) ?_;have h1:=Nat.le_trans (Zfm (hnX P a d m i) a) (Nat.mul_le_mul (hn_len hP ha hd hL m i) ha);have h2:=Nat.le_trans (Zfm (P (m - i)) (pwX d i)) (Nat.mul_le_mul (hP _) (pw_len hd i));have h3:LP*L ^ i≤LP*L ^ i*L:=Nat.le_mul_of_pos_right _ hL;refine Nat.le_trans (Nat.add_le_add h1 h2) ?_;have e:(i+1)*LP*L ^ (i+1)=i*LP*L ^ i*L+LP*L ^ i*L:=by rw [Nat.pow_succ];grind
   rw [e];omega
theorem XB.rf (hP:∀k,XB (P k) kp np) (ha:XB a kb nb) (hd:XB d kb nb) (m:Nat):∀i,i≤m+1→XB (rfX P a d m i) (1+i*(kp+3+m*kb)) (np+m*nb)
 | 0,_=>xb_nil.mono (by omega) (Nat.zero_le _)
 | i+1,hi=>by
   have h1:=(XB.rf hP ha hd m i (by omega)).add (((hP i).mul (ha.pw i)).mul (hd.pw (m - i)));have e1:i*kb+(m - i)*kb=m*kb:=by rw [←Nat.add_mul];congr 1;omega
   have e2:i*nb+(m - i)*nb=m*nb:=by rw [←Nat.add_mul];congr 1;omega
   refine XB.mono h1 ?_ ?_
   ·rw [Nat.succ_mul];omega
   ·exact Nat.max_le.2 ⟨by omega,by omega⟩
theorem rf_len (hP:∀k,(P k).length≤LP) (ha:a.length≤L) (hd:d.length≤L) (m:Nat):∀i,i≤m+1→(rfX P a d m i).length≤i*(LP*L ^ m)
 | 0,_=>Nat.zero_le _
 | i+1,hi=>by
   refine Nat.le_trans (Zmt _ _) ?_;have h1:=rf_len hP ha hd m i (by omega);have h2:=Nat.le_trans (Zfm (P i) (pwX a i)) (Nat.mul_le_mul (hP _) (pw_len ha i));have h3:=Nat.le_trans (Zfm (mulX (P i) (pwX a i)) (pwX d (m - i))) (Nat.mul_le_mul h2 (pw_len hd (m - i)));have e:LP*L ^ i*L ^ (m - i)=LP*L ^ m:=by rw [Nat.mul_assoc,←Nat.pow_add];congr 2;omega
   rw [e] at h3;rw [Nat.succ_mul];exact Nat.add_le_add h1 h3
end
abbrev rpN (q:Qt) (a num den:QTs):QTs:=rfX (paQ q a) num den (moQ q a) (moQ q a+1)
abbrev rpD (q:Qt) (a den:QTs):QTs:=pwX den (moQ q a)
theorem rp_horner (q:Qt) {a num den:QTs} (ha:EX a) (hn:EX num) (hd:EX den):hnX (paQ q a) num den (moQ q a) (moQ q a+1)=rpN q a num den :=
 horner rgQ (λk=>Zhm Zcc (wo_dom ha.dom q k)) hn hd _
theorem scl_one (p:QTs):sclT 1 p=p:=Zqu p
theorem mul_neg {p:QTs} (h:EX p):mulX [((-1:Rat),[])] p=sclT (-1) p :=
 Zie (D:=okQ) Zcc (Zbl rgQ ⟨λt ht=>by rw [List.mem_singleton.1 ht];exact⟨by decide +kernel,rgQ.de⟩,List.pairwise_singleton _ _⟩ h) h.neg λφ=>by
  rw [Zge Zcc,evl_scl];show(-1:Rat)*evl (λk=>φ (muQ [] k)) p+0=_;rw [Rat.add_zero];congr 1
  have key:∀p:QTs,(∀t∈p,okQ t.2)→evl (λk=>φ (muQ [] k)) p=evl φ p:=by
   intro p
   induction p with
   | nil=>intro _;rfl
   | cons t p ih =>
     intro h;show t.1*φ (muQ [] t.2)+_=t.1*φ t.2+_;rw [ih λu hu=>h u (.tail _ hu),rgQ.comm,rgQ.one _ (h t (.head _))]
  exact key p h.dom
end Go.Proofs.YtjekhacnoopdpaaGreatDoor
namespace Go.Proofs.YtjekhacnoopdpaaGreatDoor
open Go Go.RowKit Go.Pg Go.Pol
attribute [-bool_to_prop] Bool.and_eq_decide Bool.or_eq_decide Bool.decide_beq_decide decide_eq_decide
attribute [local go_sem] Tryz.underlying3 Tryz.underlying4 Tryz.underlying169 Tryz.underlying41 Tryz.underlying43 Tryz.underlying45 Tryz.underlying25 Tryz.underlying47 Tryz.underlying49 Tryz.underlying22 Tryz.underlying23 sz3 by3 z3 szB zB Zbd zRat Zbf zInt Zbe zNat Zaj Zaw Zak Bool.and_self Zan Zbs zSlQ szQT byQT zQT Zby zSlT szQP zQP Tryz.underlying92 Tryz.underlying27 szFr byFr zFr Zfu Zfx zSQP
theorem tm_snoc (q:Qt) (l:List Qt) (x:Qt):tmQ q (l++[x])=if x=q then tmQ q l+1 else tmQ q l:=by
 unfold tmQ;rw [List.filter_append,List.length_append];split
 ·rename_i h;rw [List.filter_cons_of_pos (by simpa using h)];rfl
 ·rename_i h;rw [List.filter_cons_of_neg (by simpa using h)];rfl
theorem woQ_y {q x:Qt} (l:List Qt) (h:x≠q):woQ q (l++[x])=woQ q l++[x]:=by unfold woQ;rw [List.filter_append,List.filter_cons_of_pos (by simpa using h)];rfl
theorem woQ_n {q x:Qt} (l:List Qt) (h:x=q):woQ q (l++[x])=woQ q l:=by unfold woQ;rw [List.filter_append,List.filter_cons_of_neg (by simpa using h)];simp
theorem cst_ok (a:Rat):nrmR (cstE a)=qpA (if a=0 then [] else [(a,[])]):=by
 have h:=nrm_re (p:=[(a,[])]) (λt ht=>by rw [List.mem_singleton.1 ht];exact rgQ.de)
 rwa [Zid] at h
theorem cst_one:nrmR (cstE 1)=qpA [((1:Rat),[])]:=by rw [cst_ok,if_neg (by decide +kernel)]
theorem rxTimes (l:List Qt) (q:Qt) (hl:l.length≤1000000):Pure Tryz.prog 131 [qsA l,q.av] (iv (tmQ q l)):=by
 have hlm:(l.map Qt.av).length=l.length:=List.length_map ..;have hg:∀k (h:k < l.length),(l.map Qt.av).getD k .u=Qt.av l[k]:=λk h=>Za0 Qt.av h;have hts:∀k (h:k < l.length),tmQ q (l.take (k+1))=if l[k]=q then tmQ q (l.take k)+1 else tmQ q (l.take k):=λk h=>by rw [List.take_succ_eq_append_getElem h,tm_snoc]
 have hb:∀k,tmQ q (l.take k)≤1000000:=λk=>by have:=tm_le q (l.take k);rw [List.length_take] at this;omega
 have hf:l.take l.length=l:=List.take_length;obtain⟨q1,q2,q3,q4⟩:=q;show Pure _ _ [.sl 4 (l.map Qt.av),.agg [iv q1,iv q2,iv q3,iv q4]] _;generalize l.map Qt.av=A at *;refine Zaa (tok:=0) Tryz.func131 rfl Tryz.ntmps131 Tryz.results131 Tryz.call131 (by rfl) (by simp) ?_;(focus (refine wkad w_t w_t w_t ?_;(repeat' first|exact w_t|apply w_l);all_goals intros));rename_i g3;refine Zad (ι:=Nat) (λk e m=>k≤l.length∧e 0=.sl 4 A∧(e 3=.pbox 3 g3 0∧m 3=some (.box g3 25 [iv q1,iv q2,iv q3,iv q4] false))∧e 5=iv (tmQ ⟨q1,q2,q3,q4⟩ (l.take k))∧e 6=iv k) (λk=>l.length - k) 0 (by rfl) ?_ ?_
 ·rintro k e m ⟨hk,e0,⟨e3,m3⟩,e5,e6⟩
  by_cases hlt:k < l.length
  ·have hgk:=hg k hlt;have htk:=hts k hlt;have hbk:=hb k;have c:=Zpg l[k].k l[k].a l[k].b l[k].c q1 q2 q3 q4;by_cases hx:l[k]=⟨q1,q2,q3,q4⟩
   ·rw [if_pos hx] at htk;rw [hx] at hgk c;rw [qtO.refl] at c;clear hts hg hb hf hx;generalize tmQ _ (l.take k)=tn at *;have hs:(tn:Int)+1=((tn+1:Nat):Int):=by omega
    (focus (refine wkad (w_8 e0 e3 m3 e5 e6 hlm hgk hs) (w_1 c) (w_1 (w_d 5 [(5,iv 0)] [] [])) ?_;(repeat' first|exact w_t|apply w_l);all_goals intros));exact⟨k+1,⟨by omega,by exact gW e0,⟨by exact gW e3,by exact gW m3⟩,by rw [htk];exact gW (And.intro e5 hs),by exact gS⟩,by omega⟩
   ·rw [if_neg hx] at htk;have hz:Qt.cmp l[k] ⟨q1,q2,q3,q4⟩≠0:=λh=>hx (qtO.eqz _ _ h);have c:Pure Tryz.prog _ _ (iv (Qt.cmp l[k] ⟨q1,q2,q3,q4⟩)):=c;clear hts hg hb hf hx;generalize Qt.cmp _ _=z at *;generalize l[k]=y at *;obtain⟨y1,y2,y3,y4⟩:=y;generalize tmQ _ (l.take k)=tn at *;(focus (refine wkad (w_8 e0 e3 m3 e5 e6 hlm hgk hz) (w_1 c) (w_1 (w_d 5 [(5,iv z)] [] [])) ?_;(repeat' first|exact w_t|apply w_l);all_goals intros));exact⟨k+1,⟨by omega,by exact gW e0,⟨by exact gW e3,by exact gW m3⟩,by rw [htk];exact gW e5,by exact gS⟩,by omega⟩
  ·have:k=l.length:=by omega
   subst this;rw [hf] at e5;generalize tmQ _ l=tn at *;(focus (refine wkad (w_6 e0 e3 m3 e5 e6 hlm) w_t w_t ?_;(repeat' first|exact w_t|apply w_l);all_goals intros));all_goals exact gL
 ·exact⟨Nat.zero_le _,by exact gC,⟨by exact gC,by exact gC⟩,by exact gC,by exact gC⟩
theorem rxMost (a:QTs) (q:Qt) {n:Nat} (hl:a.length≤1000000) (hq:∀t∈a,t.2.length≤n) (hn:n≤1000000):Pure Tryz.prog 61 [qpA a,q.av] (iv (moQ q a)):=by
 have hlm:(a.map qtA).length=a.length:=List.length_map ..;have hg:∀k (h:k < a.length),(a.map qtA).getD k .u=qtA a[k]:=λk h=>Za0 qtA h;have hts:∀k (h:k < a.length),moQ q (a.take (k+1))=max (moQ q (a.take k)) (tmQ q a[k].2):=λk h=>by rw [List.take_succ_eq_append_getElem h,mo_snoc]
 have hf:a.take a.length=a:=List.take_length;have ct:∀k (h:k < a.length),Pure Tryz.prog 131 [qsA a[k].2,q.av] (iv (tmQ q a[k].2)):=λk h=>rxTimes _ q (Nat.le_trans (hq _ (List.getElem_mem h)) hn);obtain⟨q1,q2,q3,q4⟩:=q;show Pure _ _ [.sl 4 (a.map qtA),.agg [iv q1,iv q2,iv q3,iv q4]] _;generalize a.map qtA=A at *;refine Zaa (tok:=0) Tryz.func61 rfl Tryz.ntmps61 Tryz.results61 Tryz.call61 (by rfl) (by simp) ?_;(focus (refine wkad w_t w_t w_t ?_;(repeat' first|exact w_t|apply w_l);all_goals intros));rename_i g3;refine Zad (ι:=Nat) (λk e m=>k≤a.length∧e 0=.sl 4 A∧(e 3=.pbox 3 g3 0∧m 3=some (.box g3 25 [iv q1,iv q2,iv q3,iv q4] false))∧e 5=iv (moQ ⟨q1,q2,q3,q4⟩ (a.take k))∧e 6=iv k) (λk=>a.length - k) 0 (by rfl) ?_ ?_
 ·rintro k e m ⟨hk,e0,⟨e3,m3⟩,e5,e6⟩
  by_cases hlt:k < a.length
  ·have hgk:=hg k hlt;have htk:=hts k hlt;have c:=ct k hlt;clear hts hg hf hq ct;generalize moQ _ (a.take k)=mo at *;generalize a[k]=u at *;obtain⟨u1,u2⟩:=u;simp only at htk c;have hgk:A.getD k .u=.agg [.v (.bool (decide (u1.num < 0))),lim (toL u1.num.natAbs),lim (toL u1.den),.sl 4 (u2.map Qt.av)]:=hgk;have c:Pure Tryz.prog 131 [.sl 4 (u2.map Qt.av),.agg [iv q1,iv q2,iv q3,iv q4]] (iv (tmQ ⟨q1,q2,q3,q4⟩ u2)):=c;generalize tmQ _ u2=tn at *;generalize u2.map Qt.av=UQ at *;generalize toL u1.num.natAbs=un at *;generalize toL u1.den=ud at *;generalize decide (u1.num < 0)=us at *;by_cases hc:(tn:Int) > (mo:Int)
   ·have hm:moQ ⟨q1,q2,q3,q4⟩ (a.take (k+1))=tn:=by omega
    (focus (refine wkad (w_8 e0 e3 m3 e5 e6 hlm hgk hc) (w_1 c) (w_1 (w_d 5 [(7,iv tn)] [] [])) ?_;(repeat' first|exact w_t|apply w_l);all_goals intros));exact⟨k+1,⟨by omega,by exact gW e0,⟨by exact gW e3,by exact gW m3⟩,by rw [hm];exact gW (And.intro e5 hc),by exact gS⟩,by omega⟩
   ·have hm:moQ ⟨q1,q2,q3,q4⟩ (a.take (k+1))=mo:=by omega
    (focus (refine wkad (w_8 e0 e3 m3 e5 e6 hlm hgk hc) (w_1 c) (w_1 (w_d 5 [(7,iv tn)] [] [])) ?_;(repeat' first|exact w_t|apply w_l);all_goals intros));exact⟨k+1,⟨by omega,by exact gW e0,⟨by exact gW e3,by exact gW m3⟩,by rw [hm];exact gW (And.intro e5 hc),by exact gS⟩,by omega⟩
  ·have:k=a.length:=by omega
   subst this;rw [hf] at e5;generalize moQ _ a=tn at *;(focus (refine wkad (w_6 e0 e3 m3 e5 e6 hlm) w_t w_t ?_;(repeat' first|exact w_t|apply w_l);all_goals intros));all_goals exact gL
 ·exact⟨Nat.zero_le _,by exact gC,⟨by exact gC,by exact gC⟩,by exact gC,by exact gC⟩
theorem rxConst1:Pure Tryz.prog 29 [.agg [.v (.bool false),lim [1],lim [1]]] (.sl 4 [.agg [.v (.bool false),lim [1],lim [1],.sl 4 []]]):=by
 have c:=rxConst 1 Zim (by omega);rw [cst_one,Zgq] at c;simp only [qpA,List.map_cons,List.map_nil,Zbq] at c;exact c
theorem rxOf1:Pure Tryz.prog 53 [iv 1] (.agg [.v (.bool false),lim [1],lim [1]]):=by rw [←Zgq];exact qOfS (.inr (.inr rfl))
theorem rxPower (a:QTs) (n:Nat) {k nq L:Nat} (ha:XB a k nq) (hL:a.length≤L) (h1:1≤L) (hb:L ^ (n+1)≤100000000) (hk:1+n*k+k≤100000) (hn:n*nq+nq≤100000) (hn2:n≤1000000):Pure Tryz.prog 63 [qpA a,iv n] (qpA (pwX a n)):=by
 have hi:∀i,i≤n→i*k≤n*k∧i*nq≤n*nq∧L ^ i≤L ^ n:=λi hi=>⟨Nat.mul_le_mul_right _ hi,Nat.mul_le_mul_right _ hi,Nat.pow_le_pow_right h1 hi⟩;have e2:L ^ (n+1)=L ^ n*L:=Nat.pow_succ ..;have e3:L ^ n≤L ^ n*L:=Nat.le_mul_of_pos_right _ h1;have e4:L≤L ^ n*L:=Nat.le_mul_of_pos_left _ (Nat.pow_pos (by omega));have cm:∀i,i < n→Pure Tryz.prog 45 [.sl 4 ((pwX a i).map qtA),.sl 4 (a.map qtA)] (.sl 4 ((pwX a (i+1)).map qtA)):=λi h=>by
  obtain⟨a1,a2,a3⟩:=hi i (by omega);have h2:=pw_len hL i;have h3:(pwX a i).length*a.length≤L ^ n*L:=Nat.mul_le_mul (Nat.le_trans h2 a3) hL;exact rxMul (pwX a i) a (ha.pw i) ha (by omega) (by omega) (by omega) (by omega) (by omega) (by omega) (by omega)
 have c1:=rxConst1;have c0:=rxOf1
 have h0:(pwX a 0).map qtA=[.agg [.v (.bool false),lim [1],lim [1],.sl 4 []]]:=by
  show [qtA ((1:Rat),[])]=_;rw [Zbq];rfl
 show Pure _ _ [.sl 4 (a.map qtA),iv n] (.sl 4 ((pwX a n).map qtA));generalize a.map qtA=A at *;generalize hPP:(λi=>(pwX a i).map qtA)=PP at *;have hPP:∀i,(pwX a i).map qtA=PP i:=λi=>by rw [←hPP]
 simp only [hPP] at cm h0 ⊢;clear hPP hi e2 e3 e4;refine Zaa (tok:=0) Tryz.func63 rfl Tryz.ntmps63 Tryz.results63 Tryz.call63 (by rfl) (by simp) ?_;(focus (refine wkad w_t (w_2 c0 c1) w_t ?_;(repeat' first|exact w_t|apply w_l);all_goals intros));refine Zad (ι:=Nat) (λi e m=>i≤n∧e 0=.sl 4 A∧e 1=iv n∧e 5=.sl 4 (PP i)∧e 6=iv i) (λi=>n - i) 0 (by rfl) ?_ ?_
 ·rintro i e m ⟨hi,e0,e1,e5,e6⟩
  by_cases hlt:i < n
  ·have cmi:=cm i hlt;(focus (refine wkad (w_4 e0 e1 e5 e6) (w_1 cmi) w_t ?_;(repeat' first|exact w_t|apply w_l);all_goals intros));exact⟨i+1,⟨by omega,by exact gW e0,by exact gW e1,by exact gC,by exact gS⟩,by omega⟩
  ·have:i=n:=by omega
   subst this;(focus (refine wkad (w_4 e0 e1 e5 e6) w_t w_t ?_;(repeat' first|exact w_t|apply w_l);all_goals intros));all_goals exact gL
 ·exact⟨Nat.zero_le _,by exact gC,by exact gC,by rw [h0];exact gC,by exact gC⟩
theorem rxWithout (a:QTs) (q:Qt) (k:Nat) {kb n:Nat} (ha:XB a kb n) (hl:a.length≤1000000) (hn:n≤1000000) (hk:kb≤400000) (hk2:k≤1000000):Pure Tryz.prog 62 [qpA a,q.av,iv k] (qpA (paQ q a k)):=by
 have hlm:(a.map qtA).length=a.length:=List.length_map ..;have hg:∀k (h:k < a.length),(a.map qtA).getD k .u=qtA a[k]:=λk h=>Za0 qtA h;have hws:∀i (h:i < a.length),woL q (a.take (i+1)) k=if tmQ q a[i].2=k then woL q (a.take i) k++[(a[i].1,woQ q a[i].2)] else woL q (a.take i) k:=λi h=>by rw [List.take_succ_eq_append_getElem h,wo_snoc]
 have hwl:∀i,((woL q (a.take i) k).map qtA).length≤1000000:=λi=>by
  rw [List.length_map];have:=wo_len q (a.take i) k;rw [List.length_take] at this;omega
 have hq:∀i (h:i < a.length),a[i].2.length≤n:=λi h=>ha.2.1 _ (List.getElem_mem h);have ct:∀i (h:i < a.length),Pure Tryz.prog 131 [qsA a[i].2,q.av] (iv (tmQ q a[i].2)):=λi h=>rxTimes _ q (Nat.le_trans (hq i h) hn);have hf:a.take a.length=a:=List.take_length
 have cg:Pure Tryz.prog 79 [.sl 4 ((woL q a k).map qtA)] (.sl 4 ((paQ q a k).map qtA)):=by
  obtain⟨a1,b,D,B,c,d,e,f⟩:=ha;have hw:NB D B (woL q a k):=⟨λt ht=>by obtain⟨u,hu,rfl⟩:=mem_wo ht;exact f.1 u hu,Nat.le_trans (n1_wo q k a) f.2⟩;exact Zlp _ (woL q a k) rfl (GH.of_nb hw c d e (wo_qlen b q k)) (by have:=wo_len q a k;omega) (by omega) (by omega)
 clear ha;obtain⟨q1,q2,q3,q4⟩:=q;generalize hQ:(⟨q1,q2,q3,q4⟩:Qt)=q at *;have hqv:q.av=.agg [iv q1,iv q2,iv q3,iv q4]:=by rw [←hQ]
 show Pure _ _ [.sl 4 (a.map qtA),q.av,iv k] (.sl 4 ((paQ q a k).map qtA));rw [hqv];rw [hqv] at ct;generalize (paQ q a k).map qtA=RR at *;generalize a.map qtA=A at *;refine Zaa (tok:=0) Tryz.func62 rfl Tryz.ntmps62 Tryz.results62 Tryz.call62 (by rfl) (by simp) ?_;(focus (refine wkad w_t w_t w_t ?_;(repeat' first|exact w_t|apply w_l);all_goals intros));rename_i g4;refine Zej (Frz.nilOwn (d:=7) 67 4 49 (by exact gC)) ?_;refine Zad (ι:=Nat) (λi e m=>i≤a.length∧(e 0=.sl 4 A∧e 2=iv k)∧(e 4=.pbox 4 g4 0∧m 4=some (.box g4 25 [iv q1,iv q2,iv q3,iv q4] false))∧e 8=iv i∧∃sv,e 7=.own 67 sv∧m 67=some (.row sv 49 4 ((woL q (a.take i) k).map qtA) 0)) (λi=>a.length - i) 0 (by rfl) ?_ ?_
 ·rintro i e m ⟨hi,⟨e0,e2⟩,⟨e4,m4⟩,e8,sv,e7,m67⟩
  by_cases hlt:i < a.length
  ·have hgi:=hg i hlt;have hwi:=hws i hlt;have c:=ct i hlt;have hqi:=hq i hlt;have hwli:=hwl i;clear hg hws ct hq hf cg hwl;generalize woL q (a.take i) k=W at *;generalize a[i]=u at *;obtain⟨u1,u2⟩:=u;simp only at hwi c hqi;have hgi:A.getD i .u=.agg [.v (.bool (decide (u1.num < 0))),lim (toL u1.num.natAbs),lim (toL u1.den),.sl 4 (u2.map Qt.av)]:=hgi;have c:Pure Tryz.prog 131 [.sl 4 (u2.map Qt.av),.agg [iv q1,iv q2,iv q3,iv q4]] (iv (tmQ q u2)):=c;by_cases htk:tmQ q u2=k
   ·rw [if_pos htk] at hwi;have hum:(u2.map Qt.av).length=u2.length:=List.length_map ..;have gu:∀k (h:k < u2.length),(u2.map Qt.av).getD k .u=Qt.av u2[k]:=λk h=>Za0 Qt.av h;have hmp:(woL q (a.take (i+1)) k).map qtA=W.map qtA++[.agg [.v (.bool (decide (u1.num < 0))),lim (toL u1.num.natAbs),lim (toL u1.den),.sl 4 ((woQ q u2).map Qt.av)]]:=by rw [hwi,List.map_append];rfl
    rw [htk] at c;clear hwi htk;generalize W.map qtA=WA at *;generalize u2.map Qt.av=UQ at *;generalize toL u1.num.natAbs=un at *;generalize toL u1.den=ud at *;generalize decide (u1.num < 0)=us at *;(focus (refine wkad (w_9 e0 e2 e4 m4 e8 e7 m67 hlm hgi) (w_1 c) (w_1 (w_d 5 [(6,iv k)] [] [])) ?_;(repeat' first|exact w_t|apply w_l);all_goals intros));refine Zej (Frz.nilOwn (d:=9) 57 4 25 (by exact gC)) ?_;refine Zad (ι:=Nat) (λb e m=>b≤u2.length∧(e 0=.sl 4 A∧e 2=iv k)∧(e 4=.pbox 4 g4 0∧m 4=some (.box g4 25 [iv q1,iv q2,iv q3,iv q4] false))∧e 8=iv i∧(e 7=.own 67 sv∧m 67=some (.row sv 49 4 WA 0))∧e 10=iv b∧∃s9,e 9=.own 57 s9∧m 57=some (.row s9 25 4 ((woQ q (u2.take b)).map Qt.av) 0)) (λb=>u2.length - b) 0 (by rfl) ?_ ?_
    ·clear e0 e2 e4 m4 e8 e7 m67
     rintro b e m ⟨hb,⟨e0,e2⟩,⟨e4,m4⟩,e8,⟨e7,m67⟩,e10,s9,e9,m57⟩
     by_cases hbl:b < u2.length
     ·have gub:=gu b hbl;have hts:u2.take (b+1)=u2.take b++[u2[b]]:=by rw [List.take_succ_eq_append_getElem hbl]
      have hwm:((woQ q (u2.take b)).map Qt.av).length≤1000000:=by
       have:=tm_wo q (u2.take b);rw [List.length_take] at this;rw [List.length_map];omega
      have cc:=Zpg u2[b].k u2[b].a u2[b].b u2[b].c q1 q2 q3 q4;by_cases hx:u2[b]=q
      ·have hnx:(woQ q (u2.take (b+1))).map Qt.av=(woQ q (u2.take b)).map Qt.av:=by rw [hts,woQ_n _ hx]
       rw [hx,←hQ] at gub cc;rw [qtO.refl] at cc;clear gu hts;generalize (woQ q (u2.take b)).map Qt.av=R at *;(focus (refine wkad (w_14 e0 e2 e4 m4 e8 e7 m67 e10 e9 m57 hlm hgi hum gub) (w_1 cc) (w_1 (w_d 10 [(9,iv 0)] [] [])) ?_;(repeat' first|exact w_t|apply w_l);all_goals intros));exact⟨b+1,⟨by omega,⟨by exact gW e0,by exact gW e2⟩,⟨by exact gW e4,by exact gW m4⟩,by exact gW e8,⟨by exact gW e7,by exact gW m67⟩,by exact gS,s9,by exact gW e9,by rw [hnx];exact gW m57⟩,by omega⟩
      ·have hmp2:(woQ q (u2.take (b+1))).map Qt.av=(woQ q (u2.take b)).map Qt.av++[Qt.av u2[b]]:=by rw [hts,woQ_y _ hx,List.map_append];rfl
       have hz:Qt.cmp u2[b] ⟨q1,q2,q3,q4⟩≠0:=λh=>hx (by rw [←hQ];exact qtO.eqz _ _ h);have cc:Pure Tryz.prog _ _ (iv (Qt.cmp u2[b] ⟨q1,q2,q3,q4⟩)):=cc;clear gu hts hx;generalize Qt.cmp _ _=z at *;generalize (woQ q (u2.take b)).map Qt.av=R at *;generalize u2[b]=y at *;obtain⟨y1,y2,y3,y4⟩:=y;(focus (refine wkad (w_15 e0 e2 e4 m4 e8 e7 m67 e10 e9 m57 hlm hgi hum gub hz) (w_1 cc) (w_1 (w_d 10 [(9,iv z)] [] [])) ?_;(repeat' first|exact w_t|apply w_l);all_goals intros));exact⟨b+1,⟨by omega,⟨by exact gW e0,by exact gW e2⟩,⟨by exact gW e4,by exact gW m4⟩,by exact gW e8,⟨by exact gW e7,by exact gW m67⟩,by exact gS,_,by exact gC,by rw [hmp2];exact gC⟩,by omega⟩
     ·have hbu:b=u2.length:=by omega
      subst hbu;rw [List.take_length] at m57
      have hwm:((woQ q u2).map Qt.av).length≤1000000:=by
       have:=tm_wo q u2;rw [List.length_map];omega
      generalize (woQ q u2).map Qt.av=R at *;(focus (refine wkad (w_13 e0 e2 e4 m4 e8 e7 m67 e10 e9 m57 hlm hgi hum) w_t w_t ?_;(repeat' first|exact w_t|apply w_l);all_goals intros));exact⟨i+1,⟨by omega,⟨by exact gW e0,by exact gW e2⟩,⟨by exact gW e4,by exact gW m4⟩,by exact gS,_,by exact gC,by rw [hmp];exact gC⟩,by omega⟩
    ·exact⟨Nat.zero_le _,⟨by exact gW e0,by exact gW e2⟩,⟨by exact gW e4,by exact gW m4⟩,by exact gW e8,⟨by exact gW e7,by exact gW m67⟩,by exact gC,_,by exact gC,by exact gC⟩
   ·rw [if_neg htk] at hwi;have htk:(tmQ q u2:Int)≠(k:Int):=by omega
    rw [←hwi] at m67;clear hwi;generalize tmQ q u2=tn at *;generalize u2.map Qt.av=UQ at *;generalize toL u1.num.natAbs=un at *;generalize toL u1.den=ud at *;generalize decide (u1.num < 0)=us at *;(focus (refine wkad (w_10 e0 e2 e4 m4 e8 e7 m67 hlm hgi htk) (w_1 c) (w_1 (w_d 5 [(6,iv tn)] [] [])) ?_;(repeat' first|exact w_t|apply w_l);all_goals intros));exact⟨i+1,⟨by omega,⟨by exact gW e0,by exact gW e2⟩,⟨by exact gW e4,by exact gW m4⟩,by exact gS,_,by exact gW e7,by exact gW m67⟩,by omega⟩
  ·have:i=a.length:=by omega
   subst this;rw [hf] at m67;generalize (woL q a k).map qtA=WA at *;(focus (refine wkax (w_8 e0 e2 e4 m4 e8 e7 m67 hlm) w_t w_t (w_1 cg) w_t w_t (w_r 0) ?_;(repeat' first|exact w_t|apply w_l);all_goals intros));all_goals exact gL
 ·exact⟨Nat.zero_le _,⟨by exact gC,by exact gC⟩,⟨by exact gC,by exact gC⟩,by exact gC,_,by exact gC,by exact gC⟩
end Go.Proofs.YtjekhacnoopdpaaGreatDoor
namespace Go.Pg
open Go Go.RowKit
section
variable {P:Program} {c:Cx} {n:Nat}
theorem at_lt {l:List Oper} {o:Oper} {j:Nat} (h:j < l.length):(l++[o]).toArray[j]?=l.toArray[j]?:=by
 rw [List.getElem?_toArray,List.getElem?_toArray,List.getElem?_append_left h]
theorem at_end {l:List Oper} {o:Oper}:(l++[o]).toArray[l.length]?=some o:=by
 rw [List.getElem?_toArray,List.getElem?_append_right (Nat.le_refl _),Nat.sub_self];rfl
theorem at_gt {l:List Oper} {o:Oper} {j:Nat} (h:l.length < j):(l++[o]).toArray[j]?=none:=by
 rw [List.getElem?_toArray];exact List.getElem?_eq_none (by rw [List.length_append,List.length_cons,List.length_nil];omega)
def LastK (P:Program) (n:Nat) (o:Oper) (K:St→Prop) (st:St):Prop:=(∃c a w imm,Rel c n st a w imm)→∃st',Frz n st st'∧Zbh P 0 [o] [o] (λst1=>∃st2,Frz n st1 st2∧K st2) st'
def lastOk (n:Nat) (l:List Oper) (o:Oper):Bool :=
 Zee n o && o.guard.isNone && l.all (λx=>x.guard.isNone) && (o.after.toList.all λe=>!Region.binds .any e || decide (e.on < l.length)) &&
 ((List.range l.length).all λj=>match l.toArray[j]? with
   | some x=>x.after.toList.all λe=>!Region.binds .any e || decide (e.on < j)
   | none=>true) && (List.range l.length).all λj=>Zke (l++[o]).toArray (l.length+1) j l.length
structure LastOk (n:Nat) (l:List Oper) (o:Oper):Prop where
 fits:Zee n o=true
 g:o.guard=none
 gl:∀x∈l,x.guard=none
 dl:∀e∈o.after,Region.binds .any e=true→e.on < l.length
 dj:∀j x,l.toArray[j]?=some x→∀e∈x.after,Region.binds .any e=true→e.on < j
 r:∀j,j < l.length→Zke (l++[o]).toArray (l.length+1) j l.length=true
theorem lastOk_spec {l:List Oper} {o:Oper} (h:lastOk n l o=true):LastOk n l o:=by
 unfold lastOk at h;simp only [Bool.and_eq_true,List.all_eq_true,Bool.or_eq_true,Bool.not_eq_true',decide_eq_true_eq,Option.isNone_iff_eq_none,List.mem_range,Array.mem_toList_iff] at h;obtain⟨⟨⟨⟨⟨h1,h2⟩,h3⟩,h4⟩,h5⟩,h6⟩:=h;refine⟨h1,h2,h3,λe he hb=>(h4 e he).resolve_left (by simp [hb]),λj x hx e he hb=>?_,h6⟩
 have hj:j < l.length:=by
  rw [List.getElem?_toArray] at hx;exact(List.getElem?_eq_some_iff.1 hx).1
 have:=h5 j hj;rw [hx] at this;simp only [List.all_eq_true,Bool.or_eq_true,Bool.not_eq_true',decide_eq_true_eq,Array.mem_toList_iff] at this;exact(this e he).resolve_left (by simp [hb])
theorem wpOp_app {l:List Oper} {o:Oper} (ho:LastOk n l o) {Q:Exit→Act→World→Prop} {i:Nat} (hi:i < l.length) {K:Act→World→Prop} {a:Act} {w:World} (h:wpOp P l.toArray Q i K a w):wpOp P (l++[o]).toArray Q i K a w:=by
 unfold wpOp at h ⊢;rw [at_lt hi];have hx:l.toArray[i]?=some l[i]:=by rw [List.getElem?_toArray,List.getElem?_eq_getElem hi]
 rw [hx] at h ⊢;have hg:=ho.gl l[i] (List.getElem_mem hi);simp only [Region.wanted,hg] at h ⊢;exact h
theorem wpAny_end {ops:Array Oper} {Q:Exit→Act→World→Prop} {listed:Array Bool} {a:Act} {w:World} (h:Region.ready .any ops listed=[]) (hq:Q .normal a w):∀f,wpAny P .any ops Q f listed a w
 | 0=>⟨h,hq⟩
 | f+1=>⟨λ_=>hq,λi hi=>by rw [h] at hi;cases hi⟩
theorem getD_any {listed:Array Bool} {j:Nat} (h:j < listed.size):listed.getD j false=listed.getD j true:=by
 simp [h]
theorem ready_app {l:List Oper} {o:Oper} {listed:Array Bool} {i:Nat} (hi:i∈Region.ready .any l.toArray listed):i∈Region.ready .any (l++[o]).toArray listed:=by
 obtain⟨h0,x,hx,hd⟩:=mem_ready.1 hi
 have hil:i < l.length:=by
  rw [List.getElem?_toArray] at hx;exact(List.getElem?_eq_some_iff.1 hx).1
 exact mem_ready.2 ⟨h0,x,by rw [at_lt hil];exact hx,hd⟩
theorem ready_of {l:List Oper} {o:Oper} (ho:LastOk n l o) {listed:Array Bool} (hsz:listed.size=l.length+1):∀j,j < l.length→listed.getD j true=false→∃i,i∈Region.ready .any l.toArray listed:=by
 intro j
 induction j using Nat.strongRecOn with
 | _ j ih =>
   intro hj hb;have hx:l.toArray[j]?=some l[j]:=by rw [List.getElem?_toArray,List.getElem?_eq_getElem hj]
   by_cases hd:∀e∈l[j].after,Region.binds .any e=true→listed.getD e.on false=true
   ·exact⟨j,mem_ready.2 ⟨hb,l[j],hx,hd⟩⟩
   ·obtain⟨e,he⟩:=Classical.not_forall.1 hd;obtain⟨he,h1⟩:=Classical.not_imp.1 he;obtain⟨hbd,h1⟩:=Classical.not_imp.1 h1;have hlt:=ho.dj j l[j] hx e he hbd;refine ih e.on hlt (by omega) ?_;rw [←getD_any (by omega)];simpa using h1
theorem lastGo {l:List Oper} {o:Oper} (ho:LastOk n l o) {Q:AE→St→Prop} {f:Nat} {listed:Array Bool} {st:St} {a:Act} {w:World} {imm:Imm} (h:Rel c n st a w imm) (hsz:listed.size=l.length+1) (hL:listed.getD l.length true=false) (hall:∀j,j < l.length→listed.getD j true=true)
 (hk:LastK P n o (Q .normal) st):wpAny P .any (l++[o]).toArray (post c n Q) (f+1) listed a w:=by
 have hrdy:l.length∈Region.ready .any (l++[o]).toArray listed:=mem_ready.2 ⟨hL,o,at_end,λe he hb=>by
  have:=ho.dl e he hb;rw [getD_any (by omega)];exact hall _ this⟩
 refine⟨λh0=>(by rw [h0] at hrdy;cases hrdy),λi hi=>?_⟩;obtain⟨h0,x,hx,_⟩:=mem_ready.1 hi
 have hiL:i=l.length:=by
  rcases Nat.lt_trichotomy i l.length with h1 | h1 | h1
  ·rw [hall i h1] at h0;cases h0
  ·exact h1
  ·rw [at_gt h1] at hx;cases hx
 subst hiL;obtain⟨st',hF,hK⟩:=hk ⟨c,a,w,imm,h⟩;obtain⟨imm',hr⟩:=hF c a w imm h
 have hK:aRes P (0+o.dst.getD 0) o.dst (Zah P st' o.op) (λst1=>∃st2,Frz n st1 st2∧Q .normal st2) st':=by
  obtain⟨d,op,t,pos,af,g⟩:=o;have hg:=ho.g;simp only at hg;subst hg;exact hK
 have hdst:∀d,o.dst=some d→d < n:=by
  intro d hdd;have:=ho.fits;rw [Zee,hdd] at this
  simpa using this
 unfold wpOp;rw [at_end];simp only [Region.wanted,ho.g];refine .inl (Oper.wp_mono (λa1 w1 hg=>?_) (Zdn hr hdst hK));obtain⟨st1,imm1,⟨st2,hF2,hk2⟩,hr1⟩:=hg;obtain⟨imm2,hr2⟩:=hF2 c a1 w1 imm1 hr1;refine wpAny_end ?_ ⟨.normal,st2,imm2,rfl,hk2,hr2⟩ f;refine List.eq_nil_iff_forall_not_mem.2 λi hi=>?_;obtain⟨h0,x,hx,_⟩:=mem_ready.1 hi;rcases Nat.lt_trichotomy i l.length with h1 | h1 | h1
 ·rw [getD_set_ne true (by omega),hall i h1] at h0;cases h0
 ·subst h1;have:l.length < listed.size:=by omega
  simp [this] at h0
 ·rw [at_gt h1] at hx;cases hx
theorem aLast_sound {l:List Oper} {o:Oper} (ho:LastOk n l o) (hf:l.all (Zee n)=true) {rs:Nat→AV} {bar:List Nat} {Q:AE→St→Prop} :
 ∀(f:Nat) (σs:Mem) (listed:Array Bool) (st:St) (a:Act) (w:World) (imm:Imm),Rel c n st a w imm→Part σs st.mem→listed.size=l.length+1→listed.getD l.length true=false→Closed (l++[o]).toArray listed →
 aAny P 0 l rs bar σs f listed (LastK P n o (Q .normal)) st→wpAny P .any (l++[o]).toArray (post c n Q) (f+1) listed a w:=by
 intro f
 induction f with
 | zero =>
   intro σs listed st a w imm h hp hsz hL hc hK;exact lastGo (f:=0) ho h hsz hL (λj hj=>by
    refine Classical.byContradiction λhb=>?_;obtain⟨i,hi⟩:=ready_of ho hsz j hj (by simpa using hb);rw [hK.1] at hi;cases hi) hK.2
 | succ f ih =>
   intro σs listed st a w imm h hp hsz hL hc hK;by_cases hall:∀j,j < l.length→listed.getD j true=true
   ·refine lastGo ho h hsz hL hall (hK.1 ?_);refine List.eq_nil_iff_forall_not_mem.2 λi hi=>?_;obtain⟨h0,x,hx,_⟩:=mem_ready.1 hi
    have hil:i < l.length:=by
     rw [List.getElem?_toArray] at hx;exact(List.getElem?_eq_some_iff.1 hx).1
    rw [hall i hil] at h0;cases h0
   ·obtain⟨j,hj⟩:=Classical.not_forall.1 hall;obtain⟨hj,hb⟩:=Classical.not_imp.1 hj;have hb:listed.getD j true=false:=by simpa using hb
    refine⟨λh0=>?_,λi hi=>?_⟩
    ·exfalso;obtain⟨i,hi⟩:=ready_of ho hsz j hj hb;have:=ready_app (o:=o) hi;rw [h0] at this;cases this
    ·obtain⟨h0,x,hx,hd⟩:=mem_ready.1 hi
     have hil:i < l.length:=by
      rcases Nat.lt_trichotomy i l.length with h1 | h1 | h1
      ·exact h1
      ·exfalso;subst h1;have:=Zf5 hc (l.length+1) l.length x hx hd (ho.r j hj);rw [getD_any (by omega)] at this;rw [this] at hb;cases hb
      ·rw [at_gt h1] at hx;cases hx
     have hi':i∈Region.ready .any l.toArray listed:=mem_ready.2 ⟨h0,x,by rw [←at_lt hil];exact hx,hd⟩;refine wpOp_app ho hil (wpOp_mono (λa' w' hg=>?_) (Zjb hf h hp (hK.2 i hi')));obtain⟨st',imm',⟨hk,hs'⟩,hr⟩:=hg;exact ih _ _ st' a' w' imm' hr hs' (by simpa using hsz) (by rw [getD_set_ne true (by omega)];exact hL) (hc.set hi) hk
theorem r_drawL {id:Nat} {Q:AE→St→Prop} {st:St} {ops l:List Oper} {o:Oper} (rs:Nat→AV) (bar cut:List Nat) (hs1:ops.dropLast=l) (hs2:ops.getLast?=some o) (hm:P.follows .mixedOrders=true) (hf:l.all (Zee n)=true) (hok:lastOk n l o=true)
 (hlex:Zn8 l.toArray bar l.length 0 (Array.replicate (l.length+1) false)=true) {N:Nat} (hN:l.length=N) (h:Zbr P 0 l rs bar (cutM cut st.mem) N 0 (LastK P n o (Q .normal)) st):Za4 P 0 n (.region id ops.toArray true) Q st:=by
 have hops:l++[o]=ops:=by
  have hne:ops≠[]:=by intro h;rw [h] at hs2;cases hs2
  have h1:=List.dropLast_concat_getLast hne;rw [hs1] at h1;rw [List.getLast?_eq_some_getLast hne,Option.some.injEq] at hs2;rw [←hs2];exact h1
 subst hN;rw [←hops];intro c a w imm hr;refine wp_region_any hm ?_;have kd:Keeps w imm w.drew imm:=λad h=>⟨h,rfl⟩;have hgd:w.grownBy w.drew none:=⟨rfl,rfl,rfl,Nat.le_refl _,λ_ _ _=>rfl⟩;have hdr:Rel c n st a w.drew imm:=⟨λt=>kd.rs (hr.env t),hr.size,hr.defers,⟨⟨λk e hk=>(hr.mem.ok.ent k e hk).keep hgd (by cases e.blk<;>simp) (λ_ h=>h) (λ_ _=>rfl) (λ_ h=>.inl h),hr.mem.ok.apart,hr.mem.ok.lt,hr.mem.ok.spot⟩,hr.mem.below.drew,hr.mem.lt,hr.mem.old,hr.mem.new,hr.mem.cells⟩⟩
 have hcl:∀ops:Array Oper,Closed ops (Array.replicate (l.length+1) false):=by
  intro ops j o ho hj;exfalso;by_cases hjl:j < l.length+1<;>simp [Array.getElem?_replicate,hjl] at hj
 have h1:=Zp0 (K:=LastK P n o (Q .normal)) l.length 0 (cutM cut st.mem) _ st (hcl _) hlex h;have h2:=aLast_sound (c:=c) (Q:=Q) (lastOk_spec hok) hf l.length (cutM cut st.mem) _ st a w.drew imm hdr (λt e ht=>by unfold cutM at ht;split at ht;cases ht;exact ht) (by simp) (by simp) (hcl _) h1
 simpa using h2
theorem r_loopZ {body:Code} {st:St} {Q:AE→St→Prop} (h:Za4 P 0 n (.loop body) (λae st'=>∃st'',Frz n st' st''∧Q ae st'') st):Za4 P 0 n (.loop body) Q st:=λc a w imm hr =>
 Code.wp_mono (λe a' w' hp=>by
  obtain⟨ae,st',imm',rfl,⟨st'',hF,hq⟩,hr'⟩:=hp;obtain⟨imm2,h2⟩:=hF c a' w' imm' hr';exact⟨ae,st'',imm2,rfl,hq,h2⟩) (h c a w imm hr)
end
theorem upd_ne {α:Type} {f:Nat→α} {k n:Nat} {v:α} (h:n≠k):upd f k v n=f n:=by rw [Zac,if_neg h]
theorem upd_eq {α:Type} {f:Nat→α} {k:Nat} {v:α}:upd f k v k=v:=by rw [Zac,if_pos rfl]
section
variable {n:Nat} {e:Nat→AV} {m:Mem}
theorem ownsRow_one {w:World} {B:Nat} {ty:TypeId} {mm len:Nat} {sv:Value} {xs:List Value} (h:w.ownsRow B ty mm sv len xs):sv.oneCell'=true:=by
 rcases h.2 with h1 | ⟨g,cap,cur,h1,_⟩
 ·rw [h1.1];rfl
 ·rw [h1];rfl
theorem Frz.slotV {d k:Nat} {sv:Value} (he:e d=.own k sv):Frz n ⟨e,m⟩ ⟨upd e d (.v sv),m⟩:=by
 intro c a w imm h;refine⟨imm,λt=>?_,h.size,h.defers,h.mem⟩;have ht:=h.env t;show Rs w imm (upd e d (.v sv) t) _;rw [Zac];split
 ·subst_vars
  rw [show(St.mk e m).env t=_ from he] at ht;rw [ht.own_inv];exact .pure (.v _)
 ·exact ht
theorem own_one {d k:Nat} {sv:Value} (he:e d=.own k sv) (h:∃c a w imm,Rel c n ⟨e,m⟩ a w imm):sv.oneCell'=true:=by
 obtain⟨c,a,w,imm,h⟩:=h;have ht:=h.env d;rw [show(St.mk e m).env d=_ from he] at ht;exact ht.own_one
theorem el_ent {c:Cx} {w:World} {imm:Imm} {sv:Value} {ty:TypeId} {pub j:Nat} {es:List AV} {x y:AV} (h:EntOk c.B w imm (.row sv ty 1 es pub)) (hj:es[j]?=some x) (hy:y.one=true) (hyc:y.cells=[y]) (hxc:x.cells=[x]) (hr:∀v,Rd w imm x v→Rd w imm y v):EntOk c.B w imm (.row sv ty 1 (es.set j y) pub):=by
 obtain⟨xs,h1,h2,h3,h4,h5,h6,h7⟩:=h;have hlen:(es.set j y).length=es.length:=List.length_set ..;have hjl:j < es.length:=(List.getElem?_eq_some_iff.1 hj).1
 have hf:∀l:List AV,(∀x∈l,x.cells.length=1)→∀i:Nat,(flat l)[i]?=(l[i]?).bind λx:AV=>x.cells[0]?:=by
  intro l
  induction l with
  | nil=>intro _ i;simp [flat]
  | cons a l ih =>
    intro hl i;have ha:=hl a (.head _);obtain⟨b,hb⟩:=List.length_eq_one_iff.1 ha;have e1:flat (a :: l)=b :: flat l:=by simp [flat,hb]
    rw [e1]
    cases i with
    | zero=>simp [hb]
    | succ i=>simpa using ih (λx hx=>hl x (.tail _ hx)) i
 have hm:∀z∈es.set j y,z.cells.length=1:=λz hz=>by
  rcases List.mem_or_eq_of_mem_set hz with hz | rfl
  ·exact h2 z hz
  ·rw [hyc];rfl
 refine⟨xs,by rw [hlen];exact h1,hm,λz hz=>?_,λi a v ha hv=>?_,by rw [hlen];exact h5,h6,h7⟩
 ·rcases List.mem_or_eq_of_mem_set hz with hz | rfl
  ·exact h3 z hz
  ·cases z with
   | agg cs=>cases hy
   | _=>exact hy
 ·rw [hf _ hm] at ha;by_cases hij:i=j
  ·subst hij;rw [List.getElem?_set_self hjl] at ha;simp only [Option.bind_some,hyc,List.getElem?_cons_zero,Option.some.injEq] at ha;subst ha;refine hr v (h4 i x v ?_ hv);rw [hf _ h2,hj];simp [hxc]
  ·rw [List.getElem?_set_ne (Ne.symm hij),←hf _ h2] at ha;exact h4 i a v ha hv
theorem el_mx {c:Cx} {w:World} {imm:Imm} {K:Nat} {sv:Value} {ty:TypeId} {pub j:Nat} {es:List AV} {x y:AV} (h:Mx c m w imm) (hK:m K=some (.row sv ty 1 es pub)) (hj:es[j]?=some x) (hy:y.one=true) (hyc:y.cells=[y]) (hxc:x.cells=[x]) (hr:∀v,Rd w imm x v→Rd w imm y v):Mx c (upd m K (some (.row sv ty 1 (es.set j y) pub))) w imm:=by
 have hb:∀k e',upd m K (some (.row sv ty 1 (es.set j y) pub)) k=some e'→∃e0,m k=some e0∧e'.blk=e0.blk:=λk e' hk=>by
  rw [Zac] at hk;split at hk
  ·subst_vars;cases hk;exact⟨_,hK,rfl⟩
  ·exact⟨e',hk,rfl⟩
 refine⟨⟨λk e' hk=>?_,λk k' e1 e2 b hk hk' h1 h2=>?_,h.ok.lt,h.ok.spot⟩,h.below,h.lt,h.old,h.new,h.cells⟩
 ·rw [Zac] at hk;split at hk
  ·subst_vars;cases hk;exact el_ent (h.ok.ent _ _ hK) hj hy hyc hxc hr
  ·exact h.ok.ent _ _ hk
 ·obtain⟨e3,h3,h4⟩:=hb k e1 hk;obtain⟨e5,h5,h6⟩:=hb k' e2 hk';exact h.ok.apart k k' e3 e5 b h3 h5 (by rw [←h4];exact h1) (by rw [←h6];exact h2)
theorem Frz.elOwn {K k pub pub' mm j:Nat} {svK sv:Value} {ty ty':TypeId} {es el:List AV} (hK:m K=some (.row svK ty 1 es pub)) (hk:m k=some (.row sv ty' mm el pub')) (hj:es[j]?=some (.v sv)):Frz n ⟨e,m⟩ ⟨e,upd m K (some (.row svK ty 1 (es.set j (.own k sv)) pub))⟩:=by
 intro c a w imm h;obtain⟨xs,hx,_⟩:=h.mem.ok.ent k _ hk;refine⟨imm,h.env,h.size,h.defers,el_mx h.mem hK hj rfl rfl rfl λv hv=>?_⟩;cases hv;exact .own k sv (ownsRow_one hx)
theorem Frz.elNil {K pub j:Nat} {svK:Value} {ty:TypeId} {es:List AV} (t mm:Nat) (ty':TypeId) (hK:m K=some (.row svK ty 1 es pub)) (ht:t≠K) (hj:es[j]?=some (.v (.slice none 0 0))) :
 Frz n ⟨e,m⟩ ⟨e,upd (upd m t (some (.row (.slice none 0 0) ty' mm [] 0))) K (some (.row svK ty 1 (es.set j (.own t (.slice none 0 0))) pub))⟩:=by
 intro c a w imm h;have hm:Mx c (upd m t (some (.row (.slice none 0 0) ty' mm [] 0))) w imm :=
  (Zeg h.mem (World.grownBy.refl w none) (by simp) (λ_ _=>rfl) t (.row (.slice none 0 0) ty' mm [] 0) ⟨[],World.ownsRow_nil w c.B ty' mm,by simp,by simp,by simp [flat],by simp,λad _ h2=>by simp [Value.ownBlock] at h2,λg off h1 _=>by simp [Value.ownBlock] at h1⟩ λj e2 b _ _ _=>⟨by simp,by simp [Ent.blk,Value.ownBlock]⟩).1
 refine⟨imm,h.env,h.size,h.defers,el_mx hm (by rw [upd_ne (Ne.symm ht)];exact hK) hj rfl rfl rfl λv hv=>?_⟩;cases hv;exact .own t _ rfl
theorem Frz.elPub {K k pub pub' mm j:Nat} {svK sv:Value} {ty ty':TypeId} {es el:List AV} (hK:m K=some (.row svK ty 1 es pub)) (hk:m k=some (.row sv ty' mm el pub')) (hne:k≠K) (hj:es[j]?=some (.own k sv)) :
 Frz n ⟨e,m⟩ ⟨e,upd (upd m k (some (.row sv ty' mm el el.length))) K (some (.row svK ty 1 (es.set j (.sl mm el)) pub))⟩:=by
 intro c a w imm h;obtain⟨i,h1,h2⟩:=Zpx h.mem k;have em:mark m k=upd m k (some (.row sv ty' mm el el.length)):=by unfold mark;rw [hk];rfl
 have h1:Mx c (mark m k) w i:=h1;rw [em] at h1;refine⟨i,λt=>h2.rs (h.env t),h.size,h.defers,el_mx h1 (by rw [upd_ne (Ne.symm hne)];exact hK) hj rfl rfl rfl λv hv=>?_⟩;cases hv;exact Zqy (k:=k) (e:=ty') (pub:=el.length) h1 (by rw [upd_eq]) rfl
theorem Frz.elsPub {K pub mm len d:Nat} {svK:Value} {ty ty':TypeId} (f:Nat→Nat) (S:Nat→Value) (L:Nat→List AV) (hK:m K=some (.row svK ty 1 ((List.range len).map λj=>.own (f j) (S j)) pub)) (hf:∀j,j < len→m (f j)=some (.row (S j) ty' mm (L j) 0)∧f j≠K) (hi:∀i j,i < len→j < len→f i=f j→i=j)
 (he:e d=.own K svK):∃m',Frz n ⟨e,m⟩ ⟨upd e d (.sl 1 ((List.range len).map λj=>.sl mm (L j))),m'⟩:=by
 have key:∀i,i≤len→∃m',Frz n ⟨e,m⟩ ⟨e,m'⟩∧m' K=some (.row svK ty 1 ((List.range len).map λj=>if j < i then .sl mm (L j) else .own (f j) (S j)) pub)∧∀j,i≤j→j < len→m' (f j)=some (.row (S j) ty' mm (L j) 0):=by
  intro i
  induction i with
  | zero =>
    intro _;refine⟨m,.refl _ _,?_,λj _ hj=>(hf j hj).1⟩;rw [hK];simp
  | succ i ih =>
    intro hil;obtain⟨m',h1,h2,h3⟩:=ih (by omega);have hn:=(hf i (by omega)).2;refine⟨_,h1.trans (Frz.elPub (j:=i) h2 (h3 i (Nat.le_refl _) (by omega)) hn (by simp [List.getElem?_map,List.getElem?_range (show i < len by omega)])),?_,λj hj hjl=>?_⟩
    ·rw [upd_eq];congr 2;refine List.ext_getElem? λj=>?_;by_cases hj:j < len
     ·by_cases hij:j=i
      ·subst hij;rw [List.getElem?_set_self (by simp;omega)];simp [List.getElem?_map,List.getElem?_range hj]
      ·rw [List.getElem?_set_ne (Ne.symm hij)];simp only [List.getElem?_map,List.getElem?_range hj,Option.map_some];have:(j < i)↔(j < i+1):=by omega
       simp only [this]
     ·rw [List.getElem?_eq_none (by simp;omega),List.getElem?_eq_none (by simp;omega)]
    ·rw [upd_ne (hf j hjl).2,upd_ne (λh=>by have:=hi j i hjl (by omega) h;omega)];exact h3 j (by omega) hjl
 obtain⟨m',h1,h2,_⟩:=key len (Nat.le_refl _);have e1:((List.range len).map λj=>if j < len then AV.sl mm (L j) else .own (f j) (S j))=(List.range len).map λj=>.sl mm (L j):=List.map_congr_left λj hj=>if_pos (List.mem_range.1 hj);rw [e1] at h2;exact⟨_,h1.trans (Frz.own he h2)⟩
end
end Go.Pg
namespace Go.Proofs.YtjekhacnoopdpaaGreatDoor
open Go Go.RowKit Go.Pg Go.Pol
attribute [-bool_to_prop] Bool.and_eq_decide Bool.or_eq_decide Bool.decide_beq_decide decide_eq_decide
attribute [local go_sem] Tryz.underlying3 Tryz.underlying4 Tryz.underlying169 Tryz.underlying41 Tryz.underlying43 Tryz.underlying45 Tryz.underlying25 Tryz.underlying47 Tryz.underlying49 Tryz.underlying22 Tryz.underlying23 sz3 by3 z3 szB zB Zbd zRat Zbf zInt Zbe zNat Zaj Zaw Zak Bool.and_self Zan Zbs zSlQ szQT byQT zQT Zby zSlT szQP zQP Tryz.underlying92 Tryz.underlying27 szFr byFr zFr Zfu Zfx zSQP
theorem range_set {α:Type} (f:Nat→α) {n k:Nat} (x:α) (h:k < n):((List.range n).map f).set k x=(List.range n).map λj=>if j=k then x else f j:=by
 refine List.ext_getElem? λj=>?_;by_cases hj:j < n
 ·by_cases hjk:j=k
  ·subst hjk;rw [List.getElem?_set_self (by simp;omega)];simp [List.getElem?_map,List.getElem?_range hj]
  ·rw [List.getElem?_set_ne (Ne.symm hjk)];simp [List.getElem?_map,List.getElem?_range hj,hjk]
 ·rw [List.getElem?_eq_none (by simp;omega),List.getElem?_eq_none (by simp;omega)]
theorem range_snoc {α:Type} (f:Nat→α) (n:Nat):(List.range (n+1)).map f=(List.range n).map f++[f n]:=by rw [List.range_succ,List.map_append];rfl
structure PtM (m:Mem) (sv:Value) (S:Nat→Value) (L:Nat→List AV) (len:Nat):Prop where
 top:m 12=some (.row sv 23 1 ((List.range len).map λj=>.own (2000+j) (S j)) 0)
 el:∀j,j < len→m (2000+j)=some (.row (S j) 49 4 (L j) 0)
theorem PtM.upd {m:Mem} {sv:Value} {S:Nat→Value} {L:Nat→List AV} {len k:Nat} {x:Option Ent} (h:PtM m sv S L len) (hk:k≠12) (hk2:k < 2000):PtM (upd m k x) sv S L len :=
 ⟨by rw [upd_ne (Ne.symm hk)];exact h.top,λj hj=>by rw [upd_ne (by omega)];exact h.el j hj⟩
theorem exSplit (a:QTs) (q:Qt) {n:Nat} (hl:a.length≤100000) (hq:∀t∈a,t.2.length≤n) (hn:n≤100000):Pure Tryz.prog 58 [qpA a,q.av] (.sl 1 ((List.range (moQ q a+1)).map λk=>qpA (woL q a k))):=by
 have hpm:(a.map qtA).length=a.length:=List.length_map ..;have gp:∀i (h:i < a.length),(a.map qtA).getD i .u=qtA a[i]:=λi h=>Za0 qtA h;have hmo:∀i,moQ q (a.take i)≤n:=λi=>mo_le λt ht=>hq t (List.mem_of_mem_take ht);have hwl:∀i k,((woL q (a.take i) k).map qtA).length≤100000:=λi k=>by
  rw [List.length_map];have:=wo_len q (a.take i) k;rw [List.length_take] at this;omega
 have hfull:a.take a.length=a:=List.take_length;obtain⟨q1,q2,q3,q4⟩:=q;generalize hQ:(⟨q1,q2,q3,q4⟩:Qt)=q at *;show Pure _ _ [.sl 4 (a.map qtA),q.av] (.sl 1 ((List.range (moQ q a+1)).map λk=>.sl 4 ((woL q a k).map qtA)));generalize a.map qtA=A at *;have hqv:q.av=.agg [iv q1,iv q2,iv q3,iv q4]:=by rw [←hQ]
 rw [hqv];refine Zaa (tok:=0) Tryz.func58 rfl Tryz.ntmps58 Tryz.results58 Tryz.call58 (by rfl) (by simp) ?_;(focus (refine wkad w_t w_t w_t ?_;(repeat' first|exact w_t|apply w_l);all_goals intros));rename_i g3 s12;refine Zej (Frz.elNil (K:=12) (j:=0) 2000 4 49 (by exact gC) (by omega) (by rfl)) ?_;refine r_loopZ ?_;refine Zad (ι:=Nat) (λi e m=>i≤a.length∧(e 3=.pbox 3 g3 0∧m 3=some (.box g3 25 [iv q1,iv q2,iv q3,iv q4] false))∧(e 13=.sl 4 A∧e 14=iv a.length∧e 15=iv i)∧∃sv S,e 5=.own 12 sv∧PtM m sv S (λk=>(woL q (a.take i) k).map qtA) (moQ q (a.take i)+1)) (λi=>a.length - i) 0 (by rfl) ?_ ?_
 ·rintro i e m ⟨hi,⟨e3,m3⟩,⟨e13,e14,e15⟩,sv,S,e5,hM⟩
  by_cases hlt:i < a.length
  ·have gpi:=gp i hlt;have hql:a[i].2.length≤n:=hq _ (List.getElem_mem hlt);have hmi:=hmo i;have hsn:a.take (i+1)=a.take i++[a[i]]:=by rw [List.take_succ_eq_append_getElem hlt]
   have hm2:moQ q (a.take (i+1))=max (moQ q (a.take i)) (tmQ q a[i].2):=by rw [hsn,mo_snoc]
   have hw2:∀k,woL q (a.take (i+1)) k=if tmQ q a[i].2=k then woL q (a.take i) k++[(a[i].1,woQ q a[i].2)] else woL q (a.take i) k:=λk=>by rw [hsn,wo_snoc]
   have habv:∀k,moQ q (a.take i) < k→woL q (a.take i) k=[]:=λk h=>wo_above h;have hwl:=hwl i;clear gp hq hmo hsn;generalize woL q (a.take i)=W at *;generalize moQ q (a.take i)=mo at *;generalize a[i]=u at *;obtain⟨u1,u2⟩:=u;simp only at hql hm2 hw2;have gpi:A.getD i .u=.agg [.v (.bool (decide (u1.num < 0))),lim (toL u1.num.natAbs),lim (toL u1.den),.sl 4 (u2.map Qt.av)]:=gpi;have hqt:[(u1,woQ q u2)].map qtA=[.agg [.v (.bool (decide (u1.num < 0))),lim (toL u1.num.natAbs),lim (toL u1.den),.sl 4 ((woQ q u2).map Qt.av)]]:=rfl;have hum:(u2.map Qt.av).length=u2.length:=List.length_map ..;have gu:∀k (h:k < u2.length),(u2.map Qt.av).getD k .u=Qt.av u2[k]:=λk h=>Za0 Qt.av h
   generalize toL u1.num.natAbs=un at *;generalize toL u1.den=ud at *;generalize decide (u1.num < 0)=us at *;generalize u2.map Qt.av=UQ at *;(focus (refine wkad (w_8 e3 m3 e13 e14 e15 e5 hpm gpi) w_t w_t ?_;(repeat' first|exact w_t|apply w_l);all_goals intros));rename_i g7;refine Zej (Frz.nilOwn (d:=8) 500 4 25 (by exact gC)) ?_;refine Zad (ι:=Nat) (λk e m=>k≤u2.length∧(e 3=.pbox 3 g3 0∧m 3=some (.box g3 25 [iv q1,iv q2,iv q3,iv q4] false))∧(e 13=.sl 4 A∧e 14=iv a.length∧e 15=iv i∧e 5=.own 12 sv)∧(e 7=.pbox 7 g7 0∧m 7=some (.box g7 49 [.v (.bool us),lim un,lim ud,.sl 4 UQ] false))∧(e 20=.sl 4 UQ∧e 21=iv u2.length∧e 22=iv k)∧(∃s8,e 8=.own 500 s8∧m 500=some (.row s8 25 4 ((woQ q (u2.take k)).map Qt.av) 0))∧PtM m sv S (λk=>(W k).map qtA) (mo+1)) (λk=>u2.length - k) 0 (by rfl) ?_ ?_
   ·clear e3 m3 e13 e14 e15 e5 hM
    rintro k e m ⟨hk,⟨e3,m3⟩,⟨e13,e14,e15,e5⟩,⟨e7,m7⟩,⟨e20,e21,e22⟩,⟨s8,e8,m8⟩,hM⟩
    by_cases hkl:k < u2.length
    ·have guk:=gu k hkl
     have hwk:(woQ q (u2.take k)).length≤100000:=by
      have:=tm_wo q (u2.take k);rw [List.length_take] at this;omega
     have hwm:((woQ q (u2.take k)).map Qt.av).length≤100000:=by rw [List.length_map];exact hwk
     have hts:u2.take (k+1)=u2.take k++[u2[k]]:=by rw [List.take_succ_eq_append_getElem hkl]
     by_cases hx:u2[k]=q
     ·have hnx:(woQ q (u2.take (k+1))).map Qt.av=(woQ q (u2.take k)).map Qt.av:=by rw [hts,woQ_n _ hx]
      rw [hx,hqv] at guk;clear gu hts;generalize (woQ q (u2.take k)).map Qt.av=R at *;(focus (refine wkad (w_15 e3 m3 e13 e14 e15 e5 e7 m7 e20 e21 e22 e8 m8 hum guk) w_t w_t ?_;(repeat' first|exact w_t|apply w_l);all_goals intros));exact⟨k+1,⟨by omega,⟨by exact gW e3,by exact gW m3⟩,⟨by exact gW e13,by exact gW e14,by exact gW e15,by exact gW e5⟩,⟨by exact gW e7,by exact gW m7⟩,⟨by exact gW e20,by exact gW e21,by exact gS⟩,⟨s8,by exact gW e8,by rw [hnx];exact gW m8⟩,by(repeat' first|exact hM|refine PtM.upd ?_ (by decide) (by decide))⟩,by omega⟩
     ·have hnx:woQ q (u2.take (k+1))=woQ q (u2.take k)++[u2[k]]:=by rw [hts,woQ_y _ hx]
      have hmp:(woQ q (u2.take (k+1))).map Qt.av=(woQ q (u2.take k)).map Qt.av++[Qt.av u2[k]]:=by rw [hnx,List.map_append];rfl
      clear gu hts hnx;generalize (woQ q (u2.take k)).map Qt.av=R at *;generalize u2[k]=x at *;obtain⟨x1,x2,x3,x4⟩:=x;have hx:¬(x1=q1∧x2=q2∧x3=q3∧x4=q4):=λh=>hx (by rw [←hQ];obtain⟨rfl,rfl,rfl,rfl⟩:=h;rfl);(focus (refine wkad (w_15 e3 m3 e13 e14 e15 e5 e7 m7 e20 e21 e22 e8 m8 hum guk) w_t w_t ?_;(repeat' first|exact w_t|apply w_l);all_goals intros));all_goals exact⟨k+1,⟨by omega,⟨by exact gW e3,by exact gW m3⟩,⟨by exact gW e13,by exact gW e14,by exact gW e15,by exact gW e5⟩,⟨by exact gW e7,by exact gW m7⟩,⟨by exact gW e20,by exact gW e21,by exact gS⟩,⟨_,by exact gC,by rw [hmp];exact gC⟩,by(repeat' first|exact hM|refine PtM.upd ?_ (by decide) (by decide))⟩,by omega⟩
    ·have hku:k=u2.length:=by omega
     subst hku;rw [List.take_length] at m8;have htw:=tm_wo q u2;have hRm:((woQ q u2).map Qt.av).length=(woQ q u2).length:=List.length_map ..;have hn1:(u2.length:Int) - ((woQ q u2).length:Int)=(tmQ q u2:Int):=by omega
     have hn2:(tmQ q u2:Int)≤n:=by omega
     generalize (woQ q u2).map Qt.av=R at *;generalize (woQ q u2).length=rl at *;generalize tmQ q u2=tn at *;(focus (refine wkad (w_16 e3 m3 e13 e14 e15 e5 e7 m7 e20 e21 e22 e8 m8 hum hRm hn1) w_t w_t ?_;(repeat' first|exact w_t|apply w_l);all_goals intros));refine Zu3 (ι:=Nat) (λj e m=>(mo+1≤j∧j≤max mo tn+1)∧(e 3=.pbox 3 g3 0∧m 3=some (.box g3 25 [iv q1,iv q2,iv q3,iv q4] false))∧(e 13=.sl 4 A∧e 14=iv a.length∧e 15=iv i)∧(e 7=.pbox 7 g7 0∧m 7=some (.box g7 49 [.v (.bool us),lim un,lim ud,.sl 4 UQ] false))∧(e 8=.own 500 s8∧m 500=some (.row s8 25 4 R 0))∧e 11=iv tn∧∃sv S,e 5=.own 12 sv∧PtM m sv S (λk=>(W k).map qtA) j) (λj=>max mo tn+1 - j) (mo+1) (by rfl) ?_ ?_
     ·clear e3 m3 e13 e14 e15 e5 hM e7 m7 e8 m8 e20 e21 e22
      rintro j e m ⟨⟨hj1,hj2⟩,⟨e3,m3⟩,⟨e13,e14,e15⟩,⟨e7,m7⟩,⟨e8,m8⟩,e11,sv,S,e5,hM⟩
      have hlE:((List.range j).map λk=>AV.own (2000+k) (S k)).length=j:=by rw [List.length_map,List.length_range]
      by_cases hjt:j≤tn
      ·obtain⟨top,el⟩:=hM;have hjt':(j:Int)≤(tn:Int):=by omega
       have hW:=habv j (by omega);have n3:¬3=2000+j:=by omega
       have n7:¬7=2000+j:=by omega
       have n5:¬500=2000+j:=by omega
       have hset:∀x y:AV,(((List.range j).map λk=>AV.own (2000+k) (S k))++[x]).set j y=((List.range j).map λk=>AV.own (2000+k) (S k))++[y]:=λx y=>by
        rw [List.set_append_right _ _ (by omega),hlE,Nat.sub_self];rfl
       have hnw:(List.range (j+1)).map (λk=>AV.own (2000+k) (if k=j then .slice none 0 0 else S k))=((List.range j).map λk=>AV.own (2000+k) (S k))++[.own (2000+j) (.slice none 0 0)]:=by
        rw [range_snoc,if_pos rfl];congr 1;exact List.map_congr_left λk hk=>by rw [if_neg (by have:=List.mem_range.1 hk;omega)]
       generalize (List.range j).map (λk=>AV.own (2000+k) (S k))=E at *;(focus (refine wkad (w_14 e3 m3 e13 e14 e15 e7 m7 e8 m8 e11 e5 top hlE hjt') w_t w_t ?_;(repeat' first|exact w_t|apply w_l);all_goals intros));refine⟨j+1,_,Frz.elNil (K:=12) (j:=j) (2000+j) 4 49 (by exact gC) (by omega) (by rw [List.getElem?_append_right (by omega),hlE,Nat.sub_self];rfl),⟨⟨by omega,by omega⟩,⟨by exact gW e3,by exact gW (And.intro m3 n3)⟩,⟨by exact gW e13,by exact gW e14,by exact gW e15⟩,⟨by exact gW e7,by exact gW (And.intro m7 n7)⟩,⟨by exact gW e8,by exact gW (And.intro m8 n5)⟩,by exact gW e11,_,(λk=>if k=j then .slice none 0 0 else S k),by exact gC,⟨?_,λk hk=>?_⟩⟩,by omega⟩
       ·dsimp only;rw [upd_eq,hset,←hnw]
       ·by_cases hkj:k=j
        ·subst hkj;dsimp only;rw [upd_ne (by omega),upd_eq,if_pos rfl,hW];rfl
        ·rw [if_neg hkj];simp (disch:=omega) only [upd_ne,marks];exact el k (by omega)
      ·have hjt':¬(j:Int)≤(tn:Int):=by omega
       have hjm:j=max mo tn+1:=by omega
       have hM2:=hM.top
       (repeat' (first|(fail)|(with_reducible first|refine stp ?_|apply gx1|apply gx2|apply gx3|apply gx4|apply gx5|apply gx6|apply gx7|apply gy8|apply gz2|apply gz3)|(with_reducible refine Zao ?_;intro _)|((with_reducible refine gE ?_);(try simp (disch:=omega) only [go_sem,e3,m3,e13,e14,e15,e7,m7,e8,m8,e11,e5,hM2,hlE,hjt',decide_eq_true,decide_eq_false,if_pos,if_neg,Int.reduceAdd,Int.reduceSub,Int.reduceToNat,Int.zero_add])<;>first|rfl|omega)|with_reducible refine Zab (by decide) ?_|((with_reducible apply gy1);iterate 3 focus rfl)|((with_reducible apply gy2);iterate 3 focus rfl)|((with_reducible apply gy3);iterate 2 focus rfl)|((with_reducible apply gy4);iterate 1 focus rfl)|((with_reducible apply gy5);iterate 4 focus rfl)|((with_reducible apply gy5c);iterate 4 focus rfl)|((with_reducible apply gy6);iterate 4 focus rfl)|((with_reducible apply Za7);iterate 3 focus rfl)|((with_reducible apply Za6);iterate 1 focus rfl)|((with_reducible apply gy7);iterate 1 focus rfl)|((with_reducible apply gy9);(focus ((with_reducible refine gE ?_);(try simp (disch:=omega) only [go_sem,e3,m3,e13,e14,e15,e7,m7,e8,m8,e11,e5,hM2,hlE,hjt',decide_eq_true,decide_eq_false,if_pos,if_neg,Int.reduceAdd,Int.reduceSub,Int.reduceToNat,Int.zero_add])<;>rfl)))|((with_reducible apply gz1);(focus first|rfl|(simp (disch:=omega) only [go_sem,e3,m3,e13,e14,e15,e7,m7,e8,m8,e11,e5,hM2,hlE,hjt',decide_eq_true,decide_eq_false,if_pos,if_neg,Int.reduceAdd,Int.reduceSub,Int.reduceToNat,Int.zero_add];done)))|((with_reducible apply Zae (id:=99) (Zau []) [] []);(focus kernel_rfl);(focus rfl);(focus kernel_rfl);(focus (simp only [List.length_cons,List.length_nil,Nat.reduceAdd];rfl)))|((with_reducible first|apply Za1|apply Za3|apply Za2);all_goals (intro hc;(try simp only [bool_to_prop] at hc);try (exfalso;omega)))))
       refine Zu4 (Frz.own (d:=8) (k:=500) (sv:=s8) (ty:=25) (mm:=4) (es:=R) (pub:=0) (by exact gW e8) (by exact m8)) ?_;have hM:PtM (Go.Pg.mark m 500) sv S (λk=>(W k).map qtA) j:=hM.upd (by omega) (by omega);obtain⟨top,el⟩:=hM;have etn:=el tn (by omega)
       have hgE:((List.range j).map λk=>AV.own (2000+k) (S k)).getD tn .u=.own (2000+tn) (S tn):=by
        rw [List.getD_eq_getElem?_getD,List.getElem?_map,List.getElem?_range (by omega)];rfl
       have hwt:=hwl tn;have hset:=λx:AV=>range_set (λk=>AV.own (2000+k) (S k)) (n:=j) x (show tn < j by omega);have w7:Go.Pg.mark m 500 7=some (.box g7 49 [.v (.bool us),lim un,lim ud,.sl 4 UQ] false):=by show Go.Pg.upd m 500 _ 7=_;rw [upd_ne (by omega)];exact m7
       have w3:Go.Pg.mark m 500 3=some (.box g3 25 [iv q1,iv q2,iv q3,iv q4] false):=by show Go.Pg.upd m 500 _ 3=_;rw [upd_ne (by omega)];exact m3
       have htj:(tn:Int) < (j:Int):=by omega
       have htj2:tn < j:=by omega
       obtain⟨kn,hkn⟩:∃kn,kn=2000+tn:=⟨_,rfl⟩;rw [←hkn] at etn hgE;have b3:(3 == kn)=false:=by rw [beq_eq_false_iff_ne];omega
       have b7:(7 == kn)=false:=by rw [beq_eq_false_iff_ne];omega
       have b12:(12 == kn)=false:=by rw [beq_eq_false_iff_ne];omega
       have n3:¬3=kn:=by omega
       have n7:¬7=kn:=by omega
       have n12:¬12=kn:=by omega
       have n12':¬kn=12:=by omega
       have hWn:∀k,(woL q (a.take (i+1)) k).map qtA=if tn=k then (W k).map qtA++[.agg [.v (.bool us),lim un,lim ud,.sl 4 R]] else (W k).map qtA:=λk=>by
        rw [hw2];by_cases h:tn=k
        ·rw [if_pos h,if_pos h,List.map_append,hqt]
        ·rw [if_neg h,if_neg h]
       generalize Go.Pg.mark m 500=m1 at *;clear m3 m7 m8 hM2 hw2;generalize hLT:(W tn).map qtA=LT at *;generalize (List.range j).map (λk=>AV.own (2000+k) (S k))=E at *;refine r_drawL (Zau [(10,.sl 4 [.agg [.v (.bool us),lim un,lim ud,.sl 4 R]])]) [11,1011] [kn] (by simp only [List.dropLast];rfl) (by simp only [List.getLast?_cons_cons,List.getLast?_singleton];rfl) (by kernel_rfl) (by rfl) (by kernel_rfl) (by kernel_rfl) (by simp only [List.length_cons,List.length_nil,Nat.reduceAdd];rfl) ?_
       (repeat' (first|(fail)|(with_reducible first|refine stp ?_|apply gx1|apply gx2|apply gx3|apply gx4|apply gx5|apply gx6|apply gx7|apply gy8|apply gz2|apply gz3)|(with_reducible refine Zao ?_;intro _)|((with_reducible refine gE ?_);(try simp (disch:=omega) only [go_sem,e3,w3,e13,e14,e15,e7,w7,e11,e5,top,hlE,hgE,etn,b3,b7,b12,n12,n12',n3,n7,hwt,htj,decide_eq_true,decide_eq_false,if_pos,if_neg,Int.reduceAdd,Int.reduceSub,Int.reduceToNat,Int.zero_add])<;>first|rfl|omega)|with_reducible refine Zab (by decide) ?_|((with_reducible apply gy1);iterate 3 focus rfl)|((with_reducible apply gy2);iterate 3 focus rfl)|((with_reducible apply gy3);iterate 2 focus rfl)|((with_reducible apply gy4);iterate 1 focus rfl)|((with_reducible apply gy5);iterate 4 focus rfl)|((with_reducible apply gy5c);iterate 4 focus rfl)|((with_reducible apply gy6);iterate 4 focus rfl)|((with_reducible apply Za7);iterate 3 focus rfl)|((with_reducible apply Za6);iterate 1 focus rfl)|((with_reducible apply gy7);iterate 1 focus rfl)|((with_reducible apply gy9);(focus ((with_reducible refine gE ?_);(try simp (disch:=omega) only [go_sem,e3,w3,e13,e14,e15,e7,w7,e11,e5,top,hlE,hgE,etn,b3,b7,b12,n12,n12',n3,n7,hwt,htj,decide_eq_true,decide_eq_false,if_pos,if_neg,Int.reduceAdd,Int.reduceSub,Int.reduceToNat,Int.zero_add])<;>rfl)))|((with_reducible apply gz1);(focus first|rfl|(simp (disch:=omega) only [go_sem,e3,w3,e13,e14,e15,e7,w7,e11,e5,top,hlE,hgE,etn,b3,b7,b12,n12,n12',n3,n7,hwt,htj,decide_eq_true,decide_eq_false,if_pos,if_neg,Int.reduceAdd,Int.reduceSub,Int.reduceToNat,Int.zero_add];done)))|((with_reducible apply Zae (Zau []) [] []);(focus kernel_rfl);(focus rfl);(focus kernel_rfl);(focus (simp only [List.length_cons,List.length_nil,Nat.reduceAdd];rfl)))|((with_reducible first|apply Za1|apply Za3|apply Za2);all_goals (intro hc;(try simp only [bool_to_prop] at hc);try (exfalso;omega)))))
       rename_i svn;intro hrel;have h1:=own_one (d:=58) (k:=kn) (sv:=svn) (by exact gC) hrel;unfold Value.oneCell' at h1;refine⟨_,Frz.slotV (d:=58) (k:=kn) (by exact gC),?_⟩
       (repeat' (first|(fail)|(with_reducible first|refine stp ?_|apply gx1|apply gx2|apply gx3|apply gx4|apply gx5|apply gx6|apply gx7|apply gy8|apply gz2|apply gz3)|(with_reducible refine Zao ?_;intro _)|((with_reducible refine gE ?_);(try simp (disch:=omega) only [go_sem,h1,e3,w3,e13,e14,e15,e7,w7,e11,e5,top,hlE,n12,n12',n3,n7,htj,decide_eq_true,decide_eq_false,if_pos,if_neg,Int.reduceAdd,Int.reduceSub,Int.reduceToNat,Int.zero_add])<;>first|rfl|omega)|with_reducible refine Zab (by decide) ?_|((with_reducible apply gy1);iterate 3 focus rfl)|((with_reducible apply gy2);iterate 3 focus rfl)|((with_reducible apply gy3);iterate 2 focus rfl)|((with_reducible apply gy4);iterate 1 focus rfl)|((with_reducible apply gy5);iterate 4 focus rfl)|((with_reducible apply gy5c);iterate 4 focus rfl)|((with_reducible apply gy6);iterate 4 focus rfl)|((with_reducible apply Za7);iterate 3 focus rfl)|((with_reducible apply Za6);iterate 1 focus rfl)|((with_reducible apply gy7);iterate 1 focus rfl)|((with_reducible apply gy9);(focus ((with_reducible refine gE ?_);(try simp (disch:=omega) only [go_sem,h1,e3,w3,e13,e14,e15,e7,w7,e11,e5,top,hlE,n12,n12',n3,n7,htj,decide_eq_true,decide_eq_false,if_pos,if_neg,Int.reduceAdd,Int.reduceSub,Int.reduceToNat,Int.zero_add])<;>rfl)))|((with_reducible apply gz1);(focus first|rfl|(simp (disch:=omega) only [go_sem,h1,e3,w3,e13,e14,e15,e7,w7,e11,e5,top,hlE,n12,n12',n3,n7,htj,decide_eq_true,decide_eq_false,if_pos,if_neg,Int.reduceAdd,Int.reduceSub,Int.reduceToNat,Int.zero_add];done)))|((with_reducible apply Zae (Zau []) [] []);(focus kernel_rfl);(focus rfl);(focus kernel_rfl);(focus (simp only [List.length_cons,List.length_nil,Nat.reduceAdd];rfl)))|((with_reducible first|apply Za1|apply Za3|apply Za2);all_goals (intro hc;(try simp only [bool_to_prop] at hc);try (exfalso;omega)))))
       refine⟨_,Frz.elOwn (K:=12) (k:=kn) (j:=tn) (by exact gW n12) (by exact gW n12') (by rw [List.getElem?_set_self (by omega)]),?_⟩
       (repeat' (first|(fail)|(with_reducible first|refine stp ?_|apply gx1|apply gx2|apply gx3|apply gx4|apply gx5|apply gx6|apply gx7|apply gy8|apply gz2|apply gz3)|(with_reducible refine Zao ?_;intro _)|((with_reducible refine gE ?_);(try simp (disch:=omega) only [go_sem,e3,w3,e13,e14,e15,e7,w7,e11,e5,n12,n12',n3,n7,decide_eq_true,decide_eq_false,if_pos,if_neg,Int.reduceAdd,Int.reduceSub,Int.reduceToNat,Int.zero_add])<;>first|rfl|omega)|with_reducible refine Zab (by decide) ?_|((with_reducible apply gy1);iterate 3 focus rfl)|((with_reducible apply gy2);iterate 3 focus rfl)|((with_reducible apply gy3);iterate 2 focus rfl)|((with_reducible apply gy4);iterate 1 focus rfl)|((with_reducible apply gy5);iterate 4 focus rfl)|((with_reducible apply gy5c);iterate 4 focus rfl)|((with_reducible apply gy6);iterate 4 focus rfl)|((with_reducible apply Za7);iterate 3 focus rfl)|((with_reducible apply Za6);iterate 1 focus rfl)|((with_reducible apply gy7);iterate 1 focus rfl)|((with_reducible apply gy9);(focus ((with_reducible refine gE ?_);(try simp (disch:=omega) only [go_sem,e3,w3,e13,e14,e15,e7,w7,e11,e5,n12,n12',n3,n7,decide_eq_true,decide_eq_false,if_pos,if_neg,Int.reduceAdd,Int.reduceSub,Int.reduceToNat,Int.zero_add])<;>rfl)))|((with_reducible apply gz1);(focus first|rfl|(simp (disch:=omega) only [go_sem,e3,w3,e13,e14,e15,e7,w7,e11,e5,n12,n12',n3,n7,decide_eq_true,decide_eq_false,if_pos,if_neg,Int.reduceAdd,Int.reduceSub,Int.reduceToNat,Int.zero_add];done)))|((with_reducible apply Zae (Zau []) [] []);(focus kernel_rfl);(focus rfl);(focus kernel_rfl);(focus (simp only [List.length_cons,List.length_nil,Nat.reduceAdd];rfl)))|((with_reducible first|apply Za1|apply Za3|apply Za2);all_goals (intro hc;(try simp only [bool_to_prop] at hc);try (exfalso;omega)))))
       refine⟨i+1,⟨by omega,⟨by exact gW e3,by exact gW (And.intro w3 n3)⟩,⟨by exact gW e13,by exact gW e14,by exact gS⟩,_,(λk=>if k=tn then svn else S k),by exact gW e5,⟨?_,λk hk=>?_⟩⟩,by omega⟩
       ·dsimp only;rw [upd_eq,List.set_set,hset,hm2,←hjm];congr 2;refine List.map_congr_left λk hk=>?_;by_cases h:k=tn
        ·rw [if_pos h,if_pos h,hkn,h]
        ·rw [if_neg h,if_neg h]
       ·dsimp only;by_cases h:k=tn
        ·subst h;rw [←hkn,if_pos rfl,hWn,if_pos rfl,hLT];simp (disch:=omega) only [upd_ne,upd_eq,marks]
        ·rw [if_neg h,hWn,if_neg (λh2=>h h2.symm)];simp (disch:=omega) only [upd_ne,marks];exact el k (by omega)
     ·exact⟨⟨Nat.le_refl _,by omega⟩,⟨by exact gW e3,by exact gW m3⟩,⟨by exact gW e13,by exact gW e14,by exact gW e15⟩,⟨by exact gW e7,by exact gW m7⟩,⟨by exact gW e8,by exact gW m8⟩,by exact gC,_,_,by exact gW e5,by(repeat' first|exact hM|refine PtM.upd ?_ (by decide) (by decide))⟩
   ·exact⟨Nat.zero_le _,⟨by exact gW e3,by exact gW m3⟩,⟨by exact gW e13,by exact gW e14,by exact gW e15,by exact gW e5⟩,⟨by exact gC,by exact gC⟩,⟨by exact gC,by exact gW hum,by exact gC⟩,⟨_,by exact gC,by exact gC⟩,by(repeat' first|exact hM|refine PtM.upd ?_ (by decide) (by decide))⟩
  ·have hia:i=a.length:=by omega
   subst hia;rw [hfull] at hM;have hM2:=hM.top;(focus (refine wkad (w_8 e3 m3 e13 e14 e15 e5 hM2 hpm) w_t w_t ?_;(repeat' first|exact w_t|apply w_l);all_goals intros));refine Exists.elim (Frz.elsPub (K:=12) (d:=5) (mm:=4) (λj=>2000+j) S _ hM2 (λj hj=>⟨hM.el j hj,by omega⟩) (λi j _ _ h=>by omega) (by exact gW e5)) λm' hF=>⟨_,hF,?_⟩;(focus (refine wkad (w_8 e3 m3 e13 e14 e15 e5 hM2 hpm) w_t w_t ?_;(repeat' first|exact w_t|apply w_l);all_goals intros));all_goals exact gL
 ·refine⟨Nat.zero_le _,⟨by exact gC,by exact gC⟩,⟨by exact gC,by exact gW hpm,by exact gC⟩,s12,(λ_=>.slice none 0 0),by exact gC,⟨?_,λj hj=>?_⟩⟩
  ·rw [upd_eq];rfl
  ·have hj0:j=0:=by
    have:moQ q (a.take 0)=0:=rfl;omega
   subst hj0;rw [upd_ne (by decide),upd_eq];rfl
theorem XB.scl {p:QTs} {k n:Nat} (h:XB p k n) {s:Int} (hs:s=-1∨s=1):XB (sclT (s:Rat) p) k n:=by
 rcases hs with rfl | rfl
 ·exact h.neg
 ·show XB (sclT 1 p) k n;rw [scl_one];exact h
theorem scale_scl (c:Rat) (p:QTs):Zc6 c p=sclT c p:=by
 unfold Zc6 sclT;exact List.map_congr_left λt _=>by rw [Rat.mul_comm]
theorem ratOfm1:Pure Tryz.prog 57 [iv (-1)] (ratQ (-1:Rat)):=Zu0 (z:=-1) (.inl rfl)
theorem exConstm1:Pure Tryz.prog 28 [ratQ (-1:Rat)] (.sl 4 ([((-1:Rat),[])].map qtA)):=by
 have c:=Zwn (-1) sz_m1 (by omega)
 rwa [cst_ok,if_neg (by decide +kernel)] at c
theorem ratOf1':Pure Tryz.prog 57 [iv 1] (.agg [.v (.bool false),lim [1],lim [1]]):=by rw [←Zgq];exact Zu0 (z:=1) (.inr (.inr rfl))
theorem exReplace (a num den:QTs) (q:Qt) {ka kb na nb L:Nat} (ha:XB a ka na) (hu:XB num kb nb) (hd:XB den kb nb) (la:a.length≤12) (lu:num.length≤L) (ld:den.length≤L) (h1:1≤L) (hna:na≤12)
 (hq:na+(na+1)*nb≤maxQ) (hL:(na+1)*12*L ^ (na+2)≤100000000) (hk:1+(na+1)*(ka+kb+3+(na+1)*kb)+kb≤50000) (hka:ka≤500) :
 Pure Tryz.prog 13 [qpA a,q.av,.agg [qpA num,qpA den]] (if q.norm.2=0 then .agg [qpA a,qpA [((1:Rat),[])]] else .agg [qpA (rpN q.norm.1 a (sclT (q.norm.2:Rat) num) den),qpA (rpD q.norm.1 a den)]):=by
 have cn0:=Zu7 q.k q.a q.b q.c;have cn:Pure Tryz.prog 56 [q.av] (.tup [q.norm.1.av,iv q.norm.2]):=cn0;clear cn0;have hs:=Zia q;have c1:=ratOf1';have cc:=Zmp
 have o1:qpA [((1:Rat),[])]=.sl 4 [.agg [.v (.bool false),lim [1],lim [1],.sl 4 []]]:=by
  show AV.sl 4 [qtA ((1:Rat),[])]=_;rw [Zbq];rfl
 obtain⟨q1,q2,q3,q4⟩:=q;generalize hN:Qt.norm ⟨q1,q2,q3,q4⟩=nn at *;obtain⟨n,s⟩:=nn;simp only at hs cn ⊢;by_cases hs0:s=0
 ·subst hs0;rw [if_pos rfl,o1];show Pure _ _ [.sl 4 (a.map qtA),.agg [iv q1,iv q2,iv q3,iv q4],.agg [.sl 4 (num.map qtA),.sl 4 (den.map qtA)]] (.agg [.sl 4 (a.map qtA),.sl 4 [.agg [.v (.bool false),lim [1],lim [1],.sl 4 []]]]);obtain⟨n1,n2,n3,n4⟩:=n;generalize a.map qtA=A at *;generalize num.map qtA=U at *;generalize den.map qtA=D at *;refine Zaa (tok:=0) Tryz.func13 rfl Tryz.ntmps13 Tryz.results13 Tryz.call13 (by rfl) (by simp) ?_;(focus (refine wkad w_t (w_3 cn c1 cc) w_t ?_;(repeat' first|exact w_t|apply w_l);all_goals intros));all_goals exact gL
 ·rw [if_neg hs0];have hs':s=-1∨s=1:=by rcases hs with h | h | h;exact .inl h;exact absurd h hs0;exact .inr h
  have hv:=hu.scl hs';have lv:(sclT (s:Rat) num).length≤L:=by rw [Zc5];exact lu
  obtain⟨mm,hmm⟩:∃mm,mm=moQ n a:=⟨_,rfl⟩;have hm:mm≤na:=by rw [hmm];exact mo_le ha.2.1
  have e0:L ^ (na+2)=L ^ (na+1)*L:=Nat.pow_succ ..;have p1:∀i,i≤na+1→L ^ i≤L ^ (na+1):=λi hi=>Nat.pow_le_pow_right h1 hi;have p2:∀i,i≤na+1→i*nb≤(na+1)*nb:=λi hi=>Nat.mul_le_mul_right _ hi;have p3:∀i,i≤na+1→i*kb≤(na+1)*kb:=λi hi=>Nat.mul_le_mul_right _ hi;have hM:=Zl7;have b0:(na+1)*12*(L ^ (na+1)*L)≤100000000:=by rw [←e0];exact hL
  have b1:12*(L ^ (na+1)*L)≤(na+1)*12*(L ^ (na+1)*L):=Nat.mul_le_mul_right _ (by omega);have b2:L ^ (na+1)≤L ^ (na+1)*L:=Nat.le_mul_of_pos_right _ h1;have b3:L≤L ^ (na+1)*L:=Nat.le_mul_of_pos_left _ (Nat.pow_pos (by omega));have b4:(na+1)*12*L ^ (na+1)≤(na+1)*12*(L ^ (na+1)*L):=Nat.mul_le_mul_left _ b2;have b5:nb≤(na+1)*nb:=Nat.le_mul_of_pos_left _ (by omega);have hpa:∀k,XB (paQ n a k) ka na:=λk=>ha.part n k;have hpl:∀k,(paQ n a k).length≤12:=λk=>Nat.le_trans (pa_len n a k) la;have hpn:=rp_horner n (num:=sclT (s:Rat) num) ha.1 hv.1 hd.1;rw [←hpn];show Pure _ _ _ (.agg [.sl 4 ((hnX (paQ n a) (sclT (s:Rat) num) den (moQ n a) (moQ n a+1)).map qtA),.sl 4 ((pwX den (moQ n a)).map qtA)])
  rw [←hmm]
  have hlen:∀i,i≤mm→(hnX (paQ n a) (sclT (s:Rat) num) den mm i).length≤(na+1)*12*L ^ (na+1):=λi hi =>
   Nat.le_trans (hn_len hpl lv ld h1 mm i) (Nat.mul_le_mul (Nat.mul_le_mul_right _ (by omega)) (p1 i (by omega)))
  have hlp:∀i,i≤mm→(pwX den i).length≤L ^ (na+1):=λi hi=>Nat.le_trans (pw_len ld i) (p1 i (by omega))
  have hx:∀i,i≤mm→XB (hnX (paQ n a) (sclT (s:Rat) num) den mm i) (1+(na+1)*(ka+kb+2+(na+1)*kb)) (na+i*nb):=λi hi =>
   (XB.hn hpa hv hd mm i).mono (Nat.add_le_add_left (Nat.mul_le_mul (by omega) (by have:=p3 i (by omega);omega)) _) (Nat.le_refl _)
  have hkk:(na+1)*(ka+kb+2+(na+1)*kb)≤(na+1)*(ka+kb+3+(na+1)*kb):=Nat.mul_le_mul_left _ (by omega);have hkp:(na+1)*kb≤(na+1)*(ka+kb+3+(na+1)*kb):=Nat.mul_le_mul_left _ (by omega);have cX:∀i,i≤mm→Pure Tryz.prog 35 [.sl 4 ((hnX (paQ n a) (sclT (s:Rat) num) den mm i).map qtA),.sl 4 ((sclT (s:Rat) num).map qtA)] (.sl 4 ((mulX (hnX (paQ n a) (sclT (s:Rat) num) den mm i) (sclT (s:Rat) num)).map qtA)):=λi hi=>by
   have l1:=hlen i hi;have l2:(hnX (paQ n a) (sclT (s:Rat) num) den mm i).length*(sclT (s:Rat) num).length≤(na+1)*12*L ^ (na+1)*L:=Nat.mul_le_mul l1 lv;rw [Nat.mul_assoc ((na+1)*12)] at l2;have l3:=p2 i (by omega);have l4:i*nb≤na*nb:=Nat.mul_le_mul_right _ (by omega);have l5:(na+1)*nb=na*nb+nb:=Nat.succ_mul ..;exact Zwk _ _ (hx i hi) hv (by omega) (by omega) (by omega) (by omega) (by omega) (by omega)
  have cN:∀k,Pure Tryz.prog 22 [.sl 4 ((woL n a k).map qtA)] (.sl 4 ((paQ n a k).map qtA)):=λk =>
   exNrm (woL n a k) (wo_qk ha.qk n k) (wo_dom ha.1.dom n k) (by have:=wo_len n a k;omega) hna (by omega)
  have cY:∀i,i≤mm→Pure Tryz.prog 35 [.sl 4 ((paQ n a (mm - i)).map qtA),.sl 4 ((pwX den i).map qtA)] (.sl 4 ((mulX (paQ n a (mm - i)) (pwX den i)).map qtA)):=λi hi=>by
   have l1:=hlp i hi;have l0:=hpl (mm - i);have l2:(paQ n a (mm - i)).length*(pwX den i).length≤12*L ^ (na+1):=Nat.mul_le_mul l0 l1;have l3:=p2 i (by omega);have l4:=p3 i (by omega);exact Zwk _ _ (hpa _) (hd.pw i) (by omega) (by omega) (by omega) (by omega) (by omega) (by omega)
  have cA:∀i,i≤mm→Pure Tryz.prog 34 [.sl 4 ((mulX (hnX (paQ n a) (sclT (s:Rat) num) den mm i) (sclT (s:Rat) num)).map qtA),.sl 4 ((mulX (paQ n a (mm - i)) (pwX den i)).map qtA)] (.sl 4 ((hnX (paQ n a) (sclT (s:Rat) num) den mm (i+1)).map qtA)):=λi hi=>by
   have x1:=(hx i hi).mul hv;have x2:=(hpa (mm - i)).mul (hd.pw i);have l1:=Nat.le_trans (Zfm (hnX (paQ n a) (sclT (s:Rat) num) den mm i) (sclT (s:Rat) num)) (Nat.mul_le_mul (hlen i hi) lv);rw [Nat.mul_assoc ((na+1)*12)] at l1;have l2:=Nat.le_trans (Zfm (paQ n a (mm - i)) (pwX den i)) (Nat.mul_le_mul (hpl (mm - i)) (hlp i hi));have l3:=p2 i (by omega);have l4:=p3 i (by omega);have l5:i*nb≤na*nb:=Nat.mul_le_mul_right _ (by omega);have l6:(na+1)*nb=na*nb+nb:=Nat.succ_mul ..;exact exPlus _ _ (x1.mono (k:=_) (Nat.le_refl _) (show _≤na+(na+1)*nb by omega)).qk (x2.mono (k:=_) (Nat.le_refl _) (show _≤na+(na+1)*nb by omega)).qk x1.nz x2.nz (by omega) (by omega) (by omega) (by omega) (by omega)
  have cD:∀i,i < mm→Pure Tryz.prog 35 [.sl 4 ((pwX den i).map qtA),.sl 4 (den.map qtA)] (.sl 4 ((pwX den (i+1)).map qtA)):=λi hi=>by
   have l1:=hlp i (by omega);have l2:(pwX den i).length*den.length≤L ^ (na+1)*L:=Nat.mul_le_mul l1 ld;have l3:=p2 (i+1) (by omega);have l4:=p3 (i+1) (by omega);have l5:(i+1)*nb=i*nb+nb:=Nat.succ_mul ..;have l6:(i+1)*kb=i*kb+kb:=Nat.succ_mul ..;exact Zwk _ _ (hd.pw i) hd (by omega) (by omega) (by omega) (by omega) (by omega) (by omega)
  have cS0:=exSplit a n (by omega) ha.2.1 (by omega);rw [←hmm] at cS0
  have cM:Pure Tryz.prog 35 [.sl 4 ([((-1:Rat),[])].map qtA),.sl 4 (num.map qtA)] (.sl 4 ((mulX [((-1:Rat),[])] num).map qtA)):=by
   have hx1:XB [((-1:Rat),[])] 1 0:=xbC _ _ (by decide +kernel);have l1:([((-1:Rat),[])]:QTs).length*num.length≤1*L:=Nat.mul_le_mul (by simp) lu;have l2:([((-1:Rat),[])]:QTs).length≤1:=by simp
   exact Zwk _ _ hx1 hu (by omega) (by omega) (by omega) (by omega) (by omega) (by omega)
  have hVW:s=-1→(sclT (s:Rat) num).map qtA=(mulX [((-1:Rat),[])] num).map qtA:=λh=>by rw [h,mul_neg hu.1];rfl
  have hVU:s=1→(sclT (s:Rat) num).map qtA=num.map qtA:=λh=>by rw [h];show(sclT 1 num).map qtA=_;rw [scl_one]
  have cM1:=ratOfm1;have cM2:=exConstm1;have hpl2:((List.range (mm+1)).map λk=>qpA (woL n a k)).length=mm+1:=by rw [List.length_map,List.length_range]
  have hpg:∀k,k≤mm→((List.range (mm+1)).map λk=>qpA (woL n a k)).getD k .u=.sl 4 ((woL n a k).map qtA):=λk hk=>by
   rw [List.getD_eq_getElem?_getD,List.getElem?_map,List.getElem?_range (by omega)];rfl
  have d00:(pwX den 0).map qtA=[.agg [.v (.bool false),lim [1],lim [1],.sl 4 []]]:=by
   show [qtA ((1:Rat),[])]=_;rw [Zbq];rfl
  clear hx hlen hlp hkk hkp hpa hpl b0 b1 b2 b3 b4 b5 p1 p2 p3 e0 hq hL hk;have cS1:Pure Tryz.prog 58 [.sl 4 (a.map qtA),n.av] (.sl 1 ((List.range (mm+1)).map λk=>qpA (woL n a k))):=cS0;clear cS0;show Pure _ _ [.sl 4 (a.map qtA),.agg [iv q1,iv q2,iv q3,iv q4],.agg [.sl 4 (num.map qtA),.sl 4 (den.map qtA)]] _;have h00:(hnX (paQ n a) (sclT (s:Rat) num) den mm 0).map qtA=[]:=rfl;generalize hHN:(λi=>(hnX (paQ n a) (sclT (s:Rat) num) den mm i).map qtA)=HN at *;have hHN:∀i,(hnX (paQ n a) (sclT (s:Rat) num) den mm i).map qtA=HN i:=λi=>by rw [←hHN]
  generalize hXX:(λi=>(mulX (hnX (paQ n a) (sclT (s:Rat) num) den mm i) (sclT (s:Rat) num)).map qtA)=XX at *;have hXX:∀i,(mulX (hnX (paQ n a) (sclT (s:Rat) num) den mm i) (sclT (s:Rat) num)).map qtA=XX i:=λi=>by rw [←hXX]
  generalize hYY:(λi=>(mulX (paQ n a (mm - i)) (pwX den i)).map qtA)=YY at *;have hYY:∀i,(mulX (paQ n a (mm - i)) (pwX den i)).map qtA=YY i:=λi=>by rw [←hYY]
  generalize hDN:(λi=>(pwX den i).map qtA)=DN at *;have hDN:∀i,(pwX den i).map qtA=DN i:=λi=>by rw [←hDN]
  generalize hPN:(λi=>(paQ n a i).map qtA)=PN at *;have hPN:∀i,(paQ n a i).map qtA=PN i:=λi=>by rw [←hPN]
  simp only [hHN,hXX,hYY,hDN,hPN] at cX cN cY cA cD h00 d00 ⊢;clear hHN hXX hYY hDN hPN;generalize (List.range (mm+1)).map (λk=>qpA (woL n a k))=PT at *;obtain⟨n1,n2,n3,n4⟩:=n;generalize a.map qtA=A at *;have cUV:s=1→num.map qtA=(sclT (s:Rat) num).map qtA:=λh=>by rw [h];show _=(sclT 1 num).map qtA;rw [scl_one]
  generalize (sclT (s:Rat) num).map qtA=V at *;generalize (mulX [((-1:Rat),[])] num).map qtA=W at *;generalize num.map qtA=U at *;generalize den.map qtA=D at *;generalize [((-1:Rat),[])].map qtA=NG at *;have cS:Pure Tryz.prog 58 [.sl 4 A,.agg [iv n1,iv n2,iv n3,iv n4]] (.sl 1 PT):=cS1;clear cS1;have hmm1:((mm+1:Nat):Int) - 1=(mm:Int):=by omega
  clear hN hs hs0 hpn hv lv hu hd ha hmm;rcases hs' with rfl | rfl
  rotate_left
  have hV:=hVU rfl
  rotate_left
  have hV:=hVW rfl;all_goals (
   subst hV;clear hVU hVW;refine Zaa (tok:=0) Tryz.func13 rfl Tryz.ntmps13 Tryz.results13 Tryz.call13 (by rfl) (by simp) ?_;(focus (refine wkad (w_2 hmm1 hpl2) (w_7 cn cM1 cM2 cM cS c1 cc) w_t ?_;(repeat' first|exact w_t|apply w_l);all_goals intros));refine Zej (Frz.nil (d:=11) 4 (by exact gC)) ?_;refine Zad (ι:=Nat) (λi e m=>i≤mm+1∧(∃g x,e 5=.pbox 5 g 0∧m 5=some (.box g 27 [x,.sl 4 D] false))∧(∃g,e 6=.pbox 6 g 0∧m 6=some (.box g 27 [.v (.slice none 0 0),.v (.slice none 0 0)] false))∧(e 9=.sl 4 V∧e 10=.sl 1 PT)∧e 11=.sl 4 (HN i)∧e 12=.sl 4 (DN (min i mm))∧e 13=.v (.int .i64 ((mm:Int) - (i:Int)))) (λi=>mm+1 - i) 0 (by rfl) ?_ ?_
   ·rintro i e m ⟨hi,⟨g5,x5,e5,m5⟩,⟨g6,e6,m6⟩,⟨e9,e10⟩,e11,e12,e13⟩
    by_cases hlt:i≤mm
    ·obtain⟨k,hk⟩:∃k,mm=i+k:=⟨mm - i,by omega⟩;have h13:(mm:Int) - (i:Int)=(k:Int):=by omega
     have hmin:min i mm=i:=by omega
     have x1:=cX i hlt;have y1:=cY i hlt;have a1:=cA i hlt;have k1:=cN k;have hg:=hpg k (by omega);have hk3:k < PT.length:=by omega
     have h13':(k:Int) - 1=(mm:Int) - ((i+1:Nat):Int):=by omega
     rw [h13] at e13;rw [hmin] at e12;rw [show mm - i=k by omega] at y1;have cDi:=cD i;clear cX cY cA cN cD hpg cn cS c1 cc cM cM1 cM2 h00 d00;generalize (woL _ a k).map qtA=WK at *;by_cases hk0:k=0
     ·have hmin':min (i+1) mm=i:=by omega
      have hk0':¬(k:Int) > 0:=by omega
      (focus (refine wkad (w_12 e5 m5 e6 m6 e9 e10 e11 e12 e13 hpl2 hg hk0') (w_4 k1 x1 y1 a1) (w_1 (w_d 13 [(2,.sl 4 (XX i)),(7,.sl 4 (PN k)),(9,.sl 4 (YY i)),(10,.sl 4 (HN (i+1)))] [] [])) ?_;(repeat' first|exact w_t|apply w_l);all_goals intros));exact⟨i+1,⟨by omega,⟨g5,x5,by exact gW e5,by exact gW m5⟩,⟨g6,by exact gW e6,by exact gW m6⟩,⟨by exact gW e9,by exact gW e10⟩,by exact gC,by rw [hmin'];exact gW e12,by rw [←h13'];exact gC⟩,by omega⟩
     ·have hmin':min (i+1) mm=i+1:=by omega
      have hk0':(k:Int) > 0:=by omega
      have d1:=cDi (by omega);(focus (refine wkad (w_12 e5 m5 e6 m6 e9 e10 e11 e12 e13 hpl2 hg hk0') (w_5 k1 x1 y1 a1 d1) (w_1 (w_d 13 [(2,.sl 4 (XX i)),(7,.sl 4 (PN k)),(9,.sl 4 (YY i)),(10,.sl 4 (HN (i+1)))] [] [])) ?_;(repeat' first|exact w_t|apply w_l);all_goals intros));exact⟨i+1,⟨by omega,⟨g5,x5,by exact gW e5,by exact gW m5⟩,⟨g6,by exact gW e6,by exact gW m6⟩,⟨by exact gW e9,by exact gW e10⟩,by exact gC,by rw [hmin'];exact gC,by rw [←h13'];exact gC⟩,by omega⟩
    ·have him:i=mm+1:=by omega
     have h13:(mm:Int) - (i:Int)=-1:=by omega
     have hmin:min i mm=mm:=by omega
     rw [h13] at e13;rw [hmin] at e12;subst him;clear cX cY cA cN cD hpg cn cS c1 cc cM cM1 cM2 h00 d00 h13 hmin;generalize HN (mm+1)=H at *;generalize DN mm=E at *;(focus (refine wkad (w_9 e5 m5 e6 m6 e9 e10 e11 e12 e13) w_t w_t ?_;(repeat' first|exact w_t|apply w_l);all_goals intros));all_goals (all_goals (try simp (disch:=omega) only [go_sem,e6,m6,decide_eq_true,decide_eq_false,if_pos,if_neg,Int.reduceAdd,Int.reduceSub,Int.reduceToNat,Int.zero_add]));(all_goals first|done|rfl|(congr 2;first|done|omega|(rw [Bool.eq_iff_iff];simp only [bool_to_prop,Bool.false_eq_true,iff_true,true_iff,iff_false,false_iff];omega))|skip)
   ·exact⟨Nat.zero_le _,⟨_,_,by exact gC,by exact gC⟩,⟨_,by exact gC,by exact gC⟩,⟨by exact gC,by exact gC⟩,by rw [h00];exact gC,by rw [Nat.zero_min,d00];exact gC,by rw [show(mm:Int) - ((0:Nat):Int)=(mm:Int) by omega];exact gC⟩)
theorem rxReplace (a num den:QTs) (q:Qt) {ka kb na nb L:Nat} (ha:XB a ka na) (hu:XB num kb nb) (hd:XB den kb nb) (la:a.length≤12) (lu:num.length≤L) (ld:den.length≤L) (h1:1≤L) (hna:na≤12)
 (hq:na+(na+1)*nb≤maxQ) (hL:(na+1)*12*L ^ (na+2)≤100000000) (hk:1+(na+1)*(ka+kb+3+(na+1)*kb)+kb≤50000) (hka:ka≤500) (hkb:kb≤100000) :
 Pure Tryz.prog 14 [qpA a,q.av,.agg [qpA num,qpA den]] (if q.norm.2=0 then .agg [qpA a,qpA [((1:Rat),[])]] else .agg [qpA (rpN q.norm.1 a (sclT (q.norm.2:Rat) num) den),qpA (rpD q.norm.1 a den)]):=by
 have cn0:=Zuo q.k q.a q.b q.c;have cn:Pure Tryz.prog 59 [q.av] (.tup [q.norm.1.av,iv q.norm.2]):=cn0;clear cn0;have hs:=Zia q;have c1:=rxOf1;have cc:=rxConst1
 have o1:qpA [((1:Rat),[])]=.sl 4 [.agg [.v (.bool false),lim [1],lim [1],.sl 4 []]]:=by
  show AV.sl 4 [qtA ((1:Rat),[])]=_;rw [Zbq];rfl
 obtain⟨q1,q2,q3,q4⟩:=q;generalize hN:Qt.norm ⟨q1,q2,q3,q4⟩=nn at *;obtain⟨n,s⟩:=nn;simp only at hs cn ⊢;by_cases hs0:s=0
 ·subst hs0;rw [if_pos rfl,o1];show Pure _ _ [.sl 4 (a.map qtA),.agg [iv q1,iv q2,iv q3,iv q4],.agg [.sl 4 (num.map qtA),.sl 4 (den.map qtA)]] (.agg [.sl 4 (a.map qtA),.sl 4 [.agg [.v (.bool false),lim [1],lim [1],.sl 4 []]]]);have hal:(a.map qtA).length≤12:=by rw [List.length_map];exact la
  obtain⟨n1,n2,n3,n4⟩:=n;generalize a.map qtA=A at *;generalize num.map qtA=U at *;generalize den.map qtA=D at *;refine Zaa (tok:=0) Tryz.func14 rfl Tryz.ntmps14 Tryz.results14 Tryz.call14 (by rfl) (by simp) ?_
  (repeat' (first|(with_reducible first|refine stp ?_|apply gx1|apply gx2|apply gx3|apply gx4|apply gx5|apply gx6|apply gx7|apply gy8|apply gz2|apply gz3|refine gw0 (cn) ?_ ?_|refine gw3 (cn) ?_ ?_ ?_|refine gw0 (c1) ?_ ?_|refine gw3 (c1) ?_ ?_ ?_|refine gw0 (cc) ?_ ?_|refine gw3 (cc) ?_ ?_ ?_)|(with_reducible refine Zao ?_;intro _)|((with_reducible refine gE ?_);(try simp (disch:=omega) only [go_sem,List.nil_append,decide_eq_true,decide_eq_false,if_pos,if_neg,Int.reduceAdd,Int.reduceSub,Int.reduceToNat,Int.zero_add])<;>first|rfl|omega)|with_reducible refine Zab (by decide) ?_|((with_reducible apply gy1);iterate 3 focus rfl)|((with_reducible apply gy2);iterate 3 focus rfl)|((with_reducible apply gy3);iterate 2 focus rfl)|((with_reducible apply gy4);iterate 1 focus rfl)|((with_reducible apply gy5);iterate 4 focus rfl)|((with_reducible apply gy5c);iterate 4 focus rfl)|((with_reducible apply gy6);iterate 4 focus rfl)|((with_reducible apply Za7);iterate 3 focus rfl)|((with_reducible apply Za6);iterate 1 focus rfl)|((with_reducible apply gy7);iterate 1 focus rfl)|((with_reducible apply gy9);(focus ((with_reducible refine gE ?_);(try simp (disch:=omega) only [go_sem,List.nil_append,decide_eq_true,decide_eq_false,if_pos,if_neg,Int.reduceAdd,Int.reduceSub,Int.reduceToNat,Int.zero_add])<;>rfl)))|((with_reducible apply gz1);(focus first|rfl|(simp (disch:=omega) only [go_sem,List.nil_append,decide_eq_true,decide_eq_false,if_pos,if_neg,Int.reduceAdd,Int.reduceSub,Int.reduceToNat,Int.zero_add];done)))|((with_reducible apply Zae (Zau []) [] []);(focus kernel_rfl);(focus rfl);(focus kernel_rfl);(focus (simp only [List.length_cons,List.length_nil,Nat.reduceAdd];rfl)))|((with_reducible first|apply Za1|apply Za3|apply Za2);all_goals (intro hc;(try simp only [bool_to_prop] at hc);try (exfalso;omega)))))
  all_goals exact gL
 ·rw [if_neg hs0];have hs':s=-1∨s=1:=by rcases hs with h | h | h;exact .inl h;exact absurd h hs0;exact .inr h
  have hv:=hu.scl hs';have lv:(sclT (s:Rat) num).length≤L:=by rw [Zc5];exact lu
  have hsr:(s:Rat)≠0:=by rcases hs' with rfl | rfl<;>decide +kernel
  have c0:Pure Tryz.prog 53 [iv s] (ratQ (s:Rat)):=qOfS hs;obtain⟨mm,hmm⟩:∃mm,mm=moQ n a:=⟨_,rfl⟩;have hm:mm≤na:=by rw [hmm];exact mo_le ha.2.1
  have e0:L ^ (na+2)=L ^ (na+1)*L:=Nat.pow_succ ..;have p1:∀i,i≤na+1→L ^ i≤L ^ (na+1):=λi hi=>Nat.pow_le_pow_right h1 hi;have p2:∀i,i≤na+1→i*nb≤(na+1)*nb:=λi hi=>Nat.mul_le_mul_right _ hi;have p3:∀i,i≤na+1→i*kb≤(na+1)*kb:=λi hi=>Nat.mul_le_mul_right _ hi;have hM:=Zl7;have b0:(na+1)*12*(L ^ (na+1)*L)≤100000000:=by rw [←e0];exact hL
  have b1:12*(L ^ (na+1)*L)≤(na+1)*12*(L ^ (na+1)*L):=Nat.mul_le_mul_right _ (by omega);have b2:L ^ (na+1)≤L ^ (na+1)*L:=Nat.le_mul_of_pos_right _ h1;have b3:L≤L ^ (na+1)*L:=Nat.le_mul_of_pos_left _ (Nat.pow_pos (by omega));have b4:(na+1)*12*L ^ (na+1)≤(na+1)*12*(L ^ (na+1)*L):=Nat.mul_le_mul_left _ b2;have b5:nb≤(na+1)*nb:=Nat.le_mul_of_pos_left _ (by omega);have hpa:∀k,XB (paQ n a k) ka na:=λk=>ha.part n k;have hpl:∀k,(paQ n a k).length≤12:=λk=>Nat.le_trans (pa_len n a k) la;have cV:=rxScale num (s:Rat) hu.qk (Zm9 hs) hsr (by omega) (by omega) (by omega);rw [scale_scl] at cV;have p4:∀i,i≤mm→L ^ i≤L ^ mm:=λi hi=>Nat.pow_le_pow_right h1 hi
  have p5:L ^ mm≤L ^ (na+1):=p1 mm (by omega);have p6:mm*nb≤(na+1)*nb:=p2 mm (by omega);have p7:mm*kb≤(na+1)*kb:=p3 mm (by omega);have b6:12*L ^ mm≤12*(L ^ (na+1)*L):=Nat.mul_le_mul_left _ (by omega);have b7:(na+1)*(12*L ^ mm)≤(na+1)*(12*(L ^ (na+1)*L)):=Nat.mul_le_mul_left _ b6;rw [←Nat.mul_assoc (na+1) 12 (L ^ (na+1)*L)] at b7;have hkk:(na+1)*(ka+3+mm*kb)≤(na+1)*(ka+kb+3+(na+1)*kb):=Nat.mul_le_mul_left _ (by omega);have hkp:(na+1)*kb≤(na+1)*(ka+kb+3+(na+1)*kb):=Nat.mul_le_mul_left _ (by omega);have hkq:1*(ka+kb+3+(na+1)*kb)≤(na+1)*(ka+kb+3+(na+1)*kb):=Nat.mul_le_mul_right _ (by omega);have hrl:∀i,i≤mm+1→(rfX (paQ n a) (sclT (s:Rat) num) den mm i).length≤(na+1)*(12*L ^ mm):=λi hi=>Nat.le_trans (rf_len hpl lv ld mm i hi) (Nat.mul_le_mul_right _ (by omega))
  have hrx:∀i,i≤mm+1→XB (rfX (paQ n a) (sclT (s:Rat) num) den mm i) (1+(na+1)*(ka+3+mm*kb)) (na+mm*nb):=λi hi=>(XB.rf hpa hv hd mm i hi).mono (Nat.add_le_add_left (Nat.mul_le_mul_right _ (by omega)) _) (Nat.le_refl _);have cW:∀k,k≤mm→Pure Tryz.prog 62 [.sl 4 (a.map qtA),n.av,iv k] (.sl 4 ((paQ n a k).map qtA)):=λk hk=>rxWithout a n k ha (by omega) (by omega) (by omega) (by omega);have cP:∀k,k≤mm→Pure Tryz.prog 63 [.sl 4 ((sclT (s:Rat) num).map qtA),iv k] (.sl 4 ((pwX (sclT (s:Rat) num) k).map qtA)):=λk hk=>by
   have x1:=p1 (k+1) (by omega);have x2:=p2 (k+1) (by omega);have x3:=p3 (k+1) (by omega);rw [Nat.succ_mul] at x2 x3;exact rxPower _ k hv lv h1 (by omega) (by omega) (by omega) (by omega)
  have cQ:∀k,k≤mm→Pure Tryz.prog 63 [.sl 4 (den.map qtA),iv k] (.sl 4 ((pwX den k).map qtA)):=λk hk=>by
   have x1:=p1 (k+1) (by omega);have x2:=p2 (k+1) (by omega);have x3:=p3 (k+1) (by omega);rw [Nat.succ_mul] at x2 x3;exact rxPower _ k hd ld h1 (by omega) (by omega) (by omega) (by omega)
  have hT:∀k,(mulX (paQ n a k) (pwX (sclT (s:Rat) num) k)).length≤12*L ^ k:=λk=>Nat.le_trans (Zfm _ _) (Nat.mul_le_mul (hpl k) (pw_len lv k));have cT:∀k,k≤mm→Pure Tryz.prog 45 [.sl 4 ((paQ n a k).map qtA),.sl 4 ((pwX (sclT (s:Rat) num) k).map qtA)] (.sl 4 ((mulX (paQ n a k) (pwX (sclT (s:Rat) num) k)).map qtA)):=λk hk=>by
   have x1:=p4 k hk;have x2:=p2 k (by omega);have x3:=p3 k (by omega);have l0:=hpl k;have l1:=pw_len lv k;have l2:(paQ n a k).length*(pwX (sclT (s:Rat) num) k).length≤12*L ^ mm:=Nat.mul_le_mul l0 (Nat.le_trans l1 x1);exact rxMul _ _ (hpa k) (hv.pw k) (by omega) (by omega) (by omega) (by omega) (by omega) (by omega) (by omega)
  have cU:∀k,k≤mm→Pure Tryz.prog 45 [.sl 4 ((mulX (paQ n a k) (pwX (sclT (s:Rat) num) k)).map qtA),.sl 4 ((pwX den (mm - k)).map qtA)] (.sl 4 ((mulX (mulX (paQ n a k) (pwX (sclT (s:Rat) num) k)) (pwX den (mm - k))).map qtA)):=λk hk=>by
   have x1:=p4 k hk;have x2:=p2 k (by omega);have x3:=p3 k (by omega);have x4:=p2 (mm - k) (by omega);have x5:=p3 (mm - k) (by omega);have l1:=hT k;have l2:=pw_len ld (mm - k);have x6:=p4 (mm - k) (by omega);have l3:(mulX (paQ n a k) (pwX (sclT (s:Rat) num) k)).length*(pwX den (mm - k)).length≤12*L ^ k*L ^ (mm - k):=Nat.mul_le_mul l1 l2;have e1:12*L ^ k*L ^ (mm - k)=12*L ^ mm:=by rw [Nat.mul_assoc,←Nat.pow_add];congr 2;omega
   rw [e1] at l3;exact rxMul _ _ ((hpa k).mul (hv.pw k)) (hd.pw (mm - k)) (by omega) (by omega) (by omega) (by omega) (by omega) (by omega) (by omega)
  have cA:∀k,k≤mm→Pure Tryz.prog 43 [.sl 4 ((rfX (paQ n a) (sclT (s:Rat) num) den mm k).map qtA),.sl 4 ((mulX (mulX (paQ n a k) (pwX (sclT (s:Rat) num) k)) (pwX den (mm - k))).map qtA)] (.sl 4 ((rfX (paQ n a) (sclT (s:Rat) num) den mm (k+1)).map qtA)):=λk hk=>by
   have x2:k*nb+(mm - k)*nb=mm*nb:=by rw [←Nat.add_mul];congr 1;omega
   have x3:k*kb+(mm - k)*kb=mm*kb:=by rw [←Nat.add_mul];congr 1;omega
   have l1:=hrl k (by omega);have l3:=Nat.le_trans (Zfm (mulX (paQ n a k) (pwX (sclT (s:Rat) num) k)) (pwX den (mm - k))) (Nat.mul_le_mul (hT k) (pw_len ld (mm - k)));have e1:12*L ^ k*L ^ (mm - k)=12*L ^ mm:=by rw [Nat.mul_assoc,←Nat.pow_add];congr 2;omega
   rw [e1] at l3;exact rxPlus _ _ (hrx k (by omega)).qk ((((hpa k).mul (hv.pw k)).mul (hd.pw (mm - k))).mono (Nat.le_refl _) (show _≤na+mm*nb by omega)).qk (by omega) (by omega) (by omega) (by omega) (by omega)
  have cM0:=rxMost a n (by omega) ha.2.1 (by omega);have cM:Pure Tryz.prog 61 [.sl 4 (a.map qtA),n.av] (iv mm):=by rw [hmm];exact cM0
  have d00:(rfX (paQ n a) (sclT (s:Rat) num) den mm 0).map qtA=[]:=rfl;show Pure _ _ [.sl 4 (a.map qtA),.agg [iv q1,iv q2,iv q3,iv q4],.agg [.sl 4 (num.map qtA),.sl 4 (den.map qtA)]] (.agg [.sl 4 ((rfX (paQ n a) (sclT (s:Rat) num) den (moQ n a) (moQ n a+1)).map qtA),.sl 4 ((pwX den (moQ n a)).map qtA)]);rw [←hmm];clear cM0 hrx hrl hT hkk hkp hkq hpa hpl b0 b1 b2 b3 b4 b5 b6 b7 p1 p2 p3 p4 p5 p6 p7 e0 hq hL hk;generalize hRF:(λi=>(rfX (paQ n a) (sclT (s:Rat) num) den mm i).map qtA)=RF at *;have hRF:∀i,(rfX (paQ n a) (sclT (s:Rat) num) den mm i).map qtA=RF i:=λi=>by rw [←hRF]
  generalize hUU:(λk=>(mulX (mulX (paQ n a k) (pwX (sclT (s:Rat) num) k)) (pwX den (mm - k))).map qtA)=UU at *;have hUU:∀k,(mulX (mulX (paQ n a k) (pwX (sclT (s:Rat) num) k)) (pwX den (mm - k))).map qtA=UU k:=λi=>by rw [←hUU]
  generalize hTT:(λk=>(mulX (paQ n a k) (pwX (sclT (s:Rat) num) k)).map qtA)=TT at *;have hTT:∀k,(mulX (paQ n a k) (pwX (sclT (s:Rat) num) k)).map qtA=TT k:=λi=>by rw [←hTT]
  generalize hDN:(λi=>(pwX den i).map qtA)=DN at *;have hDN:∀i,(pwX den i).map qtA=DN i:=λi=>by rw [←hDN]
  generalize hVN:(λi=>(pwX (sclT (s:Rat) num) i).map qtA)=VN at *;have hVN:∀i,(pwX (sclT (s:Rat) num) i).map qtA=VN i:=λi=>by rw [←hVN]
  generalize hPN:(λi=>(paQ n a i).map qtA)=PN at *;have hPN:∀i,(paQ n a i).map qtA=PN i:=λi=>by rw [←hPN]
  simp only [hRF,hUU,hTT,hDN,hVN,hPN] at cW cP cQ cT cU cA d00 ⊢;clear hRF hUU hTT hDN hVN hPN;obtain⟨n1,n2,n3,n4⟩:=n;have cV:Pure Tryz.prog 60 [.sl 4 (num.map qtA),ratQ (s:Rat)] (.sl 4 ((sclT (s:Rat) num).map qtA)):=cV;generalize a.map qtA=A at *;generalize (sclT (s:Rat) num).map qtA=V at *;generalize num.map qtA=U at *;generalize den.map qtA=D at *;have c0:Pure Tryz.prog 53 [iv s] (.agg [.v (.bool (decide ((s:Rat).num < 0))),lim (toL (s:Rat).num.natAbs),lim (toL (s:Rat).den)]):=c0;have cV:Pure Tryz.prog 60 [.sl 4 U,.agg [.v (.bool (decide ((s:Rat).num < 0))),lim (toL (s:Rat).num.natAbs),lim (toL (s:Rat).den)]] (.sl 4 V):=cV
  generalize toL (s:Rat).num.natAbs=sn at *;generalize toL (s:Rat).den=sd at *;generalize decide ((s:Rat).num < 0)=sb at *;have cM:Pure Tryz.prog 61 [.sl 4 A,.agg [iv n1,iv n2,iv n3,iv n4]] (iv mm):=cM;have cW:∀k,k≤mm→Pure Tryz.prog 62 [.sl 4 A,.agg [iv n1,iv n2,iv n3,iv n4],iv k] (.sl 4 (PN k)):=cW;clear hN hv lv hu hd ha hmm c1 cc;refine Zaa (tok:=0) Tryz.func14 rfl Tryz.ntmps14 Tryz.results14 Tryz.call14 (by rfl) (by simp) ?_;(focus (refine wkad (w_1 hs0) (w_4 cn c0 cV cM) (w_1 (w_d 4 [(3,.agg [.v (.bool sb),lim sn,lim sd]),(4,.sl 4 V)] [] [])) ?_;(repeat' first|exact w_t|apply w_l);all_goals intros))
  refine Zej (Frz.nil (d:=11) 4 (by exact gC)) ?_;refine Zad (ι:=Nat) (λk e m=>k≤mm+1∧(∃g x,e 5=.pbox 5 g 0∧m 5=some (.box g 27 [x,.sl 4 D] false))∧(∃g,e 6=.pbox 6 g 0∧m 6=some (.box g 27 [.v (.slice none 0 0),.v (.slice none 0 0)] false))∧(∃g,e 7=.pbox 7 g 0∧m 7=some (.box g 25 [iv n1,iv n2,iv n3,iv n4] false))∧(e 0=.sl 4 A∧e 9=.sl 4 V∧e 10=iv mm)∧e 11=.sl 4 (RF k)∧e 12=iv k) (λk=>mm+1 - k) 0 (by rfl) ?_ ?_
  ·rintro k e m ⟨hk,⟨g5,x5,e5,m5⟩,⟨g6,e6,m6⟩,⟨g7,e7,m7⟩,⟨e0,e9,e10⟩,e11,e12⟩
   by_cases hlt:k≤mm
   ·have w1:=cW k hlt;have v1:=cP k hlt;have t1:=cT k hlt;have d1:=cQ (mm - k) (by omega);have u1:=cU k hlt;have a1:=cA k hlt;have hd1:(mm:Int) - (k:Int)=((mm - k:Nat):Int):=by omega
    have hlt':(k:Int)≤(mm:Int):=by omega
    clear cW cP cQ cT cU cA cn c0 cV cM;(focus (refine wkad (w_13 e0 e5 m5 e6 m6 e7 m7 e9 e10 e11 e12 hd1 hlt') (w_6 w1 v1 t1 d1 u1 a1) w_t ?_;(repeat' first|exact w_t|apply w_l);all_goals intros));exact⟨k+1,⟨by omega,⟨g5,x5,by exact gW e5,by exact gW m5⟩,⟨g6,by exact gW e6,by exact gW m6⟩,⟨g7,by exact gW e7,by exact gW m7⟩,⟨by exact gW e0,by exact gW e9,by exact gW e10⟩,by exact gC,by exact gS⟩,by omega⟩
   ·have hkm:k=mm+1:=by omega
    subst hkm;have d1:=cQ mm (Nat.le_refl _);have hlt':¬((mm+1:Nat):Int)≤(mm:Int):=by omega
    clear cW cP cQ cT cU cA cn c0 cV cM;generalize RF (mm+1)=H at *;generalize DN mm=E at *;(focus (refine wkad (w_12 e0 e5 m5 e6 m6 e7 m7 e9 e10 e11 e12 hlt') (w_1 d1) w_t ?_;(repeat' first|exact w_t|apply w_l);all_goals intros));all_goals (all_goals (try simp (disch:=omega) only [go_sem,e6,m6,decide_eq_true,decide_eq_false,if_pos,if_neg,Int.reduceAdd,Int.reduceSub,Int.reduceToNat,Int.zero_add]));(all_goals first|done|rfl|(congr 2;first|done|omega|(rw [Bool.eq_iff_iff];simp only [bool_to_prop,Bool.false_eq_true,iff_true,true_iff,iff_false,false_iff];omega))|skip)
  ·exact⟨Nat.zero_le _,⟨_,_,by exact gC,by exact gC⟩,⟨_,by exact gC,by exact gC⟩,⟨_,by exact gC,by exact gC⟩,⟨by exact gC,by exact gC,by exact gC⟩,by rw [d00];exact gC,by exact gC⟩
theorem rxSame (p d:QTs) {j k n m:Nat} (hp:QK p j n) (hd:QK d k m) (lp:p.length≤1000000) (ld:d.length≤1000000) (hj:j≤1000000) (hk:k≤1000000) (hn:n≤1000000) (hm:m≤1000000) :
 Pure Tryz.prog 15 [.agg [qpA p,qpA d],.agg [qpA p,qpA d]] (.v (.bool true)):=by
 have c1:Pure Tryz.prog 21 [.sl 4 (p.map qtA),.sl 4 (p.map qtA)] (.v (.bool true)):=rxEqSame p hp lp hj hn;have c2:Pure Tryz.prog 21 [.sl 4 (d.map qtA),.sl 4 (d.map qtA)] (.v (.bool true)):=rxEqSame d hd ld hk hm;show Pure _ _ [.agg [.sl 4 (p.map qtA),.sl 4 (d.map qtA)],.agg [.sl 4 (p.map qtA),.sl 4 (d.map qtA)]] _;generalize p.map qtA=A at *;generalize d.map qtA=D at *;refine Zaa (tok:=0) Tryz.func15 rfl Tryz.ntmps15 Tryz.results15 Tryz.call15 (by rfl) (by simp) ?_;(focus (refine wkad w_t (w_2 c1 c2) w_t ?_;(repeat' first|exact w_t|apply w_l);all_goals intros));all_goals exact gL
section
variable {N n:Nat} {cs:List AV}
theorem shQFrac (h:Zcl Tryz.prog N n 27 cs):∃l m:List RE,cs=[.sl 4 (l.map RE.av),.sl 4 (m.map RE.av)]∧(l.length≤N∧(∀t∈l,t.r.lm N)∧∀t∈l,t.q.length≤N)∧m.length≤N∧(∀t∈m,t.r.lm N)∧∀t∈m,t.q.length≤N:=by
 obtain⟨m,rfl,hs⟩:=Zc0 Tryz.underlying27 (by kernel_rfl) h;obtain⟨x,y,rfl,h1,hs⟩:=hs.inv;obtain⟨x2,y,rfl,h2,hs⟩:=hs.inv;obtain rfl:=hs.inv0;obtain⟨l,rfl,hl⟩:=shTerms Tryz.underlying23 h1;obtain⟨m,rfl,hm⟩:=shTerms Tryz.underlying23 h2;exact⟨l,m,rfl,hl,hm⟩
end
theorem repSame (p u d:QTs) (q:Qt) (hp:XB p 17 3) (hu:XB u 17 2) (hd:XB d 17 2) (lp:p.length≤5) (lu:u.length≤3) (ld:d.length≤3):∃R1 R2:List AV,Pure Tryz.prog 13 [qpA p,q.av,.agg [qpA u,qpA d]] (.agg [.sl 4 R1,.sl 4 R2])∧Pure Tryz.prog 14 [qpA p,q.av,.agg [qpA u,qpA d]] (.agg [.sl 4 R1,.sl 4 R2])∧Pure Tryz.prog 15 [.agg [.sl 4 R1,.sl 4 R2],.agg [.sl 4 R1,.sl 4 R2]] (.v (.bool true)):=by
 have hM:=Zp1;have c1:=exReplace p u d q (L:=3) hp hu hd (by omega) lu ld (by decide) (by decide) (by omega) (by decide) (by decide) (by decide);have c2:=rxReplace p u d q (L:=3) hp hu hd (by omega) lu ld (by decide) (by decide) (by omega) (by decide) (by decide) (by decide) (by decide);by_cases h:q.norm.2=0
 ·rw [if_pos h] at c1 c2;exact⟨_,_,c1,c2,rxSame p [((1:Rat),[])] hp.qk xb_one.qk (by omega) (by decide) (by decide) (by decide) (by decide) (by decide)⟩
 ·rw [if_neg h] at c1 c2;have hs:q.norm.2=-1∨q.norm.2=1:=by rcases Zia q with h1 | h1 | h1;exact .inl h1;exact absurd h1 h;exact .inr h1
  have hv:=hu.scl hs;have hm:moQ q.norm.1 p≤3:=mo_le hp.2.1;have lv:(sclT (q.norm.2:Rat) u).length≤3:=by rw [Zc5];exact lu
  have h1:=XB.rf (λk=>hp.part q.norm.1 k) hv hd (moQ q.norm.1 p) (moQ q.norm.1 p+1) (Nat.le_refl _);have h2:=hd.pw (moQ q.norm.1 p);have l1:=rf_len (P:=paQ q.norm.1 p) (λk=>Nat.le_trans (pa_len q.norm.1 p k) lp) lv ld (moQ q.norm.1 p) (moQ q.norm.1 p+1) (Nat.le_refl _);have l2:=pw_len ld (moQ q.norm.1 p);have e1:3 ^ moQ q.norm.1 p≤3 ^ 3:=Nat.pow_le_pow_right (by decide) hm;have e3:(moQ q.norm.1 p+1)*(5*3 ^ moQ q.norm.1 p)≤4*(5*3 ^ 3):=Nat.mul_le_mul (by omega) (Nat.mul_le_mul_left _ e1);have e4:(moQ q.norm.1 p+1)*(17+3+moQ q.norm.1 p*17)≤4*(17+3+3*17):=Nat.mul_le_mul (by omega) (by have:=Nat.mul_le_mul_right 17 hm;omega)
  have e5:4*(5*3 ^ 3)=540:=by decide
  have e6:(3:Nat) ^ 3=27:=by decide
  have f1:=Nat.le_trans l1 (show _≤1000000 by omega);have f2:=Nat.le_trans l2 (show _≤1000000 by omega);exact⟨_,_,c1,c2,rxSame _ _ h1.qk h2.qk f1 f2 (by omega) (by omega) (by omega) (by omega)⟩
theorem lawEReplaces (l1 l2 l3:List RE) (q:Qt) (hl1:l1.length≤9223372036854775807) (hr1:∀t∈l1,t.r.lm 9223372036854775807) (hq1:∀t∈l1,t.q.length≤9223372036854775807)
 (hl2:l2.length≤9223372036854775807) (hr2:∀t∈l2,t.r.lm 9223372036854775807) (hq2:∀t∈l2,t.q.length≤9223372036854775807)
 (hl3:l3.length≤9223372036854775807) (hr3:∀t∈l3,t.r.lm 9223372036854775807) (hq3:∀t∈l3,t.q.length≤9223372036854775807) :
 Pure Tryz.prog 3 [.sl 4 (l1.map RE.av),q.av,.agg [.sl 4 (l2.map RE.av),.sl 4 (l3.map RE.av)]] (.v (.bool true)):=by
 have ck:=Zxf;have cs1:Pure Tryz.prog 11 [.sl 4 (l1.map RE.av),iv 5,iv 3] (.v (.bool (smallB 5 3 l1))):=rxSmall l1 5 3 (by omega) (by omega) hl1 hr1 hq1;have cs2:Pure Tryz.prog 11 [.sl 4 (l2.map RE.av),iv 3,iv 2] (.v (.bool (smallB 3 2 l2))):=rxSmall l2 3 2 (by omega) (by omega) hl2 hr2 hq2;have cs3:Pure Tryz.prog 11 [.sl 4 (l3.map RE.av),iv 2,iv 2] (.v (.bool (smallB 2 2 l3))):=rxSmall l3 2 2 (by omega) (by omega) hl3 hr3 hq3;by_cases hb:smallB 5 3 l1=true∧smallB 3 2 l2=true∧smallB 2 2 l3=true
 ·obtain⟨hb1,hb2,hb3⟩:=hb;rw [hb1] at cs1;rw [hb2] at cs2;rw [hb3] at cs3;obtain⟨x1,n1⟩:=small_xb hr1 hb1 (by omega);obtain⟨x2,n2⟩:=small_xb hr2 hb2 (by omega);obtain⟨x3,n3⟩:=small_xb hr3 hb3 (by omega);rw [small_av hr1 hb1] at cs1 ⊢;rw [small_av hr2 hb2] at cs2 ⊢;rw [small_av hr3 hb3] at cs3 ⊢;obtain⟨R1,R2,c1,c2,c3⟩:=repSame _ _ _ q x1 x2 x3 n1 n2 (by omega);obtain⟨q1,q2,q3,q4⟩:=q;clear hb1 hb2 hb3 hl1 hr1 hq1 hl2 hr2 hq2 hl3 hr3 hq3 x1 x2 x3 n1 n2 n3;generalize l1.map RE.rt=p at *;generalize l2.map RE.rt=u at *;generalize l3.map RE.rt=d at *;have c1:Pure Tryz.prog 13 [.sl 4 (p.map qtA),.agg [iv q1,iv q2,iv q3,iv q4],.agg [.sl 4 (u.map qtA),.sl 4 (d.map qtA)]] (.agg [.sl 4 R1,.sl 4 R2]):=c1
  have c2:Pure Tryz.prog 14 [.sl 4 (p.map qtA),.agg [iv q1,iv q2,iv q3,iv q4],.agg [.sl 4 (u.map qtA),.sl 4 (d.map qtA)]] (.agg [.sl 4 R1,.sl 4 R2]):=c2;generalize p.map qtA=A at *;generalize u.map qtA=U at *;generalize d.map qtA=D at *;refine Zaa (tok:=0) Tryz.func3 rfl Tryz.ntmps3 Tryz.results3 Tryz.call3 (by rfl) (by simp) ?_;(focus (refine wkad w_t (w_7 cs1 cs2 cs3 c1 c2 c3 ck) (w_1 (w_d 3 [(3,.agg [.sl 4 R1,.sl 4 R2]),(7,.agg [.sl 4 R1,.sl 4 R2])] [] [])) ?_;(repeat' first|exact w_t|apply w_l);all_goals intros));all_goals exact gL
 ·have h3:smallB 5 3 l1=false∨smallB 3 2 l2=false∨smallB 2 2 l3=false:=by
   cases h1:smallB 5 3 l1<;>cases h2:smallB 3 2 l2<;>cases h3:smallB 2 2 l3<;>simp_all
  obtain⟨q1,q2,q3,q4⟩:=q;generalize l1.map RE.av=A at *;generalize l2.map RE.av=B at *;generalize l3.map RE.av=C at *;generalize smallB 5 3 l1=s1 at *;generalize smallB 3 2 l2=s2 at *;generalize smallB 2 2 l3=s3 at *;clear hb
  cases s1 with
  | false =>
    refine Zaa (tok:=0) Tryz.func3 rfl Tryz.ntmps3 Tryz.results3 Tryz.call3 (by rfl) (by simp) ?_;(focus (refine wkad w_t (w_2 cs1 ck) w_t ?_;(repeat' first|exact w_t|apply w_l);all_goals intros));all_goals exact gL
  | true =>
    cases s2 with
    | false =>
      refine Zaa (tok:=0) Tryz.func3 rfl Tryz.ntmps3 Tryz.results3 Tryz.call3 (by rfl) (by simp) ?_;(focus (refine wkad w_t (w_3 cs1 cs2 ck) w_t ?_;(repeat' first|exact w_t|apply w_l);all_goals intros));all_goals exact gL
    | true =>
      cases s3 with
      | false =>
        refine Zaa (tok:=0) Tryz.func3 rfl Tryz.ntmps3 Tryz.results3 Tryz.call3 (by rfl) (by simp) ?_;(focus (refine wkad w_t (w_4 cs1 cs2 cs3 ck) w_t ?_;(repeat' first|exact w_t|apply w_l);all_goals intros));all_goals exact gL
      | true=>exact absurd h3 (by simp)
theorem saidEReplaces (xs:List AV) (h:ShapeL Tryz.prog maxLen 9 [23,25,27] xs):Pure Tryz.prog 3 xs (.v (.bool true)):=by
 obtain⟨x,bs,rfl,h1,h⟩:=h.inv;obtain⟨y,bs,rfl,h2,h⟩:=h.inv;obtain⟨z,bs,rfl,h3,h⟩:=h.inv;obtain rfl:=h.inv0;obtain⟨l1,rfl,a1,a2,a3⟩:=shTerms Tryz.underlying23 h1;obtain⟨k,a,b,c,rfl⟩:=shQuantP h2;obtain⟨l2,l3,rfl,⟨b1,b2,b3⟩,d1,d2,d3⟩:=shQFrac h3;have e:maxLen=9223372036854775807:=by decide
 rw [e] at a1 a2 a3 b1 b2 b3 d1 d2 d3;rw [aggQuantP,Zfz Tryz.underlying27,Zfy (by kernel_rfl)];exact lawEReplaces l1 l2 l3 ⟨k,a,b,c⟩ a1 a2 a3 b1 b2 b3 d1 d2 d3
end Go.Proofs.YtjekhacnoopdpaaGreatDoor
