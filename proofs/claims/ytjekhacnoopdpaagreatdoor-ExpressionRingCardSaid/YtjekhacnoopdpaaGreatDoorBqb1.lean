/- Contracts of the functions that the law reaches, and the rules by which they are walked. They say what a call hands back for every input within the bounds that each names; no other condition. -/
import Derived.Test.YtjekhacnoopdpaaGreatDoorBq5
set_option linter.unusedSimpArgs false
set_option linter.unusedVariables false
set_option maxRecDepth 20000
set_option maxHeartbeats 16000000
namespace Go.Proofs.YtjekhacnoopdpaaGreatDoor
open Go Go.RowKit Go.Pg
attribute [-bool_to_prop] Bool.and_eq_decide Bool.or_eq_decide Bool.decide_beq_decide decide_eq_decide
section
variable {N n:Nat} {cs:List AV}
theorem Zq3 (h:Zcg Tryz.prog N n 25 cs):∃k a b c:Int,cs=[iv k,iv a,iv b,iv c]:=by
 obtain⟨m,rfl,hs⟩:=Zdt Tryz.underlying25 (by kernel_rfl) h;obtain⟨x,y,rfl,h1,hs⟩:=hs.inv;obtain⟨x2,y,rfl,h2,hs⟩:=hs.inv;obtain⟨x3,y,rfl,h3,hs⟩:=hs.inv;obtain⟨x4,y,rfl,h4,hs⟩:=hs.inv;obtain rfl:=hs.inv0;obtain⟨k,rfl,_⟩:=Ze7 Tryz.underlying3 h1;obtain⟨a,rfl,_⟩:=Ze7 Tryz.underlying3 h2;obtain⟨b,rfl,_⟩:=Ze7 Tryz.underlying3 h3;obtain⟨c,rfl,_⟩:=Ze7 Tryz.underlying3 h4;exact⟨k,a,b,c,rfl⟩
theorem Zo7 (cs:List AV):Zc2 Tryz.prog 25 cs=.agg cs:=Zfw Tryz.underlying25 cs
end
attribute [local go_sem] Tryz.underlying3 Tryz.underlying2 Tryz.underlying169 Tryz.underlying4 Tryz.underlying36 Tryz.underlying25 Tryz.underlying47 Tryz.underlying45 Tryz.underlying41 Tryz.underlying43 Tryz.underlying110 Tryz.underlying56 Tryz.underlying55 sz3 by3 z3 szL byL zL Zal Zaz Zhm zErr Zbf zRat Zbn zNat Zbo zInt szB zB szPt byPt zPt Zam Bool.and_self
def RQ.tiny (r:RQ):Bool:=decide (r.l.length≤2) && decide (r.d.length≤2) && r.ok
theorem RQ.tiny_av {r:RQ} (h1:Lm r.l) (h2:Lm r.d) (h:r.tiny=true):r.av=ratQ r.q∧Sz r.q 2:=by
 unfold RQ.tiny at h;simp only [Bool.and_eq_true,decide_eq_true_eq] at h;exact RQ.ok_av ⟨h1,h2,h.1.1,h.1.2⟩ h.2
def RP.tiny (p:RP):Bool:=p.x.tiny && p.y.tiny
def RP.q (p:RP):PQ:=(p.x.q,p.y.q)
theorem RP.tiny_av {p:RP} {k:Nat} (hl:p.lm k) (h:p.tiny=true):p.av=p.q.av∧p.q.sz 2:=by
 unfold RP.tiny at h;simp only [Bool.and_eq_true] at h;obtain⟨ex,sx⟩:=RQ.tiny_av hl.1.1 hl.1.2.1 h.1;obtain⟨ey,sy⟩:=RQ.tiny_av hl.2.1 hl.2.2.1 h.2;refine⟨?_,sx,sy⟩;show AV.agg (p.x.av.cells++p.y.av.cells)=AV.agg ((ratQ p.x.q).cells++(ratQ p.y.q).cells);rw [ex,ey]
theorem Znt (r:RQ) (h:r.lm 9223372036854775807):Pure Tryz.prog 20 [.agg [.v (.bool r.s),lim r.l,lim r.d]] (.v (.bool r.tiny)):=by
 obtain⟨s,l,d⟩:=r;obtain⟨h1,h2,h3,h4⟩:=h;unfold RQ.tiny;simp only at *;by_cases hl:l.length≤2
 ·by_cases hd:d.length≤2
  ·have c:=Zu7 s l d h1 h2 (by omega) (by omega);generalize RQ.ok ⟨s,l,d⟩=v at *;rw [decide_eq_true hl,decide_eq_true hd];refine Zaa (tok:=0) Tryz.func20 rfl Tryz.ntmps20 Tryz.results20 Tryz.call20 (by rfl) (by simp) ?_;(focus (refine wkld (w_1 @Zbw) (w_1 c) (w_1 @Bool.true_and) w_t ?_;(repeat' first|exact w_t|apply w_l);all_goals intros))
  ·rw [decide_eq_true hl,decide_eq_false hd];refine Zaa (tok:=0) Tryz.func20 rfl Tryz.ntmps20 Tryz.results20 Tryz.call20 (by rfl) (by simp) ?_;(focus (refine wkld (w_1 @Zbw) w_t (w_2 @Bool.true_and @Bool.false_and) w_t ?_;(repeat' first|exact w_t|apply w_l);all_goals intros))
 ·rw [decide_eq_false hl];refine Zaa (tok:=0) Tryz.func20 rfl Tryz.ntmps20 Tryz.results20 Tryz.call20 (by rfl) (by simp) ?_;(focus (refine wkld (w_1 @Zbw) w_t (w_1 @Bool.false_and) w_t ?_;(repeat' first|exact w_t|apply w_l);all_goals intros))
def Zvz (ps:List RP) (rs:List RQ):Bool:=decide (ps.length≤10) && decide (rs.length≤10) && ps.all RP.tiny && rs.all RQ.tiny
end Go.Proofs.YtjekhacnoopdpaaGreatDoor
namespace Go.Proofs.YtjekhacnoopdpaaGreatDoor
open Go Go.RowKit Go.Pg Go.Pol
attribute [-bool_to_prop] Bool.and_eq_decide Bool.or_eq_decide Bool.decide_beq_decide decide_eq_decide
attribute [local go_sem] Tryz.underlying3 Tryz.underlying4 Tryz.underlying169 Tryz.underlying41 Tryz.underlying43 Tryz.underlying45 Tryz.underlying25 Tryz.underlying47 Tryz.underlying49 Tryz.underlying22 Tryz.underlying23 sz3 by3 z3 szB zB Zbf zRat Zbo zInt Zbn zNat Zal Zaz Zam Bool.and_self Zax Zb3 zSlQ szQT byQT zQT Zb6 zSlT szQP zQP
def Zd1 (q:List Qt) (i:Nat):Bool:=decide ((q.getD i Qt.zero).norm=(q.getD i Qt.zero,1)) && (decide (i=0) || decide (Qt.cmp (q.getD (i - 1) Qt.zero) (q.getD i Qt.zero)≤0))
def Zhv (q:List Qt):Bool:=(List.range q.length).all (Zd1 q)
def RE.zero:RE:=⟨⟨false,[],[]⟩,[]⟩
def Zdx (l:List RE) (i:Nat):Bool:=(l.getD i RE.zero).r.ok && (!decide ((l.getD i RE.zero).r.q=0) && (Zhv (l.getD i RE.zero).q && (decide (i=0) || decide (ordQ (l.getD (i - 1) RE.zero).q (l.getD i RE.zero).q < 0))))
def rgtB (l:List RE):Bool:=(List.range l.length).all (Zdx l)
theorem Zhr {n i:Nat} {p:Nat→Bool} (h:i < n) (hp:p i=false):(List.range n).all p=false:=by
 rw [List.all_eq_false];exact⟨i,List.mem_range.2 h,by simp [hp]⟩
theorem Zee {n:Nat} {p:Nat→Bool} (h:∀i,i < n→p i=true):(List.range n).all p=true:=by
 rw [List.all_eq_true];exact λi hi=>h i (List.mem_range.1 hi)
theorem qt_atD {l:List Qt} {i:Nat} (h:i < l.length):(l.map Qt.av).getD i .u=Qt.av (l.getD i Qt.zero):=qt_at h
theorem rxProd (q:List Qt) (hl:q.length≤1000000):Pure Tryz.prog 81 [qsA q] (.v (.bool (Zhv q))):=by
 have hlm:(q.map Qt.av).length=q.length:=List.length_map ..;have hg:∀j,j < q.length→(q.map Qt.av).getD j .u=Qt.av (q.getD j Qt.zero):=λj h=>qt_atD h;have hbad:∀i,i < q.length→Zd1 q i=false→Zhv q=false:=λi h hp=>Zhr h hp;have hgood:(∀i,i < q.length→Zd1 q i=true)→Zhv q=true:=Zee;show Pure _ _ [.sl 4 (q.map Qt.av)] _;generalize q.map Qt.av=A at *;generalize hB:Zhv q=B at *;refine Zaa (tok:=0) Tryz.func81 rfl Tryz.ntmps81 Tryz.results81 Tryz.call81 (by rfl) (by simp) ?_;(focus (refine wkad w_t w_t w_t ?_;(repeat' first|exact w_t|apply w_l);all_goals intros));refine Zad (ι:=Nat) (λi e _=>i≤q.length∧(∀j,j < i→Zd1 q j=true)∧e 0=.sl 4 A∧e 3=iv i) (λi=>q.length - i) 0 (by rfl) ?_ ?_
 ·rintro i e m ⟨hi,hj,e0,e3⟩
  by_cases hlt:i < q.length
  ·have g1:=hg i hlt;have hb:=hbad i hlt;have hnx:Zd1 q i=true→∀j,j < i+1→Zd1 q j=true:=λh j hji=>by
    by_cases e:j=i
    ·rw [e];exact h
    ·exact hj j (by omega)
   clear hgood hbad hj;have c1:=rqNorm (q.getD i Qt.zero).k (q.getD i Qt.zero).a (q.getD i Qt.zero).b (q.getD i Qt.zero).c;have c2:=Zur (q.getD i Qt.zero).norm.1.k (q.getD i Qt.zero).norm.1.a (q.getD i Qt.zero).norm.1.b (q.getD i Qt.zero).norm.1.c (q.getD i Qt.zero).k (q.getD i Qt.zero).a (q.getD i Qt.zero).b (q.getD i Qt.zero).c
   cases i with
   | zero =>
     have hv:Zd1 q 0=decide ((q.getD 0 Qt.zero).norm=(q.getD 0 Qt.zero,1)):=by unfold Zd1;simp
     rw [hv] at hb hnx;clear hv hg;generalize q.getD 0 Qt.zero=y at *;generalize hn:y.norm=nn at *;obtain⟨nn,ns⟩:=nn;obtain⟨y1,y2,y3,y4⟩:=y;obtain⟨n1,n2,n3,n4⟩:=nn;simp only at *;by_cases h1:ns=1
     ·by_cases h2:(⟨n1,n2,n3,n4⟩:Qt)=⟨y1,y2,y3,y4⟩
      ·rw [h2,qtO.refl] at c2;have hny:=hnx (by rw [h1,h2];exact decide_eq_true rfl);rw [h2] at c1;clear hb h2 hn;subst h1;(focus (refine wkad (w_4 e0 e3 hlm g1) (w_2 c1 c2) (w_1 (w_d 5 [(8,iv 0)] [] [])) ?_;(repeat' first|exact w_t|apply w_l);all_goals intros));exact⟨1,⟨by omega,hny,by exact gW e0,by exact gC⟩,by omega⟩
      ·have hz:Qt.cmp ⟨n1,n2,n3,n4⟩ ⟨y1,y2,y3,y4⟩≠0:=λh=>h2 (qtO.eqz _ _ h);have hb:=hb (by rw [h1];exact decide_eq_false λh=>h2 (congrArg Prod.fst h));subst hb;clear hnx h2 hn;subst h1;generalize Qt.cmp _ _=z at *;(focus (refine wkad (w_5 e0 e3 hlm g1 hz) (w_2 c1 c2) (w_1 (w_d 5 [(8,iv z)] [] [])) ?_;(repeat' first|exact w_t|apply w_l);all_goals intros));all_goals exact gL
     ·have hb:=hb (decide_eq_false λh=>h1 (congrArg Prod.snd h));subst hb;clear hnx hn c2;(focus (refine wkad (w_5 e0 e3 hlm g1 h1) (w_1 c1) w_t ?_;(repeat' first|exact w_t|apply w_l);all_goals intros));all_goals exact gL
   | succ i =>
     have g2:=hg i (by omega);have hv:Zd1 q (i+1)=(decide ((q.getD (i+1) Qt.zero).norm=(q.getD (i+1) Qt.zero,1)) && decide (Qt.cmp (q.getD i Qt.zero) (q.getD (i+1) Qt.zero)≤0)):=by unfold Zd1;simp
     rw [hv] at hb hnx;have c3:=Zur (q.getD i Qt.zero).k (q.getD i Qt.zero).a (q.getD i Qt.zero).b (q.getD i Qt.zero).c (q.getD (i+1) Qt.zero).k (q.getD (i+1) Qt.zero).a (q.getD (i+1) Qt.zero).b (q.getD (i+1) Qt.zero).c;clear hv hg;have ei:(i:Int)+1 - 1=(i:Int):=by omega
     have en:((i+1:Nat):Int) - 1=(i:Int):=by omega
     have ek:i+1 - 1=i:=rfl;generalize q.getD (i+1) Qt.zero=y at *;generalize q.getD i Qt.zero=x at *;generalize hn:y.norm=nn at *;obtain⟨nn,ns⟩:=nn;obtain⟨y1,y2,y3,y4⟩:=y;obtain⟨x1,x2,x3,x4⟩:=x;obtain⟨n1,n2,n3,n4⟩:=nn;simp only at *;by_cases h1:ns=1
     ·by_cases h2:(⟨n1,n2,n3,n4⟩:Qt)=⟨y1,y2,y3,y4⟩
      ·rw [h2,qtO.refl] at c2;by_cases h3:Qt.cmp ⟨x1,x2,x3,x4⟩ ⟨y1,y2,y3,y4⟩≤0
       ·have hny:=hnx (by rw [h1,h2,decide_eq_true rfl,decide_eq_true h3];rfl);rw [h2] at c1;clear hb h2 hn;subst h1;generalize Qt.cmp _ _=z at *;have h4:¬0 < z:=by omega
        (focus (refine wkad (w_10 e0 e3 hlm g1 g2 h3 h4 ei en ek) (w_3 c1 c2 c3) (w_1 (w_d 5 [(8,iv 0),(24,iv z)] [] [])) ?_;(repeat' first|exact w_t|apply w_l);all_goals intros));exact⟨i+1+1,⟨by omega,hny,by exact gW e0,by exact gS⟩,by omega⟩
       ·have hb:=hb (by rw [decide_eq_false h3,Bool.and_false]);subst hb;rw [h2] at c1;clear hnx h2 hn;subst h1;generalize Qt.cmp _ _=z at *;have h4:0 < z:=by omega
        (focus (refine wkad (w_9 e0 e3 hlm g1 g2 h4 ei en ek) (w_3 c1 c2 c3) (w_1 (w_d 5 [(8,iv 0),(24,iv z)] [] [])) ?_;(repeat' first|exact w_t|apply w_l);all_goals intros));all_goals exact gL
      ·have hz:Qt.cmp ⟨n1,n2,n3,n4⟩ ⟨y1,y2,y3,y4⟩≠0:=λh=>h2 (qtO.eqz _ _ h);have hb:=hb (by rw [h1,decide_eq_false λh=>h2 (congrArg Prod.fst h)];rfl);subst hb;clear hnx h2 hn c3;subst h1;generalize Qt.cmp ⟨n1,n2,n3,n4⟩ _=z at *;(focus (refine wkad (w_5 e0 e3 hlm g1 hz) (w_2 c1 c2) (w_1 (w_d 5 [(8,iv z)] [] [])) ?_;(repeat' first|exact w_t|apply w_l);all_goals intros));all_goals exact gL
     ·have hb:=hb (by rw [decide_eq_false λh=>h1 (congrArg Prod.snd h)];rfl);subst hb;clear hnx hn c2 c3;(focus (refine wkad (w_5 e0 e3 hlm g1 h1) (w_1 c1) w_t ?_;(repeat' first|exact w_t|apply w_l);all_goals intros));all_goals exact gL
  ·have hil:i=q.length:=by omega
   subst hil;have hb:=hgood hj;subst hb;clear hgood hbad hj hg;(focus (refine wkad (w_3 e0 e3 hlm) w_t w_t ?_;(repeat' first|exact w_t|apply w_l);all_goals intros));all_goals exact gL
 ·exact⟨Nat.zero_le _,λj h=>by omega,by exact gC,by exact gC⟩
theorem re_atD {l:List RE} {i:Nat} (h:i < l.length):(l.map RE.av).getD i .u=RE.av (l.getD i RE.zero):=by
 rw [List.getD_eq_getElem?_getD,List.getD_eq_getElem?_getD,List.getElem?_eq_getElem (by rw [List.length_map];exact h),List.getElem?_eq_getElem h,List.getElem_map];rfl
theorem Zl9 {l:List RE} {i:Nat} (h:i < l.length):l.getD i RE.zero∈l:=by
 rw [List.getD_eq_getElem?_getD,List.getElem?_eq_getElem h];exact List.getElem_mem h
theorem tOk_r {l:List RE} {i:Nat} (h:(l.getD i RE.zero).r.ok=false):Zdx l i=false:=by unfold Zdx;rw [h];rfl
theorem tOk_z {l:List RE} {i:Nat} (h:(l.getD i RE.zero).r.q=0):Zdx l i=false:=by unfold Zdx;rw [decide_eq_true h];simp
theorem tOk_p {l:List RE} {i:Nat} (h:Zhv (l.getD i RE.zero).q=false):Zdx l i=false:=by unfold Zdx;rw [h];simp
theorem tOk_o {l:List RE} {i:Nat} (h:¬ordQ (l.getD i RE.zero).q (l.getD (i+1) RE.zero).q < 0):Zdx l (i+1)=false:=by
 unfold Zdx;rw [show i+1 - 1=i from rfl,decide_eq_false h];simp
theorem Zt6 {l:List RE} {i:Nat} (h1:(l.getD i RE.zero).r.ok=true) (h2:(l.getD i RE.zero).r.q≠0) (h3:Zhv (l.getD i RE.zero).q=true) (h4:i=0∨ordQ (l.getD (i - 1) RE.zero).q (l.getD i RE.zero).q < 0):Zdx l i=true:=by
 unfold Zdx;rw [h1,h3,decide_eq_false h2];simpa using h4
theorem Zul (l:List RE) {J:Nat} (hl:l.length≤1000000) (hr:∀t∈l,t.r.lm J) (hq:∀t∈l,t.q.length≤1000000) (hJ:J≤100000):Pure Tryz.prog 25 [.sl 4 (l.map RE.av)] (.v (.bool (rgtB l))):=by
 have hlm:(l.map RE.av).length=l.length:=List.length_map ..;have hg:∀j,j < l.length→(l.map RE.av).getD j .u=RE.av (l.getD j RE.zero):=λj h=>re_atD h;have hr:∀j,j < l.length→(l.getD j RE.zero).r.lm J:=λj h=>hr _ (Zl9 h);have hq:∀j,j < l.length→(l.getD j RE.zero).q.length≤1000000:=λj h=>hq _ (Zl9 h);have hbad:∀i,i < l.length→Zdx l i=false→rgtB l=false:=λi h hp=>Zhr h hp;have hgood:(∀i,i < l.length→Zdx l i=true)→rgtB l=true:=Zee;generalize l.map RE.av=A at *;generalize hB:rgtB l=B at *;refine Zaa (tok:=0) Tryz.func25 rfl Tryz.ntmps25 Tryz.results25 Tryz.call25 (by rfl) (by simp) ?_
 (focus (refine wkad w_t w_t w_t ?_;(repeat' first|exact w_t|apply w_l);all_goals intros));refine Zad (ι:=Nat) (λi e _=>i≤l.length∧(∀j,j < i→Zdx l j=true)∧e 0=.sl 4 A∧e 3=iv i) (λi=>l.length - i) 0 (by rfl) ?_ ?_
 ·rintro i e m ⟨hi,hj,e0,e3⟩
  by_cases hlt:i < l.length
  ·have g1:=hg i hlt;have hri:=hr i hlt;have hqi:=hq i hlt;have hb:=hbad i hlt;have hnx:Zdx l i=true→∀j,j < i+1→Zdx l j=true:=λh j hji=>by
    by_cases e:j=i
    ·rw [e];exact h
    ·exact hj j (by omega)
   clear hgood hbad hj;have g1:A.getD i .u=.agg [.v (.bool (l.getD i RE.zero).r.s),lim (l.getD i RE.zero).r.l,lim (l.getD i RE.zero).r.d,.sl 4 ((l.getD i RE.zero).q.map Qt.av)]:=g1;have crq:=Zu7 (l.getD i RE.zero).r.s (l.getD i RE.zero).r.l (l.getD i RE.zero).r.d hri.1 hri.2.1 (by have:=hri.2.2.1;omega) (by have:=hri.2.2.2;omega)
   cases hro:(l.getD i RE.zero).r.ok with
   | false =>
     have crq:Pure Tryz.prog 67 [.agg [.v (.bool (l.getD i RE.zero).r.s),lim (l.getD i RE.zero).r.l,lim (l.getD i RE.zero).r.d]] (.v (.bool (l.getD i RE.zero).r.ok)):=crq;rw [hro] at crq;have hb:=hb (tOk_r hro);subst hb;clear hnx hg hr hq hro hri hqi;generalize l.getD i RE.zero=t at *;obtain⟨⟨s,x,d⟩,q⟩:=t;simp only at *;generalize q.map Qt.av=Q at *;(focus (refine wkad (w_4 e0 e3 hlm g1) (w_1 crq) (w_1 (w_d 4 [(5,.v (.bool false))] [] [])) ?_;(repeat' first|exact w_t|apply w_l);all_goals intros));all_goals exact gL
   | true =>
     have crq:Pure Tryz.prog 67 [.agg [.v (.bool (l.getD i RE.zero).r.s),lim (l.getD i RE.zero).r.l,lim (l.getD i RE.zero).r.d]] (.v (.bool (l.getD i RE.zero).r.ok)):=crq;rw [hro] at crq;have hz:=(RQ.ok_av hri hro).2;have cz:=Zu6 _ hz (by omega);have hre:=RQ.ok_eq hri hro;have cz:Pure Tryz.prog 66 [.agg [.v (.bool (decide ((l.getD i RE.zero).r.q.num < 0))),lim (toL (l.getD i RE.zero).r.q.num.natAbs),lim (toL (l.getD i RE.zero).r.q.den)]] (iv (l.getD i RE.zero).r.q.num.sign):=cz;have e1:(l.getD i RE.zero).r.s=decide ((l.getD i RE.zero).r.q.num < 0):=congrArg RQ.s hre;have e2:(l.getD i RE.zero).r.l=toL (l.getD i RE.zero).r.q.num.natAbs:=congrArg RQ.l hre
     have e4:(l.getD i RE.zero).r.d=toL (l.getD i RE.zero).r.q.den:=congrArg RQ.d hre;rw [←e1,←e2,←e4] at cz;clear e1 e2 e4 hre hz;have cp:=rxProd (l.getD i RE.zero).q hqi;have cp:Pure Tryz.prog 81 [.sl 4 ((l.getD i RE.zero).q.map Qt.av)] (.v (.bool (Zhv (l.getD i RE.zero).q))):=cp;by_cases hx:(l.getD i RE.zero).r.q=0
     ·have hz2:(l.getD i RE.zero).r.q.num.sign=0:=by rw [Zc8];exact hx
      rw [hz2] at cz;have hb:=hb (tOk_z hx);subst hb;clear hnx hg hr hq hro hri hqi hx hz2 cp;generalize l.getD i RE.zero=t at *;obtain⟨⟨s,x,d⟩,q⟩:=t;simp only at *;generalize q.map Qt.av=Q at *;(focus (refine wkad (w_4 e0 e3 hlm g1) (w_2 crq cz) (w_1 (w_d 4 [(5,.v (.bool true)),(13,iv 0)] [] [])) ?_;(repeat' first|exact w_t|apply w_l);all_goals intros));all_goals exact gL
     ·have hz2:¬(l.getD i RE.zero).r.q.num.sign=0:=by rw [Zc8];exact hx
      cases hpb:Zhv (l.getD i RE.zero).q with
      | false =>
        rw [hpb] at cp;have hb:=hb (tOk_p hpb);subst hb;clear hnx hg hr hq hro hri hqi hx hpb;generalize (l.getD i RE.zero).r.q.num.sign=z at *;generalize l.getD i RE.zero=t at *;obtain⟨⟨s,x,d⟩,q⟩:=t;simp only at *;generalize q.map Qt.av=Q at *;(focus (refine wkad (w_5 e0 e3 hlm g1 hz2) (w_3 crq cz cp) (w_1 (w_d 4 [(5,.v (.bool true)),(13,iv z),(22,.v (.bool false))] [] [])) ?_;(repeat' first|exact w_t|apply w_l);all_goals intros));all_goals exact gL
      | true =>
        rw [hpb] at cp
        cases i with
        | zero =>
          have hnx:=hnx (Zt6 hro hx hpb (.inl rfl));clear hb hg hr hq hro hri hqi hx hpb;generalize (l.getD 0 RE.zero).r.q.num.sign=z at *;generalize l.getD 0 RE.zero=t at *;obtain⟨⟨s,x,d⟩,q⟩:=t;simp only at *;generalize q.map Qt.av=Q at *;(focus (refine wkad (w_5 e0 e3 hlm g1 hz2) (w_3 crq cz cp) (w_1 (w_d 4 [(5,.v (.bool true)),(13,iv z),(22,.v (.bool true))] [] [])) ?_;(repeat' first|exact w_t|apply w_l);all_goals intros));exact⟨1,⟨by omega,hnx,by exact gW e0,by exact gC⟩,by omega⟩
        | succ i =>
          have g2:=hg i (by omega);have g2:A.getD i .u=.agg [.v (.bool (l.getD i RE.zero).r.s),lim (l.getD i RE.zero).r.l,lim (l.getD i RE.zero).r.d,.sl 4 ((l.getD i RE.zero).q.map Qt.av)]:=g2;have co:=Zl2 (l.getD i RE.zero).q (l.getD (i+1) RE.zero).q (hq i (by omega)) hqi;have co:Pure Tryz.prog 68 [.sl 4 ((l.getD i RE.zero).q.map Qt.av),.sl 4 ((l.getD (i+1) RE.zero).q.map Qt.av)] (iv (ordQ (l.getD i RE.zero).q (l.getD (i+1) RE.zero).q)):=co;have en:((i+1:Nat):Int) - 1=(i:Int):=by omega
          by_cases ho:ordQ (l.getD i RE.zero).q (l.getD (i+1) RE.zero).q < 0
          ·have hnx:=hnx (Zt6 hro hx hpb (.inr ho));clear hb hg hr hq hro hri hqi hx hpb;have ho2:¬0≤ordQ (l.getD i RE.zero).q (l.getD (i+1) RE.zero).q:=by omega
           generalize (l.getD (i+1) RE.zero).r.q.num.sign=z at *;generalize ordQ (l.getD i RE.zero).q (l.getD (i+1) RE.zero).q=w at *;generalize l.getD (i+1) RE.zero=t at *;generalize l.getD i RE.zero=u at *;obtain⟨⟨s,x,d⟩,q⟩:=t;obtain⟨⟨s',x',d'⟩,q'⟩:=u;simp only at *;generalize q.map Qt.av=Q at *;generalize q'.map Qt.av=Q' at *;(focus (refine wkad (w_9 e0 e3 hlm g1 g2 hz2 ho ho2 en) (w_4 crq cz cp co) (w_1 (w_d 4 [(5,.v (.bool true)),(13,iv z),(22,.v (.bool true)),(40,iv w)] [] [])) ?_;(repeat' first|exact w_t|apply w_l);all_goals intros));exact⟨i+1+1,⟨by omega,hnx,by exact gW e0,by exact gS⟩,by omega⟩
          ·have hb:=hb (tOk_o ho);subst hb;clear hnx hg hr hq hro hri hqi hx hpb;have ho2:0≤ordQ (l.getD i RE.zero).q (l.getD (i+1) RE.zero).q:=by omega
           generalize (l.getD (i+1) RE.zero).r.q.num.sign=z at *;generalize ordQ (l.getD i RE.zero).q (l.getD (i+1) RE.zero).q=w at *;generalize l.getD (i+1) RE.zero=t at *;generalize l.getD i RE.zero=u at *;obtain⟨⟨s,x,d⟩,q⟩:=t;obtain⟨⟨s',x',d'⟩,q'⟩:=u;simp only at *;generalize q.map Qt.av=Q at *;generalize q'.map Qt.av=Q' at *;(focus (refine wkad (w_9 e0 e3 hlm g1 g2 hz2 ho ho2 en) (w_4 crq cz cp co) (w_1 (w_d 4 [(5,.v (.bool true)),(13,iv z),(22,.v (.bool true)),(40,iv w)] [] [])) ?_;(repeat' first|exact w_t|apply w_l);all_goals intros));all_goals exact gL
  ·have hil:i=l.length:=by omega
   subst hil;have hb:=hgood hj;subst hb;clear hgood hbad hj hg hr hq;(focus (refine wkad (w_3 e0 e3 hlm) w_t w_t ?_;(repeat' first|exact w_t|apply w_l);all_goals intros));all_goals exact gL
 ·exact⟨Nat.zero_le _,λj h=>by omega,by exact gC,by exact gC⟩
theorem qOk_s {q:List Qt} {i:Nat} (h:(q.getD i Qt.zero).norm.2≠1):Zd1 q i=false:=by
 unfold Zd1;rw [decide_eq_false λe=>h (congrArg Prod.snd e)];rfl
theorem qOk_n {q:List Qt} {i:Nat} (h:(q.getD i Qt.zero).norm.1≠q.getD i Qt.zero):Zd1 q i=false:=by
 unfold Zd1;rw [decide_eq_false λe=>h (congrArg Prod.fst e)];rfl
theorem qOk_o {q:List Qt} {i:Nat} (h:¬Qt.cmp (q.getD i Qt.zero) (q.getD (i+1) Qt.zero)≤0):Zd1 q (i+1)=false:=by
 unfold Zd1;rw [show i+1 - 1=i from rfl,decide_eq_false h];simp
theorem qOk_y {q:List Qt} {i:Nat} (h1:(q.getD i Qt.zero).norm.1=q.getD i Qt.zero) (h2:(q.getD i Qt.zero).norm.2=1) (h4:i=0∨Qt.cmp (q.getD (i - 1) Qt.zero) (q.getD i Qt.zero)≤0):Zd1 q i=true:=by
 unfold Zd1;rw [decide_eq_true (show(q.getD i Qt.zero).norm=(q.getD i Qt.zero,1) from Prod.ext h1 h2)];simpa using h4
theorem Zwg (l:List RE) {J:Nat} (hl:l.length≤1000000) (hr:∀t∈l,t.r.lm J) (hq:∀t∈l,t.q.length≤1000000) (hJ:J≤100000):Pure Tryz.prog 24 [.sl 4 (l.map RE.av)] (.v (.bool (rgtB l))):=by
 have hlm:(l.map RE.av).length=l.length:=List.length_map ..;have hg:∀j,j < l.length→(l.map RE.av).getD j .u=RE.av (l.getD j RE.zero):=λj h=>re_atD h;have hr:∀j,j < l.length→(l.getD j RE.zero).r.lm J:=λj h=>hr _ (Zl9 h);have hq:∀j,j < l.length→(l.getD j RE.zero).q.length≤1000000:=λj h=>hq _ (Zl9 h);have hbad:∀i,i < l.length→Zdx l i=false→rgtB l=false:=λi h hp=>Zhr h hp;have hgood:(∀i,i < l.length→Zdx l i=true)→rgtB l=true:=Zee;generalize l.map RE.av=A at *;generalize hB:rgtB l=B at *;refine Zaa (tok:=0) Tryz.func24 rfl Tryz.ntmps24 Tryz.results24 Tryz.call24 (by rfl) (by simp) ?_
 (focus (refine wkad (w_1 hlm) w_t w_t ?_;(repeat' first|exact w_t|apply w_l);all_goals intros));refine Zad (ι:=Nat) (λi e _=>i≤l.length∧(∀j,j < i→Zdx l j=true)∧e 0=.sl 4 A∧e 9=.sl 4 A∧e 10=iv l.length∧e 11=iv i) (λi=>l.length - i) 0 (by rfl) ?_ ?_
 ·rintro i e m ⟨hi,hj,e0,e9,e10,e11⟩
  by_cases hlt:i < l.length
  ·have g1:=hg i hlt;have hri:=hr i hlt;have hqi:=hq i hlt;have hb:=hbad i hlt;have hnx:Zdx l i=true→∀j,j < i+1→Zdx l j=true:=λh j hji=>by
    by_cases e:j=i
    ·rw [e];exact h
    ·exact hj j (by omega)
   clear hgood hbad hj;have g1:A.getD i .u=.agg [.v (.bool (l.getD i RE.zero).r.s),lim (l.getD i RE.zero).r.l,lim (l.getD i RE.zero).r.d,.sl 4 ((l.getD i RE.zero).q.map Qt.av)]:=g1;have crq:=Zuo (l.getD i RE.zero).r ⟨hri.1,hri.2.1,by have:=hri.2.2.1;omega,by have:=hri.2.2.2;omega⟩;have crq:Pure Tryz.prog 70 [.agg [.v (.bool (l.getD i RE.zero).r.s),lim (l.getD i RE.zero).r.l,lim (l.getD i RE.zero).r.d]] (.v (.bool (l.getD i RE.zero).r.ok)):=crq
   cases hro:(l.getD i RE.zero).r.ok with
   | false =>
     rw [hro] at crq;have hb:=hb (tOk_r hro);subst hb;clear hnx hg hr hq hro hri hqi;generalize l.getD i RE.zero=t at *;obtain⟨⟨s,x,d⟩,q⟩:=t;simp only at *;generalize q.map Qt.av=Q at *;(focus (refine wkad (w_6 e0 e9 e10 e11 hlm g1) (w_1 crq) w_t ?_;(repeat' first|exact w_t|apply w_l);all_goals intros));all_goals exact gL
   | true =>
     rw [hro] at crq;have hz:=(RQ.ok_av hri hro).2;have cz:=Zd0 _ hz (by omega);have hre:=RQ.ok_eq hri hro;have cz:Pure Tryz.prog 40 [.agg [.v (.bool (decide ((l.getD i RE.zero).r.q.num < 0))),lim (toL (l.getD i RE.zero).r.q.num.natAbs),lim (toL (l.getD i RE.zero).r.q.den)]] (iv (l.getD i RE.zero).r.q.num.sign):=cz;have e1:(l.getD i RE.zero).r.s=decide ((l.getD i RE.zero).r.q.num < 0):=congrArg RQ.s hre;have e2:(l.getD i RE.zero).r.l=toL (l.getD i RE.zero).r.q.num.natAbs:=congrArg RQ.l hre;have e4:(l.getD i RE.zero).r.d=toL (l.getD i RE.zero).r.q.den:=congrArg RQ.d hre;rw [←e1,←e2,←e4] at cz
     clear e1 e2 e4 hre hz;by_cases hx:(l.getD i RE.zero).r.q=0
     ·have hz2:(l.getD i RE.zero).r.q.num.sign=0:=by rw [Zc8];exact hx
      rw [hz2] at cz;have hb:=hb (tOk_z hx);subst hb;clear hnx hg hr hq hro hri hqi hx hz2;generalize l.getD i RE.zero=t at *;obtain⟨⟨s,x,d⟩,q⟩:=t;simp only at *;generalize q.map Qt.av=Q at *;(focus (refine wkad (w_6 e0 e9 e10 e11 hlm g1) (w_2 crq cz) w_t ?_;(repeat' first|exact w_t|apply w_l);all_goals intros));all_goals exact gL
     ·have hz2:¬(l.getD i RE.zero).r.q.num.sign=0:=by rw [Zc8];exact hx
      have hlq:((l.getD i RE.zero).q.map Qt.av).length=(l.getD i RE.zero).q.length:=List.length_map ..;have hgq:∀j,j < (l.getD i RE.zero).q.length→((l.getD i RE.zero).q.map Qt.av).getD j .u=Qt.av ((l.getD i RE.zero).q.getD j Qt.zero):=λj h=>qt_atD h;have hpb:∀k,k < (l.getD i RE.zero).q.length→Zd1 (l.getD i RE.zero).q k=false→B=false:=λk h hp=>hb (tOk_p (Zhr h hp));have hpg:(∀k,k < (l.getD i RE.zero).q.length→Zd1 (l.getD i RE.zero).q k=true)→Zhv (l.getD i RE.zero).q=true:=Zee;have hz3:∀h:i=0,Zhv (l.getD i RE.zero).q=true→∀j,j < i+1→Zdx l j=true:=λh hp=>hnx (Zt6 hro hx hp (.inl h))
      have hs1:∀k,i=k+1→ordQ (l.getD k RE.zero).q (l.getD i RE.zero).q < 0→Zhv (l.getD i RE.zero).q=true→∀j,j < i+1→Zdx l j=true:=λk h ho hp=>hnx (Zt6 hro hx hp (.inr (by rw [h];rw [h] at ho;exact ho)));have hs2:∀k,i=k+1→¬ordQ (l.getD k RE.zero).q (l.getD i RE.zero).q < 0→B=false:=λk h ho=>hb (by rw [h];rw [h] at ho;exact tOk_o ho);have hqp:∀k,i=k+1→(l.getD k RE.zero).q.length≤1000000:=λk h=>hq k (by omega);have hgp:∀k,i=k+1→A.getD k .u=.agg [.v (.bool (l.getD k RE.zero).r.s),lim (l.getD k RE.zero).r.l,lim (l.getD k RE.zero).r.d,.sl 4 ((l.getD k RE.zero).q.map Qt.av)]:=λk h=>hg k (by omega)
      clear hb hnx hr hq hro hri hx hg;generalize (l.getD i RE.zero).r.q.num.sign=z at *;generalize l.getD i RE.zero=t at *;obtain⟨⟨s,x,d⟩,q⟩:=t;simp only at *;generalize hQ:q.map Qt.av=Q at *;(focus (refine wkad (w_8 e0 e9 e10 e11 hlm g1 hz2 hlq) (w_2 crq cz) w_t ?_;(repeat' first|exact w_t|apply w_l);all_goals intros));rename_i g4;clear crq cz g1 hz2;refine Zad (ι:=Nat) (λk e m=>k≤q.length∧(∀j,j < k→Zd1 q j=true)∧(e 0=.sl 4 A∧e 9=.sl 4 A∧e 10=iv l.length∧e 11=iv i∧e 3=iv i)∧(e 27=.sl 4 Q∧e 28=iv q.length∧e 29=iv k)∧e 4=.pbox 4 g4 0∧m 4=some (.box g4 49 [.v (.bool s),lim x,lim d,.sl 4 Q] false)) (λk=>q.length - k) 0 (by rfl) ?_ ?_
      ·rintro k e m ⟨hk,hkj,⟨e0,e9,e10,e11,e3⟩,⟨e27,e28,e29⟩,e4,m4⟩
       by_cases hkt:k < q.length
       ·have gk:=hgq k hkt;have hb:=hpb k hkt;have hnk:Zd1 q k=true→∀j,j < k+1→Zd1 q j=true:=λh j hji=>by
         by_cases e:j=k
         ·rw [e];exact h
         ·exact hkj j (by omega)
        have c1:=Zu4 (q.getD k Qt.zero).k (q.getD k Qt.zero).a (q.getD k Qt.zero).b (q.getD k Qt.zero).c;have c1:Pure Tryz.prog 56 [Qt.av (q.getD k Qt.zero)] (.tup [(Qt.norm (q.getD k Qt.zero)).1.av,iv (Qt.norm (q.getD k Qt.zero)).2]):=c1;clear hpb hpg hz3 hs1 hs2 hgp hkj hqp;by_cases hn:(q.getD k Qt.zero).norm.1=q.getD k Qt.zero
        ·rw [hn] at c1;by_cases hs:(q.getD k Qt.zero).norm.2=1
         ·rw [hs] at c1
          cases k with
          | zero =>
            have hnk:=hnk (qOk_y hn hs (.inl rfl));clear hn hs hb hgq;generalize q.getD 0 Qt.zero=y at *;obtain⟨y1,y2,y3,y4⟩:=y;simp only at *;(focus (refine wkad (w_12 e0 e9 e10 e11 e3 e27 e28 e29 e4 m4 hlq gk) (w_1 c1) w_t ?_;(repeat' first|exact w_t|apply w_l);all_goals intros));exact⟨1,⟨by omega,hnk,⟨by exact gW e0,by exact gW e9,by exact gW e10,by exact gW e11,by exact gW e3⟩,⟨by exact gW e27,by exact gW e28,by exact gC⟩,by exact gW e4,by exact gW m4⟩,by omega⟩
          | succ k =>
            have gp:=hgq k (by omega);have c3:=quCmp (q.getD k Qt.zero).k (q.getD k Qt.zero).a (q.getD k Qt.zero).b (q.getD k Qt.zero).c (q.getD (k+1) Qt.zero).k (q.getD (k+1) Qt.zero).a (q.getD (k+1) Qt.zero).b (q.getD (k+1) Qt.zero).c;have c3:Pure Tryz.prog 73 [Qt.av (q.getD k Qt.zero),Qt.av (q.getD (k+1) Qt.zero)] (iv (Qt.cmp (q.getD k Qt.zero) (q.getD (k+1) Qt.zero))):=c3;have en:((k+1:Nat):Int) - 1=(k:Int):=by omega
            by_cases ho:Qt.cmp (q.getD k Qt.zero) (q.getD (k+1) Qt.zero)≤0
            ·have hnk:=hnk (qOk_y hn hs (.inr ho));have ho2:¬0 < Qt.cmp (q.getD k Qt.zero) (q.getD (k+1) Qt.zero):=by omega
             clear hn hs hb hgq;generalize Qt.cmp (q.getD k Qt.zero) (q.getD (k+1) Qt.zero)=w at *;generalize q.getD (k+1) Qt.zero=y at *;generalize q.getD k Qt.zero=y' at *;obtain⟨y1,y2,y3,y4⟩:=y;obtain⟨x1,x2,x3,x4⟩:=y';simp only at *;(focus (refine wkad (w_16 e0 e9 e10 e11 e3 e27 e28 e29 e4 m4 hlq gk gp ho ho2 en) (w_2 c1 c3) (w_1 (w_d 10 [(18,iv w)] [] [])) ?_;(repeat' first|exact w_t|apply w_l);all_goals intros));exact⟨k+1+1,⟨by omega,hnk,⟨by exact gW e0,by exact gW e9,by exact gW e10,by exact gW e11,by exact gW e3⟩,⟨by exact gW e27,by exact gW e28,by exact gS⟩,by exact gW e4,by exact gW m4⟩,by omega⟩
            ·have hb:=hb (qOk_o ho);subst hb;have ho2:0 < Qt.cmp (q.getD k Qt.zero) (q.getD (k+1) Qt.zero):=by omega
             clear hn hs hnk hgq;generalize Qt.cmp (q.getD k Qt.zero) (q.getD (k+1) Qt.zero)=w at *;generalize q.getD (k+1) Qt.zero=y at *;generalize q.getD k Qt.zero=y' at *;obtain⟨y1,y2,y3,y4⟩:=y;obtain⟨x1,x2,x3,x4⟩:=y';simp only at *;(focus (refine wkad (w_16 e0 e9 e10 e11 e3 e27 e28 e29 e4 m4 hlq gk gp ho ho2 en) (w_2 c1 c3) (w_1 (w_d 10 [(18,iv w)] [] [])) ?_;(repeat' first|exact w_t|apply w_l);all_goals intros));all_goals exact gL
         ·have hb:=hb (qOk_s hs);subst hb;clear hn hnk hgq;generalize (q.getD k Qt.zero).norm.2=ns at *;generalize q.getD k Qt.zero=y at *;obtain⟨y1,y2,y3,y4⟩:=y;simp only at *;(focus (refine wkad (w_13 e0 e9 e10 e11 e3 e27 e28 e29 e4 m4 hlq gk hs) (w_1 c1) (w_1 (w_d 10 [(18,iv 0)] [] [])) ?_;(repeat' first|exact w_t|apply w_l);all_goals intros));all_goals exact gL
        ·have hb:=hb (qOk_n hn);subst hb;clear hnk hgq;generalize (q.getD k Qt.zero).norm.2=ns at *;generalize (q.getD k Qt.zero).norm.1=nn at *;generalize q.getD k Qt.zero=y at *;obtain⟨y1,y2,y3,y4⟩:=y;obtain⟨n1,n2,n3,n4⟩:=nn
         have hn:(n1 == y1 && (n2 == y2 && (n3 == y3 && n4 == y4)))=false:=by
          rw [Bool.eq_false_iff];intro h;simp only [Bool.and_eq_true,beq_iff_eq] at h;exact hn (by obtain⟨h1,h2,h3,h4⟩:=h;rw [h1,h2,h3,h4])
         try simp only at *
         (focus (refine wkad (w_13 e0 e9 e10 e11 e3 e27 e28 e29 e4 m4 hlq gk hn) (w_1 c1) (w_1 (w_d 10 [(18,iv 0)] [] [])) ?_;(repeat' first|exact w_t|apply w_l);all_goals intros));all_goals exact gL
       ·have hkl:k=q.length:=by omega
        subst hkl;have hp:=hpg hkj;clear hpb hpg hgq hkj
        cases i with
        | zero =>
          have hnx:=hz3 rfl hp;clear hz3 hs1 hs2 hgp hqp;(focus (refine wkad (w_12 e0 e9 e10 e11 e3 e27 e28 e29 e4 m4 hlq hlm) w_t (w_1 (w_d 13 [(11,iv 0)] [] [])) ?_;(repeat' first|exact w_t|apply w_l);all_goals intros));exact⟨1,⟨by omega,hnx,by exact gW e0,by exact gW e9,by exact gW e10,by exact gC⟩,by omega⟩
        | succ i =>
          have g2:=hgp i rfl;have hq2:=hqp i rfl;have co:=Zwj (l.getD i RE.zero).q q hq2 hqi;have co:Pure Tryz.prog 80 [.sl 4 ((l.getD i RE.zero).q.map Qt.av),.sl 4 (q.map Qt.av)] (iv (ordQ (l.getD i RE.zero).q q)):=co;rw [hQ] at co;have en:((i+1:Nat):Int) - 1=(i:Int):=by omega
          by_cases ho:ordQ (l.getD i RE.zero).q q < 0
          ·have hnx:=hs1 i rfl ho hp;clear hz3 hs1 hs2 hgp hqp hq2;have ho2:¬0≤ordQ (l.getD i RE.zero).q q:=by omega
           generalize ordQ (l.getD i RE.zero).q q=w at *;generalize l.getD i RE.zero=u at *;obtain⟨⟨s',x',d'⟩,q'⟩:=u;simp only at *;generalize q'.map Qt.av=Q' at *;(focus (refine wkad (w_16 e0 e9 e10 e11 e3 e27 e28 e29 e4 m4 hlq hlm g2 ho ho2 en) (w_1 co) (w_1 (w_d 13 [(11,iv w)] [] [])) ?_;(repeat' first|exact w_t|apply w_l);all_goals intros));exact⟨i+1+1,⟨by omega,hnx,by exact gW e0,by exact gW e9,by exact gW e10,by exact gS⟩,by omega⟩
          ·have hb:=hs2 i rfl ho;subst hb;clear hz3 hs1 hs2 hgp hqp hq2;have ho2:0≤ordQ (l.getD i RE.zero).q q:=by omega
           generalize ordQ (l.getD i RE.zero).q q=w at *;generalize l.getD i RE.zero=u at *;obtain⟨⟨s',x',d'⟩,q'⟩:=u;simp only at *;generalize q'.map Qt.av=Q' at *;(focus (refine wkad (w_16 e0 e9 e10 e11 e3 e27 e28 e29 e4 m4 hlq hlm g2 ho ho2 en) (w_1 co) (w_1 (w_d 13 [(11,iv w)] [] [])) ?_;(repeat' first|exact w_t|apply w_l);all_goals intros));all_goals exact gL
      ·exact⟨Nat.zero_le _,λj h=>by omega,⟨by exact gW e0,by exact gW e9,by exact gW e10,by exact gW e11,by exact gC⟩,⟨by exact gC,by exact gW hlq,by exact gC⟩,by exact gC,by exact gC⟩
  ·have hil:i=l.length:=by omega
   subst hil;have hb:=hgood hj;subst hb;clear hgood hbad hj hg hr hq;(focus (refine wkad (w_5 e0 e9 e10 e11 hlm) w_t w_t ?_;(repeat' first|exact w_t|apply w_l);all_goals intros));all_goals exact gL
 ·exact⟨Nat.zero_le _,λj h=>by omega,by exact gC,by exact gC,by exact gW hlm,by exact gC⟩
attribute [local go_sem] Tryz.underlying92 Tryz.underlying27 szFr byFr zFr Zib Zii zSQP Tryz.underlying36 Tryz.underlying33 Tryz.underlying9 Zcx zStr
theorem Zi6 (p:QTs) {j n:Nat} (h:QK p j n) (hl:p.length≤1000000) (hj:j≤1000000) (hn:n≤1000000):Pure Tryz.prog 21 [qpA p,qpA p] (.v (.bool true)):=by
 have hpl:(p.map qtA).length=p.length:=List.length_map ..;have hq:∀i (h:i < p.length),(p.map qtA).getD i .u=.agg [.v (.bool (decide (p[i].1.num < 0))),lim (toL p[i].1.num.natAbs),lim (toL p[i].1.den),.sl 4 (p[i].2.map Qt.av)]:=λi h=>Zar qtA h;have ce:∀i (h:i < p.length),Pure Tryz.prog 33 [.agg [.v (.bool (decide (p[i].1.num < 0))),lim (toL p[i].1.num.natAbs),lim (toL p[i].1.den)],.agg [.v (.bool (decide (p[i].1.num < 0))),lim (toL p[i].1.num.natAbs),lim (toL p[i].1.den)]] (.v (.bool true)):=λi hi=>by
  have c:=Zn2 p[i].1 p[i].1 (h _ (List.getElem_mem hi)).1 (h _ (List.getElem_mem hi)).1 hj hj;rw [decide_eq_true rfl] at c;exact c
 have co:∀i (h:i < p.length),Pure Tryz.prog 68 [.sl 4 (p[i].2.map Qt.av),.sl 4 (p[i].2.map Qt.av)] (iv 0):=λi hi=>by
  have hn:=(h _ (List.getElem_mem hi)).2;have c:=Zl2 p[i].2 p[i].2 (by omega) (by omega);rw [Zbk.refl] at c;exact c
 show Pure _ _ [.sl 4 (p.map qtA),.sl 4 (p.map qtA)] _;clear h;generalize p.map qtA=P at *;refine Zaa (tok:=0) Tryz.func21 rfl Tryz.ntmps21 Tryz.results21 Tryz.call21 (by rfl) (by simp) ?_;(focus (refine wkad (w_1 hpl) w_t w_t ?_;(repeat' first|exact w_t|apply w_l);all_goals intros));refine Zad (ι:=Nat) (λi e m=>i≤p.length∧e 0=.sl 4 P∧e 1=.sl 4 P∧e 5=iv i) (λi=>p.length - i) 0 (by rfl) ?_ ?_
 ·rintro i e m ⟨hi,e0,e1,e5⟩
  by_cases hlt:i < p.length
  ·have hqi:=hq i hlt;have cei:=ce i hlt;have coi:=co i hlt;clear hq ce co;generalize p[i].2.map Qt.av=qs at *;generalize decide (p[i].1.num < 0)=ng at *;generalize toL p[i].1.num.natAbs=An at *;generalize toL p[i].1.den=Ad at *;(focus (refine wkad (w_5 e0 e1 e5 hpl hqi) (w_2 cei coi) (w_1 (w_d 6 [(10,.v (.bool true)),(23,iv 0)] [] [])) ?_;(repeat' first|exact w_t|apply w_l);all_goals intros));exact⟨i+1,⟨by omega,by exact gW e0,by exact gW e1,by exact gS⟩,by omega⟩
  ·(focus (refine wkad (w_4 e0 e1 e5 hpl) w_t w_t ?_;(repeat' first|exact w_t|apply w_l);all_goals intros));all_goals exact gL
 ·exact⟨Nat.zero_le _,by exact gC,by exact gC,by exact gC⟩
def nrmT (l:List RE):QTs:=if l.all RE.ok=true then gatM (l.map RE.t) else []
def REsm (t:RE):Bool:=decide (t.q.length≤6) && (decide (t.r.l.length≤2) && decide (t.r.d.length≤2))
theorem slEqQ (V vs:List Qt) (hl:V.length≤100000) (hl2:vs.length≤100000):Pure Tryz.prog 101 [.sl 4 (V.map Qt.av),.sl 4 (vs.map Qt.av)] (.v (.bool (decide (V=vs)))):=by
 have hlm:(V.map Qt.av).length=V.length:=List.length_map ..;have hlm2:(vs.map Qt.av).length=vs.length:=List.length_map ..;have hg:∀i (h:i < V.length),(V.map Qt.av).getD i .u=Qt.av V[i]:=λi h=>Zar Qt.av h;have hg2:∀i (h:i < vs.length),(vs.map Qt.av).getD i .u=Qt.av vs[i]:=λi h=>Zar Qt.av h;by_cases hll:V.length=vs.length
 ·generalize V.map Qt.av=A at *;generalize vs.map Qt.av=B at *;refine Zaa (tok:=0) Tryz.func101 rfl Tryz.ntmps101 Tryz.results101 Tryz.call101 (by rfl) (by simp) ?_;(focus (refine wkad (w_2 hlm hlm2) w_t w_t ?_;(repeat' first|exact w_t|apply w_l);all_goals intros));refine Zad (ι:=Nat) (λi e m=>i≤V.length∧e 0=.sl 4 A∧e 1=.sl 4 B∧e 12=iv V.length∧e 13=iv i∧V.take i=vs.take i) (λi=>V.length - i) 0 (by rfl) ?_ ?_
  ·rintro i e m ⟨hi,e0,e1,e12,e13,ht⟩
   by_cases hlt:i < V.length
   ·have hgi:=hg i hlt;have hgi2:=hg2 i (by omega);by_cases hv:V[i]=vs[i]
    ·have ht2:V.take (i+1)=vs.take (i+1):=by rw [List.take_succ_eq_append_getElem hlt,List.take_succ_eq_append_getElem (by omega),ht,hv]
     rw [hv] at hgi;generalize vs[i]=v at *;obtain⟨v1,v2,v3,v4⟩:=v;(focus (refine wkad (w_8 e0 e1 e12 e13 hlm hlm2 hgi hgi2) w_t w_t ?_;(repeat' first|exact w_t|apply w_l);all_goals intros));all_goals exact⟨i+1,⟨by omega,by exact gW e0,by exact gW e1,by exact gW e12,by exact gS,ht2⟩,by omega⟩
    ·rw [decide_eq_false (λh=>hv (by subst h;rfl))];generalize V[i]=v at *;generalize vs[i]=w at *;obtain⟨v1,v2,v3,v4⟩:=v;obtain⟨w1,w2,w3,w4⟩:=w;have hv3:¬(v1=w1∧v2=w2∧v3=w3∧v4=w4):=λh=>hv (by obtain⟨rfl,rfl,rfl,rfl⟩:=h;rfl);(focus (refine wkad (w_8 e0 e1 e12 e13 hlm hlm2 hgi hgi2) w_t w_t ?_;(repeat' first|exact w_t|apply w_l);all_goals intros));all_goals exact gL
   ·rw [decide_eq_true (by rw [←List.take_of_length_le (show V.length≤i by omega),ht,List.take_of_length_le (by omega)])];(focus (refine wkld (w_6 e0 e1 e12 e13 hlm hlm2) w_t w_t w_t ?_;(repeat' first|exact w_t|apply w_l);all_goals intros))
  ·exact⟨Nat.zero_le _,by exact gC,by exact gC,by exact gW hlm,by exact gC,rfl⟩
 ·rw [decide_eq_false (λh=>hll (by rw [h]))];generalize V.map Qt.av=A at *;generalize vs.map Qt.av=B at *;refine Zaa (tok:=0) Tryz.func101 rfl Tryz.ntmps101 Tryz.results101 Tryz.call101 (by rfl) (by simp) ?_;(focus (refine wkld (w_3 hlm hlm2 hll) w_t w_t w_t ?_;(repeat' first|exact w_t|apply w_l);all_goals intros))
theorem exEqT (s t:Rat × List Qt) {j k:Nat} (hs:Sz s.1 j) (ht:Sz t.1 k) (hj:j≤1000000) (hk:k≤1000000) (hl:s.2.length≤100000) (hm:t.2.length≤100000) :
 Pure Tryz.prog 100 [.agg [.v (.bool (decide (s.1.num < 0))),lim (toL s.1.num.natAbs),lim (toL s.1.den),.sl 4 (s.2.map Qt.av)],.agg [.v (.bool (decide (t.1.num < 0))),lim (toL t.1.num.natAbs),lim (toL t.1.den),.sl 4 (t.2.map Qt.av)]] (.v (.bool (decide (s=t)))):=by
 have c1:=Zrc s.1 t.1 hs ht hj hk;have c2:=slEqQ s.2 t.2 hl hm;have hd:decide (s=t)=(decide (s.1=t.1) && decide (s.2=t.2)):=by rw [←Bool.decide_and,decide_eq_decide];exact⟨λh=>by subst h;exact⟨rfl,rfl⟩,λh=>Prod.ext h.1 h.2⟩
 rw [hd];have c1:Pure Tryz.prog 36 [.agg [.v (.bool (decide (s.1.num < 0))),lim (toL s.1.num.natAbs),lim (toL s.1.den)],.agg [.v (.bool (decide (t.1.num < 0))),lim (toL t.1.num.natAbs),lim (toL t.1.den)]] (.v (.bool (decide (s.1=t.1)))):=c1;generalize decide (s.1=t.1)=x at *;generalize decide (s.2=t.2)=y at *;generalize s.2.map Qt.av=A at *;generalize t.2.map Qt.av=B at *;generalize decide (s.1.num < 0)=b1 at *;generalize decide (t.1.num < 0)=b2 at *;generalize toL s.1.num.natAbs=x1 at *;generalize toL t.1.num.natAbs=x2 at *;generalize toL s.1.den=y1 at *;generalize toL t.1.den=y2 at *
 cases x with
 | true =>
   refine Zaa (tok:=0) Tryz.func100 rfl Tryz.ntmps100 Tryz.results100 Tryz.call100 (by rfl) (by simp) ?_;(focus (refine wkad w_t (w_2 c1 c2) w_t ?_;(repeat' first|exact w_t|apply w_l);all_goals intros));all_goals (all_goals (try simp (disch:=omega) only [go_sem,Bool.true_and,decide_eq_true,decide_eq_false,if_pos,if_neg,Int.reduceAdd,Int.reduceSub,Int.reduceToNat,Int.zero_add]));(all_goals first|done|rfl|(congr 2;first|done|omega|(rw [Bool.eq_iff_iff];simp only [bool_to_prop,Bool.false_eq_true,iff_true,true_iff,iff_false,false_iff];omega))|skip)
 | false =>
   refine Zaa (tok:=0) Tryz.func100 rfl Tryz.ntmps100 Tryz.results100 Tryz.call100 (by rfl) (by simp) ?_;(focus (refine wkad w_t (w_1 c1) w_t ?_;(repeat' first|exact w_t|apply w_l);all_goals intros));all_goals (all_goals (try simp (disch:=omega) only [go_sem,Bool.false_and,decide_eq_true,decide_eq_false,if_pos,if_neg,Int.reduceAdd,Int.reduceSub,Int.reduceToNat,Int.zero_add]));(all_goals first|done|rfl|(congr 2;first|done|omega|(rw [Bool.eq_iff_iff];simp only [bool_to_prop,Bool.false_eq_true,iff_true,true_iff,iff_false,false_iff];omega))|skip)
theorem slEqF (p q:QTs) {j k n:Nat} (hp:QK p j n) (hq:QK q k n) (hl:p.length≤1000000) (hl2:q.length≤1000000) (hj:j≤1000000) (hk:k≤1000000) (hn:n≤100000) :
 Pure Tryz.prog 99 [.sl 4 (p.map qtA),.sl 4 (q.map qtA),.fn 100 []] (.v (.bool (decide (p=q)))):=by
 have hlm:(p.map qtA).length=p.length:=List.length_map ..;have hlm2:(q.map qtA).length=q.length:=List.length_map ..;have hg:∀i (h:i < p.length),(p.map qtA).getD i .u=.agg [.v (.bool (decide (p[i].1.num < 0))),lim (toL p[i].1.num.natAbs),lim (toL p[i].1.den),.sl 4 (p[i].2.map Qt.av)]:=λi h=>Zar qtA h;have hg2:∀i (h:i < q.length),(q.map qtA).getD i .u=.agg [.v (.bool (decide (q[i].1.num < 0))),lim (toL q[i].1.num.natAbs),lim (toL q[i].1.den),.sl 4 (q[i].2.map Qt.av)]:=λi h=>Zar qtA h;have ce:∀i (h:i < p.length) (h2:i < q.length),Pure Tryz.prog 100 [.agg [.v (.bool (decide (p[i].1.num < 0))),lim (toL p[i].1.num.natAbs),lim (toL p[i].1.den),.sl 4 (p[i].2.map Qt.av)],.agg [.v (.bool (decide (q[i].1.num < 0))),lim (toL q[i].1.num.natAbs),lim (toL q[i].1.den),.sl 4 (q[i].2.map Qt.av)]] (.v (.bool (decide (p[i]=q[i])))):=λi h h2=>exEqT p[i] q[i] (hp _ (List.getElem_mem h)).1 (hq _ (List.getElem_mem h2)).1 hj hk (by have:=(hp _ (List.getElem_mem h)).2;omega) (by have:=(hq _ (List.getElem_mem h2)).2;omega)
 clear hp hq;by_cases hll:p.length=q.length
 ·generalize p.map qtA=A at *;generalize q.map qtA=B at *;refine Zaa (tok:=0) Tryz.func99 rfl Tryz.ntmps99 Tryz.results99 Tryz.call99 (by rfl) (by simp) ?_;(focus (refine wkad (w_2 hlm hlm2) w_t w_t ?_;(repeat' first|exact w_t|apply w_l);all_goals intros));refine Zad (ι:=Nat) (λi e m=>i≤p.length∧(e 1=.sl 4 B∧e 2=.fn 100 [])∧e 15=.sl 4 A∧e 16=iv p.length∧e 17=iv i∧p.take i=q.take i) (λi=>p.length - i) 0 (by rfl) ?_ ?_
  ·rintro i e m ⟨hi,⟨e1,e2⟩,e15,e16,e17,ht⟩
   by_cases hlt:i < p.length
   ·have hgi:=hg i hlt;have hgi2:=hg2 i (by omega);have cei:=ce i hlt (by omega);have ht2:p[i]=q[i]→p.take (i+1)=q.take (i+1):=λhv=>by rw [List.take_succ_eq_append_getElem hlt,List.take_succ_eq_append_getElem (by omega),ht,hv]
    have hne:p[i]≠q[i]→p≠q:=λh h2=>h (by subst h2;rfl);clear hg hg2 ce;by_cases hv:p[i]=q[i]
    ·have ht3:=ht2 hv;rw [decide_eq_true hv] at cei;clear ht2 hne hv;generalize p[i].2.map Qt.av=qs at *;generalize q[i].2.map Qt.av=rs at *;generalize decide (p[i].1.num < 0)=b1 at *;generalize decide (q[i].1.num < 0)=b2 at *;generalize toL p[i].1.num.natAbs=x1 at *;generalize toL q[i].1.num.natAbs=x2 at *;generalize toL p[i].1.den=y1 at *;generalize toL q[i].1.den=y2 at *;(focus (refine wkad (w_9 e1 e2 e15 e16 e17 hlm hlm2 hgi hgi2) (w_1 cei) w_t ?_;(repeat' first|exact w_t|apply w_l);all_goals intros));exact⟨i+1,⟨by omega,⟨by exact gW e1,by exact gW e2⟩,by exact gW e15,by exact gW e16,by exact gS,ht3⟩,by omega⟩
    ·rw [decide_eq_false hv] at cei;rw [decide_eq_false (hne hv)];clear ht2 hne hv;generalize p[i].2.map Qt.av=qs at *;generalize q[i].2.map Qt.av=rs at *;generalize decide (p[i].1.num < 0)=b1 at *;generalize decide (q[i].1.num < 0)=b2 at *;generalize toL p[i].1.num.natAbs=x1 at *;generalize toL q[i].1.num.natAbs=x2 at *;generalize toL p[i].1.den=y1 at *;generalize toL q[i].1.den=y2 at *;(focus (refine wkad (w_9 e1 e2 e15 e16 e17 hlm hlm2 hgi hgi2) (w_1 cei) w_t ?_;(repeat' first|exact w_t|apply w_l);all_goals intros));all_goals exact gL
   ·rw [decide_eq_true (by rw [←List.take_of_length_le (show p.length≤i by omega),ht,List.take_of_length_le (by omega)])];(focus (refine wkad (w_7 e1 e2 e15 e16 e17 hlm hlm2) w_t w_t ?_;(repeat' first|exact w_t|apply w_l);all_goals intros));all_goals exact gL
  ·exact⟨Nat.zero_le _,⟨by exact gC,by exact gC⟩,by exact gC,by exact gW hlm,by exact gC,rfl⟩
 ·rw [decide_eq_false (λh=>hll (by rw [h]))];generalize p.map qtA=A at *;generalize q.map qtA=B at *;refine Zaa (tok:=0) Tryz.func99 rfl Tryz.ntmps99 Tryz.results99 Tryz.call99 (by rfl) (by simp) ?_;(focus (refine wkad (w_3 hlm hlm2 hll) w_t w_t ?_;(repeat' first|exact w_t|apply w_l);all_goals intros));all_goals exact gL
theorem Zhe (p q:QTs) {j k n:Nat} (hp:QK p j n) (hq:QK q k n) (hl:p.length≤1000000) (hl2:q.length≤1000000) (hj:j≤1000000) (hk:k≤1000000) (hn:n≤100000) :
 Pure Tryz.prog 41 [.sl 4 (p.map qtA),.sl 4 (q.map qtA)] (.v (.bool (decide (p=q)))):=by
 have c:=slEqF p q hp hq hl hl2 hj hk hn;generalize p.map qtA=A at *;generalize q.map qtA=B at *;generalize decide (p=q)=b at *;refine Zaa (tok:=0) Tryz.func41 rfl Tryz.ntmps41 Tryz.results41 Tryz.call41 (by rfl) (by simp) ?_;(focus (refine wkad w_t (w_1 c) w_t ?_;(repeat' first|exact w_t|apply w_l);all_goals intros));all_goals exact gL
section
variable {N n:Nat} {cs:List AV}
theorem shProd (h:Zcg Tryz.prog N n 47 cs):∃l:List Qt,cs=[qsA l]∧l.length≤N:=by
 obtain⟨bs,rfl,hl,_⟩:=Zcu (g:=λq:Qt=>[iv q.k,iv q.a,iv q.b,iv q.c]) (Q:=λ_=>True) Tryz.underlying47 h λm x hx=>by
  obtain⟨k,a,b,c,rfl⟩:=Zq3 hx;exact⟨⟨k,a,b,c⟩,rfl,trivial⟩
 refine⟨bs,?_,hl⟩;rw [show Tryz.prog.cellsOf 25=4 from by kernel_rfl];have:(bs.map λq:Qt=>Zc2 Tryz.prog 25 [iv q.k,iv q.a,iv q.b,iv q.c])=bs.map Qt.av:=List.map_congr_left λb _=>Zo7 _;rw [this]
theorem shQTerm (h:Zcg Tryz.prog N n 49 cs):∃t:RE,cs=[.v (.bool t.r.s),lim t.r.l,lim t.r.d,qsA t.q]∧t.r.lm N∧t.q.length≤N:=by
 obtain⟨m,rfl,hs⟩:=Zdt Tryz.underlying49 (by kernel_rfl) h;obtain⟨x,y,rfl,h1,hs⟩:=hs.inv;obtain⟨x2,y,rfl,h2,hs⟩:=hs.inv;obtain rfl:=hs.inv0;obtain⟨r,rfl,hr⟩:=Zuh h1;obtain⟨l,rfl,hl⟩:=shProd h2;exact⟨⟨r,l⟩,rfl,hr,hl⟩
theorem Zf1 {T:TypeId} (hu:Tryz.prog.underlying T=some (.slice 49)) (h:Zcg Tryz.prog N n T cs):∃l:List RE,cs=[.sl 4 (l.map RE.av)]∧l.length≤N∧(∀t∈l,t.r.lm N)∧∀t∈l,t.q.length≤N:=by
 obtain⟨bs,rfl,hl,hq⟩:=Zcu (g:=λt:RE=>[.v (.bool t.r.s),lim t.r.l,lim t.r.d,qsA t.q]) (Q:=λt=>t.r.lm N∧t.q.length≤N) hu h λm x hx=>by
  obtain⟨t,h1,h2⟩:=shQTerm hx;exact⟨t,h1,h2⟩
 refine⟨bs,?_,hl,λt ht=>(hq t ht).1,λt ht=>(hq t ht).2⟩;rw [show Tryz.prog.cellsOf 49=4 from by kernel_rfl];have:(bs.map λt:RE=>Zc2 Tryz.prog 49 [.v (.bool t.r.s),lim t.r.l,lim t.r.d,qsA t.q])=bs.map RE.av:=List.map_congr_left λb _=>Zfw Tryz.underlying49 _;rw [this]
end
def Zer (Q:Nat) (t:RE):Bool:=decide (t.q.length≤Q) && t.r.tiny
def Zbp (T Q:Nat) (l:List RE):Bool:=decide (l.length≤T) && (l.all (Zer Q) && rgtB l)
def RE.rt (t:RE):Rat × List Qt:=(t.r.q,t.q)
theorem Zun {Q k:Nat} {l:List RE} (hr:∀t∈l,t.r.lm k) (h:l.all (Zer Q)=true):l.map RE.av=(l.map RE.rt).map qtA:=by
 rw [List.map_map];refine List.map_congr_left λt ht=>?_;have:=List.all_eq_true.1 h t ht;unfold Zer at this;simp only [Bool.and_eq_true] at this;have e:=(RQ.tiny_av (hr t ht).1 (hr t ht).2.1 this.2).1;have e1:t.r.av=.agg [.v (.bool t.r.s),lim t.r.l,lim t.r.d]:=rfl;have e2:ratQ t.r.q=.agg [.v (.bool (decide (t.r.q.num < 0))),lim (toL t.r.q.num.natAbs),lim (toL t.r.q.den)]:=rfl;rw [e1,e2] at e;simp only [AV.agg.injEq,List.cons.injEq,and_true] at e;show AV.agg [.v (.bool t.r.s),lim t.r.l,lim t.r.d,qsA t.q]=.agg [.v (.bool (decide (t.r.q.num < 0))),lim (toL t.r.q.num.natAbs),lim (toL t.r.q.den),qsA t.q]
 rw [e.1,e.2.1,e.2.2]
theorem rt_qk {Q k:Nat} {l:List RE} (hr:∀t∈l,t.r.lm k) (h:l.all (Zer Q)=true):QK (l.map RE.rt) 2 Q:=λu hu=>by
 obtain⟨t,ht,rfl⟩:=List.mem_map.1 hu;have:=List.all_eq_true.1 h t ht;unfold Zer at this;simp only [Bool.and_eq_true,decide_eq_true_eq] at this;exact⟨(RQ.tiny_av (hr t ht).1 (hr t ht).2.1 this.2).2,this.1⟩
theorem Zl1 (l:List RE) (T Q:Nat) (hT:T≤100000) (hQ:Q≤100000) (hl:l.length≤9223372036854775807) (hr:∀t∈l,t.r.lm 9223372036854775807) (hq:∀t∈l,t.q.length≤9223372036854775807) :
 Pure Tryz.prog 11 [.sl 4 (l.map RE.av),iv T,iv Q] (.v (.bool (Zbp T Q l))):=by
 have hpl:(l.map RE.av).length=l.length:=List.length_map ..;have hg:∀i (h:i < l.length),(l.map RE.av).getD i .u=.agg [.v (.bool l[i].r.s),lim l[i].r.l,lim l[i].r.d,.sl 4 (l[i].q.map Qt.av)]:=λi h=>Zar RE.av h;have ct:∀i (h:i < l.length),Pure Tryz.prog 20 [.agg [.v (.bool l[i].r.s),lim l[i].r.l,lim l[i].r.d]] (.v (.bool l[i].r.tiny)):=λi h=>Znt l[i].r (hr _ (List.getElem_mem h));have cr:l.length≤T→l.all (Zer Q)=true→Pure Tryz.prog 25 [.sl 4 (l.map RE.av)] (.v (.bool (rgtB l))):=λh1 h2=>by
  have h3:∀t∈l,t.q.length≤Q∧t.r.tiny=true:=λt ht=>by
   have:=List.all_eq_true.1 h2 t ht;unfold Zer at this
   simpa only [Bool.and_eq_true,decide_eq_true_eq] using this
  refine Zul l (J:=2) (by omega) (λt ht=>?_) (λt ht=>by have:=h3 t ht;omega) (by omega);have h4:=(h3 t ht).2;unfold RQ.tiny at h4;simp only [Bool.and_eq_true,decide_eq_true_eq] at h4;exact⟨(hr t ht).1,(hr t ht).2.1,h4.1.1,h4.1.2⟩
 clear hr hq;generalize l.map RE.av=L at *;by_cases hlen:l.length≤T
 ·have h1:¬(T:Int) < (l.length:Int):=by omega
  have hsm:Zbp T Q l=(l.all (Zer Q) && rgtB l):=by unfold Zbp;rw [decide_eq_true hlen,Bool.true_and]
  rw [hsm];refine Zaa (tok:=0) Tryz.func11 rfl Tryz.ntmps11 Tryz.results11 Tryz.call11 (by rfl) (by simp) ?_;(focus (refine wkad (w_2 hpl h1) w_t w_t ?_;(repeat' first|exact w_t|apply w_l);all_goals intros));refine Zad (ι:=Nat) (λi e m=>i≤l.length∧(l.take i).all (Zer Q)=true∧e 0=.sl 4 L∧e 2=iv Q∧e 7=iv i) (λi=>l.length - i) 0 (by rfl) ?_ ?_
  ·rintro i e m ⟨hi,hs,e0,e2,e7⟩
   by_cases hlt:i < l.length
   ·have hgi:=hg i hlt;have cti:=ct i hlt;have hql:(l[i].q.map Qt.av).length=l[i].q.length:=List.length_map ..;have hst:Zer Q l[i]=true→(l.take (i+1)).all (Zer Q)=true:=Zfh hlt hs;have hsn:Zer Q l[i]=false→l.all (Zer Q)=false:=λh=>List.all_eq_false.2 ⟨l[i],List.getElem_mem hlt,by rw [h];decide⟩;have hsd:Zer Q l[i]=(decide (l[i].q.length≤Q) && l[i].r.tiny):=rfl;clear hg ct cr hs hsm;generalize l[i].q.map Qt.av=qs at *;generalize l[i].q.length=qn at *;generalize l[i].r.tiny=tn at *;generalize l[i].r.s=ts at *;generalize l[i].r.l=tl at *;generalize l[i].r.d=td at *;by_cases h6:qn≤Q
    ·have g6:¬(Q:Int) < (qn:Int):=by omega
     cases tn with
     | true =>
       have hsy:=hst (by rw [hsd,decide_eq_true h6];rfl);(focus (refine wkad (w_7 e0 e2 e7 hpl hgi hql g6) (w_1 cti) w_t ?_;(repeat' first|exact w_t|apply w_l);all_goals intros));exact⟨i+1,⟨by omega,hsy,by exact gW e0,by exact gW e2,by exact gS⟩,by omega⟩
     | false =>
       rw [hsn (by rw [hsd,Bool.and_false]),Bool.false_and];(focus (refine wkad (w_7 e0 e2 e7 hpl hgi hql g6) (w_1 cti) w_t ?_;(repeat' first|exact w_t|apply w_l);all_goals intros));all_goals exact gL
    ·have g6:(Q:Int) < (qn:Int):=by omega
     rw [hsn (by rw [hsd,decide_eq_false h6];rfl),Bool.false_and];(focus (refine wkad (w_7 e0 e2 e7 hpl hgi hql g6) w_t w_t ?_;(repeat' first|exact w_t|apply w_l);all_goals intros));all_goals exact gL
   ·have:i=l.length:=by omega
    subst this;rw [List.take_length] at hs;have cr:=cr hlen hs;rw [hs,Bool.true_and];(focus (refine wkad (w_4 e0 e2 e7 hpl) (w_1 cr) w_t ?_;(repeat' first|exact w_t|apply w_l);all_goals intros));all_goals exact gL
  ·exact⟨Nat.zero_le _,rfl,by exact gC,by exact gC,by exact gC⟩
 ·have h1:(T:Int) < (l.length:Int):=by omega
  have hsm:Zbp T Q l=false:=by unfold Zbp;rw [decide_eq_false hlen,Bool.false_and]
  rw [hsm];refine Zaa (tok:=0) Tryz.func11 rfl Tryz.ntmps11 Tryz.results11 Tryz.call11 (by rfl) (by simp) ?_;(focus (refine wkad (w_2 hpl h1) w_t w_t ?_;(repeat' first|exact w_t|apply w_l);all_goals intros));all_goals exact gL
theorem Zml (l:List RE) (hl:l.length≤9223372036854775807) (hr:∀t∈l,t.r.lm 9223372036854775807) (hq:∀t∈l,t.q.length≤9223372036854775807) :
 Pure Tryz.prog 16 [.sl 4 (l.map RE.av)] (.v (.bool (Zbp 8 3 l))):=by
 have c:Pure Tryz.prog 11 [.sl 4 (l.map RE.av),iv 8,iv 3] (.v (.bool (Zbp 8 3 l))):=Zl1 l 8 3 (by omega) (by omega) hl hr hq;generalize Zbp 8 3 l=b at *;generalize l.map RE.av=L at *;refine Zaa (tok:=0) Tryz.func16 rfl Tryz.ntmps16 Tryz.results16 Tryz.call16 (by rfl) (by simp) ?_;(focus (refine wkad w_t (w_1 c) w_t ?_;(repeat' first|exact w_t|apply w_l);all_goals intros));all_goals exact gL
def mrgQ:List Qt→List Qt→List Qt
 | a,[]=>a
 | [],y :: b=>y :: b
 | x :: a,y :: b=>if Qt.cmp x y≤0 then x :: mrgQ a (y :: b) else y :: mrgQ (x :: a) b
termination_by a b=>a.length+b.length
theorem Zmj (a b:List Qt):(mrgQ a b).Perm (a++b):=by
 fun_induction mrgQ a b with
 | case1 a=>rw [List.append_nil]
 | case2 y b=>exact .refl _
 | case3 x a y b h ih=>exact ih.cons x
 | case4 x a y b h ih=>exact(ih.cons y).trans List.perm_middle.symm
theorem mrg_asc {a b:List Qt} (ha:Asc Qt.cmp a) (hb:Asc Qt.cmp b):Asc Qt.cmp (mrgQ a b):=by
 fun_induction mrgQ a b with
 | case1 a=>exact ha
 | case2 y b=>exact hb
 | case3 x a y b h ih =>
   have ha':=List.pairwise_cons.1 ha;refine List.pairwise_cons.2 ⟨λz hz=>?_,ih ha'.2 hb⟩;rcases List.mem_append.1 ((Zmj _ _).mem_iff.1 hz) with h1 | h1
   ·exact ha'.1 z h1
   ·rcases List.mem_cons.1 h1 with rfl | h1
    ·exact h
    ·exact qtO.le_tr h ((List.pairwise_cons.1 hb).1 z h1)
 | case4 x a y b h ih =>
   have hb':=List.pairwise_cons.1 hb;have hyx:=qtO.le_total x y (by omega);refine List.pairwise_cons.2 ⟨λz hz=>?_,ih ha hb'.2⟩;rcases List.mem_append.1 ((Zmj _ _).mem_iff.1 hz) with h1 | h1
   ·rcases List.mem_cons.1 h1 with rfl | h1
    ·exact hyx
    ·exact qtO.le_tr hyx ((List.pairwise_cons.1 ha).1 z h1)
   ·exact hb'.1 z h1
theorem mrg_eq {a b:List Qt} (ha:Asc Qt.cmp a) (hb:Asc Qt.cmp b):mrgQ a b=muQ a b :=
 Zhh qtO (mrg_asc ha hb) (Zc7 qtO.cp _) ((Zmj a b).trans (Zbr _).symm)
theorem mrg_l {a b:List Qt} {i k:Nat} (hi:i < a.length) (hk:k < b.length) (h:Qt.cmp a[i] b[k]≤0):mrgQ (a.drop i) (b.drop k)=a[i] :: mrgQ (a.drop (i+1)) (b.drop k):=by
 rw [List.drop_eq_getElem_cons hi,List.drop_eq_getElem_cons hk,mrgQ,if_pos h]
theorem mrg_r {a b:List Qt} {i k:Nat} (hk:k < b.length) (h:∀hi:i < a.length,¬Qt.cmp a[i] b[k]≤0):mrgQ (a.drop i) (b.drop k)=b[k] :: mrgQ (a.drop i) (b.drop (k+1)):=by
 rw [List.drop_eq_getElem_cons hk];by_cases hi:i < a.length
 ·rw [List.drop_eq_getElem_cons hi,mrgQ,if_neg (h hi)]
 ·rw [List.drop_eq_nil_of_le (by omega),mrgQ];cases b.drop (k+1)<;>simp [mrgQ]
theorem rxBoth (a b:List Qt) (ha:Asc Qt.cmp a) (hb:Asc Qt.cmp b) (la:a.length≤1000000) (lb:b.length≤1000000):Pure Tryz.prog 104 [qsA a,qsA b] (qsA (muQ a b)):=by
 have ham:(a.map Qt.av).length=a.length:=List.length_map ..;have hbm:(b.map Qt.av).length=b.length:=List.length_map ..;have ga:∀i (h:i < a.length),(a.map Qt.av).getD i .u=Qt.av a[i]:=λi h=>Zar Qt.av h;have gb:∀i (h:i < b.length),(b.map Qt.av).getD i .u=Qt.av b[i]:=λi h=>Zar Qt.av h;have hda:∀i,(a.map Qt.av).drop i=(a.drop i).map Qt.av:=λi=>List.map_drop.symm;rw [←mrg_eq ha hb];clear ha hb;show Pure _ _ [.sl 4 (a.map Qt.av),.sl 4 (b.map Qt.av)] (.sl 4 ((mrgQ a b).map Qt.av));generalize a.map Qt.av=A at *;generalize b.map Qt.av=B at *;refine Zaa (tok:=0) Tryz.func104 rfl Tryz.ntmps104 Tryz.results104 Tryz.call104 (by rfl) (by simp) ?_
 (focus (refine wkad (w_2 ham hbm) w_t w_t ?_;(repeat' first|exact w_t|apply w_l);all_goals intros));refine Zad (ι:=Nat × Nat) (λx e m=>(x.1≤b.length∧x.2≤a.length)∧(e 0=.sl 4 A∧e 1=.sl 4 B)∧e 7=iv x.1∧e 6=iv x.2∧∃sv out,e 5=.own 13 sv∧m 13=some (.row sv 25 4 (out.map Qt.av) 0)∧out.length≤x.1+x.2∧mrgQ a b=out++mrgQ (a.drop x.2) (b.drop x.1)) (λx=>b.length - x.1) (0,0) (by rfl) ?_ ?_
 ·rintro ⟨k,i0⟩ e m ⟨⟨hk,hi0⟩,⟨e0,e1⟩,e7,e6,sv,out,e5,m13,ho,hs⟩
  simp only at hk hi0 e7 e6 ho hs;by_cases hkl:k < b.length
  ·have gbk:=gb k hkl;(focus (refine wkad (w_4 e0 e1 e7 hbm) w_t w_t ?_;(repeat' first|exact w_t|apply w_l);all_goals intros));refine Zf2 (λe m=>(e 0=.sl 4 A∧e 1=.sl 4 B)∧e 7=iv k∧∃i sv out,i≤a.length∧e 6=iv i∧e 5=.own 13 sv∧m 13=some (.row sv 25 4 (out.map Qt.av) 0)∧out.length≤k+i∧mrgQ a b=out++b[k] :: mrgQ (a.drop i) (b.drop (k+1))) 2 ?_ ?_
   ·refine Zad (ι:=Nat) (λi e m=>i≤a.length∧(e 0=.sl 4 A∧e 1=.sl 4 B)∧e 7=iv k∧e 6=iv i∧∃sv out,e 5=.own 13 sv∧m 13=some (.row sv 25 4 (out.map Qt.av) 0)∧out.length≤k+i∧mrgQ a b=out++mrgQ (a.drop i) (b.drop k)) (λi=>a.length - i) i0 (by rfl) ?_ ?_
    ·rintro i e m ⟨hi,⟨e0,e1⟩,e7,e6,sv,out,e5,m13,ho,hs⟩
     have hol:(out.map Qt.av).length=out.length:=List.length_map ..;by_cases hil:i < a.length
     ·have gai:=ga i hil;have cc:=Zur a[i].k a[i].a a[i].b a[i].c b[k].k b[k].a b[k].b b[k].c;by_cases hz:Qt.cmp a[i] b[k]≤0
      ·rw [mrg_l hil hkl hz] at hs;have hmp:(out++[a[i]]).map Qt.av=out.map Qt.av++[Qt.av a[i]]:=by rw [List.map_append];rfl
       have hs2:mrgQ a b=(out++[a[i]])++mrgQ (a.drop (i+1)) (b.drop k):=by rw [hs,List.append_assoc];rfl
       clear hs;have hlo:(out++[a[i]]).length≤k+(i+1):=by rw [List.length_append,List.length_cons,List.length_nil];omega
       generalize out++[a[i]]=out' at *;clear ga gb hda;generalize a[i]=x at *;generalize b[k]=y at *;generalize hz1:Qt.cmp x y=z at *;clear hz1;generalize out.map Qt.av=O at *;obtain⟨x1,x2,x3,x4⟩:=x;obtain⟨y1,y2,y3,y4⟩:=y;simp only at *;(focus (refine wkad (w_12 e0 e1 e7 e6 e5 m13 ham hbm gai gbk hz hol) (w_1 cc) (w_1 (w_d 6 [(13,iv z)] [] [])) ?_;(repeat' first|exact w_t|apply w_l);all_goals intros));exact⟨i+1,⟨by omega,⟨by exact gW e0,by exact gW e1⟩,by exact gW e7,by exact gS,_,out',by exact gC,by rw [hmp];exact gC,hlo,hs2⟩,by omega⟩
      ·rw [mrg_r hkl (λ_=>hz)] at hs;clear ga gb hda;generalize a[i]=x at *;generalize b[k]=y at *;generalize hz1:Qt.cmp x y=z at *;clear hz1;generalize hO:out.map Qt.av=O at *;obtain⟨x1,x2,x3,x4⟩:=x;obtain⟨y1,y2,y3,y4⟩:=y;simp only at *;(focus (refine wkad (w_12 e0 e1 e7 e6 e5 m13 ham hbm gai gbk hz hol) (w_1 cc) (w_1 (w_d 6 [(13,iv z)] [] [])) ?_;(repeat' first|exact w_t|apply w_l);all_goals intros));exact⟨rfl,⟨by exact gW e0,by exact gW e1⟩,by exact gW e7,i,sv,out,hi,by exact gW e6,by exact gW e5,by rw [hO];exact gW m13,ho,hs⟩
     ·rw [mrg_r hkl (λh=>absurd h hil)] at hs;have hil':¬(i:Int) < (a.length:Int):=by omega
      (focus (refine wkad (w_8 e0 e1 e7 e6 e5 m13 ham hil') w_t (w_1 (w_d 6 [] [] [])) ?_;(repeat' first|exact w_t|apply w_l);all_goals intros));exact⟨rfl,⟨by exact gW e0,by exact gW e1⟩,by exact gW e7,i,sv,out,hi,by exact gW e6,by exact gW e5,by exact gW m13,ho,hs⟩
    ·exact⟨hi0,⟨by exact gW e0,by exact gW e1⟩,by exact gW e7,by exact gW e6,sv,out,by exact gW e5,by exact gW m13,ho,hs⟩
   ·clear e5 m13 hs ho e0 e1 e7 e6
    rintro e m ⟨⟨e0,e1⟩,e7,i,sv,out,hi,e6,e5,m13,ho,hs⟩
    have hol:(out.map Qt.av).length=out.length:=List.length_map ..;have hmp:(out++[b[k]]).map Qt.av=out.map Qt.av++[Qt.av b[k]]:=by rw [List.map_append];rfl
    have hs2:mrgQ a b=(out++[b[k]])++mrgQ (a.drop i) (b.drop (k+1)):=by rw [hs,List.append_assoc];rfl
    clear hs;have hlo:(out++[b[k]]).length≤k+1+i:=by rw [List.length_append,List.length_cons,List.length_nil];omega
    generalize out++[b[k]]=out' at *;clear ga gb hda;generalize b[k]=y at *;generalize out.map Qt.av=O at *;obtain⟨y1,y2,y3,y4⟩:=y;(focus (refine wkad (w_9 e0 e1 e7 e6 e5 m13 hbm gbk hol) w_t w_t ?_;(repeat' first|exact w_t|apply w_l);all_goals intros));exact⟨(k+1,i),⟨⟨by show k+1≤b.length;omega,hi⟩,⟨by exact gW e0,by exact gW e1⟩,by exact gS,by exact gW e6,_,out',by exact gC,by rw [hmp];exact gC,hlo,hs2⟩,by show b.length - (k+1) < b.length - k;omega⟩
  ·have hkb:k=b.length:=by omega
   subst hkb;have hol:(out.map Qt.av).length=out.length:=List.length_map ..;rw [List.drop_eq_nil_of_le (Nat.le_refl b.length),mrgQ] at hs;have hmp:(mrgQ a b).map Qt.av=out.map Qt.av++A.drop i0:=by rw [hs,List.map_append,hda]
   rw [hmp];have hdl:(A.drop i0).length=a.length - i0:=by rw [List.length_drop,ham]
   have htk:A.take a.length=A:=List.take_of_length_le (by omega);generalize out.map Qt.av=O at *;(focus (refine wkad (w_11 e0 e1 e7 e6 e5 m13 ham hbm hol hdl htk) w_t w_t ?_;(repeat' first|exact w_t|apply w_l);all_goals intros));all_goals exact gL
 ·exact⟨⟨Nat.zero_le _,Nat.zero_le _⟩,⟨by exact gC,by exact gC⟩,by exact gC,by exact gC,_,[],by exact gC,by exact gC,Nat.zero_le _,rfl⟩
theorem XB.gh {p q:QTs} {j k m n:Nat} (hp:XB p j m) (hq:XB q k n):GH (prodL muQ p q) (j+k+(j+k)) (m+n):=by
 obtain⟨a,b,D,B,c,d,e,f⟩:=hp;obtain⟨a',b',D',B',c',d',e',f'⟩:=hq;exact GH.of_nb (f.prodL f') (Nat.mul_ne_zero c c') (by rw [Nat.pow_add];exact Nat.mul_lt_mul_of_lt_of_lt d d') (by rw [Nat.pow_add];exact Nat.mul_lt_mul_of_lt_of_lt e e') (Zjv b b')
theorem rxMul (p q:QTs) {j k m n:Nat} (hp:XB p j m) (hq:XB q k n) (hm:m≤100000) (hn:n≤100000) (hl:p.length*q.length≤100000000) (hpl:p.length≤100000000) (hql:q.length≤100000000) (hj:j≤100000) (hk:k≤100000):Pure Tryz.prog 45 [qpA p,qpA q] (qpA (mulX p q)):=by
 have hpm:(p.map qtA).length=p.length:=List.length_map ..;have hqm:(q.map qtA).length=q.length:=List.length_map ..;have gp:∀i (h:i < p.length),(p.map qtA).getD i .u=qtA p[i]:=λi h=>Zar qtA h;have gq:∀i (h:i < q.length),(q.map qtA).getD i .u=qtA q[i]:=λi h=>Zar qtA h;have kp:=hp.qk;have kq:=hq.qk;have hop:∀t∈p,okQ t.2:=hp.1.dom;have hoq:∀t∈q,okQ t.2:=hq.1.dom;have hPl:(prodL muQ p q).length=p.length*q.length:=Zhu ..;have hstep:∀i l (h1:i < p.length) (h2:l < q.length),(prodL muQ p q).take (i*q.length+l+1)=(prodL muQ p q).take (i*q.length+l)++[(p[i].1*q[l].1,muQ p[i].2 q[l].2)]:=λi l h1 h2=>Zjf (Zme h1 h2)
 have cg:=Zq5 _ _ hPl (hp.gh hq) hl (by omega) (by omega);have hfull:(prodL muQ p q).take (p.length*q.length)=prodL muQ p q:=List.take_of_length_le (by omega);have htl:∀c,((prodL muQ p q).take c).length≤100000000:=λc=>by rw [List.length_take];omega
 have ht0:(prodL muQ p q).take 0=[]:=List.take_zero;have cg:Pure Tryz.prog 79 [.sl 4 (((prodL muQ p q).take (p.length*q.length)).map qtA)] (.sl 4 ((mulX p q).map qtA)):=by rw [hfull];exact cg
 clear hfull hPl hp hq;generalize mulX p q=RR at *;generalize hPR:(λc=>(prodL muQ p q).take c)=PR at *;have hPR:∀c,(prodL muQ p q).take c=PR c:=λc=>by rw [←hPR]
 simp only [hPR] at hstep cg htl ht0;clear hPR;show Pure _ _ [.sl 4 (p.map qtA),.sl 4 (q.map qtA)] (.sl 4 (RR.map qtA));generalize RR.map qtA=R at *;generalize p.map qtA=A at *;generalize q.map qtA=B at *;refine Zaa (tok:=0) Tryz.func45 rfl Tryz.ntmps45 Tryz.results45 Tryz.call45 (by rfl) (by simp) ?_;(focus (refine wkad w_t w_t w_t ?_;(repeat' first|exact w_t|apply w_l);all_goals intros));refine Zf3 (Frz.nilOwn (d:=5) 45 4 49 (by exact gC)) ?_;refine Zad (ι:=Nat) (λi e M=>i≤p.length∧(e 0=.sl 4 A∧e 1=.sl 4 B)∧e 6=iv i∧∃sv,e 5=.own 45 sv∧M 45=some (.row sv 49 4 ((PR (i*q.length)).map qtA) 0)) (λi=>p.length - i) 0 (by rfl) ?_ ?_
 ·rintro i e M ⟨hi,⟨e0,e1⟩,e6,sv,e5,m45⟩
  by_cases hlt:i < p.length
  ·have gpi:=gp i hlt;have kpi:=kp _ (List.getElem_mem hlt);have hsti:=λl h2=>hstep i l hlt h2;have hopi:=hop _ (List.getElem_mem hlt);have hsucc:(i+1)*q.length=i*q.length+q.length:=Nat.succ_mul ..;clear gp kp hstep hop cg ht0;generalize p[i]=u at *;generalize i*q.length=ci at *;obtain⟨u1,u2⟩:=u;simp only at kpi hsti hopi;have gpi:A.getD i .u=.agg [.v (.bool (decide (u1.num < 0))),lim (toL u1.num.natAbs),lim (toL u1.den),.sl 4 (u2.map Qt.av)]:=gpi;have cm0:=fun(v:Rat) (hv:Sz v (k+k))=>qMul u1 v kpi.1 hv (by omega) (by omega);have cm0:∀v:Rat,Sz v (k+k)→Pure Tryz.prog 78 [.agg [.v (.bool (decide (u1.num < 0))),lim (toL u1.num.natAbs),lim (toL u1.den)],ratQ v] (ratQ (u1*v)):=cm0
   have ct0:=fun(v:List Qt) (ho:okQ v) (hv:v.length≤n)=>rxBoth u2 v hopi.1 ho.1 (by have:=kpi.2;omega) (by omega);have ct0:∀v:List Qt,okQ v→v.length≤n→Pure Tryz.prog 104 [.sl 4 (u2.map Qt.av),qsA v] (qsA (muQ u2 v)):=ct0;clear kpi hopi;generalize toL u1.num.natAbs=un at *;generalize toL u1.den=ud at *;generalize decide (u1.num < 0)=us at *;generalize u2.map Qt.av=UQ at *;(focus (refine wkad (w_6 e0 e1 e5 m45 e6 hpm) w_t w_t ?_;(repeat' first|exact w_t|apply w_l);all_goals intros));refine Zad (ι:=Nat) (λl e M=>l≤q.length∧(e 0=.sl 4 A∧e 1=.sl 4 B)∧e 6=iv i∧e 7=iv l∧∃sv,e 5=.own 45 sv∧M 45=some (.row sv 49 4 ((PR (ci+l)).map qtA) 0)) (λl=>q.length - l) 0 (by rfl) ?_ ?_
   ·clear e5 m45 e0 e1 e6
    rintro l e M ⟨hl2,⟨e0,e1⟩,e6,e7,sv,e5,m45⟩
    have hol:((PR (ci+l)).map qtA).length≤100000000:=by rw [List.length_map];exact htl _
    by_cases hlq:l < q.length
    ·have gql:=gq l hlq;have kql:=kq _ (List.getElem_mem hlq);have hst:=hsti l hlq;have hoql:=hoq _ (List.getElem_mem hlq);clear gq kq hsti hoq htl;generalize q[l]=v at *;obtain⟨v1,v2⟩:=v;simp only at kql hst hoql;have gql:B.getD l .u=.agg [.v (.bool (decide (v1.num < 0))),lim (toL v1.num.natAbs),lim (toL v1.den),.sl 4 (v2.map Qt.av)]:=gql;have cm:=cm0 v1 kql.1;have ct:=ct0 v2 hoql kql.2;have cm:Pure Tryz.prog 78 [.agg [.v (.bool us),lim un,lim ud],.agg [.v (.bool (decide (v1.num < 0))),lim (toL v1.num.natAbs),lim (toL v1.den)]] (.agg [.v (.bool (decide ((u1*v1).num < 0))),lim (toL (u1*v1).num.natAbs),lim (toL (u1*v1).den)]):=cm
     have ct:Pure Tryz.prog 104 [.sl 4 UQ,.sl 4 (v2.map Qt.av)] (.sl 4 ((muQ u2 v2).map Qt.av)):=ct;have hmp:(PR (ci+(l+1))).map qtA=(PR (ci+l)).map qtA++[.agg [.v (.bool (decide ((u1*v1).num < 0))),lim (toL (u1*v1).num.natAbs),lim (toL (u1*v1).den),.sl 4 ((muQ u2 v2).map Qt.av)]]:=by rw [show ci+(l+1)=ci+l+1 from rfl,hst,List.map_append];rfl
     clear cm0 ct0 hst kql;generalize (PR (ci+l)).map qtA=O at *;generalize toL (u1*v1).num.natAbs=wn at *;generalize toL (u1*v1).den=wd at *;generalize decide ((u1*v1).num < 0)=ws at *;generalize (muQ u2 v2).map Qt.av=MQ at *;generalize toL v1.num.natAbs=vn at *;generalize toL v1.den=vd at *;generalize decide (v1.num < 0)=vs at *;generalize v2.map Qt.av=VQ at *;(focus (refine wkad (w_10 e0 e1 e6 e7 e5 m45 hpm hqm gpi gql) (w_2 cm ct) (w_1 (w_d 8 [(11,.agg [.v (.bool ws),lim wn,lim wd]),(22,.sl 4 MQ)] [25,1025] [44,45])) ?_;(repeat' first|exact w_t|apply w_l);all_goals intros));exact⟨l+1,⟨by omega,⟨by exact gW e0,by exact gW e1⟩,by exact gW e6,by exact gS,_,by exact gC,by rw [hmp];exact gC⟩,by omega⟩
    ·have hle:l=q.length:=by omega
     subst hle;rw [←hsucc] at m45;(focus (refine wkad (w_7 e0 e1 e6 e7 e5 m45 hqm) w_t w_t ?_;(repeat' first|exact w_t|apply w_l);all_goals intros));exact⟨i+1,⟨by omega,⟨by exact gW e0,by exact gW e1⟩,by exact gS,sv,by exact gW e5,by exact gW m45⟩,by omega⟩
   ·exact⟨Nat.zero_le _,⟨by exact gW e0,by exact gW e1⟩,by exact gW e6,by exact gC,sv,by exact gW e5,by exact gW m45⟩
  ·have hil:i=p.length:=by omega
   subst hil;have hol:=htl (p.length*q.length);clear hstep gp gq kp kq hop hoq htl ht0;generalize PR (p.length*q.length)=S at *;have hll:(S.map qtA).length≤100000000:=by rw [List.length_map];exact hol
   generalize S.map qtA=O at *;(focus (refine wkax (w_6 e0 e1 e6 e5 m45 hpm) w_t w_t (w_1 cg) w_t w_t (w_r 0) ?_;(repeat' first|exact w_t|apply w_l);all_goals intros));all_goals exact gL
 ·exact⟨Nat.zero_le _,⟨by exact gC,by exact gC⟩,by exact gC,_,by exact gC,by rw [Nat.zero_mul,ht0];exact gC⟩
theorem rxScale (p:QTs) (c:Rat) {j k n:Nat} (hp:QK p j n) (hc:Sz c k) (h0:c≠0) (hl:p.length≤100000000) (hj:j≤400000) (hk:k≤400000):Pure Tryz.prog 60 [qpA p,ratQ c] (qpA (Zcy c p)):=by
 have hpm:(p.map qtA).length=p.length:=List.length_map ..;have gp:∀i (h:i < p.length),(p.map qtA).getD i .u=qtA p[i]:=λi h=>Zar qtA h;have cz:=Zu6 c hc (by omega);have hz:¬c.num.sign=0:=by rw [Zc8];exact h0
 have hstep:∀i (h:i < p.length),(Zcy c p).take (i+1)=(Zcy c p).take i++[(p[i].1*c,p[i].2)]:=λi h=>Zjf (by unfold Zcy;rw [List.getElem?_map,List.getElem?_eq_getElem h];rfl);have hfull:Zcy c p=(Zcy c p).take p.length:=(List.take_of_length_le (by unfold Zcy;rw [List.length_map];exact Nat.le_refl _)).symm;have ht0:(Zcy c p).take 0=[]:=List.take_zero;have htl:∀i,((Zcy c p).take i).length≤100000000:=λi=>by rw [List.length_take];unfold Zcy;rw [List.length_map];omega
 rw [hfull];clear hfull;generalize hPR:(λc'=>(Zcy c p).take c')=PR at *;have hPR:∀i,(Zcy c p).take i=PR i:=λi=>by rw [←hPR]
 simp only [hPR] at hstep htl ht0 ⊢;clear hPR;have cm0:=fun(u:Rat) (hu:Sz u j)=>qMul u c hu hc (by omega) (by omega);show Pure _ _ [.sl 4 (p.map qtA),.agg [.v (.bool (decide (c.num < 0))),lim (toL c.num.natAbs),lim (toL c.den)]] (.sl 4 ((PR p.length).map qtA));have cm0:∀u:Rat,Sz u j→Pure Tryz.prog 78 [ratQ u,.agg [.v (.bool (decide (c.num < 0))),lim (toL c.num.natAbs),lim (toL c.den)]] (ratQ (u*c)):=cm0;have cz:Pure Tryz.prog 66 [.agg [.v (.bool (decide (c.num < 0))),lim (toL c.num.natAbs),lim (toL c.den)]] (iv c.num.sign):=cz;clear hc h0;generalize c.num.sign=z at *;generalize toL c.num.natAbs=cn at *
 generalize toL c.den=cd at *;generalize decide (c.num < 0)=cs at *;generalize p.map qtA=A at *;refine Zaa (tok:=0) Tryz.func60 rfl Tryz.ntmps60 Tryz.results60 Tryz.call60 (by rfl) (by simp) ?_;(focus (refine wkad w_t w_t w_t ?_;(repeat' first|exact w_t|apply w_l);all_goals intros));rename_i g3;refine Zf3 (Frz.nilOwn (d:=5) 33 4 49 (by exact gC)) ?_;refine Zad (ι:=Nat) (λi e M=>i≤p.length∧e 0=.sl 4 A∧e 3=.pbox 3 g3 0∧M 3=some (.box g3 45 [.v (.bool cs),lim cn,lim cd] false)∧e 6=iv i∧∃sv,e 5=.own 33 sv∧M 33=some (.row sv 49 4 ((PR i).map qtA) 0)) (λi=>p.length - i) 0 (by rfl) ?_ ?_
 ·rintro i e M ⟨hi,e0,e3,m3,e6,sv,e5,m33⟩
  have hol:((PR i).map qtA).length≤100000000:=by rw [List.length_map];exact htl _
  by_cases hlt:i < p.length
  ·have gpi:=gp i hlt;have kpi:=hp _ (List.getElem_mem hlt);have hst:=hstep i hlt;clear gp hp hstep htl ht0;generalize p[i]=u at *;obtain⟨u1,u2⟩:=u;simp only at kpi hst;have gpi:A.getD i .u=.agg [.v (.bool (decide (u1.num < 0))),lim (toL u1.num.natAbs),lim (toL u1.den),.sl 4 (u2.map Qt.av)]:=gpi;have cm:=cm0 u1 kpi.1;have cm:Pure Tryz.prog 78 [.agg [.v (.bool (decide (u1.num < 0))),lim (toL u1.num.natAbs),lim (toL u1.den)],.agg [.v (.bool cs),lim cn,lim cd]] (.agg [.v (.bool (decide ((u1*c).num < 0))),lim (toL (u1*c).num.natAbs),lim (toL (u1*c).den)]):=cm;have hmp:(PR (i+1)).map qtA=(PR i).map qtA++[.agg [.v (.bool (decide ((u1*c).num < 0))),lim (toL (u1*c).num.natAbs),lim (toL (u1*c).den),.sl 4 (u2.map Qt.av)]]:=by rw [hst,List.map_append];rfl
   clear cm0 hst kpi;generalize (PR i).map qtA=O at *;generalize toL (u1*c).num.natAbs=wn at *;generalize toL (u1*c).den=wd at *;generalize decide ((u1*c).num < 0)=ws at *;generalize toL u1.num.natAbs=un at *;generalize toL u1.den=ud at *;generalize decide (u1.num < 0)=us at *;generalize u2.map Qt.av=UQ at *;(focus (refine wkad (w_9 e0 e3 m3 e6 e5 m33 hpm gpi hz) (w_2 cz cm) (w_1 (w_d 5 [(7,.agg [.v (.bool ws),lim wn,lim wd])] [15,1015] [32,33])) ?_;(repeat' first|exact w_t|apply w_l);all_goals intros));exact⟨i+1,⟨by omega,by exact gW e0,by exact gW e3,by exact gW m3,by exact gS,_,by exact gC,by rw [hmp];exact gC⟩,by omega⟩
  ·have hil:i=p.length:=by omega
   subst hil;clear hstep gp hp htl ht0 cm0;have hlt':¬(p.length:Int) < (p.length:Int):=by omega
   generalize (PR p.length).map qtA=O at *;(focus (refine wkad (w_8 e0 e3 m3 e6 e5 m33 hpm hlt') w_t w_t ?_;(repeat' first|exact w_t|apply w_l);all_goals intros));all_goals (all_goals (try simp (disch:=omega) only [go_sem,m33,hol,decide_eq_true,decide_eq_false,if_pos,if_neg,Int.reduceAdd,Int.reduceSub,Int.reduceToNat,Int.zero_add]));(all_goals first|done|rfl|(congr 2;first|done|omega|(rw [Bool.eq_iff_iff];simp only [bool_to_prop,Bool.false_eq_true,iff_true,true_iff,iff_false,false_iff];omega))|skip)
   all_goals exact⟨⟨rfl,rfl⟩,rfl⟩
 ·exact⟨Nat.zero_le _,by exact gC,by exact gC,by exact gC,by exact gC,_,by exact gC,by rw [ht0];exact gC⟩
attribute [local go_sem] Tryz.underlying130
theorem rxPlus (p q:QTs) {j k n:Nat} (hp:QK p j n) (hq:QK q k n) (lp:p.length≤100000000) (lq:q.length≤100000000) (hj:j≤900000) (hk:k≤900000) (hn:n≤1000000):Pure Tryz.prog 43 [qpA p,qpA q] (qpA (Zau p q)):=by
 have c:=rxJoin p q hp hq lp lq (by omega) (by omega) hn;show Pure _ _ [.sl 4 (p.map qtA),.sl 4 (q.map qtA)] (.sl 4 ((Zau p q).map qtA));have c:Pure _ _ [.sl 4 (p.map qtA),.sl 4 (q.map qtA)] (.sl 4 ((Zau p q).map qtA)):=c;generalize (Zau p q).map qtA=R at *;generalize p.map qtA=A at *;generalize q.map qtA=B at *;refine Zaa (tok:=0) Tryz.func43 rfl Tryz.ntmps43 Tryz.results43 Tryz.call43 (by rfl) (by simp) ?_;(focus (refine wkad w_t (w_1 c) w_t ?_;(repeat' first|exact w_t|apply w_l);all_goals intros));all_goals exact gL
theorem fst_of {α:Type} (F:α→Bool) (l:List α):∃n,n≤l.length∧(∀j (h:j < l.length),j < n→F l[j]=false)∧(∀h:n < l.length,F l[n]=true)∧l.any F=decide (n < l.length):=by
 induction l with
 | nil=>exact⟨0,by simp,by simp,by simp,by simp⟩
 | cons a l ih =>
   obtain⟨n,h1,h2,h3,h4⟩:=ih
   cases ha:F a with
   | true=>exact⟨0,by simp,λj h h'=>by omega,λ_=>ha,by simp [ha]⟩
   | false =>
     refine⟨n+1,by simpa using h1,λj h h'=>?_,λh=>h3 (by simpa using h),by simp [ha,h4]⟩
     cases j with
     | zero=>exact ha
     | succ j=>exact h2 j (by simpa using h) (by omega)
theorem pts_le (q:Qt):q.pts.length≤40:=by
 unfold Qt.pts;split
 ·rw [List.length_map];exact Nat.le_trans (List.length_filter_le _ _) (by simp)
 ·simp
theorem slIdxI (l:List Int) (x:Int) (hl:l.length≤1000000):∃z:Int,Pure Tryz.prog 175 [ivs l,iv x] (iv z)∧decide (0≤z)=l.any λt=>decide (x=t):=by
 have hlm:(l.map iv).length=l.length:=List.length_map ..;have hg:∀i (h:i < l.length),(l.map iv).getD i .u=iv l[i]:=λi h=>Zar iv h;obtain⟨n,h1,h2,h3,h4⟩:=fst_of (λt:Int=>decide (x=t)) l;refine⟨if n < l.length then (n:Int) else -1,?_,?_⟩
 ·show Pure _ _ [.sl 1 (l.map iv),iv x] _;generalize l.map iv=L at *;refine Zaa (tok:=0) Tryz.func175 rfl Tryz.ntmps175 Tryz.results175 Tryz.call175 (by rfl) (by simp) ?_;(focus (refine wkad (w_1 hlm) w_t w_t ?_;(repeat' first|exact w_t|apply w_l);all_goals intros));refine Zad (ι:=Nat) (λk e m=>k≤n∧e 0=.sl 1 L∧e 1=iv x∧e 7=iv l.length∧e 8=iv k) (λk=>n - k) 0 (by rfl) ?_ ?_
  ·rintro k e m ⟨hk,e0,e1,e7,e8⟩
   by_cases hlt:k < l.length
   ·have hgk:=hg k hlt;by_cases hkn:k < n
    ·have hb:=of_decide_eq_false (h2 k hlt hkn);generalize l[k]=a at *;(focus (refine wkad (w_7 e0 e1 e7 e8 hgk hlm hb) w_t w_t ?_;(repeat' first|exact w_t|apply w_l);all_goals intros));exact⟨k+1,⟨by omega,by exact gW e0,by exact gW e1,by exact gW e7,by exact gS⟩,by omega⟩
    ·have hkn:k=n:=by omega
     subst hkn;have hb:=of_decide_eq_true (h3 hlt);rw [if_pos hlt];rw [←hb] at hgk;clear hb;(focus (refine wkad (w_6 e0 e1 e7 e8 hgk hlm) w_t w_t ?_;(repeat' first|exact w_t|apply w_l);all_goals intros));all_goals exact gL
   ·rw [if_neg (by omega)];(focus (refine wkad (w_5 e0 e1 e7 e8 hlm) w_t w_t ?_;(repeat' first|exact w_t|apply w_l);all_goals intros));all_goals exact gL
  ·exact⟨Nat.zero_le _,by exact gC,by exact gC,by exact gW hlm,by exact gC⟩
 ·rw [h4,Bool.eq_iff_iff,decide_eq_true_eq,decide_eq_true_eq];split<;>omega
theorem slConI (l:List Int) (x:Int) (hl:l.length≤1000000):Pure Tryz.prog 105 [ivs l,iv x] (.v (.bool (l.any λt=>decide (x=t)))):=by
 obtain⟨z,c,hz⟩:=slIdxI l x hl;rw [←hz];show Pure _ _ [.sl 1 (l.map iv),iv x] _;have c:Pure _ _ [.sl 1 (l.map iv),iv x] _:=c;generalize l.map iv=L at *;refine Zaa (tok:=0) Tryz.func105 rfl Tryz.ntmps105 Tryz.results105 Tryz.call105 (by rfl) (by simp) ?_;(focus (refine wkad w_t (w_1 c) w_t ?_;(repeat' first|exact w_t|apply w_l);all_goals intros));all_goals exact gL
def hasQ (x:Int) (q:Qt):Bool:=q.pts.any λt=>decide (x=t)
def hasP (x:Int) (p:List Qt):Bool:=p.any (hasQ x)
def hasT (x:Int) (p:QTs):Bool:=p.any λt=>hasP x t.2
theorem Zh8 {α:Type} {f:α→Bool} {l:List α} {i:Nat} (h:i < l.length) (h1:(l.take i).any f=false) (h2:f l[i]=false):(l.take (i+1)).any f=false:=by
 rw [List.take_succ_eq_append_getElem h,List.any_append,h1];simp [h2]
theorem Zkq {α:Type} {f:α→Bool} {l:List α} {i:Nat} (h:i < l.length) (h2:f l[i]=true):l.any f=true:=List.any_eq_true.2 ⟨_,List.getElem_mem h,h2⟩
theorem exHas (p:QTs) (x:Int) (hl:p.length≤1000000) (hq:∀t∈p,t.2.length≤1000000):Pure Tryz.prog 46 [.sl 4 (p.map qtA),iv x] (.v (.bool (hasT x p))):=by
 have hlm:(p.map qtA).length=p.length:=List.length_map ..;have hg:∀i (h:i < p.length),(p.map qtA).getD i .u=.agg [.v (.bool (decide (p[i].1.num < 0))),lim (toL p[i].1.num.natAbs),lim (toL p[i].1.den),.sl 4 (p[i].2.map Qt.av)]:=λi h=>Zar qtA h;have hq2:∀i (h:i < p.length),p[i].2.length≤1000000:=λi h=>hq _ (List.getElem_mem h);generalize p.map qtA=P at *;refine Zaa (tok:=0) Tryz.func46 rfl Tryz.ntmps46 Tryz.results46 Tryz.call46 (by rfl) (by simp) ?_;(focus (refine wkad (w_1 hlm) w_t w_t ?_;(repeat' first|exact w_t|apply w_l);all_goals intros));refine Zad (ι:=Nat) (λi e m=>i≤p.length∧(e 1=iv x∧e 9=.sl 4 P∧e 10=iv p.length∧e 11=iv i)∧(p.take i).any (λt=>hasP x t.2)=false) (λi=>p.length - i) 0 (by rfl) ?_ ?_
 ·rintro i e m ⟨hi,⟨e1,e9,e10,e11⟩,hc⟩
  by_cases hlt:i < p.length
  ·have hgi:=hg i hlt;have hqi:=hq2 i hlt;have hqm:(p[i].2.map Qt.av).length=p[i].2.length:=List.length_map ..;have hqe:∀b (h:b < p[i].2.length),(p[i].2.map Qt.av).getD b .u=.agg [iv p[i].2[b].k,iv p[i].2[b].a,iv p[i].2[b].b,iv p[i].2[b].c]:=λb h=>Zar Qt.av h;have hst:hasP x p[i].2=false→(p.take (i+1)).any (λt=>hasP x t.2)=false:=Zh8 hlt hc;have hht:hasP x p[i].2=true→hasT x p=true:=Zkq (f:=λt:Rat × List Qt=>hasP x t.2) hlt;generalize p[i].2=w at *;generalize w.map Qt.av=qs at *;(focus (refine wkad (w_7 e1 e9 e10 e11 hlm hgi hqm) w_t w_t ?_;(repeat' first|exact w_t|apply w_l);all_goals intros))
   refine Zad (ι:=Nat) (λb e m=>b≤w.length∧(e 1=iv x∧e 9=.sl 4 P∧e 10=iv p.length∧e 11=iv i∧e 16=.sl 4 qs∧e 17=iv w.length∧e 18=iv b)∧(w.take b).any (hasQ x)=false) (λb=>w.length - b) 0 (by rfl) ?_ ?_
   ·rintro b e m ⟨hb,⟨e1,e9,e10,e11,e16,e17,e18⟩,hcb⟩
    by_cases hbl:b < w.length
    ·have hqb:=hqe b hbl;have cp:Pure Tryz.prog 106 [.agg [iv w[b].k,iv w[b].a,iv w[b].b,iv w[b].c]] (ivs w[b].pts):=quPoints w[b].k w[b].a w[b].b w[b].c;have cc:=slConI w[b].pts x (by have:=pts_le w[b];omega);have hs2:hasQ x w[b]=false→(w.take (b+1)).any (hasQ x)=false:=Zh8 hbl hcb;have hh2:hasQ x w[b]=true→hasP x w=true:=Zkq (f:=hasQ x) hbl;have hqd:(w[b].pts.any λt=>decide (x=t))=hasQ x w[b]:=rfl;rw [hqd] at cc;generalize w[b].pts.map iv=pp at *
     cases hv:hasQ x w[b] with
     | true =>
       rw [hv] at cc;rw [hht (hh2 hv)];clear hs2 hh2 hst hht;generalize w[b]=y at *;obtain⟨y1,y2,y3,y4⟩:=y;simp only at *;generalize (Qt.pts ⟨y1,y2,y3,y4⟩)=pts at *;(focus (refine wkad (w_9 e1 e9 e10 e11 e16 e17 e18 hqm hqb) (w_2 cp cc) w_t ?_;(repeat' first|exact w_t|apply w_l);all_goals intros));all_goals exact gL
     | false =>
       rw [hv] at cc;have hs3:=hs2 hv;clear hs2 hh2 hst hht;generalize w[b]=y at *;obtain⟨y1,y2,y3,y4⟩:=y;simp only at *;generalize (Qt.pts ⟨y1,y2,y3,y4⟩)=pts at *;(focus (refine wkad (w_9 e1 e9 e10 e11 e16 e17 e18 hqm hqb) (w_2 cp cc) w_t ?_;(repeat' first|exact w_t|apply w_l);all_goals intros));exact⟨b+1,⟨by omega,⟨by exact gW e1,by exact gW e9,by exact gW e10,by exact gW e11,by exact gW e16,by exact gW e17,by exact gS⟩,hs3⟩,by omega⟩
    ·have:b=w.length:=by omega
     subst this;rw [List.take_length] at hcb;have hs3:=hst hcb;(focus (refine wkad (w_8 e1 e9 e10 e11 e16 e17 e18 hqm) w_t w_t ?_;(repeat' first|exact w_t|apply w_l);all_goals intros));exact⟨i+1,⟨by omega,⟨by exact gW e1,by exact gW e9,by exact gW e10,by exact gS⟩,hs3⟩,by omega⟩
   ·exact⟨Nat.zero_le _,⟨by exact gW e1,by exact gW e9,by exact gW e10,by exact gW e11,by exact gC,by exact gW hqm,by exact gC⟩,rfl⟩
  ·have:i=p.length:=by omega
   subst this;rw [List.take_length] at hc;rw [show hasT x p=false from hc];(focus (refine wkad (w_5 e1 e9 e10 e11 hlm) w_t w_t ?_;(repeat' first|exact w_t|apply w_l);all_goals intros));all_goals exact gL
 ·exact⟨Nat.zero_le _,⟨by exact gC,by exact gC,by exact gW hlm,by exact gC⟩,rfl⟩
theorem rxMinus (p q:QTs) {j k n:Nat} (hp:QK p j n) (hq:QK q k n) (lp:p.length≤100000000) (lq:q.length≤100000000) (hj:j≤300000) (hk:k≤300000) (hn:n≤1000000):Pure Tryz.prog 44 [qpA p,qpA q] (qpA (Zau p (sclT (-1) q))):=by
 have hs:Sz (-1:Rat) 1:=⟨by show(toL 1).length≤1;rw [Zcr];omega,by show(toL 1).length≤1;rw [Zcr];omega⟩;have c1:=rxScale q (-1) hq hs (by decide) lq (by omega) (by omega);have hq2:QK (Zcy (-1) q) (k+1) n:=λt ht=>by
  obtain⟨u,hu,rfl⟩:=List.mem_map.1 ht;exact⟨(hq u hu).1.mul hs,(hq u hu).2⟩
 have c2:=rxPlus p (Zcy (-1) q) hp hq2 lp (by unfold Zcy;rw [List.length_map];exact lq) (by omega) (by omega) hn;have he:Zcy (-1) q=sclT (-1) q:=List.map_congr_left λt _=>by rw [Rat.mul_comm]
 rw [he] at c1 c2;have c0:Pure Tryz.prog 53 [iv (-1)] (.agg [.v (.bool (decide ((-1:Rat).num < 0))),lim (toL (-1:Rat).num.natAbs),lim (toL (-1:Rat).den)]):=qOfM;have c1:Pure Tryz.prog 60 [.sl 4 (q.map qtA),.agg [.v (.bool (decide ((-1:Rat).num < 0))),lim (toL (-1:Rat).num.natAbs),lim (toL (-1:Rat).den)]] (.sl 4 ((sclT (-1) q).map qtA)):=c1;have c2:Pure Tryz.prog 43 [.sl 4 (p.map qtA),.sl 4 ((sclT (-1) q).map qtA)] (.sl 4 ((Zau p (sclT (-1) q)).map qtA)):=c2;show Pure _ _ [.sl 4 (p.map qtA),.sl 4 (q.map qtA)] (.sl 4 ((Zau p (sclT (-1) q)).map qtA));generalize (Zau p (sclT (-1) q)).map qtA=R at *
 generalize (sclT (-1) q).map qtA=C at *;generalize p.map qtA=A at *;generalize q.map qtA=B at *;generalize decide ((-1:Rat).num < 0)=b1 at *;generalize toL (-1:Rat).num.natAbs=x1 at *;generalize toL (-1:Rat).den=y1 at *;refine Zaa (tok:=0) Tryz.func44 rfl Tryz.ntmps44 Tryz.results44 Tryz.call44 (by rfl) (by simp) ?_;(focus (refine wkad w_t (w_3 c0 c1 c2) w_t ?_;(repeat' first|exact w_t|apply w_l);all_goals intros));all_goals exact gL
theorem rxEqD (p q:QTs) {j k n:Nat} (hp:QK p j n) (hq:QK q k n) (hl:p.length≤1000000) (hl2:q.length≤1000000) (hj:j≤1000000) (hk:k≤1000000) (hn:n≤1000000):Pure Tryz.prog 21 [.sl 4 (p.map qtA),.sl 4 (q.map qtA)] (.v (.bool (decide (p=q)))):=by
 have hlm:(p.map qtA).length=p.length:=List.length_map ..;have hlm2:(q.map qtA).length=q.length:=List.length_map ..;have hg:∀i (h:i < p.length),(p.map qtA).getD i .u=.agg [.v (.bool (decide (p[i].1.num < 0))),lim (toL p[i].1.num.natAbs),lim (toL p[i].1.den),.sl 4 (p[i].2.map Qt.av)]:=λi h=>Zar qtA h;have hg2:∀i (h:i < q.length),(q.map qtA).getD i .u=.agg [.v (.bool (decide (q[i].1.num < 0))),lim (toL q[i].1.num.natAbs),lim (toL q[i].1.den),.sl 4 (q[i].2.map Qt.av)]:=λi h=>Zar qtA h;have ce:∀i (h:i < p.length) (h2:i < q.length),Pure Tryz.prog 33 [.agg [.v (.bool (decide (p[i].1.num < 0))),lim (toL p[i].1.num.natAbs),lim (toL p[i].1.den)],.agg [.v (.bool (decide (q[i].1.num < 0))),lim (toL q[i].1.num.natAbs),lim (toL q[i].1.den)]] (.v (.bool (decide (p[i].1=q[i].1)))):=λi h h2=>Zn2 p[i].1 q[i].1 (hp _ (List.getElem_mem h)).1 (hq _ (List.getElem_mem h2)).1 hj hk
 have co:∀i (h:i < p.length) (h2:i < q.length),Pure Tryz.prog 68 [.sl 4 (p[i].2.map Qt.av),.sl 4 (q[i].2.map Qt.av)] (iv (ordQ p[i].2 q[i].2)):=λi h h2=>Zl2 p[i].2 q[i].2 (by have:=(hp _ (List.getElem_mem h)).2;omega) (by have:=(hq _ (List.getElem_mem h2)).2;omega);clear hp hq;by_cases hll:p.length=q.length
 ·generalize p.map qtA=A at *;generalize q.map qtA=B at *;refine Zaa (tok:=0) Tryz.func21 rfl Tryz.ntmps21 Tryz.results21 Tryz.call21 (by rfl) (by simp) ?_;(focus (refine wkad (w_2 hlm hlm2) w_t w_t ?_;(repeat' first|exact w_t|apply w_l);all_goals intros));refine Zad (ι:=Nat) (λi e m=>i≤p.length∧(e 0=.sl 4 A∧e 1=.sl 4 B)∧e 5=iv i∧p.take i=q.take i) (λi=>p.length - i) 0 (by rfl) ?_ ?_
  ·rintro i e m ⟨hi,⟨e0,e1⟩,e5,ht⟩
   by_cases hlt:i < p.length
   ·have hgi:=hg i hlt;have hgi2:=hg2 i (by omega);have cei:=ce i hlt (by omega);have coi:=co i hlt (by omega);have ht2:p[i]=q[i]→p.take (i+1)=q.take (i+1):=λhv=>by rw [List.take_succ_eq_append_getElem hlt,List.take_succ_eq_append_getElem (by omega),ht,hv]
    have hne:p[i]≠q[i]→p≠q:=λh h2=>h (by subst h2;rfl);clear hg hg2 ce co;by_cases hv:p[i].1=q[i].1
    ·rw [decide_eq_true hv] at cei;by_cases hw:p[i].2=q[i].2
     ·have ht3:=ht2 (Prod.ext hv hw);rw [hw,Zbk.refl] at coi;rw [hw] at hgi;clear ht2 hne hv hw;generalize q[i].2.map Qt.av=rs at *;generalize decide (p[i].1.num < 0)=b1 at *;generalize decide (q[i].1.num < 0)=b2 at *;generalize toL p[i].1.num.natAbs=x1 at *;generalize toL q[i].1.num.natAbs=x2 at *;generalize toL p[i].1.den=y1 at *;generalize toL q[i].1.den=y2 at *;(focus (refine wkad (w_7 e0 e1 e5 hlm hlm2 hgi hgi2) (w_2 cei coi) (w_1 (w_d 6 [(10,.v (.bool true)),(23,iv 0)] [] [])) ?_;(repeat' first|exact w_t|apply w_l);all_goals intros));exact⟨i+1,⟨by omega,⟨by exact gW e0,by exact gW e1⟩,by exact gS,ht3⟩,by omega⟩
     ·have h0:¬ordQ p[i].2 q[i].2=0:=λh=>hw (Zbk.eqz _ _ h);rw [decide_eq_false (hne λh=>hw (by rw [h]))];clear ht2 hne hv hw;generalize ordQ p[i].2 q[i].2=z at *;generalize p[i].2.map Qt.av=qs at *;generalize q[i].2.map Qt.av=rs at *;generalize decide (p[i].1.num < 0)=b1 at *;generalize decide (q[i].1.num < 0)=b2 at *;generalize toL p[i].1.num.natAbs=x1 at *;generalize toL q[i].1.num.natAbs=x2 at *;generalize toL p[i].1.den=y1 at *;generalize toL q[i].1.den=y2 at *;(focus (refine wkad (w_8 e0 e1 e5 hlm hlm2 hgi hgi2 h0) (w_2 cei coi) (w_1 (w_d 6 [(10,.v (.bool true)),(23,iv z)] [] [])) ?_;(repeat' first|exact w_t|apply w_l);all_goals intros))
      all_goals exact gL
    ·rw [decide_eq_false hv] at cei;rw [decide_eq_false (hne λh=>hv (by rw [h]))];clear ht2 hne hv coi;generalize p[i].2.map Qt.av=qs at *;generalize q[i].2.map Qt.av=rs at *;generalize decide (p[i].1.num < 0)=b1 at *;generalize decide (q[i].1.num < 0)=b2 at *;generalize toL p[i].1.num.natAbs=x1 at *;generalize toL q[i].1.num.natAbs=x2 at *;generalize toL p[i].1.den=y1 at *;generalize toL q[i].1.den=y2 at *;(focus (refine wkad (w_7 e0 e1 e5 hlm hlm2 hgi hgi2) (w_1 cei) (w_1 (w_d 6 [(10,.v (.bool false))] [] [])) ?_;(repeat' first|exact w_t|apply w_l);all_goals intros));all_goals exact gL
   ·rw [decide_eq_true (by rw [←List.take_of_length_le (show p.length≤i by omega),ht,List.take_of_length_le (by omega)])];(focus (refine wkad (w_5 e0 e1 e5 hlm hlm2) w_t w_t ?_;(repeat' first|exact w_t|apply w_l);all_goals intros));all_goals exact gL
  ·exact⟨Nat.zero_le _,⟨by exact gC,by exact gC⟩,by exact gC,rfl⟩
 ·rw [decide_eq_false (λh=>hll (by rw [h]))];generalize p.map qtA=A at *;generalize q.map qtA=B at *;refine Zaa (tok:=0) Tryz.func21 rfl Tryz.ntmps21 Tryz.results21 Tryz.call21 (by rfl) (by simp) ?_;(focus (refine wkad (w_3 hlm hlm2 hll) w_t w_t ?_;(repeat' first|exact w_t|apply w_l);all_goals intros));all_goals exact gL
theorem rxHas (p:QTs) (x:Int) (hl:p.length≤1000000) (hq:∀t∈p,t.2.length≤1000000):Pure Tryz.prog 47 [.sl 4 (p.map qtA),iv x] (.v (.bool (hasT x p))):=by
 have hlm:(p.map qtA).length=p.length:=List.length_map ..;have hg:∀i (h:i < p.length),(p.map qtA).getD i .u=.agg [.v (.bool (decide (p[i].1.num < 0))),lim (toL p[i].1.num.natAbs),lim (toL p[i].1.den),.sl 4 (p[i].2.map Qt.av)]:=λi h=>Zar qtA h;have hq2:∀i (h:i < p.length),p[i].2.length≤1000000:=λi h=>hq _ (List.getElem_mem h);generalize p.map qtA=P at *;refine Zaa (tok:=0) Tryz.func47 rfl Tryz.ntmps47 Tryz.results47 Tryz.call47 (by rfl) (by simp) ?_;(focus (refine wkad w_t w_t w_t ?_;(repeat' first|exact w_t|apply w_l);all_goals intros));refine Zad (ι:=Nat) (λi e m=>i≤p.length∧(e 0=.sl 4 P∧e 1=iv x∧e 5=iv i)∧(p.take i).any (λt=>hasP x t.2)=false) (λi=>p.length - i) 0 (by rfl) ?_ ?_
 ·rintro i e m ⟨hi,⟨e0,e1,e5⟩,hc⟩
  by_cases hlt:i < p.length
  ·have hgi:=hg i hlt;have hqi:=hq2 i hlt;have hqm:(p[i].2.map Qt.av).length=p[i].2.length:=List.length_map ..;have hqe:∀b (h:b < p[i].2.length),(p[i].2.map Qt.av).getD b .u=.agg [iv p[i].2[b].k,iv p[i].2[b].a,iv p[i].2[b].b,iv p[i].2[b].c]:=λb h=>Zar Qt.av h;have hst:hasP x p[i].2=false→(p.take (i+1)).any (λt=>hasP x t.2)=false:=Zh8 hlt hc;have hht:hasP x p[i].2=true→hasT x p=true:=Zkq (f:=λt:Rat × List Qt=>hasP x t.2) hlt;generalize p[i].2=w at *;generalize w.map Qt.av=qs at *;(focus (refine wkad (w_6 e0 e1 e5 hlm hgi hqm) w_t w_t ?_;(repeat' first|exact w_t|apply w_l);all_goals intros))
   refine Zad (ι:=Nat) (λb e m=>b≤w.length∧(e 0=.sl 4 P∧e 1=iv x∧e 5=iv i∧e 6=iv b)∧(w.take b).any (hasQ x)=false) (λb=>w.length - b) 0 (by rfl) ?_ ?_
   ·rintro b e m ⟨hb,⟨e0,e1,e5,e6⟩,hcb⟩
    by_cases hbl:b < w.length
    ·have hqb:=hqe b hbl;have cp:Pure Tryz.prog 107 [.agg [iv w[b].k,iv w[b].a,iv w[b].b,iv w[b].c]] (.sl 1 (w[b].pts.map iv)):=rqPoints w[b].k w[b].a w[b].b w[b].c;have hpl:=pts_le w[b];have hpm:(w[b].pts.map iv).length=w[b].pts.length:=List.length_map ..;have hpg:∀c (h:c < w[b].pts.length),(w[b].pts.map iv).getD c .u=iv w[b].pts[c]:=λc h=>Zar iv h;have hs2:hasQ x w[b]=false→(w.take (b+1)).any (hasQ x)=false:=Zh8 hbl hcb;have hh2:hasQ x w[b]=true→hasT x p=true:=λh=>hht (Zkq (f:=hasQ x) hbl h);have hqd:hasQ x w[b]=w[b].pts.any λt=>decide (x=t):=rfl;rw [hqd] at hs2 hh2;clear hqd hqe hst hht
     generalize w[b]=y at *;obtain⟨y1,y2,y3,y4⟩:=y;simp only at *;generalize (Qt.pts ⟨y1,y2,y3,y4⟩)=pts at *;generalize pts.map iv=PP at *;(focus (refine wkad (w_8 e0 e1 e5 e6 hlm hgi hqm hqb) (w_1 cp) w_t ?_;(repeat' first|exact w_t|apply w_l);all_goals intros));refine Zad (ι:=Nat) (λc e m=>c≤pts.length∧(e 0=.sl 4 P∧e 1=iv x∧e 5=iv i∧e 6=iv b∧e 7=.sl 1 PP∧e 8=iv c)∧(pts.take c).any (λt=>decide (x=t))=false) (λc=>pts.length - c) 0 (by rfl) ?_ ?_
     ·rintro c e m ⟨hcl,⟨e0,e1,e5,e6,e7,e8⟩,hcc⟩
      by_cases hc3:c < pts.length
      ·have hgc:=hpg c hc3;by_cases hx:x=pts[c]
       ·rw [hh2 (Zkq (f:=λt=>decide (x=t)) hc3 (decide_eq_true hx))];rw [←hx] at hgc;clear hh2 hs2;(focus (refine wkad (w_8 e0 e1 e5 e6 e7 e8 hpm hgc) w_t w_t ?_;(repeat' first|exact w_t|apply w_l);all_goals intros));all_goals exact gL
       ·have hs4:=Zh8 (f:=λt=>decide (x=t)) hc3 hcc (decide_eq_false hx);have hx2:¬pts[c]=x:=λh=>hx h.symm;clear hh2 hs2;generalize pts[c]=z at *;(focus (refine wkad (w_9 e0 e1 e5 e6 e7 e8 hpm hgc hx2) w_t w_t ?_;(repeat' first|exact w_t|apply w_l);all_goals intros));exact⟨c+1,⟨by omega,⟨by exact gW e0,by exact gW e1,by exact gW e5,by exact gW e6,by exact gW e7,by exact gS⟩,hs4⟩,by omega⟩
      ·have:c=pts.length:=by omega
       subst this;rw [List.take_length] at hcc;have hs3:=hs2 hcc;(focus (refine wkad (w_7 e0 e1 e5 e6 e7 e8 hpm) w_t w_t ?_;(repeat' first|exact w_t|apply w_l);all_goals intros));exact⟨b+1,⟨by omega,⟨by exact gW e0,by exact gW e1,by exact gW e5,by exact gS⟩,hs3⟩,by omega⟩
     ·exact⟨Nat.zero_le _,⟨by exact gW e0,by exact gW e1,by exact gW e5,by exact gW e6,by exact gC,by exact gC⟩,rfl⟩
    ·have:b=w.length:=by omega
     subst this;rw [List.take_length] at hcb;have hs3:=hst hcb;(focus (refine wkad (w_7 e0 e1 e5 e6 hlm hgi hqm) w_t w_t ?_;(repeat' first|exact w_t|apply w_l);all_goals intros));exact⟨i+1,⟨by omega,⟨by exact gW e0,by exact gW e1,by exact gS⟩,hs3⟩,by omega⟩
   ·exact⟨Nat.zero_le _,⟨by exact gW e0,by exact gW e1,by exact gW e5,by exact gC⟩,rfl⟩
  ·have:i=p.length:=by omega
   subst this;rw [List.take_length] at hc;rw [show hasT x p=false from hc];(focus (refine wkad (w_4 e0 e1 e5 hlm) w_t w_t ?_;(repeat' first|exact w_t|apply w_l);all_goals intros));all_goals exact gL
 ·exact⟨Nat.zero_le _,⟨by exact gC,by exact gC,by exact gC⟩,rfl⟩
end Go.Proofs.YtjekhacnoopdpaaGreatDoor
namespace Go.Proofs.YtjekhacnoopdpaaGreatDoor
open Go Go.RowKit Go.Pg Go.Pol
theorem Zm9 {α:Type} {R:α→α→Prop} (tr:∀a b c,R a b→R b c→R a c):∀{l:List α},(∀i (h:i+1 < l.length),R l[i] l[i+1])→l.Pairwise R
 | [],_=>.nil
 | [a],_=>List.pairwise_singleton _ _
 | a :: b :: l,h=>by
   have h0:R a b:=h 0 (by simp);have ht:(b :: l).Pairwise R:=Zm9 tr λi hi=>h (i+1) (by simpa using hi);refine List.pairwise_cons.2 ⟨λc hc=>?_,ht⟩;rcases List.mem_cons.1 hc with rfl | hc
   ·exact h0
   ·exact tr _ _ _ h0 ((List.pairwise_cons.1 ht).1 c hc)
theorem cmp_tr {α:Type} {cmp:α→α→Int} (o:CO cmp) (a b c:α) (h1:cmp a b≤0) (h2:cmp b c≤0):cmp a c≤0:=by
 rcases Int.lt_or_eq_of_le h1 with h | h
 ·rcases Int.lt_or_eq_of_le h2 with k | k
  ·have:=o.tr _ _ _ h k;omega
  ·rw [←o.eqz _ _ k];exact h1
 ·rw [o.eqz _ _ h];exact h2
theorem prod_ok {q:List Qt} (h:Zhv q=true):okQ q:=by
 have hall:=λi (hi:i < q.length)=>List.all_eq_true.1 h i (List.mem_range.2 hi);refine⟨Zm9 (cmp_tr qtO) λi hi=>?_,λx hx=>?_⟩
 ·have:=hall (i+1) hi;unfold Zd1 at this;simp only [Bool.and_eq_true,Bool.or_eq_true,decide_eq_true_eq,Nat.add_sub_cancel] at this;rcases this.2 with h1 | h1
  ·omega
  ·rwa [Zb4 (by omega),Zb4 hi] at h1
 ·obtain⟨i,hi,rfl⟩:=List.getElem_of_mem hx;have:=hall i hi;unfold Zd1 at this;simp only [Bool.and_eq_true,decide_eq_true_eq] at this;have:=this.1
  rwa [Zb4 hi] at this
theorem rgt_ex {l:List RE} (h:rgtB l=true):EX (l.map RE.rt):=by
 have hall:=λi (hi:i < l.length)=>List.all_eq_true.1 h i (List.mem_range.2 hi);refine⟨λt ht=>?_,List.pairwise_map.2 (Zm9 (R:=λa b:RE=>ordQ a.q b.q < 0) (λa b c h1 h2=>Zbk.tr _ _ _ h1 h2) λi hi=>?_)⟩
 ·obtain⟨u,hu,rfl⟩:=List.mem_map.1 ht;obtain⟨i,hi,rfl⟩:=List.getElem_of_mem hu;have:=hall i hi;unfold Zdx at this;simp only [Bool.and_eq_true,Bool.not_eq_true',decide_eq_false_iff_not] at this;rw [Zb4 hi] at this;exact⟨this.2.1,prod_ok this.2.2.1⟩
 ·have:=hall (i+1) hi;unfold Zdx at this;simp only [Bool.and_eq_true,Bool.or_eq_true,decide_eq_true_eq,Nat.add_sub_cancel] at this;rcases this.2.2.2 with h1 | h1
  ·omega
  ·rwa [Zb4 (by omega),Zb4 hi] at h1
theorem Zsb:∀(l:QTs),(∀t∈l,(toL t.1.den).length≤2)→∃D,D≠0∧D < 65536 ^ (2*l.length+1)∧∀t∈l,t.1.den ∣ D
 | [],_=>⟨1,by omega,by decide,λt ht=>by cases ht⟩
 | a :: l,h=>by
   obtain⟨D,h0,h1,h2⟩:=Zsb l λt ht=>h t (.tail _ ht);have h3:=Zaf.1 (h a (.head _));refine⟨a.1.den*D,Nat.mul_ne_zero a.1.den_nz h0,?_,λt ht=>?_⟩
   ·have h4:=Nat.mul_lt_mul_of_lt_of_lt h3 h1;rw [←Nat.pow_add] at h4;rw [List.length_cons,show 2*(l.length+1)+1=2+(2*l.length+1) from by omega];exact h4
   ·rcases List.mem_cons.1 ht with rfl | ht
    ·exact Nat.dvd_mul_right _ _
    ·exact Nat.dvd_trans (h2 t ht) (Nat.dvd_mul_left _ _)
theorem cl_small {a:Rat} (h:(toL a.num.natAbs).length≤2):cl a≤65536 ^ 2:=by
 have h3:=Zaf.1 h;refine cl_le.2 (Nat.le_trans (Nat.le_of_lt h3) (Nat.le_mul_of_pos_right _ (Nat.pos_of_ne_zero a.den_nz)))
theorem Zrp:∀(l:QTs),(∀t∈l,(toL t.1.num.natAbs).length≤2)→n1 l≤l.length*65536 ^ 2
 | [],_=>by simp [n1]
 | a :: l,h=>by
   rw [Zby,List.length_cons,Nat.add_one_mul];have:=Zrp l λt ht=>h t (.tail _ ht);have:=cl_small (h a (.head _));omega
theorem Zhn {T Q k:Nat} {l:List RE} (hr:∀t∈l,t.r.lm k) (h:Zbp T Q l=true) (hT:T≤8):XB (l.map RE.rt) 17 Q∧(l.map RE.rt).length≤T:=by
 unfold Zbp at h;simp only [Bool.and_eq_true,decide_eq_true_eq] at h;have hq:=rt_qk hr h.2.1;have hl:(l.map RE.rt).length=l.length:=List.length_map ..;obtain⟨D,h0,h1,h2⟩:=Zsb (l.map RE.rt) λt ht=>(hq t ht).1.2;have h3:=Zrp (l.map RE.rt) λt ht=>(hq t ht).1.1;refine⟨⟨rgt_ex h.2.2,λt ht=>(hq t ht).2,D,n1 (l.map RE.rt),h0,Nat.lt_of_lt_of_le h1 (Nat.pow_le_pow_right (by omega) (by omega)),?_,h2,Nat.le_refl _⟩,by omega⟩;have h4:(l.map RE.rt).length*65536 ^ 2≤8*65536 ^ 2:=Nat.mul_le_mul_right _ (by omega);have h5:65536 ^ 3≤65536 ^ 17:=Nat.pow_le_pow_right (by omega) (by omega);have h6:8*65536 ^ 2 < 65536 ^ 3:=by decide
 omega
end Go.Proofs.YtjekhacnoopdpaaGreatDoor
namespace Go.Proofs.YtjekhacnoopdpaaGreatDoor
open Go Go.RowKit Go.Pg Go.Pol
attribute [-bool_to_prop] Bool.and_eq_decide Bool.or_eq_decide Bool.decide_beq_decide decide_eq_decide
attribute [local go_sem] Tryz.underlying3 Tryz.underlying4 Tryz.underlying169 Tryz.underlying41 Tryz.underlying43 Tryz.underlying45 Tryz.underlying25 Tryz.underlying47 Tryz.underlying49 Tryz.underlying22 Tryz.underlying23 sz3 by3 z3 szB zB Zbf zRat Zbo zInt Zbn zNat Zal Zaz Zam Bool.and_self Zax Zb3 zSlQ szQT byQT zQT Zb6 zSlT szQP zQP Tryz.underlying92 Tryz.underlying27 szFr byFr zFr Zib Zii zSQP Tryz.underlying36 Tryz.underlying33 Tryz.underlying9 Zcx zStr Tryz.underlying110 Tryz.underlying55 Tryz.underlying56
theorem XB.neg {q:QTs} {k n:Nat} (h:XB q k n):XB (sclT (-1) q) k n:=by
 obtain⟨a,b,D,B,c,d,e,f⟩:=h;refine⟨⟨λt ht=>?_,List.pairwise_map.2 a.2⟩,λt ht=>?_,D,B,c,d,e,λt ht=>?_,?_⟩
 ·obtain⟨u,hu,rfl⟩:=List.mem_map.1 ht;refine⟨λh=>(a.1 u hu).1 ?_,(a.1 u hu).2⟩;have h:(-1:Rat)*u.1=0:=h;rw [Rat.neg_mul,Rat.one_mul] at h;have:=congrArg (λz:Rat=>-z) h
  simpa using this
 ·obtain⟨u,hu,rfl⟩:=List.mem_map.1 ht;exact b u hu
 ·obtain⟨u,hu,rfl⟩:=List.mem_map.1 ht;have:=f.1 u hu;show((-1:Rat)*u.1).den ∣ D;have e1:((-1:Rat)*u.1)=-u.1:=by rw [Rat.neg_mul,Rat.one_mul]
  rw [e1];exact this
 ·refine Nat.le_trans (Nat.le_of_eq ?_) f.2;unfold n1 sclT;rw [List.map_map];congr 1;refine List.map_congr_left λu _=>?_;show cl ((-1:Rat)*u.1)=cl u.1;have e1:((-1:Rat)*u.1)=-u.1:=by rw [Rat.neg_mul,Rat.one_mul]
  rw [e1];unfold cl;rw [show(-u.1).num=-u.1.num from rfl,show(-u.1).den=u.1.den from rfl,Int.natAbs_neg]
theorem lawESums (l1 l2:List RE) (x:Int) (hl1:l1.length≤9223372036854775807) (hr1:∀t∈l1,t.r.lm 9223372036854775807) (hq1:∀t∈l1,t.q.length≤9223372036854775807)
 (hl2:l2.length≤9223372036854775807) (hr2:∀t∈l2,t.r.lm 9223372036854775807) (hq2:∀t∈l2,t.q.length≤9223372036854775807) :
 Pure Tryz.prog 9 [.sl 4 (l1.map RE.av),.sl 4 (l2.map RE.av),iv x] (.v (.bool true)):=by
 have ck:=Zkp;have cs1:=Zml l1 hl1 hr1 hq1;have cs2:=Zml l2 hl2 hr2 hq2
 cases hb1:Zbp 8 3 l1 with
 | false =>
   rw [hb1] at cs1;generalize l1.map RE.av=A at *;generalize l2.map RE.av=B at *;refine Zaa (tok:=0) Tryz.func9 rfl Tryz.ntmps9 Tryz.results9 Tryz.call9 (by rfl) (by simp) ?_;(focus (refine wkad w_t (w_2 cs1 ck) w_t ?_;(repeat' first|exact w_t|apply w_l);all_goals intros));all_goals exact gL
 | true =>
   rw [hb1] at cs1
   cases hb2:Zbp 8 3 l2 with
   | false =>
     rw [hb2] at cs2;generalize l1.map RE.av=A at *;generalize l2.map RE.av=B at *;refine Zaa (tok:=0) Tryz.func9 rfl Tryz.ntmps9 Tryz.results9 Tryz.call9 (by rfl) (by simp) ?_;(focus (refine wkad w_t (w_3 cs1 cs2 ck) w_t ?_;(repeat' first|exact w_t|apply w_l);all_goals intros));all_goals exact gL
   | true =>
     rw [hb2] at cs2;obtain⟨x1,n1⟩:=Zhn hr1 hb1 (by omega);obtain⟨x2,n2⟩:=Zhn hr2 hb2 (by omega)
     have e1:l1.map RE.av=(l1.map RE.rt).map qtA:=by
      unfold Zbp at hb1;simp only [Bool.and_eq_true,decide_eq_true_eq] at hb1;exact Zun hr1 hb1.2.1
     have e2:l2.map RE.av=(l2.map RE.rt).map qtA:=by
      unfold Zbp at hb2;simp only [Bool.and_eq_true,decide_eq_true_eq] at hb2;exact Zun hr2 hb2.2.1
     rw [e1] at cs1;rw [e2] at cs2;rw [e1,e2];generalize l1.map RE.rt=p at *;generalize l2.map RE.rt=q at *;clear e1 e2 hb1 hb2 hl1 hr1 hq1 hl2 hr2 hq2;have hM:=Zmp;have hpq:p.length*q.length≤8*8:=Nat.mul_le_mul n1 n2;have xa:=(x1.add x2);have xs:=(x1.add x2.neg);have xm:=(x1.mul x2);have la:(Zau p q).length≤1000000:=Nat.le_trans (Zgx p q) (by omega);have ls:(Zau p (sclT (-1) q)).length≤1000000:=Nat.le_trans (Zgx p _) (by rw [Zdq];omega)
     have lm:(mulX p q).length≤1000000:=by
      have hk:QK (prodL muQ p q) 100 100:=λu hu=>by
       obtain⟨s,hs,t,ht,rfl⟩:=Zf4 hu;exact⟨((x1.qk s hs).1.mul (x2.qk t ht).1).mono (by omega),by show(muQ s.2 t.2).length≤100;rw [Zvw];have:=x1.2.1 s hs;have:=x2.2.1 t ht;omega⟩
      have h1:=(Zj9 _ (prodL muQ p q) rfl hk).2
      have h2:(prodL muQ p q).length=p.length*q.length:=by
       unfold prodL;rw [List.length_flatMap];simp [List.map_const',List.sum_replicate_nat]
      exact Nat.le_trans h1 (by omega)
     have c1:=Zli p q x1.qk x2.qk x1.nz x2.nz (by omega) (by omega) (by omega) (by omega) (by omega);have c2:=rxPlus p q x1.qk x2.qk (by omega) (by omega) (by omega) (by omega) (by omega);have c3:=Zkf p q x1.qk x2.qk x1.nz x2.nz (by omega) (by omega) (by omega) (by omega) (by omega);have c4:=rxMinus p q x1.qk x2.qk (by omega) (by omega) (by omega) (by omega) (by omega);have c5:=Zmx p q x1 x2 (by omega) (by omega) (by omega) (by omega) (by omega) (by omega);have c6:=rxMul p q x1 x2 (by omega) (by omega) (by omega) (by omega) (by omega) (by omega) (by omega);have q1:=Zi6 (Zau p q) xa.qk la (by omega) (by omega)
     have q2:=Zi6 (Zau p (sclT (-1) q)) xs.qk ls (by omega) (by omega);have q3:=Zi6 (mulX p q) xm.qk lm (by omega) (by omega);have q4:=Zhe p q x1.qk x2.qk (by omega) (by omega) (by omega) (by omega) (by omega);have q5:=rxEqD p q x1.qk x2.qk (by omega) (by omega) (by omega) (by omega) (by omega);have q6:=Zhe p p x1.qk x1.qk (by omega) (by omega) (by omega) (by omega) (by omega);rw [decide_eq_true rfl] at q6;have h1:=exHas p x (by omega) (λt ht=>by have:=x1.2.1 t ht;omega);have h2:=rxHas p x (by omega) (λt ht=>by have:=x1.2.1 t ht;omega);clear xa xs xm la ls lm hpq x1 x2 n1 n2 hM
     have c1:Pure Tryz.prog _ [.sl 4 (p.map qtA),.sl 4 (q.map qtA)] (.sl 4 ((Zau p q).map qtA)):=c1;have c2:Pure Tryz.prog _ [.sl 4 (p.map qtA),.sl 4 (q.map qtA)] (.sl 4 ((Zau p q).map qtA)):=c2;have c3:Pure Tryz.prog _ [.sl 4 (p.map qtA),.sl 4 (q.map qtA)] (.sl 4 ((Zau p (sclT (-1) q)).map qtA)):=c3;have c4:Pure Tryz.prog _ [.sl 4 (p.map qtA),.sl 4 (q.map qtA)] (.sl 4 ((Zau p (sclT (-1) q)).map qtA)):=c4;have c5:Pure Tryz.prog _ [.sl 4 (p.map qtA),.sl 4 (q.map qtA)] (.sl 4 ((mulX p q).map qtA)):=c5;have c6:Pure Tryz.prog _ [.sl 4 (p.map qtA),.sl 4 (q.map qtA)] (.sl 4 ((mulX p q).map qtA)):=c6
     have q1:Pure Tryz.prog _ [.sl 4 ((Zau p q).map qtA),.sl 4 ((Zau p q).map qtA)] (.v (.bool true)):=q1;have q2:Pure Tryz.prog _ [.sl 4 ((Zau p (sclT (-1) q)).map qtA),.sl 4 ((Zau p (sclT (-1) q)).map qtA)] (.v (.bool true)):=q2;have q3:Pure Tryz.prog _ [.sl 4 ((mulX p q).map qtA),.sl 4 ((mulX p q).map qtA)] (.v (.bool true)):=q3;generalize (Zau p q).map qtA=J at *;generalize (Zau p (sclT (-1) q)).map qtA=K at *;generalize (mulX p q).map qtA=M at *;generalize hasT x p=hv at *;generalize decide (p=q)=ev at *;generalize p.map qtA=A at *;generalize q.map qtA=B at *;have n1:(ev != ev)=false:=by cases ev<;>rfl
     have n2:(hv == hv)=true:=by cases hv<;>rfl
     refine Zaa (tok:=0) Tryz.func9 rfl Tryz.ntmps9 Tryz.results9 Tryz.call9 (by rfl) (by simp) ?_
     (repeat' (first|(with_reducible first|refine stp ?_|apply gx1|apply gx2|apply gx3|apply gx4|apply gx5|apply gx6|apply gx7|apply gy8|apply gz2|apply gz3|refine gw0 (cs1) ?_ ?_|refine gw3 (cs1) ?_ ?_ ?_|refine gw0 (cs2) ?_ ?_|refine gw3 (cs2) ?_ ?_ ?_|refine gw0 (c1) ?_ ?_|refine gw3 (c1) ?_ ?_ ?_|refine gw0 (c2) ?_ ?_|refine gw3 (c2) ?_ ?_ ?_|refine gw0 (q1) ?_ ?_|refine gw3 (q1) ?_ ?_ ?_|refine gw0 (c3) ?_ ?_|refine gw3 (c3) ?_ ?_ ?_|refine gw0 (c4) ?_ ?_|refine gw3 (c4) ?_ ?_ ?_|refine gw0 (q2) ?_ ?_|refine gw3 (q2) ?_ ?_ ?_|refine gw0 (c5) ?_ ?_|refine gw3 (c5) ?_ ?_ ?_|refine gw0 (c6) ?_ ?_|refine gw3 (c6) ?_ ?_ ?_|refine gw0 (q3) ?_ ?_|refine gw3 (q3) ?_ ?_ ?_|refine gw0 (q4) ?_ ?_|refine gw3 (q4) ?_ ?_ ?_|refine gw0 (q5) ?_ ?_|refine gw3 (q5) ?_ ?_ ?_|refine gw0 (q6) ?_ ?_|refine gw3 (q6) ?_ ?_ ?_|refine gw0 (h1) ?_ ?_|refine gw3 (h1) ?_ ?_ ?_|refine gw0 (h2) ?_ ?_|refine gw3 (h2) ?_ ?_ ?_|refine gw0 (ck) ?_ ?_|refine gw3 (ck) ?_ ?_ ?_)|(with_reducible refine Zan ?_;intro _)|((with_reducible refine gE ?_);(try simp (disch:=omega) only [go_sem,n1,n2,decide_eq_true,decide_eq_false,if_pos,if_neg,Int.reduceAdd,Int.reduceSub,Int.reduceToNat,Int.zero_add])<;>first|rfl|omega)|with_reducible refine Zab (by decide) ?_|((with_reducible apply gy1);iterate 3 focus rfl)|((with_reducible apply gy2);iterate 3 focus rfl)|((with_reducible apply gy3);iterate 2 focus rfl)|((with_reducible apply gy4);iterate 1 focus rfl)|((with_reducible apply gy5);iterate 4 focus rfl)|((with_reducible apply gy5c);iterate 4 focus rfl)|((with_reducible apply gy6);iterate 4 focus rfl)|((with_reducible apply Za8);iterate 3 focus rfl)|((with_reducible apply Za7);iterate 1 focus rfl)|((with_reducible apply gy7);iterate 1 focus rfl)|((with_reducible apply gy9);(focus ((with_reducible refine gE ?_);(try simp (disch:=omega) only [go_sem,n1,n2,decide_eq_true,decide_eq_false,if_pos,if_neg,Int.reduceAdd,Int.reduceSub,Int.reduceToNat,Int.zero_add])<;>rfl)))|((with_reducible apply gz1);(focus first|rfl|(simp (disch:=omega) only [go_sem,n1,n2,decide_eq_true,decide_eq_false,if_pos,if_neg,Int.reduceAdd,Int.reduceSub,Int.reduceToNat,Int.zero_add];done)))|((with_reducible apply Zae (Zaw []) [] []);(focus kernel_rfl);(focus rfl);(focus kernel_rfl);(focus (simp only [List.length_cons,List.length_nil,Nat.reduceAdd];rfl)))|((with_reducible first|apply Za2|apply Za4|apply Za3);all_goals (intro hc;(try simp only [bool_to_prop] at hc);try (exfalso;omega)))))
     all_goals exact gL
theorem saidESums (xs:List AV) (h:ShapeL Tryz.prog maxLen 9 [23,23,3] xs):Pure Tryz.prog 9 xs (.v (.bool true)):=by
 obtain⟨x,bs,rfl,h1,h⟩:=h.inv;obtain⟨y,bs,rfl,h2,h⟩:=h.inv;obtain⟨z,bs,rfl,h3,h⟩:=h.inv;obtain rfl:=h.inv0;obtain⟨l1,rfl,a1,a2,a3⟩:=Zf1 Tryz.underlying23 h1;obtain⟨l2,rfl,b1,b2,b3⟩:=Zf1 Tryz.underlying23 h2;obtain⟨i,rfl,_⟩:=Ze7 Tryz.underlying3 h3;rw [Zb5 (by kernel_rfl),Zb5 (by kernel_rfl),Zb5 (by kernel_rfl)];have e:maxLen=9223372036854775807:=by decide
 rw [e] at a1 a2 a3 b1 b2 b3;exact lawESums l1 l2 i a1 a2 a3 b1 b2 b3
theorem gat_id {p:QTs} (h:EX p):gatM p=p:=Zhf (D:=okQ) Zbk (Zjg Zbk h.dom) h λφ=>Zmy Zbk φ p
def reP (p:QTs):List RE:=p.map λt=>⟨rawQ t.1,t.2⟩
theorem reP_av (p:QTs):(reP p).map RE.av=p.map qtA:=by unfold reP;rw [List.map_map];rfl
theorem sgP_ok {l:List Qt} (h:∀q∈l,q.norm=(q,1)):sgP l=1:=by
 have key:∀(l:List Qt) (s:Int),(∀q∈l,q.norm=(q,1))→l.foldl (λs q=>s*q.norm.2) s=s:=by
  intro l
  induction l with
  | nil=>intro s _;rfl
  | cons a l ih=>intro s h;rw [List.foldl_cons,h a (.head _),Int.mul_one];exact ih s λq hq=>h q (.tail _ hq)
 exact key l 1 h
theorem nsP_ok:∀{l:List Qt},(∀q∈l,q.norm=(q,1))→nsP l=l
 | [],_=>rfl
 | a :: l,h=>by
   show a.norm.1 :: nsP l=a :: l;rw [h a (.head _),nsP_ok λq hq=>h q (.tail _ hq)]
theorem putP_ok {l:List Qt} (h:okQ l):putP l=l:=by
 rw [←Zuc (by rw [sgP_ok h.2];decide),nsP_ok h.2];exact Zhh qtO (Zc7 qtO.cp _) h.1 (Zbr _)
theorem reP_ok {p:QTs} (h:∀t∈p,okQ t.2):(reP p).all RE.ok=true:=by
 rw [List.all_eq_true];intro t ht;obtain⟨u,hu,rfl⟩:=List.mem_map.1 ht;show((rawQ u.1).ok && u.2.all Qt.ok)=true;rw [Zhc,Bool.true_and,List.all_eq_true];exact λq hq=>Zvr ((h u hu).2 q hq)
theorem reP_t:∀{p:QTs},(∀t∈p,okQ t.2)→(reP p).map RE.t=p
 | [],_=>rfl
 | u :: p,h=>by
   show RE.t ⟨rawQ u.1,u.2⟩ :: (reP p).map RE.t=u :: p;rw [reP_t λt ht=>h t (.tail _ ht)];show((rawQ u.1).q*(sgP u.2:Rat),putP u.2) :: p=u :: p;rw [Zny,sgP_ok (h u (.head _)).2,putP_ok (h u (.head _)),show((1:Int):Rat)=1 from rfl,Rat.mul_one]
theorem nrm_re {p:QTs} (h:∀t∈p,okQ t.2):nrmR (reP p)=qpA (gatM p):=by rw [Zk6 (reP_ok h),reP_t h]
theorem Zra {p:QTs} {j n:Nat} (h:QK p j n):(∀t∈reP p,t.r.lm j)∧∀t∈reP p,t.q.length≤n:=by
 refine⟨λt ht=>?_,λt ht=>?_⟩<;>obtain⟨u,hu,rfl⟩:=List.mem_map.1 ht
 ·exact Zez (h u hu).1
 ·exact(h u hu).2
theorem prodB_ok {q:List Qt} (h:okQ q):Zhv q=true:=Zee λi hi=>by
 have h1:=h.2 _ (List.getElem_mem hi);refine qOk_y (by rw [Zb4 hi,h1]) (by rw [Zb4 hi,h1]) ?_;rcases Nat.eq_zero_or_pos i with h0 | h0
 ·exact .inl h0
 ·refine .inr ?_;rw [Zb4 hi,Zb4 (show i - 1 < q.length by omega)];exact List.pairwise_iff_getElem.1 h.1 _ _ _ hi (by omega)
theorem rgtB_ok {p:QTs} (h:EX p):rgtB (reP p)=true:=Zee λi hi=>by
 have hl:(reP p).length=p.length:=List.length_map ..;have hi':i < p.length:=by omega
 have hat:∀j (hj:j < p.length),(reP p).getD j RE.zero=⟨rawQ p[j].1,p[j].2⟩:=λj hj=>by
  rw [Zb4 (show j < (reP p).length by omega)];unfold reP;rw [List.getElem_map]
 refine Zt6 (by rw [hat i hi'];exact Zhc _) (by rw [hat i hi'];show(rawQ _).q≠0;rw [Zny];exact(h.1 _ (List.getElem_mem hi')).1) (by rw [hat i hi'];exact prodB_ok (h.1 _ (List.getElem_mem hi')).2) ?_;rcases Nat.eq_zero_or_pos i with h0 | h0
 ·exact .inl h0
 ·refine .inr ?_;rw [hat i hi',hat (i - 1) (by omega)];exact List.pairwise_iff_getElem.1 h.2 _ _ _ hi' (by omega)
theorem Zqf (φ:List Qt→Rat) (s:Rat):∀p:QTs,evl φ (sclT s p)=s*evl φ p
 | []=>by show(0:Rat)=s*0;rw [Rat.mul_zero]
 | t :: p=>by
   show s*t.1*φ t.2+evl φ (sclT s p)=s*(t.1*φ t.2+evl φ p);rw [Zqf φ s p];grind
theorem EX.neg {p:QTs} (h:EX p):EX (sclT (-1) p):=by
 refine⟨λt ht=>?_,List.pairwise_map.2 h.2⟩;obtain⟨u,hu,rfl⟩:=List.mem_map.1 ht;refine⟨λh0=>(h.1 u hu).1 ?_,(h.1 u hu).2⟩;have h0:(-1:Rat)*u.1=0:=h0
 grind
theorem sub_same {p:QTs} (h:EX p):Zau p (sclT (-1) p)=[] :=
 Zhf (D:=okQ) Zbk (Zgf Zbk h h.neg) .nil λφ=>by
  rw [Zih Zbk,Zqf];show _=(0:Rat)
  grind
theorem add_back {p q:QTs} (hp:EX p) (hq:EX q):Zau (Zau p q) (sclT (-1) q)=p :=
 Zhf (D:=okQ) Zbk (Zgf Zbk (Zgf Zbk hp hq) hq.neg) hp λφ=>by
  rw [Zih Zbk,Zih Zbk,Zqf]
  grind
theorem exRgt (p:QTs) {k n:Nat} (h:XB p k n) (hk:k≤50000) (hn:p.length≤1000000∧n≤1000000):Pure Tryz.prog 24 [qpA p] (.v (.bool true)):=by
 have c:=Zwg (reP p) (by show(List.map _ _).length≤_;rw [List.length_map];exact hn.1) (Zra h.qk).1 (λt ht=>Nat.le_trans ((Zra h.qk).2 t ht) hn.2) (by omega)
 rwa [reP_av,rgtB_ok h.1] at c
theorem exNrm (p:QTs) {j n:Nat} (h:QK p j n) (ho:∀t∈p,okQ t.2) (hl:p.length≤12) (hn:n≤12) (hj:j≤1000):Pure Tryz.prog 22 [qpA p] (qpA (gatM p)):=by
 have c:=Zke (reP p) (by show(List.map _ _).length≤_;rw [List.length_map];exact hl) (Zra h).1 (λt ht=>Nat.le_trans ((Zra h).2 t ht) hn) hj
 rwa [reP_av,nrm_re ho] at c
theorem Zlx {T Q k:Nat} {l:List RE} (hr:∀t∈l,t.r.lm k) (h:Zbp T Q l=true):l.map RE.av=(l.map RE.rt).map qtA:=by
 unfold Zbp at h;simp only [Bool.and_eq_true,decide_eq_true_eq] at h;exact Zun hr h.2.1
theorem lawERing (l1 l2 l3:List RE) (hl1:l1.length≤9223372036854775807) (hr1:∀t∈l1,t.r.lm 9223372036854775807) (hq1:∀t∈l1,t.q.length≤9223372036854775807)
 (hl2:l2.length≤9223372036854775807) (hr2:∀t∈l2,t.r.lm 9223372036854775807) (hq2:∀t∈l2,t.q.length≤9223372036854775807)
 (hl3:l3.length≤9223372036854775807) (hr3:∀t∈l3,t.r.lm 9223372036854775807) (hq3:∀t∈l3,t.q.length≤9223372036854775807) :
 Pure Tryz.prog 8 [.sl 4 (l1.map RE.av),.sl 4 (l2.map RE.av),.sl 4 (l3.map RE.av)] (.v (.bool true)):=by
 have ck:=Zkp;have cs1:Pure Tryz.prog 11 [.sl 4 (l1.map RE.av),iv 4,iv 2] (.v (.bool (Zbp 4 2 l1))):=Zl1 l1 4 2 (by omega) (by omega) hl1 hr1 hq1;have cs2:Pure Tryz.prog 11 [.sl 4 (l2.map RE.av),iv 4,iv 2] (.v (.bool (Zbp 4 2 l2))):=Zl1 l2 4 2 (by omega) (by omega) hl2 hr2 hq2;have cs3:Pure Tryz.prog 11 [.sl 4 (l3.map RE.av),iv 4,iv 2] (.v (.bool (Zbp 4 2 l3))):=Zl1 l3 4 2 (by omega) (by omega) hl3 hr3 hq3;by_cases hb:Zbp 4 2 l1=true∧Zbp 4 2 l2=true∧Zbp 4 2 l3=true
 ·obtain⟨hb1,hb2,hb3⟩:=hb;rw [hb1] at cs1;rw [hb2] at cs2;rw [hb3] at cs3;obtain⟨x1,n1⟩:=Zhn hr1 hb1 (by omega);obtain⟨x2,n2⟩:=Zhn hr2 hb2 (by omega);obtain⟨x3,n3⟩:=Zhn hr3 hb3 (by omega);rw [Zlx hr1 hb1] at cs1 ⊢;rw [Zlx hr2 hb2] at cs2 ⊢;rw [Zlx hr3 hb3] at cs3 ⊢;generalize l1.map RE.rt=p at *;generalize l2.map RE.rt=q at *;generalize l3.map RE.rt=r at *;clear hb1 hb2 hb3 hl1 hr1 hq1 hl2 hr2 hq2 hl3 hr3 hq3;have hM:=Zmp;have xab:=x1.mul x2;have xbc:=x2.mul x3;have xac:=x1.mul x3;have xm:=xab.mul x3;have xs:=x1.add x2;have xt:=x2.add x3;have xx:=x1.mul xt;have xd:=x1.add x2.neg
  have b1:p.length*q.length≤4*4:=Nat.mul_le_mul n1 n2;have b2:q.length*r.length≤4*4:=Nat.mul_le_mul n2 n3;have b3:p.length*r.length≤4*4:=Nat.mul_le_mul n1 n3;have b1':q.length*p.length≤4*4:=Nat.mul_le_mul n2 n1;have mab:=Zj2 p q;have mbc:=Zj2 q r;have mac:=Zj2 p r;have lab:(mulX p q).length≤16:=by omega
  have lbc:(mulX q r).length≤16:=by omega
  have b4:(mulX p q).length*r.length≤16*4:=Nat.mul_le_mul lab n3;have b5:p.length*(mulX q r).length≤4*16:=Nat.mul_le_mul n1 lbc;have mm:=Zj2 (mulX p q) r;have ms:(Zau p q).length≤8:=Nat.le_trans (Zgx p q) (by omega);have mt:(Zau q r).length≤8:=Nat.le_trans (Zgx q r) (by omega);have b6:p.length*(Zau q r).length≤4*8:=Nat.mul_le_mul n1 mt;have mx:=Zj2 p (Zau q r);have md:(Zau p (sclT (-1) q)).length≤8:=Nat.le_trans (Zgx p _) (by rw [Zdq];omega);have k1:mulX q p=mulX p q:=Zi9 rgQ x2.1 x1.1;have k2:mulX p (mulX q r)=mulX (mulX p q) r:=(Zvy rgQ x1.1 x2.1 x3.1).symm
  have k3:Zau q p=Zau p q:=adG_comm Zbk x2.1 x1.1;have k4:Zau (mulX p q) (mulX p r)=mulX p (Zau q r):=(mlG_add' rgQ x2.1 x3.1 x1.1).symm;have k5:=sub_same x1.1;have k6:=add_back x1.1 x2.1;have c1:=Zmx _ _ x1 x2 (by omega) (by omega) (by omega) (by omega) (by omega) (by omega);have c2:=Zmx _ _ x2 x3 (by omega) (by omega) (by omega) (by omega) (by omega) (by omega);have c3:=Zmx _ _ x2 x1 (by omega) (by omega) (by omega) (by omega) (by omega) (by omega);rw [k1] at c3;have e1:=Zhe _ _ xab.qk xab.qk (by omega) (by omega) (by omega) (by omega) (by omega);rw [decide_eq_true rfl] at e1
  have c4:=Zmx _ _ xab x3 (by omega) (by omega) (by omega) (by omega) (by omega) (by omega);have c5:=Zmx _ _ x1 xbc (by omega) (by omega) (by omega) (by omega) (by omega) (by omega);rw [k2] at c5;have e2:=Zhe _ _ xm.qk xm.qk (by omega) (by omega) (by omega) (by omega) (by omega);rw [decide_eq_true rfl] at e2;have c6:=Zli _ _ x1.qk x2.qk x1.nz x2.nz (by omega) (by omega) (by omega) (by omega) (by omega);have c7:=Zli _ _ x2.qk x1.qk x2.nz x1.nz (by omega) (by omega) (by omega) (by omega) (by omega);rw [k3] at c7;have e3:=Zhe _ _ xs.qk xs.qk (by omega) (by omega) (by omega) (by omega) (by omega)
  rw [decide_eq_true rfl] at e3;have c8:=Zli _ _ x2.qk x3.qk x2.nz x3.nz (by omega) (by omega) (by omega) (by omega) (by omega);have c9:=Zmx _ _ x1 xt (by omega) (by omega) (by omega) (by omega) (by omega) (by omega);have d1:=Zmx _ _ x1 x3 (by omega) (by omega) (by omega) (by omega) (by omega) (by omega);have d2:=Zli _ _ xab.qk xac.qk xab.nz xac.nz (by omega) (by omega) (by omega) (by omega) (by omega);rw [k4] at d2;have e4:=Zhe _ _ xx.qk xx.qk (by omega) (by omega) (by omega) (by omega) (by omega);rw [decide_eq_true rfl] at e4;have d3:=Zkf _ _ x1.qk x1.qk x1.nz x1.nz (by omega) (by omega) (by omega) (by omega) (by omega)
  rw [k5] at d3;have d4:=Zkf _ _ xs.qk x2.qk xs.nz x2.nz (by omega) (by omega) (by omega) (by omega) (by omega);rw [k6] at d4;have e5:=Zhe _ _ x1.qk x1.qk (by omega) (by omega) (by omega) (by omega) (by omega);rw [decide_eq_true rfl] at e5;have r1:=exRgt _ xab (by omega) (by omega);have d5:=Zkf _ _ x1.qk x2.qk x1.nz x2.nz (by omega) (by omega) (by omega) (by omega) (by omega);have r2:=exRgt _ xd (by omega) (by omega);have n1:=exNrm p x1.qk x1.1.dom (by omega) (by omega) (by omega);rw [gat_id x1.1] at n1;clear x1 x2 x3 xab xbc xac xm xs xt xx xd hM b1 b2 b3 b1' mab mbc mac lab lbc b4 b5 mm ms mt b6 mx md k1 k2 k3 k4 k5 k6 n2 n3
  have c1:Pure Tryz.prog 35 [.sl 4 (p.map qtA),.sl 4 (q.map qtA)] (.sl 4 ((mulX p q).map qtA)):=c1;have c2:Pure Tryz.prog 35 [.sl 4 (q.map qtA),.sl 4 (r.map qtA)] (.sl 4 ((mulX q r).map qtA)):=c2;have c3:Pure Tryz.prog 35 [.sl 4 (q.map qtA),.sl 4 (p.map qtA)] (.sl 4 ((mulX p q).map qtA)):=c3;have e1:Pure Tryz.prog 41 [.sl 4 ((mulX p q).map qtA),.sl 4 ((mulX p q).map qtA)] (.v (.bool true)):=e1;have c4:Pure Tryz.prog 35 [.sl 4 ((mulX p q).map qtA),.sl 4 (r.map qtA)] (.sl 4 ((mulX (mulX p q) r).map qtA)):=c4;have c5:Pure Tryz.prog 35 [.sl 4 (p.map qtA),.sl 4 ((mulX q r).map qtA)] (.sl 4 ((mulX (mulX p q) r).map qtA)):=c5
  have e2:Pure Tryz.prog 41 [.sl 4 ((mulX (mulX p q) r).map qtA),.sl 4 ((mulX (mulX p q) r).map qtA)] (.v (.bool true)):=e2;have c6:Pure Tryz.prog 34 [.sl 4 (p.map qtA),.sl 4 (q.map qtA)] (.sl 4 ((Zau p q).map qtA)):=c6;have c7:Pure Tryz.prog 34 [.sl 4 (q.map qtA),.sl 4 (p.map qtA)] (.sl 4 ((Zau p q).map qtA)):=c7;have e3:Pure Tryz.prog 41 [.sl 4 ((Zau p q).map qtA),.sl 4 ((Zau p q).map qtA)] (.v (.bool true)):=e3;have c8:Pure Tryz.prog 34 [.sl 4 (q.map qtA),.sl 4 (r.map qtA)] (.sl 4 ((Zau q r).map qtA)):=c8;have c9:Pure Tryz.prog 35 [.sl 4 (p.map qtA),.sl 4 ((Zau q r).map qtA)] (.sl 4 ((mulX p (Zau q r)).map qtA)):=c9
  have d1:Pure Tryz.prog 35 [.sl 4 (p.map qtA),.sl 4 (r.map qtA)] (.sl 4 ((mulX p r).map qtA)):=d1;have d2:Pure Tryz.prog 34 [.sl 4 ((mulX p q).map qtA),.sl 4 ((mulX p r).map qtA)] (.sl 4 ((mulX p (Zau q r)).map qtA)):=d2;have e4:Pure Tryz.prog 41 [.sl 4 ((mulX p (Zau q r)).map qtA),.sl 4 ((mulX p (Zau q r)).map qtA)] (.v (.bool true)):=e4;have d3:Pure Tryz.prog 42 [.sl 4 (p.map qtA),.sl 4 (p.map qtA)] (.sl 4 ([].map qtA)):=d3;have d4:Pure Tryz.prog 42 [.sl 4 ((Zau p q).map qtA),.sl 4 (q.map qtA)] (.sl 4 (p.map qtA)):=d4;have e5:Pure Tryz.prog 41 [.sl 4 (p.map qtA),.sl 4 (p.map qtA)] (.v (.bool true)):=e5
  have r1:Pure Tryz.prog 24 [.sl 4 ((mulX p q).map qtA)] (.v (.bool true)):=r1;have d5:Pure Tryz.prog 42 [.sl 4 (p.map qtA),.sl 4 (q.map qtA)] (.sl 4 ((Zau p (sclT (-1) q)).map qtA)):=d5;have r2:Pure Tryz.prog 24 [.sl 4 ((Zau p (sclT (-1) q)).map qtA)] (.v (.bool true)):=r2;have n1:Pure Tryz.prog 22 [.sl 4 (p.map qtA)] (.sl 4 (p.map qtA)):=n1;rw [List.map_nil] at d3;generalize (mulX (mulX p q) r).map qtA=M at *;generalize (mulX p (Zau q r)).map qtA=X at *;generalize (mulX p q).map qtA=AB at *;generalize (mulX q r).map qtA=BC at *;generalize (mulX p r).map qtA=AC at *;generalize (Zau p q).map qtA=S at *
  generalize (Zau q r).map qtA=T at *;generalize (Zau p (sclT (-1) q)).map qtA=D at *;generalize p.map qtA=A at *;generalize q.map qtA=B at *;generalize r.map qtA=C at *;refine Zaa (tok:=0) Tryz.func8 rfl Tryz.ntmps8 Tryz.results8 Tryz.call8 (by rfl) (by simp) ?_
  (repeat' (first|(with_reducible first|refine stp ?_|apply gx1|apply gx2|apply gx3|apply gx4|apply gx5|apply gx6|apply gx7|apply gy8|apply gz2|apply gz3|refine gw0 (cs1) ?_ ?_|refine gw3 (cs1) ?_ ?_ ?_|refine gw0 (cs2) ?_ ?_|refine gw3 (cs2) ?_ ?_ ?_|refine gw0 (cs3) ?_ ?_|refine gw3 (cs3) ?_ ?_ ?_|refine gw0 (c1) ?_ ?_|refine gw3 (c1) ?_ ?_ ?_|refine gw0 (c2) ?_ ?_|refine gw3 (c2) ?_ ?_ ?_|refine gw0 (c3) ?_ ?_|refine gw3 (c3) ?_ ?_ ?_|refine gw0 (e1) ?_ ?_|refine gw3 (e1) ?_ ?_ ?_|refine gw0 (c4) ?_ ?_|refine gw3 (c4) ?_ ?_ ?_|refine gw0 (c5) ?_ ?_|refine gw3 (c5) ?_ ?_ ?_|refine gw0 (e2) ?_ ?_|refine gw3 (e2) ?_ ?_ ?_|refine gw0 (c6) ?_ ?_|refine gw3 (c6) ?_ ?_ ?_|refine gw0 (c7) ?_ ?_|refine gw3 (c7) ?_ ?_ ?_|refine gw0 (e3) ?_ ?_|refine gw3 (e3) ?_ ?_ ?_|refine gw0 (c8) ?_ ?_|refine gw3 (c8) ?_ ?_ ?_|refine gw0 (c9) ?_ ?_|refine gw3 (c9) ?_ ?_ ?_|refine gw0 (d1) ?_ ?_|refine gw3 (d1) ?_ ?_ ?_|refine gw0 (d2) ?_ ?_|refine gw3 (d2) ?_ ?_ ?_|refine gw0 (e4) ?_ ?_|refine gw3 (e4) ?_ ?_ ?_|refine gw0 (d3) ?_ ?_|refine gw3 (d3) ?_ ?_ ?_|refine gw0 (d4) ?_ ?_|refine gw3 (d4) ?_ ?_ ?_|refine gw0 (e5) ?_ ?_|refine gw3 (e5) ?_ ?_ ?_|refine gw0 (r1) ?_ ?_|refine gw3 (r1) ?_ ?_ ?_|refine gw0 (d5) ?_ ?_|refine gw3 (d5) ?_ ?_ ?_|refine gw0 (r2) ?_ ?_|refine gw3 (r2) ?_ ?_ ?_|refine gw0 (n1) ?_ ?_|refine gw3 (n1) ?_ ?_ ?_|refine gw0 (ck) ?_ ?_|refine gw3 (ck) ?_ ?_ ?_)|(with_reducible refine Zan ?_;intro _)|((with_reducible refine gE ?_);(try simp (disch:=omega) only [go_sem,decide_eq_true,decide_eq_false,if_pos,if_neg,Int.reduceAdd,Int.reduceSub,Int.reduceToNat,Int.zero_add])<;>first|rfl|omega)|with_reducible refine Zab (by decide) ?_|((with_reducible apply gy1);iterate 3 focus rfl)|((with_reducible apply gy2);iterate 3 focus rfl)|((with_reducible apply gy3);iterate 2 focus rfl)|((with_reducible apply gy4);iterate 1 focus rfl)|((with_reducible apply gy5);iterate 4 focus rfl)|((with_reducible apply gy5c);iterate 4 focus rfl)|((with_reducible apply gy6);iterate 4 focus rfl)|((with_reducible apply Za8);iterate 3 focus rfl)|((with_reducible apply Za7);iterate 1 focus rfl)|((with_reducible apply gy7);iterate 1 focus rfl)|((with_reducible apply gy9);(focus ((with_reducible refine gE ?_);(try simp (disch:=omega) only [go_sem,decide_eq_true,decide_eq_false,if_pos,if_neg,Int.reduceAdd,Int.reduceSub,Int.reduceToNat,Int.zero_add])<;>rfl)))|((with_reducible apply gz1);(focus first|rfl|(simp (disch:=omega) only [go_sem,decide_eq_true,decide_eq_false,if_pos,if_neg,Int.reduceAdd,Int.reduceSub,Int.reduceToNat,Int.zero_add];done)))|((with_reducible apply Zae (Zaw []) [] []);(focus kernel_rfl);(focus rfl);(focus kernel_rfl);(focus (simp only [List.length_cons,List.length_nil,Nat.reduceAdd];rfl)))|((with_reducible first|apply Za2|apply Za4|apply Za3);all_goals (intro hc;(try simp only [bool_to_prop] at hc);try (exfalso;omega)))))
  all_goals exact gL
 ·have h3:Zbp 4 2 l1=false∨Zbp 4 2 l2=false∨Zbp 4 2 l3=false:=by
   cases h1:Zbp 4 2 l1<;>cases h2:Zbp 4 2 l2<;>cases h3:Zbp 4 2 l3<;>simp_all
  generalize l1.map RE.av=A at *;generalize l2.map RE.av=B at *;generalize l3.map RE.av=C at *;generalize Zbp 4 2 l1=s1 at *;generalize Zbp 4 2 l2=s2 at *;generalize Zbp 4 2 l3=s3 at *;clear hb
  cases s1 with
  | false =>
    refine Zaa (tok:=0) Tryz.func8 rfl Tryz.ntmps8 Tryz.results8 Tryz.call8 (by rfl) (by simp) ?_;(focus (refine wkad w_t (w_2 cs1 ck) w_t ?_;(repeat' first|exact w_t|apply w_l);all_goals intros));all_goals exact gL
  | true =>
    cases s2 with
    | false =>
      refine Zaa (tok:=0) Tryz.func8 rfl Tryz.ntmps8 Tryz.results8 Tryz.call8 (by rfl) (by simp) ?_;(focus (refine wkad w_t (w_3 cs1 cs2 ck) w_t ?_;(repeat' first|exact w_t|apply w_l);all_goals intros));all_goals exact gL
    | true =>
      cases s3 with
      | false =>
        refine Zaa (tok:=0) Tryz.func8 rfl Tryz.ntmps8 Tryz.results8 Tryz.call8 (by rfl) (by simp) ?_;(focus (refine wkad w_t (w_4 cs1 cs2 cs3 ck) w_t ?_;(repeat' first|exact w_t|apply w_l);all_goals intros));all_goals exact gL
      | true=>exact absurd h3 (by simp)
theorem saidERing (xs:List AV) (h:ShapeL Tryz.prog maxLen 9 [23,23,23] xs):Pure Tryz.prog 8 xs (.v (.bool true)):=by
 obtain⟨x,bs,rfl,h1,h⟩:=h.inv;obtain⟨y,bs,rfl,h2,h⟩:=h.inv;obtain⟨z,bs,rfl,h3,h⟩:=h.inv;obtain rfl:=h.inv0;obtain⟨l1,rfl,a1,a2,a3⟩:=Zf1 Tryz.underlying23 h1;obtain⟨l2,rfl,b1,b2,b3⟩:=Zf1 Tryz.underlying23 h2;obtain⟨l3,rfl,d1,d2,d3⟩:=Zf1 Tryz.underlying23 h3;rw [Zb5 (by kernel_rfl),Zb5 (by kernel_rfl),Zb5 (by kernel_rfl)];have e:maxLen=9223372036854775807:=by decide
 rw [e] at a1 a2 a3 b1 b2 b3 d1 d2 d3;exact lawERing l1 l2 l3 a1 a2 a3 b1 b2 b3 d1 d2 d3
end Go.Proofs.YtjekhacnoopdpaaGreatDoor
