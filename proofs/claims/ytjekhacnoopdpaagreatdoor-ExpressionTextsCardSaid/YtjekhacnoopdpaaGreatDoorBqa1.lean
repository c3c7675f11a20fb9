/- Contracts of the functions that the law reaches, and the rules by which they are walked. They say what a call hands back for every input within the bounds that each names; no other condition. -/
import Derived.Test.YtjekhacnoopdpaaGreatDoorBq5
set_option linter.unusedSimpArgs false
set_option linter.unusedVariables false
set_option maxRecDepth 20000
set_option maxHeartbeats 16000000
namespace Go.Proofs.YtjekhacnoopdpaaGreatDoor
open Go Go.RowKit Go.Pg
attribute [-bool_to_prop] Bool.and_eq_decide Bool.or_eq_decide Bool.decide_beq_decide decide_eq_decide
section
variable {N n:Nat} {cs:List AV}
theorem Zq3 (h:Zcg Tryz.prog N n 25 cs):∃k a b c:Int,cs=[iv k,iv a,iv b,iv c]:=by
 obtain⟨m,rfl,hs⟩:=Zdt Tryz.underlying25 (by kernel_rfl) h;obtain⟨x,y,rfl,h1,hs⟩:=hs.inv;obtain⟨x2,y,rfl,h2,hs⟩:=hs.inv;obtain⟨x3,y,rfl,h3,hs⟩:=hs.inv;obtain⟨x4,y,rfl,h4,hs⟩:=hs.inv;obtain rfl:=hs.inv0;obtain⟨k,rfl,_⟩:=Ze7 Tryz.underlying3 h1;obtain⟨a,rfl,_⟩:=Ze7 Tryz.underlying3 h2;obtain⟨b,rfl,_⟩:=Ze7 Tryz.underlying3 h3;obtain⟨c,rfl,_⟩:=Ze7 Tryz.underlying3 h4;exact⟨k,a,b,c,rfl⟩
theorem Zo7 (cs:List AV):Zc2 Tryz.prog 25 cs=.agg cs:=Zfw Tryz.underlying25 cs
end
attribute [local go_sem] Tryz.underlying3 Tryz.underlying2 Tryz.underlying169 Tryz.underlying4 Tryz.underlying36 Tryz.underlying25 Tryz.underlying47 Tryz.underlying45 Tryz.underlying41 Tryz.underlying43 Tryz.underlying110 Tryz.underlying56 Tryz.underlying55 sz3 by3 z3 szL byL zL Zal Zaz Zhm zErr Zbf zRat Zbn zNat Zbo zInt szB zB szPt byPt zPt Zam Bool.and_self
def RQ.tiny (r:RQ):Bool:=decide (r.l.length≤2) && decide (r.d.length≤2) && r.ok
theorem RQ.tiny_av {r:RQ} (h1:Lm r.l) (h2:Lm r.d) (h:r.tiny=true):r.av=ratQ r.q∧Sz r.q 2:=by
 unfold RQ.tiny at h;simp only [Bool.and_eq_true,decide_eq_true_eq] at h;exact RQ.ok_av ⟨h1,h2,h.1.1,h.1.2⟩ h.2
def RP.tiny (p:RP):Bool:=p.x.tiny && p.y.tiny
def RP.q (p:RP):PQ:=(p.x.q,p.y.q)
theorem RP.tiny_av {p:RP} {k:Nat} (hl:p.lm k) (h:p.tiny=true):p.av=p.q.av∧p.q.sz 2:=by
 unfold RP.tiny at h;simp only [Bool.and_eq_true] at h;obtain⟨ex,sx⟩:=RQ.tiny_av hl.1.1 hl.1.2.1 h.1;obtain⟨ey,sy⟩:=RQ.tiny_av hl.2.1 hl.2.2.1 h.2;refine⟨?_,sx,sy⟩;show AV.agg (p.x.av.cells++p.y.av.cells)=AV.agg ((ratQ p.x.q).cells++(ratQ p.y.q).cells);rw [ex,ey]
theorem Znt (r:RQ) (h:r.lm 9223372036854775807):Pure Tryz.prog 20 [.agg [.v (.bool r.s),lim r.l,lim r.d]] (.v (.bool r.tiny)):=by
 obtain⟨s,l,d⟩:=r;obtain⟨h1,h2,h3,h4⟩:=h;unfold RQ.tiny;simp only at *;by_cases hl:l.length≤2
 ·by_cases hd:d.length≤2
  ·have c:=Zu7 s l d h1 h2 (by omega) (by omega);generalize RQ.ok ⟨s,l,d⟩=v at *;rw [decide_eq_true hl,decide_eq_true hd];refine Zaa (tok:=0) Tryz.func20 rfl Tryz.ntmps20 Tryz.results20 Tryz.call20 (by rfl) (by simp) ?_;(focus (refine wkld (w_1 @Zbw) (w_1 c) (w_1 @Bool.true_and) w_t ?_;(repeat' first|exact w_t|apply w_l);all_goals intros))
  ·rw [decide_eq_true hl,decide_eq_false hd];refine Zaa (tok:=0) Tryz.func20 rfl Tryz.ntmps20 Tryz.results20 Tryz.call20 (by rfl) (by simp) ?_;(focus (refine wkld (w_1 @Zbw) w_t (w_2 @Bool.true_and @Bool.false_and) w_t ?_;(repeat' first|exact w_t|apply w_l);all_goals intros))
 ·rw [decide_eq_false hl];refine Zaa (tok:=0) Tryz.func20 rfl Tryz.ntmps20 Tryz.results20 Tryz.call20 (by rfl) (by simp) ?_;(focus (refine wkld (w_1 @Zbw) w_t (w_1 @Bool.false_and) w_t ?_;(repeat' first|exact w_t|apply w_l);all_goals intros))
def Zvz (ps:List RP) (rs:List RQ):Bool:=decide (ps.length≤10) && decide (rs.length≤10) && ps.all RP.tiny && rs.all RQ.tiny
end Go.Proofs.YtjekhacnoopdpaaGreatDoor
namespace Go.Proofs.YtjekhacnoopdpaaGreatDoor
open Go Go.RowKit Go.Pg Go.Pol
attribute [-bool_to_prop] Bool.and_eq_decide Bool.or_eq_decide Bool.decide_beq_decide decide_eq_decide
attribute [local go_sem] Tryz.underlying3 Tryz.underlying4 Tryz.underlying169 Tryz.underlying41 Tryz.underlying43 Tryz.underlying45 Tryz.underlying25 Tryz.underlying47 Tryz.underlying49 Tryz.underlying22 Tryz.underlying23 sz3 by3 z3 szB zB Zbf zRat Zbo zInt Zbn zNat Zal Zaz Zam Bool.and_self Zax Zb3 zSlQ szQT byQT zQT Zb6 zSlT szQP zQP
def Zd1 (q:List Qt) (i:Nat):Bool:=decide ((q.getD i Qt.zero).norm=(q.getD i Qt.zero,1)) && (decide (i=0) || decide (Qt.cmp (q.getD (i - 1) Qt.zero) (q.getD i Qt.zero)≤0))
def Zhv (q:List Qt):Bool:=(List.range q.length).all (Zd1 q)
def RE.zero:RE:=⟨⟨false,[],[]⟩,[]⟩
def Zdx (l:List RE) (i:Nat):Bool:=(l.getD i RE.zero).r.ok && (!decide ((l.getD i RE.zero).r.q=0) && (Zhv (l.getD i RE.zero).q && (decide (i=0) || decide (ordQ (l.getD (i - 1) RE.zero).q (l.getD i RE.zero).q < 0))))
def rgtB (l:List RE):Bool:=(List.range l.length).all (Zdx l)
theorem Zhr {n i:Nat} {p:Nat→Bool} (h:i < n) (hp:p i=false):(List.range n).all p=false:=by
 rw [List.all_eq_false];exact⟨i,List.mem_range.2 h,by simp [hp]⟩
theorem Zee {n:Nat} {p:Nat→Bool} (h:∀i,i < n→p i=true):(List.range n).all p=true:=by
 rw [List.all_eq_true];exact λi hi=>h i (List.mem_range.1 hi)
theorem qt_atD {l:List Qt} {i:Nat} (h:i < l.length):(l.map Qt.av).getD i .u=Qt.av (l.getD i Qt.zero):=qt_at h
theorem rxProd (q:List Qt) (hl:q.length≤1000000):Pure Tryz.prog 81 [qsA q] (.v (.bool (Zhv q))):=by
 have hlm:(q.map Qt.av).length=q.length:=List.length_map ..;have hg:∀j,j < q.length→(q.map Qt.av).getD j .u=Qt.av (q.getD j Qt.zero):=λj h=>qt_atD h;have hbad:∀i,i < q.length→Zd1 q i=false→Zhv q=false:=λi h hp=>Zhr h hp;have hgood:(∀i,i < q.length→Zd1 q i=true)→Zhv q=true:=Zee;show Pure _ _ [.sl 4 (q.map Qt.av)] _;generalize q.map Qt.av=A at *;generalize hB:Zhv q=B at *;refine Zaa (tok:=0) Tryz.func81 rfl Tryz.ntmps81 Tryz.results81 Tryz.call81 (by rfl) (by simp) ?_;(focus (refine wkad w_t w_t w_t ?_;(repeat' first|exact w_t|apply w_l);all_goals intros));refine Zad (ι:=Nat) (λi e _=>i≤q.length∧(∀j,j < i→Zd1 q j=true)∧e 0=.sl 4 A∧e 3=iv i) (λi=>q.length - i) 0 (by rfl) ?_ ?_
 ·rintro i e m ⟨hi,hj,e0,e3⟩
  by_cases hlt:i < q.length
  ·have g1:=hg i hlt;have hb:=hbad i hlt;have hnx:Zd1 q i=true→∀j,j < i+1→Zd1 q j=true:=λh j hji=>by
    by_cases e:j=i
    ·rw [e];exact h
    ·exact hj j (by omega)
   clear hgood hbad hj;have c1:=rqNorm (q.getD i Qt.zero).k (q.getD i Qt.zero).a (q.getD i Qt.zero).b (q.getD i Qt.zero).c;have c2:=Zur (q.getD i Qt.zero).norm.1.k (q.getD i Qt.zero).norm.1.a (q.getD i Qt.zero).norm.1.b (q.getD i Qt.zero).norm.1.c (q.getD i Qt.zero).k (q.getD i Qt.zero).a (q.getD i Qt.zero).b (q.getD i Qt.zero).c
   cases i with
   | zero =>
     have hv:Zd1 q 0=decide ((q.getD 0 Qt.zero).norm=(q.getD 0 Qt.zero,1)):=by unfold Zd1;simp
     rw [hv] at hb hnx;clear hv hg;generalize q.getD 0 Qt.zero=y at *;generalize hn:y.norm=nn at *;obtain⟨nn,ns⟩:=nn;obtain⟨y1,y2,y3,y4⟩:=y;obtain⟨n1,n2,n3,n4⟩:=nn;simp only at *;by_cases h1:ns=1
     ·by_cases h2:(⟨n1,n2,n3,n4⟩:Qt)=⟨y1,y2,y3,y4⟩
      ·rw [h2,qtO.refl] at c2;have hny:=hnx (by rw [h1,h2];exact decide_eq_true rfl);rw [h2] at c1;clear hb h2 hn;subst h1;(focus (refine wkad (w_4 e0 e3 hlm g1) (w_2 c1 c2) (w_1 (w_d 5 [(8,iv 0)] [] [])) ?_;(repeat' first|exact w_t|apply w_l);all_goals intros));exact⟨1,⟨by omega,hny,by exact gW e0,by exact gC⟩,by omega⟩
      ·have hz:Qt.cmp ⟨n1,n2,n3,n4⟩ ⟨y1,y2,y3,y4⟩≠0:=λh=>h2 (qtO.eqz _ _ h);have hb:=hb (by rw [h1];exact decide_eq_false λh=>h2 (congrArg Prod.fst h));subst hb;clear hnx h2 hn;subst h1;generalize Qt.cmp _ _=z at *;(focus (refine wkad (w_5 e0 e3 hlm g1 hz) (w_2 c1 c2) (w_1 (w_d 5 [(8,iv z)] [] [])) ?_;(repeat' first|exact w_t|apply w_l);all_goals intros));all_goals exact gL
     ·have hb:=hb (decide_eq_false λh=>h1 (congrArg Prod.snd h));subst hb;clear hnx hn c2;(focus (refine wkad (w_5 e0 e3 hlm g1 h1) (w_1 c1) w_t ?_;(repeat' first|exact w_t|apply w_l);all_goals intros));all_goals exact gL
   | succ i =>
     have g2:=hg i (by omega);have hv:Zd1 q (i+1)=(decide ((q.getD (i+1) Qt.zero).norm=(q.getD (i+1) Qt.zero,1)) && decide (Qt.cmp (q.getD i Qt.zero) (q.getD (i+1) Qt.zero)≤0)):=by unfold Zd1;simp
     rw [hv] at hb hnx;have c3:=Zur (q.getD i Qt.zero).k (q.getD i Qt.zero).a (q.getD i Qt.zero).b (q.getD i Qt.zero).c (q.getD (i+1) Qt.zero).k (q.getD (i+1) Qt.zero).a (q.getD (i+1) Qt.zero).b (q.getD (i+1) Qt.zero).c;clear hv hg;have ei:(i:Int)+1 - 1=(i:Int):=by omega
     have en:((i+1:Nat):Int) - 1=(i:Int):=by omega
     have ek:i+1 - 1=i:=rfl;generalize q.getD (i+1) Qt.zero=y at *;generalize q.getD i Qt.zero=x at *;generalize hn:y.norm=nn at *;obtain⟨nn,ns⟩:=nn;obtain⟨y1,y2,y3,y4⟩:=y;obtain⟨x1,x2,x3,x4⟩:=x;obtain⟨n1,n2,n3,n4⟩:=nn;simp only at *;by_cases h1:ns=1
     ·by_cases h2:(⟨n1,n2,n3,n4⟩:Qt)=⟨y1,y2,y3,y4⟩
      ·rw [h2,qtO.refl] at c2;by_cases h3:Qt.cmp ⟨x1,x2,x3,x4⟩ ⟨y1,y2,y3,y4⟩≤0
       ·have hny:=hnx (by rw [h1,h2,decide_eq_true rfl,decide_eq_true h3];rfl);rw [h2] at c1;clear hb h2 hn;subst h1;generalize Qt.cmp _ _=z at *;have h4:¬0 < z:=by omega
        (focus (refine wkad (w_10 e0 e3 hlm g1 g2 h3 h4 ei en ek) (w_3 c1 c2 c3) (w_1 (w_d 5 [(8,iv 0),(24,iv z)] [] [])) ?_;(repeat' first|exact w_t|apply w_l);all_goals intros));exact⟨i+1+1,⟨by omega,hny,by exact gW e0,by exact gS⟩,by omega⟩
       ·have hb:=hb (by rw [decide_eq_false h3,Bool.and_false]);subst hb;rw [h2] at c1;clear hnx h2 hn;subst h1;generalize Qt.cmp _ _=z at *;have h4:0 < z:=by omega
        (focus (refine wkad (w_9 e0 e3 hlm g1 g2 h4 ei en ek) (w_3 c1 c2 c3) (w_1 (w_d 5 [(8,iv 0),(24,iv z)] [] [])) ?_;(repeat' first|exact w_t|apply w_l);all_goals intros));all_goals exact gL
      ·have hz:Qt.cmp ⟨n1,n2,n3,n4⟩ ⟨y1,y2,y3,y4⟩≠0:=λh=>h2 (qtO.eqz _ _ h);have hb:=hb (by rw [h1,decide_eq_false λh=>h2 (congrArg Prod.fst h)];rfl);subst hb;clear hnx h2 hn c3;subst h1;generalize Qt.cmp ⟨n1,n2,n3,n4⟩ _=z at *;(focus (refine wkad (w_5 e0 e3 hlm g1 hz) (w_2 c1 c2) (w_1 (w_d 5 [(8,iv z)] [] [])) ?_;(repeat' first|exact w_t|apply w_l);all_goals intros));all_goals exact gL
     ·have hb:=hb (by rw [decide_eq_false λh=>h1 (congrArg Prod.snd h)];rfl);subst hb;clear hnx hn c2 c3;(focus (refine wkad (w_5 e0 e3 hlm g1 h1) (w_1 c1) w_t ?_;(repeat' first|exact w_t|apply w_l);all_goals intros));all_goals exact gL
  ·have hil:i=q.length:=by omega
   subst hil;have hb:=hgood hj;subst hb;clear hgood hbad hj hg;(focus (refine wkad (w_3 e0 e3 hlm) w_t w_t ?_;(repeat' first|exact w_t|apply w_l);all_goals intros));all_goals exact gL
 ·exact⟨Nat.zero_le _,λj h=>by omega,by exact gC,by exact gC⟩
theorem re_atD {l:List RE} {i:Nat} (h:i < l.length):(l.map RE.av).getD i .u=RE.av (l.getD i RE.zero):=by
 rw [List.getD_eq_getElem?_getD,List.getD_eq_getElem?_getD,List.getElem?_eq_getElem (by rw [List.length_map];exact h),List.getElem?_eq_getElem h,List.getElem_map];rfl
theorem Zl9 {l:List RE} {i:Nat} (h:i < l.length):l.getD i RE.zero∈l:=by
 rw [List.getD_eq_getElem?_getD,List.getElem?_eq_getElem h];exact List.getElem_mem h
theorem tOk_r {l:List RE} {i:Nat} (h:(l.getD i RE.zero).r.ok=false):Zdx l i=false:=by unfold Zdx;rw [h];rfl
theorem tOk_z {l:List RE} {i:Nat} (h:(l.getD i RE.zero).r.q=0):Zdx l i=false:=by unfold Zdx;rw [decide_eq_true h];simp
theorem tOk_p {l:List RE} {i:Nat} (h:Zhv (l.getD i RE.zero).q=false):Zdx l i=false:=by unfold Zdx;rw [h];simp
theorem tOk_o {l:List RE} {i:Nat} (h:¬ordQ (l.getD i RE.zero).q (l.getD (i+1) RE.zero).q < 0):Zdx l (i+1)=false:=by
 unfold Zdx;rw [show i+1 - 1=i from rfl,decide_eq_false h];simp
theorem Zt6 {l:List RE} {i:Nat} (h1:(l.getD i RE.zero).r.ok=true) (h2:(l.getD i RE.zero).r.q≠0) (h3:Zhv (l.getD i RE.zero).q=true) (h4:i=0∨ordQ (l.getD (i - 1) RE.zero).q (l.getD i RE.zero).q < 0):Zdx l i=true:=by
 unfold Zdx;rw [h1,h3,decide_eq_false h2];simpa using h4
theorem Zul (l:List RE) {J:Nat} (hl:l.length≤1000000) (hr:∀t∈l,t.r.lm J) (hq:∀t∈l,t.q.length≤1000000) (hJ:J≤100000):Pure Tryz.prog 25 [.sl 4 (l.map RE.av)] (.v (.bool (rgtB l))):=by
 have hlm:(l.map RE.av).length=l.length:=List.length_map ..;have hg:∀j,j < l.length→(l.map RE.av).getD j .u=RE.av (l.getD j RE.zero):=λj h=>re_atD h;have hr:∀j,j < l.length→(l.getD j RE.zero).r.lm J:=λj h=>hr _ (Zl9 h);have hq:∀j,j < l.length→(l.getD j RE.zero).q.length≤1000000:=λj h=>hq _ (Zl9 h);have hbad:∀i,i < l.length→Zdx l i=false→rgtB l=false:=λi h hp=>Zhr h hp;have hgood:(∀i,i < l.length→Zdx l i=true)→rgtB l=true:=Zee;generalize l.map RE.av=A at *;generalize hB:rgtB l=B at *;refine Zaa (tok:=0) Tryz.func25 rfl Tryz.ntmps25 Tryz.results25 Tryz.call25 (by rfl) (by simp) ?_
 (focus (refine wkad w_t w_t w_t ?_;(repeat' first|exact w_t|apply w_l);all_goals intros));refine Zad (ι:=Nat) (λi e _=>i≤l.length∧(∀j,j < i→Zdx l j=true)∧e 0=.sl 4 A∧e 3=iv i) (λi=>l.length - i) 0 (by rfl) ?_ ?_
 ·rintro i e m ⟨hi,hj,e0,e3⟩
  by_cases hlt:i < l.length
  ·have g1:=hg i hlt;have hri:=hr i hlt;have hqi:=hq i hlt;have hb:=hbad i hlt;have hnx:Zdx l i=true→∀j,j < i+1→Zdx l j=true:=λh j hji=>by
    by_cases e:j=i
    ·rw [e];exact h
    ·exact hj j (by omega)
   clear hgood hbad hj;have g1:A.getD i .u=.agg [.v (.bool (l.getD i RE.zero).r.s),lim (l.getD i RE.zero).r.l,lim (l.getD i RE.zero).r.d,.sl 4 ((l.getD i RE.zero).q.map Qt.av)]:=g1;have crq:=Zu7 (l.getD i RE.zero).r.s (l.getD i RE.zero).r.l (l.getD i RE.zero).r.d hri.1 hri.2.1 (by have:=hri.2.2.1;omega) (by have:=hri.2.2.2;omega)
   cases hro:(l.getD i RE.zero).r.ok with
   | false =>
     have crq:Pure Tryz.prog 67 [.agg [.v (.bool (l.getD i RE.zero).r.s),lim (l.getD i RE.zero).r.l,lim (l.getD i RE.zero).r.d]] (.v (.bool (l.getD i RE.zero).r.ok)):=crq;rw [hro] at crq;have hb:=hb (tOk_r hro);subst hb;clear hnx hg hr hq hro hri hqi;generalize l.getD i RE.zero=t at *;obtain⟨⟨s,x,d⟩,q⟩:=t;simp only at *;generalize q.map Qt.av=Q at *;(focus (refine wkad (w_4 e0 e3 hlm g1) (w_1 crq) (w_1 (w_d 4 [(5,.v (.bool false))] [] [])) ?_;(repeat' first|exact w_t|apply w_l);all_goals intros));all_goals exact gL
   | true =>
     have crq:Pure Tryz.prog 67 [.agg [.v (.bool (l.getD i RE.zero).r.s),lim (l.getD i RE.zero).r.l,lim (l.getD i RE.zero).r.d]] (.v (.bool (l.getD i RE.zero).r.ok)):=crq;rw [hro] at crq;have hz:=(RQ.ok_av hri hro).2;have cz:=Zu6 _ hz (by omega);have hre:=RQ.ok_eq hri hro;have cz:Pure Tryz.prog 66 [.agg [.v (.bool (decide ((l.getD i RE.zero).r.q.num < 0))),lim (toL (l.getD i RE.zero).r.q.num.natAbs),lim (toL (l.getD i RE.zero).r.q.den)]] (iv (l.getD i RE.zero).r.q.num.sign):=cz;have e1:(l.getD i RE.zero).r.s=decide ((l.getD i RE.zero).r.q.num < 0):=congrArg RQ.s hre;have e2:(l.getD i RE.zero).r.l=toL (l.getD i RE.zero).r.q.num.natAbs:=congrArg RQ.l hre
     have e4:(l.getD i RE.zero).r.d=toL (l.getD i RE.zero).r.q.den:=congrArg RQ.d hre;rw [←e1,←e2,←e4] at cz;clear e1 e2 e4 hre hz;have cp:=rxProd (l.getD i RE.zero).q hqi;have cp:Pure Tryz.prog 81 [.sl 4 ((l.getD i RE.zero).q.map Qt.av)] (.v (.bool (Zhv (l.getD i RE.zero).q))):=cp;by_cases hx:(l.getD i RE.zero).r.q=0
     ·have hz2:(l.getD i RE.zero).r.q.num.sign=0:=by rw [Zc8];exact hx
      rw [hz2] at cz;have hb:=hb (tOk_z hx);subst hb;clear hnx hg hr hq hro hri hqi hx hz2 cp;generalize l.getD i RE.zero=t at *;obtain⟨⟨s,x,d⟩,q⟩:=t;simp only at *;generalize q.map Qt.av=Q at *;(focus (refine wkad (w_4 e0 e3 hlm g1) (w_2 crq cz) (w_1 (w_d 4 [(5,.v (.bool true)),(13,iv 0)] [] [])) ?_;(repeat' first|exact w_t|apply w_l);all_goals intros));all_goals exact gL
     ·have hz2:¬(l.getD i RE.zero).r.q.num.sign=0:=by rw [Zc8];exact hx
      cases hpb:Zhv (l.getD i RE.zero).q with
      | false =>
        rw [hpb] at cp;have hb:=hb (tOk_p hpb);subst hb;clear hnx hg hr hq hro hri hqi hx hpb;generalize (l.getD i RE.zero).r.q.num.sign=z at *;generalize l.getD i RE.zero=t at *;obtain⟨⟨s,x,d⟩,q⟩:=t;simp only at *;generalize q.map Qt.av=Q at *;(focus (refine wkad (w_5 e0 e3 hlm g1 hz2) (w_3 crq cz cp) (w_1 (w_d 4 [(5,.v (.bool true)),(13,iv z),(22,.v (.bool false))] [] [])) ?_;(repeat' first|exact w_t|apply w_l);all_goals intros));all_goals exact gL
      | true =>
        rw [hpb] at cp
        cases i with
        | zero =>
          have hnx:=hnx (Zt6 hro hx hpb (.inl rfl));clear hb hg hr hq hro hri hqi hx hpb;generalize (l.getD 0 RE.zero).r.q.num.sign=z at *;generalize l.getD 0 RE.zero=t at *;obtain⟨⟨s,x,d⟩,q⟩:=t;simp only at *;generalize q.map Qt.av=Q at *;(focus (refine wkad (w_5 e0 e3 hlm g1 hz2) (w_3 crq cz cp) (w_1 (w_d 4 [(5,.v (.bool true)),(13,iv z),(22,.v (.bool true))] [] [])) ?_;(repeat' first|exact w_t|apply w_l);all_goals intros));exact⟨1,⟨by omega,hnx,by exact gW e0,by exact gC⟩,by omega⟩
        | succ i =>
          have g2:=hg i (by omega);have g2:A.getD i .u=.agg [.v (.bool (l.getD i RE.zero).r.s),lim (l.getD i RE.zero).r.l,lim (l.getD i RE.zero).r.d,.sl 4 ((l.getD i RE.zero).q.map Qt.av)]:=g2;have co:=Zl2 (l.getD i RE.zero).q (l.getD (i+1) RE.zero).q (hq i (by omega)) hqi;have co:Pure Tryz.prog 68 [.sl 4 ((l.getD i RE.zero).q.map Qt.av),.sl 4 ((l.getD (i+1) RE.zero).q.map Qt.av)] (iv (ordQ (l.getD i RE.zero).q (l.getD (i+1) RE.zero).q)):=co;have en:((i+1:Nat):Int) - 1=(i:Int):=by omega
          by_cases ho:ordQ (l.getD i RE.zero).q (l.getD (i+1) RE.zero).q < 0
          ·have hnx:=hnx (Zt6 hro hx hpb (.inr ho));clear hb hg hr hq hro hri hqi hx hpb;have ho2:¬0≤ordQ (l.getD i RE.zero).q (l.getD (i+1) RE.zero).q:=by omega
           generalize (l.getD (i+1) RE.zero).r.q.num.sign=z at *;generalize ordQ (l.getD i RE.zero).q (l.getD (i+1) RE.zero).q=w at *;generalize l.getD (i+1) RE.zero=t at *;generalize l.getD i RE.zero=u at *;obtain⟨⟨s,x,d⟩,q⟩:=t;obtain⟨⟨s',x',d'⟩,q'⟩:=u;simp only at *;generalize q.map Qt.av=Q at *;generalize q'.map Qt.av=Q' at *;(focus (refine wkad (w_9 e0 e3 hlm g1 g2 hz2 ho ho2 en) (w_4 crq cz cp co) (w_1 (w_d 4 [(5,.v (.bool true)),(13,iv z),(22,.v (.bool true)),(40,iv w)] [] [])) ?_;(repeat' first|exact w_t|apply w_l);all_goals intros));exact⟨i+1+1,⟨by omega,hnx,by exact gW e0,by exact gS⟩,by omega⟩
          ·have hb:=hb (tOk_o ho);subst hb;clear hnx hg hr hq hro hri hqi hx hpb;have ho2:0≤ordQ (l.getD i RE.zero).q (l.getD (i+1) RE.zero).q:=by omega
           generalize (l.getD (i+1) RE.zero).r.q.num.sign=z at *;generalize ordQ (l.getD i RE.zero).q (l.getD (i+1) RE.zero).q=w at *;generalize l.getD (i+1) RE.zero=t at *;generalize l.getD i RE.zero=u at *;obtain⟨⟨s,x,d⟩,q⟩:=t;obtain⟨⟨s',x',d'⟩,q'⟩:=u;simp only at *;generalize q.map Qt.av=Q at *;generalize q'.map Qt.av=Q' at *;(focus (refine wkad (w_9 e0 e3 hlm g1 g2 hz2 ho ho2 en) (w_4 crq cz cp co) (w_1 (w_d 4 [(5,.v (.bool true)),(13,iv z),(22,.v (.bool true)),(40,iv w)] [] [])) ?_;(repeat' first|exact w_t|apply w_l);all_goals intros));all_goals exact gL
  ·have hil:i=l.length:=by omega
   subst hil;have hb:=hgood hj;subst hb;clear hgood hbad hj hg hr hq;(focus (refine wkad (w_3 e0 e3 hlm) w_t w_t ?_;(repeat' first|exact w_t|apply w_l);all_goals intros));all_goals exact gL
 ·exact⟨Nat.zero_le _,λj h=>by omega,by exact gC,by exact gC⟩
theorem qOk_s {q:List Qt} {i:Nat} (h:(q.getD i Qt.zero).norm.2≠1):Zd1 q i=false:=by
 unfold Zd1;rw [decide_eq_false λe=>h (congrArg Prod.snd e)];rfl
theorem qOk_n {q:List Qt} {i:Nat} (h:(q.getD i Qt.zero).norm.1≠q.getD i Qt.zero):Zd1 q i=false:=by
 unfold Zd1;rw [decide_eq_false λe=>h (congrArg Prod.fst e)];rfl
theorem qOk_o {q:List Qt} {i:Nat} (h:¬Qt.cmp (q.getD i Qt.zero) (q.getD (i+1) Qt.zero)≤0):Zd1 q (i+1)=false:=by
 unfold Zd1;rw [show i+1 - 1=i from rfl,decide_eq_false h];simp
theorem qOk_y {q:List Qt} {i:Nat} (h1:(q.getD i Qt.zero).norm.1=q.getD i Qt.zero) (h2:(q.getD i Qt.zero).norm.2=1) (h4:i=0∨Qt.cmp (q.getD (i - 1) Qt.zero) (q.getD i Qt.zero)≤0):Zd1 q i=true:=by
 unfold Zd1;rw [decide_eq_true (show(q.getD i Qt.zero).norm=(q.getD i Qt.zero,1) from Prod.ext h1 h2)];simpa using h4
theorem Zwg (l:List RE) {J:Nat} (hl:l.length≤1000000) (hr:∀t∈l,t.r.lm J) (hq:∀t∈l,t.q.length≤1000000) (hJ:J≤100000):Pure Tryz.prog 24 [.sl 4 (l.map RE.av)] (.v (.bool (rgtB l))):=by
 have hlm:(l.map RE.av).length=l.length:=List.length_map ..;have hg:∀j,j < l.length→(l.map RE.av).getD j .u=RE.av (l.getD j RE.zero):=λj h=>re_atD h;have hr:∀j,j < l.length→(l.getD j RE.zero).r.lm J:=λj h=>hr _ (Zl9 h);have hq:∀j,j < l.length→(l.getD j RE.zero).q.length≤1000000:=λj h=>hq _ (Zl9 h);have hbad:∀i,i < l.length→Zdx l i=false→rgtB l=false:=λi h hp=>Zhr h hp;have hgood:(∀i,i < l.length→Zdx l i=true)→rgtB l=true:=Zee;generalize l.map RE.av=A at *;generalize hB:rgtB l=B at *;refine Zaa (tok:=0) Tryz.func24 rfl Tryz.ntmps24 Tryz.results24 Tryz.call24 (by rfl) (by simp) ?_
 (focus (refine wkad (w_1 hlm) w_t w_t ?_;(repeat' first|exact w_t|apply w_l);all_goals intros));refine Zad (ι:=Nat) (λi e _=>i≤l.length∧(∀j,j < i→Zdx l j=true)∧e 0=.sl 4 A∧e 9=.sl 4 A∧e 10=iv l.length∧e 11=iv i) (λi=>l.length - i) 0 (by rfl) ?_ ?_
 ·rintro i e m ⟨hi,hj,e0,e9,e10,e11⟩
  by_cases hlt:i < l.length
  ·have g1:=hg i hlt;have hri:=hr i hlt;have hqi:=hq i hlt;have hb:=hbad i hlt;have hnx:Zdx l i=true→∀j,j < i+1→Zdx l j=true:=λh j hji=>by
    by_cases e:j=i
    ·rw [e];exact h
    ·exact hj j (by omega)
   clear hgood hbad hj;have g1:A.getD i .u=.agg [.v (.bool (l.getD i RE.zero).r.s),lim (l.getD i RE.zero).r.l,lim (l.getD i RE.zero).r.d,.sl 4 ((l.getD i RE.zero).q.map Qt.av)]:=g1;have crq:=Zuo (l.getD i RE.zero).r ⟨hri.1,hri.2.1,by have:=hri.2.2.1;omega,by have:=hri.2.2.2;omega⟩;have crq:Pure Tryz.prog 70 [.agg [.v (.bool (l.getD i RE.zero).r.s),lim (l.getD i RE.zero).r.l,lim (l.getD i RE.zero).r.d]] (.v (.bool (l.getD i RE.zero).r.ok)):=crq
   cases hro:(l.getD i RE.zero).r.ok with
   | false =>
     rw [hro] at crq;have hb:=hb (tOk_r hro);subst hb;clear hnx hg hr hq hro hri hqi;generalize l.getD i RE.zero=t at *;obtain⟨⟨s,x,d⟩,q⟩:=t;simp only at *;generalize q.map Qt.av=Q at *;(focus (refine wkad (w_6 e0 e9 e10 e11 hlm g1) (w_1 crq) w_t ?_;(repeat' first|exact w_t|apply w_l);all_goals intros));all_goals exact gL
   | true =>
     rw [hro] at crq;have hz:=(RQ.ok_av hri hro).2;have cz:=Zd0 _ hz (by omega);have hre:=RQ.ok_eq hri hro;have cz:Pure Tryz.prog 40 [.agg [.v (.bool (decide ((l.getD i RE.zero).r.q.num < 0))),lim (toL (l.getD i RE.zero).r.q.num.natAbs),lim (toL (l.getD i RE.zero).r.q.den)]] (iv (l.getD i RE.zero).r.q.num.sign):=cz;have e1:(l.getD i RE.zero).r.s=decide ((l.getD i RE.zero).r.q.num < 0):=congrArg RQ.s hre;have e2:(l.getD i RE.zero).r.l=toL (l.getD i RE.zero).r.q.num.natAbs:=congrArg RQ.l hre;have e4:(l.getD i RE.zero).r.d=toL (l.getD i RE.zero).r.q.den:=congrArg RQ.d hre;rw [←e1,←e2,←e4] at cz
     clear e1 e2 e4 hre hz;by_cases hx:(l.getD i RE.zero).r.q=0
     ·have hz2:(l.getD i RE.zero).r.q.num.sign=0:=by rw [Zc8];exact hx
      rw [hz2] at cz;have hb:=hb (tOk_z hx);subst hb;clear hnx hg hr hq hro hri hqi hx hz2;generalize l.getD i RE.zero=t at *;obtain⟨⟨s,x,d⟩,q⟩:=t;simp only at *;generalize q.map Qt.av=Q at *;(focus (refine wkad (w_6 e0 e9 e10 e11 hlm g1) (w_2 crq cz) w_t ?_;(repeat' first|exact w_t|apply w_l);all_goals intros));all_goals exact gL
     ·have hz2:¬(l.getD i RE.zero).r.q.num.sign=0:=by rw [Zc8];exact hx
      have hlq:((l.getD i RE.zero).q.map Qt.av).length=(l.getD i RE.zero).q.length:=List.length_map ..;have hgq:∀j,j < (l.getD i RE.zero).q.length→((l.getD i RE.zero).q.map Qt.av).getD j .u=Qt.av ((l.getD i RE.zero).q.getD j Qt.zero):=λj h=>qt_atD h;have hpb:∀k,k < (l.getD i RE.zero).q.length→Zd1 (l.getD i RE.zero).q k=false→B=false:=λk h hp=>hb (tOk_p (Zhr h hp));have hpg:(∀k,k < (l.getD i RE.zero).q.length→Zd1 (l.getD i RE.zero).q k=true)→Zhv (l.getD i RE.zero).q=true:=Zee;have hz3:∀h:i=0,Zhv (l.getD i RE.zero).q=true→∀j,j < i+1→Zdx l j=true:=λh hp=>hnx (Zt6 hro hx hp (.inl h))
      have hs1:∀k,i=k+1→ordQ (l.getD k RE.zero).q (l.getD i RE.zero).q < 0→Zhv (l.getD i RE.zero).q=true→∀j,j < i+1→Zdx l j=true:=λk h ho hp=>hnx (Zt6 hro hx hp (.inr (by rw [h];rw [h] at ho;exact ho)));have hs2:∀k,i=k+1→¬ordQ (l.getD k RE.zero).q (l.getD i RE.zero).q < 0→B=false:=λk h ho=>hb (by rw [h];rw [h] at ho;exact tOk_o ho);have hqp:∀k,i=k+1→(l.getD k RE.zero).q.length≤1000000:=λk h=>hq k (by omega);have hgp:∀k,i=k+1→A.getD k .u=.agg [.v (.bool (l.getD k RE.zero).r.s),lim (l.getD k RE.zero).r.l,lim (l.getD k RE.zero).r.d,.sl 4 ((l.getD k RE.zero).q.map Qt.av)]:=λk h=>hg k (by omega)
      clear hb hnx hr hq hro hri hx hg;generalize (l.getD i RE.zero).r.q.num.sign=z at *;generalize l.getD i RE.zero=t at *;obtain⟨⟨s,x,d⟩,q⟩:=t;simp only at *;generalize hQ:q.map Qt.av=Q at *;(focus (refine wkad (w_8 e0 e9 e10 e11 hlm g1 hz2 hlq) (w_2 crq cz) w_t ?_;(repeat' first|exact w_t|apply w_l);all_goals intros));rename_i g4;clear crq cz g1 hz2;refine Zad (ι:=Nat) (λk e m=>k≤q.length∧(∀j,j < k→Zd1 q j=true)∧(e 0=.sl 4 A∧e 9=.sl 4 A∧e 10=iv l.length∧e 11=iv i∧e 3=iv i)∧(e 27=.sl 4 Q∧e 28=iv q.length∧e 29=iv k)∧e 4=.pbox 4 g4 0∧m 4=some (.box g4 49 [.v (.bool s),lim x,lim d,.sl 4 Q] false)) (λk=>q.length - k) 0 (by rfl) ?_ ?_
      ·rintro k e m ⟨hk,hkj,⟨e0,e9,e10,e11,e3⟩,⟨e27,e28,e29⟩,e4,m4⟩
       by_cases hkt:k < q.length
       ·have gk:=hgq k hkt;have hb:=hpb k hkt;have hnk:Zd1 q k=true→∀j,j < k+1→Zd1 q j=true:=λh j hji=>by
         by_cases e:j=k
         ·rw [e];exact h
         ·exact hkj j (by omega)
        have c1:=Zu4 (q.getD k Qt.zero).k (q.getD k Qt.zero).a (q.getD k Qt.zero).b (q.getD k Qt.zero).c;have c1:Pure Tryz.prog 56 [Qt.av (q.getD k Qt.zero)] (.tup [(Qt.norm (q.getD k Qt.zero)).1.av,iv (Qt.norm (q.getD k Qt.zero)).2]):=c1;clear hpb hpg hz3 hs1 hs2 hgp hkj hqp;by_cases hn:(q.getD k Qt.zero).norm.1=q.getD k Qt.zero
        ·rw [hn] at c1;by_cases hs:(q.getD k Qt.zero).norm.2=1
         ·rw [hs] at c1
          cases k with
          | zero =>
            have hnk:=hnk (qOk_y hn hs (.inl rfl));clear hn hs hb hgq;generalize q.getD 0 Qt.zero=y at *;obtain⟨y1,y2,y3,y4⟩:=y;simp only at *;(focus (refine wkad (w_12 e0 e9 e10 e11 e3 e27 e28 e29 e4 m4 hlq gk) (w_1 c1) w_t ?_;(repeat' first|exact w_t|apply w_l);all_goals intros));exact⟨1,⟨by omega,hnk,⟨by exact gW e0,by exact gW e9,by exact gW e10,by exact gW e11,by exact gW e3⟩,⟨by exact gW e27,by exact gW e28,by exact gC⟩,by exact gW e4,by exact gW m4⟩,by omega⟩
          | succ k =>
            have gp:=hgq k (by omega);have c3:=quCmp (q.getD k Qt.zero).k (q.getD k Qt.zero).a (q.getD k Qt.zero).b (q.getD k Qt.zero).c (q.getD (k+1) Qt.zero).k (q.getD (k+1) Qt.zero).a (q.getD (k+1) Qt.zero).b (q.getD (k+1) Qt.zero).c;have c3:Pure Tryz.prog 73 [Qt.av (q.getD k Qt.zero),Qt.av (q.getD (k+1) Qt.zero)] (iv (Qt.cmp (q.getD k Qt.zero) (q.getD (k+1) Qt.zero))):=c3;have en:((k+1:Nat):Int) - 1=(k:Int):=by omega
            by_cases ho:Qt.cmp (q.getD k Qt.zero) (q.getD (k+1) Qt.zero)≤0
            ·have hnk:=hnk (qOk_y hn hs (.inr ho));have ho2:¬0 < Qt.cmp (q.getD k Qt.zero) (q.getD (k+1) Qt.zero):=by omega
             clear hn hs hb hgq;generalize Qt.cmp (q.getD k Qt.zero) (q.getD (k+1) Qt.zero)=w at *;generalize q.getD (k+1) Qt.zero=y at *;generalize q.getD k Qt.zero=y' at *;obtain⟨y1,y2,y3,y4⟩:=y;obtain⟨x1,x2,x3,x4⟩:=y';simp only at *;(focus (refine wkad (w_16 e0 e9 e10 e11 e3 e27 e28 e29 e4 m4 hlq gk gp ho ho2 en) (w_2 c1 c3) (w_1 (w_d 10 [(18,iv w)] [] [])) ?_;(repeat' first|exact w_t|apply w_l);all_goals intros));exact⟨k+1+1,⟨by omega,hnk,⟨by exact gW e0,by exact gW e9,by exact gW e10,by exact gW e11,by exact gW e3⟩,⟨by exact gW e27,by exact gW e28,by exact gS⟩,by exact gW e4,by exact gW m4⟩,by omega⟩
            ·have hb:=hb (qOk_o ho);subst hb;have ho2:0 < Qt.cmp (q.getD k Qt.zero) (q.getD (k+1) Qt.zero):=by omega
             clear hn hs hnk hgq;generalize Qt.cmp (q.getD k Qt.zero) (q.getD (k+1) Qt.zero)=w at *;generalize q.getD (k+1) Qt.zero=y at *;generalize q.getD k Qt.zero=y' at *;obtain⟨y1,y2,y3,y4⟩:=y;obtain⟨x1,x2,x3,x4⟩:=y';simp only at *;(focus (refine wkad (w_16 e0 e9 e10 e11 e3 e27 e28 e29 e4 m4 hlq gk gp ho ho2 en) (w_2 c1 c3) (w_1 (w_d 10 [(18,iv w)] [] [])) ?_;(repeat' first|exact w_t|apply w_l);all_goals intros));all_goals exact gL
         ·have hb:=hb (qOk_s hs);subst hb;clear hn hnk hgq;generalize (q.getD k Qt.zero).norm.2=ns at *;generalize q.getD k Qt.zero=y at *;obtain⟨y1,y2,y3,y4⟩:=y;simp only at *;(focus (refine wkad (w_13 e0 e9 e10 e11 e3 e27 e28 e29 e4 m4 hlq gk hs) (w_1 c1) (w_1 (w_d 10 [(18,iv 0)] [] [])) ?_;(repeat' first|exact w_t|apply w_l);all_goals intros));all_goals exact gL
        ·have hb:=hb (qOk_n hn);subst hb;clear hnk hgq;generalize (q.getD k Qt.zero).norm.2=ns at *;generalize (q.getD k Qt.zero).norm.1=nn at *;generalize q.getD k Qt.zero=y at *;obtain⟨y1,y2,y3,y4⟩:=y;obtain⟨n1,n2,n3,n4⟩:=nn
         have hn:(n1 == y1 && (n2 == y2 && (n3 == y3 && n4 == y4)))=false:=by
          rw [Bool.eq_false_iff];intro h;simp only [Bool.and_eq_true,beq_iff_eq] at h;exact hn (by obtain⟨h1,h2,h3,h4⟩:=h;rw [h1,h2,h3,h4])
         try simp only at *
         (focus (refine wkad (w_13 e0 e9 e10 e11 e3 e27 e28 e29 e4 m4 hlq gk hn) (w_1 c1) (w_1 (w_d 10 [(18,iv 0)] [] [])) ?_;(repeat' first|exact w_t|apply w_l);all_goals intros));all_goals exact gL
       ·have hkl:k=q.length:=by omega
        subst hkl;have hp:=hpg hkj;clear hpb hpg hgq hkj
        cases i with
        | zero =>
          have hnx:=hz3 rfl hp;clear hz3 hs1 hs2 hgp hqp;(focus (refine wkad (w_12 e0 e9 e10 e11 e3 e27 e28 e29 e4 m4 hlq hlm) w_t (w_1 (w_d 13 [(11,iv 0)] [] [])) ?_;(repeat' first|exact w_t|apply w_l);all_goals intros));exact⟨1,⟨by omega,hnx,by exact gW e0,by exact gW e9,by exact gW e10,by exact gC⟩,by omega⟩
        | succ i =>
          have g2:=hgp i rfl;have hq2:=hqp i rfl;have co:=Zwj (l.getD i RE.zero).q q hq2 hqi;have co:Pure Tryz.prog 80 [.sl 4 ((l.getD i RE.zero).q.map Qt.av),.sl 4 (q.map Qt.av)] (iv (ordQ (l.getD i RE.zero).q q)):=co;rw [hQ] at co;have en:((i+1:Nat):Int) - 1=(i:Int):=by omega
          by_cases ho:ordQ (l.getD i RE.zero).q q < 0
          ·have hnx:=hs1 i rfl ho hp;clear hz3 hs1 hs2 hgp hqp hq2;have ho2:¬0≤ordQ (l.getD i RE.zero).q q:=by omega
           generalize ordQ (l.getD i RE.zero).q q=w at *;generalize l.getD i RE.zero=u at *;obtain⟨⟨s',x',d'⟩,q'⟩:=u;simp only at *;generalize q'.map Qt.av=Q' at *;(focus (refine wkad (w_16 e0 e9 e10 e11 e3 e27 e28 e29 e4 m4 hlq hlm g2 ho ho2 en) (w_1 co) (w_1 (w_d 13 [(11,iv w)] [] [])) ?_;(repeat' first|exact w_t|apply w_l);all_goals intros));exact⟨i+1+1,⟨by omega,hnx,by exact gW e0,by exact gW e9,by exact gW e10,by exact gS⟩,by omega⟩
          ·have hb:=hs2 i rfl ho;subst hb;clear hz3 hs1 hs2 hgp hqp hq2;have ho2:0≤ordQ (l.getD i RE.zero).q q:=by omega
           generalize ordQ (l.getD i RE.zero).q q=w at *;generalize l.getD i RE.zero=u at *;obtain⟨⟨s',x',d'⟩,q'⟩:=u;simp only at *;generalize q'.map Qt.av=Q' at *;(focus (refine wkad (w_16 e0 e9 e10 e11 e3 e27 e28 e29 e4 m4 hlq hlm g2 ho ho2 en) (w_1 co) (w_1 (w_d 13 [(11,iv w)] [] [])) ?_;(repeat' first|exact w_t|apply w_l);all_goals intros));all_goals exact gL
      ·exact⟨Nat.zero_le _,λj h=>by omega,⟨by exact gW e0,by exact gW e9,by exact gW e10,by exact gW e11,by exact gC⟩,⟨by exact gC,by exact gW hlq,by exact gC⟩,by exact gC,by exact gC⟩
  ·have hil:i=l.length:=by omega
   subst hil;have hb:=hgood hj;subst hb;clear hgood hbad hj hg hr hq;(focus (refine wkad (w_5 e0 e9 e10 e11 hlm) w_t w_t ?_;(repeat' first|exact w_t|apply w_l);all_goals intros));all_goals exact gL
 ·exact⟨Nat.zero_le _,λj h=>by omega,by exact gC,by exact gC,by exact gW hlm,by exact gC⟩
attribute [local go_sem] Tryz.underlying92 Tryz.underlying27 szFr byFr zFr Zib Zii zSQP Tryz.underlying36 Tryz.underlying33 Tryz.underlying9 Zcx zStr
theorem reT_qk {l:List RE} {J n:Nat} (ha:l.all RE.ok=true) (hr:∀t∈l,t.r.lm J) (hq:∀t∈l,t.q.length≤n):QK (l.map RE.t) (J+1) n:=λt ht=>by
 obtain⟨u,hu,rfl⟩:=List.mem_map.1 ht
 have hok:u.r.ok=true:=by
  have:=List.all_eq_true.1 ha u hu;unfold RE.ok at this;simp only [Bool.and_eq_true] at this;exact this.1
 have:=hq u hu;have:=Zi8 u.q;exact⟨(RQ.ok_av (hr u hu) hok).2.mul (Zlz (Zk0 u.q)),by show(putP u.q).length≤n;omega⟩
theorem Zi6 (p:QTs) {j n:Nat} (h:QK p j n) (hl:p.length≤1000000) (hj:j≤1000000) (hn:n≤1000000):Pure Tryz.prog 21 [qpA p,qpA p] (.v (.bool true)):=by
 have hpl:(p.map qtA).length=p.length:=List.length_map ..;have hq:∀i (h:i < p.length),(p.map qtA).getD i .u=.agg [.v (.bool (decide (p[i].1.num < 0))),lim (toL p[i].1.num.natAbs),lim (toL p[i].1.den),.sl 4 (p[i].2.map Qt.av)]:=λi h=>Zar qtA h;have ce:∀i (h:i < p.length),Pure Tryz.prog 33 [.agg [.v (.bool (decide (p[i].1.num < 0))),lim (toL p[i].1.num.natAbs),lim (toL p[i].1.den)],.agg [.v (.bool (decide (p[i].1.num < 0))),lim (toL p[i].1.num.natAbs),lim (toL p[i].1.den)]] (.v (.bool true)):=λi hi=>by
  have c:=Zn2 p[i].1 p[i].1 (h _ (List.getElem_mem hi)).1 (h _ (List.getElem_mem hi)).1 hj hj;rw [decide_eq_true rfl] at c;exact c
 have co:∀i (h:i < p.length),Pure Tryz.prog 68 [.sl 4 (p[i].2.map Qt.av),.sl 4 (p[i].2.map Qt.av)] (iv 0):=λi hi=>by
  have hn:=(h _ (List.getElem_mem hi)).2;have c:=Zl2 p[i].2 p[i].2 (by omega) (by omega);rw [Zbk.refl] at c;exact c
 show Pure _ _ [.sl 4 (p.map qtA),.sl 4 (p.map qtA)] _;clear h;generalize p.map qtA=P at *;refine Zaa (tok:=0) Tryz.func21 rfl Tryz.ntmps21 Tryz.results21 Tryz.call21 (by rfl) (by simp) ?_;(focus (refine wkad (w_1 hpl) w_t w_t ?_;(repeat' first|exact w_t|apply w_l);all_goals intros));refine Zad (ι:=Nat) (λi e m=>i≤p.length∧e 0=.sl 4 P∧e 1=.sl 4 P∧e 5=iv i) (λi=>p.length - i) 0 (by rfl) ?_ ?_
 ·rintro i e m ⟨hi,e0,e1,e5⟩
  by_cases hlt:i < p.length
  ·have hqi:=hq i hlt;have cei:=ce i hlt;have coi:=co i hlt;clear hq ce co;generalize p[i].2.map Qt.av=qs at *;generalize decide (p[i].1.num < 0)=ng at *;generalize toL p[i].1.num.natAbs=An at *;generalize toL p[i].1.den=Ad at *;(focus (refine wkad (w_5 e0 e1 e5 hpl hqi) (w_2 cei coi) (w_1 (w_d 6 [(10,.v (.bool true)),(23,iv 0)] [] [])) ?_;(repeat' first|exact w_t|apply w_l);all_goals intros));exact⟨i+1,⟨by omega,by exact gW e0,by exact gW e1,by exact gS⟩,by omega⟩
  ·(focus (refine wkad (w_4 e0 e1 e5 hpl) w_t w_t ?_;(repeat' first|exact w_t|apply w_l);all_goals intros));all_goals exact gL
 ·exact⟨Nat.zero_le _,by exact gC,by exact gC,by exact gC⟩
def nrmT (l:List RE):QTs:=if l.all RE.ok=true then gatM (l.map RE.t) else []
theorem Zk5 (l:List RE):Wk (nrmR l) (.sl 4 ((nrmT l).map qtA)):=by
 unfold nrmR nrmT;split
 ·exact .refl _
 ·exact .nil 4
theorem nrmT_qk (l:List RE) {J n:Nat} (hr:∀t∈l,t.r.lm J) (hq:∀t∈l,t.q.length≤n):QK (nrmT l) (l.length*(J+1+1) - 1) n∧(nrmT l).length≤l.length:=by
 unfold nrmT;split
 ·rename_i ha;exact Zj9 l.length (l.map RE.t) (List.length_map ..) (reT_qk ha hr hq)
 ·exact⟨λt ht=>(by cases ht),Nat.zero_le _⟩
theorem rxEqN (l:List RE) {J n:Nat} (hl:l.length≤1000) (hr:∀t∈l,t.r.lm J) (hq:∀t∈l,t.q.length≤n) (hJ:J≤800) (hn:n≤1000000):Pure Tryz.prog 21 [.sl 4 ((nrmT l).map qtA),.sl 4 ((nrmT l).map qtA)] (.v (.bool true)):=by
 obtain⟨h1,h2⟩:=nrmT_qk l hr hq;have h3:l.length*(J+1+1)≤1000*(J+1+1):=Nat.mul_le_mul_right _ hl;exact Zi6 _ h1 (by omega) (by omega) hn
def REsm (t:RE):Bool:=decide (t.q.length≤6) && (decide (t.r.l.length≤2) && decide (t.r.d.length≤2))
theorem Zv7 (l:List RE) (q:Qt) (a:RQ) (hl:l.length≤9223372036854775807) (hr:∀t∈l,t.r.lm 9223372036854775807) (hq:∀t∈l,t.q.length≤9223372036854775807) (ha:a.lm 9223372036854775807) :
 Pure Tryz.prog 5 [.sl 4 (l.map RE.av),q.av,.agg [.v (.bool a.s),lim a.l,lim a.d]] (.v (.bool true)):=by
 have ct:=Znt a ha;have ck:=Zkp;have hpl:(l.map RE.av).length=l.length:=List.length_map ..;have hg:∀i (h:i < l.length),(l.map RE.av).getD i .u=RE.av l[i]:=λi h=>Zar RE.av h;by_cases hlen:l.length≤12
 ·cases hti:a.tiny with
  | false =>
    rw [hti] at ct;generalize l.map RE.av=L at *;have h1:¬(12:Int) < (l.length:Int):=by omega
    refine Zaa (tok:=0) Tryz.func5 rfl Tryz.ntmps5 Tryz.results5 Tryz.call5 (by rfl) (by simp) ?_;(focus (refine wkad (w_2 hpl h1) (w_2 ct ck) w_t ?_;(repeat' first|exact w_t|apply w_l);all_goals intros));all_goals exact gL
  | true =>
    rw [hti] at ct;obtain⟨hav,hsz⟩:=RQ.tiny_av ha.1 ha.2.1 hti;have h1:¬(12:Int) < (l.length:Int):=by omega
    have m1:Pure Tryz.prog 26 [.agg [iv q.k,iv q.a,iv q.b,iv q.c]] (.sl 4 ((nrmT (ofE q)).map qtA)):=(exOf q).wk (Zk5 _);have m2:Pure Tryz.prog 27 [.agg [iv q.k,iv q.a,iv q.b,iv q.c]] (.sl 4 ((nrmT (ofE q)).map qtA)):=(rxOf q).wk (Zk5 _);have m3:=(Zwi a.q hsz (by omega)).wk (Zk5 _);have m4:=(rxConst a.q hsz (by omega)).wk (Zk5 _);rw [←hav] at m3 m4;have m3:Pure Tryz.prog 28 [.agg [.v (.bool a.s),lim a.l,lim a.d]] _:=m3;have m4:Pure Tryz.prog 29 [.agg [.v (.bool a.s),lim a.l,lim a.d]] _:=m4;have q1:=rxEqN (ofE q) (J:=1) (n:=1) (by simp [ofE]) (λt ht=>by rw [List.mem_singleton.1 ht];exact Zez Zio) (λt ht=>by rw [List.mem_singleton.1 ht];simp) (by omega) (by omega)
    have q2:=rxEqN (cstE a.q) (J:=2) (n:=1) (by simp [cstE]) (λt ht=>by rw [List.mem_singleton.1 ht];exact Zez hsz) (λt ht=>by rw [List.mem_singleton.1 ht];simp) (by omega) (by omega);have big:l.all REsm=true→(∃N,Pure Tryz.prog 22 [.sl 4 (l.map RE.av)] (.sl 4 N)∧Pure Tryz.prog 23 [.sl 4 (l.map RE.av)] (.sl 4 N)∧Pure Tryz.prog 21 [.sl 4 N,.sl 4 N] (.v (.bool true)))∧∃b,Pure Tryz.prog 24 [.sl 4 (l.map RE.av)] (.v (.bool b))∧Pure Tryz.prog 25 [.sl 4 (l.map RE.av)] (.v (.bool b)):=λhs=>by
     have h2:∀t∈l,t.q.length≤6∧t.r.l.length≤2∧t.r.d.length≤2:=λt ht=>by
      have:=List.all_eq_true.1 hs t ht;unfold REsm at this
      simpa only [Bool.and_eq_true,decide_eq_true_eq] using this
     have h3:∀t∈l,t.r.lm 2:=λt ht=>⟨(hr t ht).1,(hr t ht).2.1,(h2 t ht).2.1,(h2 t ht).2.2⟩;exact⟨⟨_,(Zke l (J:=2) hlen h3 (λt ht=>by have:=h2 t ht;omega) (by omega)).wk (Zk5 _),(Zum l (J:=2) (by omega) h3 (λt ht=>by have:=h2 t ht;omega) (by omega)).wk (Zk5 _),rxEqN l (J:=2) (n:=6) (by omega) h3 (λt ht=>(h2 t ht).1) (by omega) (by omega)⟩,rgtB l,Zwg l (J:=2) (by omega) h3 (λt ht=>by have:=h2 t ht;omega) (by omega),Zul l (J:=2) (by omega) h3 (λt ht=>by have:=h2 t ht;omega) (by omega)⟩
    generalize (nrmT (ofE q)).map qtA=NO at *;generalize (nrmT (cstE a.q)).map qtA=NC at *;clear hav hsz hr hq ha hti;generalize l.map RE.av=L at *;refine Zaa (tok:=0) Tryz.func5 rfl Tryz.ntmps5 Tryz.results5 Tryz.call5 (by rfl) (by simp) ?_;(focus (refine wkad (w_2 hpl h1) (w_2 ct ck) w_t ?_;(repeat' first|exact w_t|apply w_l);all_goals intros));refine Zad (ι:=Nat) (λi e m=>i≤l.length∧(l.take i).all REsm=true∧e 0=.sl 4 L∧e 7=iv i∧(∃g4,e 4=.pbox 4 g4 0∧m 4=some (.box g4 25 [iv q.k,iv q.a,iv q.b,iv q.c] false))∧∃g5,e 5=.pbox 5 g5 0∧m 5=some (.box g5 45 [.v (.bool a.s),lim a.l,lim a.d] false)) (λi=>l.length - i) 0 (by rfl) ?_ ?_
    ·rintro i e m ⟨hi,hs,e0,e7,⟨g4,e4,m4'⟩,g5,e5,m5⟩
     by_cases hlt:i < l.length
     ·have hgi:=hg i hlt;have hst:REsm l[i]=true→(l.take (i+1)).all REsm=true:=Zfh hlt hs;have hsd:REsm l[i]=(decide (l[i].q.length≤6) && (decide (l[i].r.l.length≤2) && decide (l[i].r.d.length≤2))):=rfl;have hgi:L.getD i .u=.agg [.v (.bool l[i].r.s),lim l[i].r.l,lim l[i].r.d,.sl 4 (l[i].q.map Qt.av)]:=hgi;have hql:(l[i].q.map Qt.av).length=l[i].q.length:=List.length_map ..;clear hg big hs;generalize l[i].q.map Qt.av=qs at *;generalize l[i].q.length=qn at *;generalize l[i].r.s=ts at *;generalize l[i].r.l=tl at *;generalize l[i].r.d=td at *;by_cases h6:qn≤6
      ·have g6:¬(6:Int) < (qn:Int):=by omega
       by_cases h2:tl.length≤2
       ·have g2:¬(2:Int) < (tl.length:Int):=by omega
        by_cases h2':td.length≤2
        ·have g2':¬(2:Int) < (td.length:Int):=by omega
         have hsy:=hst (by rw [hsd,decide_eq_true h6,decide_eq_true h2,decide_eq_true h2'];rfl);(focus (refine wkad (w_12 e0 e7 e4 m4' e5 m5 hpl hgi hql g6 g2 g2') w_t w_t ?_;(repeat' first|exact w_t|apply w_l);all_goals intros));exact⟨i+1,⟨by omega,hsy,by exact gW e0,by exact gS,⟨_,by exact gW e4,by exact gW m4'⟩,_,by exact gW e5,by exact gW m5⟩,by omega⟩
        ·have g2':(2:Int) < (td.length:Int):=by omega
         (focus (refine wkad (w_12 e0 e7 e4 m4' e5 m5 hpl hgi hql g6 g2 g2') (w_1 ck) w_t ?_;(repeat' first|exact w_t|apply w_l);all_goals intros));all_goals exact gL
       ·have g2:(2:Int) < (tl.length:Int):=by omega
        (focus (refine wkad (w_11 e0 e7 e4 m4' e5 m5 hpl hgi hql g6 g2) (w_1 ck) w_t ?_;(repeat' first|exact w_t|apply w_l);all_goals intros));all_goals exact gL
      ·have g6:(6:Int) < (qn:Int):=by omega
       (focus (refine wkad (w_10 e0 e7 e4 m4' e5 m5 hpl hgi hql g6) (w_1 ck) w_t ?_;(repeat' first|exact w_t|apply w_l);all_goals intros));all_goals exact gL
     ·have:i=l.length:=by omega
      subst this;rw [List.take_length] at hs;obtain⟨⟨N,b1,b2,b3⟩,b,b5,b6⟩:=big hs;clear big hg;have hbb:(b != b)=false:=by cases b<;>rfl
      (focus (refine wkax (w_8 e0 e7 e4 m4' e5 m5 hpl hbb) (w_12 b1 b2 b3 b5 b6 m1 m2 m3 m4 q1 q2 ck) (w_1 (w_d 10 [(1,.sl 4 NO),(3,.sl 4 NO),(4,.v (.bool true)),(7,.sl 4 NC),(9,.sl 4 NC),(10,.v (.bool true)),(13,.v (.bool true))] [] [])) w_t w_t w_t (w_r 0) ?_;(repeat' first|exact w_t|apply w_l);all_goals intros));all_goals exact gL
    ·exact⟨Nat.zero_le _,rfl,by exact gC,by exact gC,⟨_,by exact gC,by exact gC⟩,_,by exact gC,by exact gC⟩
 ·have h1:(12:Int) < (l.length:Int):=by omega
  generalize l.map RE.av=L at *;refine Zaa (tok:=0) Tryz.func5 rfl Tryz.ntmps5 Tryz.results5 Tryz.call5 (by rfl) (by simp) ?_;(focus (refine wkad (w_2 hpl h1) (w_2 ct ck) w_t ?_;(repeat' first|exact w_t|apply w_l);all_goals intros));all_goals exact gL
section
variable {N n:Nat} {cs:List AV}
theorem shProd (h:Zcg Tryz.prog N n 47 cs):∃l:List Qt,cs=[qsA l]∧l.length≤N:=by
 obtain⟨bs,rfl,hl,_⟩:=Zcu (g:=λq:Qt=>[iv q.k,iv q.a,iv q.b,iv q.c]) (Q:=λ_=>True) Tryz.underlying47 h λm x hx=>by
  obtain⟨k,a,b,c,rfl⟩:=Zq3 hx;exact⟨⟨k,a,b,c⟩,rfl,trivial⟩
 refine⟨bs,?_,hl⟩;rw [show Tryz.prog.cellsOf 25=4 from by kernel_rfl];have:(bs.map λq:Qt=>Zc2 Tryz.prog 25 [iv q.k,iv q.a,iv q.b,iv q.c])=bs.map Qt.av:=List.map_congr_left λb _=>Zo7 _;rw [this]
theorem shQTerm (h:Zcg Tryz.prog N n 49 cs):∃t:RE,cs=[.v (.bool t.r.s),lim t.r.l,lim t.r.d,qsA t.q]∧t.r.lm N∧t.q.length≤N:=by
 obtain⟨m,rfl,hs⟩:=Zdt Tryz.underlying49 (by kernel_rfl) h;obtain⟨x,y,rfl,h1,hs⟩:=hs.inv;obtain⟨x2,y,rfl,h2,hs⟩:=hs.inv;obtain rfl:=hs.inv0;obtain⟨r,rfl,hr⟩:=Zuh h1;obtain⟨l,rfl,hl⟩:=shProd h2;exact⟨⟨r,l⟩,rfl,hr,hl⟩
theorem Zf1 {T:TypeId} (hu:Tryz.prog.underlying T=some (.slice 49)) (h:Zcg Tryz.prog N n T cs):∃l:List RE,cs=[.sl 4 (l.map RE.av)]∧l.length≤N∧(∀t∈l,t.r.lm N)∧∀t∈l,t.q.length≤N:=by
 obtain⟨bs,rfl,hl,hq⟩:=Zcu (g:=λt:RE=>[.v (.bool t.r.s),lim t.r.l,lim t.r.d,qsA t.q]) (Q:=λt=>t.r.lm N∧t.q.length≤N) hu h λm x hx=>by
  obtain⟨t,h1,h2⟩:=shQTerm hx;exact⟨t,h1,h2⟩
 refine⟨bs,?_,hl,λt ht=>(hq t ht).1,λt ht=>(hq t ht).2⟩;rw [show Tryz.prog.cellsOf 49=4 from by kernel_rfl];have:(bs.map λt:RE=>Zc2 Tryz.prog 49 [.v (.bool t.r.s),lim t.r.l,lim t.r.d,qsA t.q])=bs.map RE.av:=List.map_congr_left λb _=>Zfw Tryz.underlying49 _;rw [this]
end
theorem saidENorms (xs:List AV) (h:ShapeL Tryz.prog maxLen 9 [22,25,45] xs):Pure Tryz.prog 5 xs (.v (.bool true)):=by
 obtain⟨x,bs,rfl,h1,h⟩:=h.inv;obtain⟨y,bs,rfl,h2,h⟩:=h.inv;obtain⟨z,bs,rfl,h3,h⟩:=h.inv;obtain rfl:=h.inv0;obtain⟨l,rfl,hl,hr,hq⟩:=Zf1 Tryz.underlying22 h1;obtain⟨k,a,b,c,rfl⟩:=Zq3 h2;obtain⟨r,rfl,hrr⟩:=Zuh h3;rw [Zo7,Zfw Tryz.underlying45,Zb5 (by kernel_rfl)];exact Zv7 l ⟨k,a,b,c⟩ r hl hr hq hrr
def Zer (Q:Nat) (t:RE):Bool:=decide (t.q.length≤Q) && t.r.tiny
def Zbp (T Q:Nat) (l:List RE):Bool:=decide (l.length≤T) && (l.all (Zer Q) && rgtB l)
def RE.rt (t:RE):Rat × List Qt:=(t.r.q,t.q)
theorem Zun {Q k:Nat} {l:List RE} (hr:∀t∈l,t.r.lm k) (h:l.all (Zer Q)=true):l.map RE.av=(l.map RE.rt).map qtA:=by
 rw [List.map_map];refine List.map_congr_left λt ht=>?_;have:=List.all_eq_true.1 h t ht;unfold Zer at this;simp only [Bool.and_eq_true] at this;have e:=(RQ.tiny_av (hr t ht).1 (hr t ht).2.1 this.2).1;have e1:t.r.av=.agg [.v (.bool t.r.s),lim t.r.l,lim t.r.d]:=rfl;have e2:ratQ t.r.q=.agg [.v (.bool (decide (t.r.q.num < 0))),lim (toL t.r.q.num.natAbs),lim (toL t.r.q.den)]:=rfl;rw [e1,e2] at e;simp only [AV.agg.injEq,List.cons.injEq,and_true] at e;show AV.agg [.v (.bool t.r.s),lim t.r.l,lim t.r.d,qsA t.q]=.agg [.v (.bool (decide (t.r.q.num < 0))),lim (toL t.r.q.num.natAbs),lim (toL t.r.q.den),qsA t.q]
 rw [e.1,e.2.1,e.2.2]
theorem rt_qk {Q k:Nat} {l:List RE} (hr:∀t∈l,t.r.lm k) (h:l.all (Zer Q)=true):QK (l.map RE.rt) 2 Q:=λu hu=>by
 obtain⟨t,ht,rfl⟩:=List.mem_map.1 hu;have:=List.all_eq_true.1 h t ht;unfold Zer at this;simp only [Bool.and_eq_true,decide_eq_true_eq] at this;exact⟨(RQ.tiny_av (hr t ht).1 (hr t ht).2.1 this.2).2,this.1⟩
theorem Zl1 (l:List RE) (T Q:Nat) (hT:T≤100000) (hQ:Q≤100000) (hl:l.length≤9223372036854775807) (hr:∀t∈l,t.r.lm 9223372036854775807) (hq:∀t∈l,t.q.length≤9223372036854775807) :
 Pure Tryz.prog 11 [.sl 4 (l.map RE.av),iv T,iv Q] (.v (.bool (Zbp T Q l))):=by
 have hpl:(l.map RE.av).length=l.length:=List.length_map ..;have hg:∀i (h:i < l.length),(l.map RE.av).getD i .u=.agg [.v (.bool l[i].r.s),lim l[i].r.l,lim l[i].r.d,.sl 4 (l[i].q.map Qt.av)]:=λi h=>Zar RE.av h;have ct:∀i (h:i < l.length),Pure Tryz.prog 20 [.agg [.v (.bool l[i].r.s),lim l[i].r.l,lim l[i].r.d]] (.v (.bool l[i].r.tiny)):=λi h=>Znt l[i].r (hr _ (List.getElem_mem h));have cr:l.length≤T→l.all (Zer Q)=true→Pure Tryz.prog 25 [.sl 4 (l.map RE.av)] (.v (.bool (rgtB l))):=λh1 h2=>by
  have h3:∀t∈l,t.q.length≤Q∧t.r.tiny=true:=λt ht=>by
   have:=List.all_eq_true.1 h2 t ht;unfold Zer at this
   simpa only [Bool.and_eq_true,decide_eq_true_eq] using this
  refine Zul l (J:=2) (by omega) (λt ht=>?_) (λt ht=>by have:=h3 t ht;omega) (by omega);have h4:=(h3 t ht).2;unfold RQ.tiny at h4;simp only [Bool.and_eq_true,decide_eq_true_eq] at h4;exact⟨(hr t ht).1,(hr t ht).2.1,h4.1.1,h4.1.2⟩
 clear hr hq;generalize l.map RE.av=L at *;by_cases hlen:l.length≤T
 ·have h1:¬(T:Int) < (l.length:Int):=by omega
  have hsm:Zbp T Q l=(l.all (Zer Q) && rgtB l):=by unfold Zbp;rw [decide_eq_true hlen,Bool.true_and]
  rw [hsm];refine Zaa (tok:=0) Tryz.func11 rfl Tryz.ntmps11 Tryz.results11 Tryz.call11 (by rfl) (by simp) ?_;(focus (refine wkad (w_2 hpl h1) w_t w_t ?_;(repeat' first|exact w_t|apply w_l);all_goals intros));refine Zad (ι:=Nat) (λi e m=>i≤l.length∧(l.take i).all (Zer Q)=true∧e 0=.sl 4 L∧e 2=iv Q∧e 7=iv i) (λi=>l.length - i) 0 (by rfl) ?_ ?_
  ·rintro i e m ⟨hi,hs,e0,e2,e7⟩
   by_cases hlt:i < l.length
   ·have hgi:=hg i hlt;have cti:=ct i hlt;have hql:(l[i].q.map Qt.av).length=l[i].q.length:=List.length_map ..;have hst:Zer Q l[i]=true→(l.take (i+1)).all (Zer Q)=true:=Zfh hlt hs;have hsn:Zer Q l[i]=false→l.all (Zer Q)=false:=λh=>List.all_eq_false.2 ⟨l[i],List.getElem_mem hlt,by rw [h];decide⟩;have hsd:Zer Q l[i]=(decide (l[i].q.length≤Q) && l[i].r.tiny):=rfl;clear hg ct cr hs hsm;generalize l[i].q.map Qt.av=qs at *;generalize l[i].q.length=qn at *;generalize l[i].r.tiny=tn at *;generalize l[i].r.s=ts at *;generalize l[i].r.l=tl at *;generalize l[i].r.d=td at *;by_cases h6:qn≤Q
    ·have g6:¬(Q:Int) < (qn:Int):=by omega
     cases tn with
     | true =>
       have hsy:=hst (by rw [hsd,decide_eq_true h6];rfl);(focus (refine wkad (w_7 e0 e2 e7 hpl hgi hql g6) (w_1 cti) w_t ?_;(repeat' first|exact w_t|apply w_l);all_goals intros));exact⟨i+1,⟨by omega,hsy,by exact gW e0,by exact gW e2,by exact gS⟩,by omega⟩
     | false =>
       rw [hsn (by rw [hsd,Bool.and_false]),Bool.false_and];(focus (refine wkad (w_7 e0 e2 e7 hpl hgi hql g6) (w_1 cti) w_t ?_;(repeat' first|exact w_t|apply w_l);all_goals intros));all_goals exact gL
    ·have g6:(Q:Int) < (qn:Int):=by omega
     rw [hsn (by rw [hsd,decide_eq_false h6];rfl),Bool.false_and];(focus (refine wkad (w_7 e0 e2 e7 hpl hgi hql g6) w_t w_t ?_;(repeat' first|exact w_t|apply w_l);all_goals intros));all_goals exact gL
   ·have:i=l.length:=by omega
    subst this;rw [List.take_length] at hs;have cr:=cr hlen hs;rw [hs,Bool.true_and];(focus (refine wkad (w_4 e0 e2 e7 hpl) (w_1 cr) w_t ?_;(repeat' first|exact w_t|apply w_l);all_goals intros));all_goals exact gL
  ·exact⟨Nat.zero_le _,rfl,by exact gC,by exact gC,by exact gC⟩
 ·have h1:(T:Int) < (l.length:Int):=by omega
  have hsm:Zbp T Q l=false:=by unfold Zbp;rw [decide_eq_false hlen,Bool.false_and]
  rw [hsm];refine Zaa (tok:=0) Tryz.func11 rfl Tryz.ntmps11 Tryz.results11 Tryz.call11 (by rfl) (by simp) ?_;(focus (refine wkad (w_2 hpl h1) w_t w_t ?_;(repeat' first|exact w_t|apply w_l);all_goals intros));all_goals exact gL
theorem Zml (l:List RE) (hl:l.length≤9223372036854775807) (hr:∀t∈l,t.r.lm 9223372036854775807) (hq:∀t∈l,t.q.length≤9223372036854775807) :
 Pure Tryz.prog 16 [.sl 4 (l.map RE.av)] (.v (.bool (Zbp 8 3 l))):=by
 have c:Pure Tryz.prog 11 [.sl 4 (l.map RE.av),iv 8,iv 3] (.v (.bool (Zbp 8 3 l))):=Zl1 l 8 3 (by omega) (by omega) hl hr hq;generalize Zbp 8 3 l=b at *;generalize l.map RE.av=L at *;refine Zaa (tok:=0) Tryz.func16 rfl Tryz.ntmps16 Tryz.results16 Tryz.call16 (by rfl) (by simp) ?_;(focus (refine wkad w_t (w_1 c) w_t ?_;(repeat' first|exact w_t|apply w_l);all_goals intros));all_goals exact gL
theorem Zv6 (l:List RE) (ss:List ByteArray) (hl:l.length≤9223372036854775807) (hr:∀t∈l,t.r.lm 9223372036854775807) (hq:∀t∈l,t.q.length≤9223372036854775807) (hn:ss.length≤9223372036854775807) :
 Pure Tryz.prog 4 [.sl 4 (l.map RE.av),.sl 1 (ss.map strA)] (.v (.bool true)):=by
 have ck:=Zkp;have cs:=Zml l hl hr hq;have cn:=rqShort ss hn
 cases hb:Zbp 8 3 l with
 | false =>
   rw [hb] at cs;generalize l.map RE.av=L at *;refine Zaa (tok:=0) Tryz.func4 rfl Tryz.ntmps4 Tryz.results4 Tryz.call4 (by rfl) (by simp) ?_;(focus (refine wkad w_t (w_2 cs ck) w_t ?_;(repeat' first|exact w_t|apply w_l);all_goals intros));all_goals exact gL
 | true =>
   rw [hb] at cs
   cases hb2:Zq2 ss with
   | false =>
     rw [hb2] at cn;generalize l.map RE.av=L at *;refine Zaa (tok:=0) Tryz.func4 rfl Tryz.ntmps4 Tryz.results4 Tryz.call4 (by rfl) (by simp) ?_;(focus (refine wkad w_t (w_3 cs cn ck) w_t ?_;(repeat' first|exact w_t|apply w_l);all_goals intros));all_goals exact gL
   | true =>
     rw [hb2] at cn
     have hb3:ss.length≤60∧∀s∈ss,s.size≤30:=by
      unfold Zq2 at hb2
      simpa only [Bool.and_eq_true,decide_eq_true_eq,List.all_eq_true] using hb2
     unfold Zbp at hb;simp only [Bool.and_eq_true,decide_eq_true_eq] at hb;have hqk:=rt_qk hr hb.2.1;have hll:(l.map RE.rt).length=l.length:=List.length_map ..;have ho:OkT (l.map RE.rt) 2:=λt ht=>⟨by have:=(hqk t ht).2;omega,(hqk t ht).1⟩;have c1:=Zr6 (l.map RE.rt) ss (by omega) (λs hs=>by have:=hb3.2 s hs;omega) (by omega) (by omega) ho;have c2:=rxText (l.map RE.rt) ss (by omega) (λs hs=>by have:=hb3.2 s hs;omega) (by omega) (by omega) ho;rw [←Zun hr hb.2.1] at c1 c2
     have key:∃(t:ByteArray) (e:Int),(if chkE ss.length (l.map RE.rt)=0 then AV.tup [strA (eTxt ss (l.map RE.rt)),iv 0] else .tup [strA ⟨#[]⟩,iv (chkE ss.length (l.map RE.rt))])=.tup [strA t,iv e]:=by
      split
      ·exact⟨_,_,rfl⟩
      ·exact⟨_,_,rfl⟩
     obtain⟨t,e,hte⟩:=key;rw [hte] at c1 c2;clear hb hb2 hb3 hte ho hqk hr hq hl;have hS:∀s:ByteArray,(s.toList == s.toList)=true:=λs=>beq_self_eq_true _;generalize l.map RE.av=L at *;refine Zaa (tok:=0) Tryz.func4 rfl Tryz.ntmps4 Tryz.results4 Tryz.call4 (by rfl) (by simp) ?_;(focus (refine wkad (w_1 hS) (w_5 cs cn ck c1 c2) w_t ?_;(repeat' first|exact w_t|apply w_l);all_goals intros));all_goals exact gL
theorem saidETexts (xs:List AV) (h:ShapeL Tryz.prog maxLen 9 [23,33] xs):Pure Tryz.prog 4 xs (.v (.bool true)):=by
 obtain⟨x,bs,rfl,h1,h⟩:=h.inv;obtain⟨y,bs,rfl,h2,h⟩:=h.inv;obtain rfl:=h.inv0;obtain⟨l,rfl,hl,hr,hq⟩:=Zf1 Tryz.underlying23 h1;obtain⟨ss,rfl,hn⟩:=shStrs h2;rw [Zb5 (by kernel_rfl),Zb5 (by kernel_rfl)];exact Zv6 l ss hl hr hq hn
end Go.Proofs.YtjekhacnoopdpaaGreatDoor
