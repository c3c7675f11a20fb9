/- Contracts of the functions that the law reaches, and the rules by which they are walked. They say what a call hands back for every input within the bounds that each names; no other condition. -/
import Derived.Test.YtjekhacnoopdpaaGreatDoorBz5
set_option linter.unusedSimpArgs false
set_option linter.unusedVariables false
set_option maxRecDepth 20000
set_option maxHeartbeats 16000000
namespace Go.Proofs.YtjekhacnoopdpaaGreatDoor
open Go Go.RowKit Go.Pg
attribute [-bool_to_prop] Bool.and_eq_decide Bool.or_eq_decide Bool.decide_beq_decide decide_eq_decide
section
variable {N n:Nat} {cs:List AV}
theorem shQuantP (h:Zcl Tryz.prog N n 25 cs):∃k a b c:Int,cs=[iv k,iv a,iv b,iv c]:=by
 obtain⟨m,rfl,hs⟩:=Zc0 Tryz.underlying25 (by kernel_rfl) h;obtain⟨x,y,rfl,h1,hs⟩:=hs.inv;obtain⟨x2,y,rfl,h2,hs⟩:=hs.inv;obtain⟨x3,y,rfl,h3,hs⟩:=hs.inv;obtain⟨x4,y,rfl,h4,hs⟩:=hs.inv;obtain rfl:=hs.inv0;obtain⟨k,rfl,_⟩:=Zf4 Tryz.underlying3 h1;obtain⟨a,rfl,_⟩:=Zf4 Tryz.underlying3 h2;obtain⟨b,rfl,_⟩:=Zf4 Tryz.underlying3 h3;obtain⟨c,rfl,_⟩:=Zf4 Tryz.underlying3 h4;exact⟨k,a,b,c,rfl⟩
theorem aggQuantP (cs:List AV):Zc2 Tryz.prog 25 cs=.agg cs:=Zfz Tryz.underlying25 cs
theorem shPoints (h:Zcl Tryz.prog N n 55 cs):∃ps:List RP,cs=[.sl 6 (ps.map RP.av)]∧ps.length≤N∧∀p∈ps,p.lm N:=by
 obtain⟨bs,rfl,hl,hq⟩:=Zc4 (g:=λp:RP=>[.v (.bool p.x.s),lim p.x.l,lim p.x.d,.v (.bool p.y.s),lim p.y.l,lim p.y.d]) (Q:=λp=>p.lm N) Tryz.underlying55 h λm x hx=>by
  obtain⟨p,rfl,hp⟩:=shPoint hx;exact⟨p,rfl,hp⟩
 refine⟨bs,?_,hl,hq⟩;rw [show Tryz.prog.cellsOf 110=6 from by kernel_rfl];have:(bs.map λb:RP=>Zc2 Tryz.prog 110 [.v (.bool b.x.s),lim b.x.l,lim b.x.d,.v (.bool b.y.s),lim b.y.l,lim b.y.d])=bs.map RP.av:=List.map_congr_left λb _=>Zfz Tryz.underlying110 _;rw [this]
theorem shRats (h:Zcl Tryz.prog N n 56 cs):∃rs:List RQ,cs=[.sl 3 (rs.map RQ.av)]∧rs.length≤N∧∀r∈rs,r.lm N:=by
 obtain⟨bs,rfl,hl,hq⟩:=Zc4 (g:=λp:RQ=>[.v (.bool p.s),lim p.l,lim p.d]) (Q:=λp=>p.lm N) Tryz.underlying56 h λm x hx=>by
  obtain⟨p,rfl,hp⟩:=shRat hx;exact⟨p,rfl,hp⟩
 refine⟨bs,?_,hl,hq⟩;rw [show Tryz.prog.cellsOf 45=3 from by kernel_rfl];have:(bs.map λb:RQ=>Zc2 Tryz.prog 45 [.v (.bool b.s),lim b.l,lim b.d])=bs.map RQ.av:=List.map_congr_left λb _=>Zfz Tryz.underlying45 _;rw [this]
end
attribute [local go_sem] Tryz.underlying3 Tryz.underlying2 Tryz.underlying169 Tryz.underlying4 Tryz.underlying36 Tryz.underlying25 Tryz.underlying47 Tryz.underlying45 Tryz.underlying41 Tryz.underlying43 Tryz.underlying110 Tryz.underlying56 Tryz.underlying55 sz3 by3 z3 szL byL zL Zaj Zaw Zhl zErr Zbd zRat Zbe zNat Zbf zInt szB zB szPt byPt zPt Zak Bool.and_self
def RQ.tiny (r:RQ):Bool:=decide (r.l.length≤2) && decide (r.d.length≤2) && r.ok
theorem RQ.tiny_av {r:RQ} (h1:Lm r.l) (h2:Lm r.d) (h:r.tiny=true):r.av=ratQ r.q∧Sz r.q 2:=by
 unfold RQ.tiny at h;simp only [Bool.and_eq_true,decide_eq_true_eq] at h;exact RQ.ok_av ⟨h1,h2,h.1.1,h.1.2⟩ h.2
def RP.tiny (p:RP):Bool:=p.x.tiny && p.y.tiny
def RP.q (p:RP):PQ:=(p.x.q,p.y.q)
theorem RP.tiny_av {p:RP} {k:Nat} (hl:p.lm k) (h:p.tiny=true):p.av=p.q.av∧p.q.sz 2:=by
 unfold RP.tiny at h;simp only [Bool.and_eq_true] at h;obtain⟨ex,sx⟩:=RQ.tiny_av hl.1.1 hl.1.2.1 h.1;obtain⟨ey,sy⟩:=RQ.tiny_av hl.2.1 hl.2.2.1 h.2;refine⟨?_,sx,sy⟩;show AV.agg (p.x.av.cells++p.y.av.cells)=AV.agg ((ratQ p.x.q).cells++(ratQ p.y.q).cells);rw [ex,ey]
theorem rqTiny (r:RQ) (h:r.lm 9223372036854775807):Pure Tryz.prog 20 [.agg [.v (.bool r.s),lim r.l,lim r.d]] (.v (.bool r.tiny)):=by
 obtain⟨s,l,d⟩:=r;obtain⟨h1,h2,h3,h4⟩:=h;unfold RQ.tiny;simp only at *;by_cases hl:l.length≤2
 ·by_cases hd:d.length≤2
  ·have c:=Zu9 s l d h1 h2 (by omega) (by omega);generalize RQ.ok ⟨s,l,d⟩=v at *;rw [decide_eq_true hl,decide_eq_true hd];refine Zaa (tok:=0) Tryz.func20 rfl Tryz.ntmps20 Tryz.results20 Tryz.call20 (by rfl) (by simp) ?_;(focus (refine wkld (w_1 @Zbx) (w_1 c) (w_1 @Bool.true_and) w_t ?_;(repeat' first|exact w_t|apply w_l);all_goals intros))
  ·rw [decide_eq_true hl,decide_eq_false hd];refine Zaa (tok:=0) Tryz.func20 rfl Tryz.ntmps20 Tryz.results20 Tryz.call20 (by rfl) (by simp) ?_;(focus (refine wkld (w_1 @Zbx) w_t (w_2 @Bool.true_and @Bool.false_and) w_t ?_;(repeat' first|exact w_t|apply w_l);all_goals intros))
 ·rw [decide_eq_false hl];refine Zaa (tok:=0) Tryz.func20 rfl Tryz.ntmps20 Tryz.results20 Tryz.call20 (by rfl) (by simp) ?_;(focus (refine wkld (w_1 @Zbx) w_t (w_1 @Bool.false_and) w_t ?_;(repeat' first|exact w_t|apply w_l);all_goals intros))
def mildB (ps:List RP) (rs:List RQ):Bool:=decide (ps.length≤10) && decide (rs.length≤10) && ps.all RP.tiny && rs.all RQ.tiny
theorem all_atB {α:Type} {l:List α} {p:α→Bool} {k:Nat} (h:k < l.length) (hp:p l[k]=false):l.all p=false:=by
 rw [List.all_eq_false];exact⟨l[k],List.getElem_mem h,by rw [hp];simp⟩
theorem all_snocB {α:Type} {l:List α} {p:α→Bool} {k:Nat} (h:k < l.length) (h1:(l.take k).all p=true) (hp:p l[k]=true):(l.take (k+1)).all p=true:=by
 rw [List.take_succ_eq_append_getElem h,List.all_append,h1];simp [hp]
theorem rqMild (ps:List RP) (rs:List RQ) (hp:∀p∈ps,p.lm 9223372036854775807) (hr:∀r∈rs,r.lm 9223372036854775807) (hpl:ps.length≤9223372036854775807) (hrl:rs.length≤9223372036854775807) :
 Pure Tryz.prog 30 [.sl 6 (ps.map RP.av),.sl 3 (rs.map RQ.av)] (.v (.bool (mildB ps rs))):=by
 unfold mildB;by_cases h1:ps.length≤10
 ·by_cases h2:rs.length≤10
  ·rw [decide_eq_true h1,decide_eq_true h2,Bool.true_and,Bool.true_and];refine Zaa (tok:=0) Tryz.func30 rfl Tryz.ntmps30 Tryz.results30 Tryz.call30 (by rfl) (by simp) ?_;(focus (refine wkad (w_1 @Zew) w_t w_t ?_;(repeat' first|exact w_t|apply w_l);all_goals intros));refine Zad (ι:=Nat) (λi e m=>i≤ps.length∧e 0=.sl 6 (ps.map RP.av)∧e 1=.sl 3 (rs.map RQ.av)∧e 5=iv i∧(ps.take i).all RP.tiny=true) (λi=>ps.length - i) 0 (by rfl) ?_ ?_
   ·rintro i e m ⟨hi,e0,e1,e5,ht⟩
    by_cases hlt:i < ps.length
    ·have hg:=Za0 RP.av hlt;have hsn:=λh=>all_snocB (p:=RP.tiny) hlt ht h;have hat:=λh=>all_atB (p:=RP.tiny) hlt h;have hm:=hp _ (List.getElem_mem hlt);generalize ps[i]=p at *;have c1:=rqTiny p.x hm.1;have c2:=rqTiny p.y hm.2;unfold RP.tiny at hsn hat;obtain⟨px,py⟩:=p;simp only at *;generalize px.tiny=v1 at *;generalize py.tiny=v2 at *;cases v1
     ·rw [show ps.all RP.tiny=false from hat rfl];(focus (refine wkld (w_5 e0 e1 e5 hg @Zew) (w_2 c1 c2) (w_1 @Bool.false_and) w_t ?_;(repeat' first|exact w_t|apply w_l);all_goals intros))
     ·cases v2
      ·rw [show ps.all RP.tiny=false from hat rfl];(focus (refine wkld (w_5 e0 e1 e5 hg @Zew) (w_2 c1 c2) (w_1 @Bool.false_and) w_t ?_;(repeat' first|exact w_t|apply w_l);all_goals intros))
      ·(focus (refine wkad (w_5 e0 e1 e5 hg @Zew) (w_2 c1 c2) w_t ?_;(repeat' first|exact w_t|apply w_l);all_goals intros));exact⟨i+1,⟨by omega,by exact gW e0,by exact gW e1,by exact gS,hsn rfl⟩,by omega⟩
    ·have hi2:i=ps.length:=by omega
     subst hi2;rw [List.take_length] at ht;rw [ht,Bool.true_and];(focus (refine wkad (w_4 e0 e1 e5 @Zew) w_t w_t ?_;(repeat' first|exact w_t|apply w_l);all_goals intros));refine Zad (ι:=Nat) (λi e m=>i≤rs.length∧e 1=.sl 3 (rs.map RQ.av)∧e 6=iv i∧(rs.take i).all RQ.tiny=true) (λi=>rs.length - i) 0 (by rfl) ?_ ?_
     ·rintro i e m ⟨hi,e1,e6,ht⟩
      by_cases hlt:i < rs.length
      ·have hg:=Za0 RQ.av hlt;have hsn:=λh=>all_snocB (p:=RQ.tiny) hlt ht h;have hat:=λh=>all_atB (p:=RQ.tiny) hlt h;have hm:=hr _ (List.getElem_mem hlt);generalize rs[i]=r at *;have c1:=rqTiny r hm;generalize r.tiny=v1 at *;cases v1
       ·rw [hat rfl];(focus (refine wkld (w_4 e1 e6 hg @Zew) (w_1 c1) w_t w_t ?_;(repeat' first|exact w_t|apply w_l);all_goals intros))
       ·(focus (refine wkad (w_4 e1 e6 hg @Zew) (w_1 c1) w_t ?_;(repeat' first|exact w_t|apply w_l);all_goals intros));exact⟨i+1,⟨by omega,by exact gW e1,by exact gS,hsn rfl⟩,by omega⟩
      ·have hi2:i=rs.length:=by omega
       subst hi2;rw [List.take_length] at ht;rw [ht];(focus (refine wkld (w_3 e1 e6 @Zew) w_t w_t w_t ?_;(repeat' first|exact w_t|apply w_l);all_goals intros))
     ·exact⟨by omega,by exact gW e1,by exact gC,by simp⟩
   ·exact⟨by omega,by exact gC,by exact gC,by exact gC,by simp⟩
  ·rw [decide_eq_true h1,decide_eq_false h2];refine Zaa (tok:=0) Tryz.func30 rfl Tryz.ntmps30 Tryz.results30 Tryz.call30 (by rfl) (by simp) ?_;(focus (refine wkld (w_1 @Zew) w_t (w_2 @Bool.false_and @Bool.true_and) w_t ?_;(repeat' first|exact w_t|apply w_l);all_goals intros))
 ·rw [decide_eq_false h1];refine Zaa (tok:=0) Tryz.func30 rfl Tryz.ntmps30 Tryz.results30 Tryz.call30 (by rfl) (by simp) ?_;(focus (refine wkld (w_1 @Zew) w_t (w_1 @Bool.false_and) w_t ?_;(repeat' first|exact w_t|apply w_l);all_goals intros))
theorem val_sz {k a b c:Int} {ps:List PQ} {rs:List Rat} {j:Nat} (hp:∀p∈ps,PQ.sz p j) (hq:∀r∈rs,Sz r j) (hj:1≤j) (h:Qt.chk ⟨k,a,b,c⟩ ps.length rs.length=0):Sz (Qt.val ⟨k,a,b,c⟩ ps rs) (8*j+6):=by
 rcases Zqc h with⟨rfl,h1,h2,h3⟩ | ⟨h0,h1,h2,h3,h4⟩
 ·rw [show Qt.val ⟨3,a,b,c⟩ ps rs=rs.getD a.toNat 0 from by unfold Qt.val;rfl];exact(hq _ (Zdd (by omega))).mono (by omega)
 ·have zx:=hp _ (Zdd (d:=(0,0)) (show a.toNat < ps.length by omega));have zy:=hp _ (Zdd (d:=(0,0)) (show b.toNat < ps.length by omega));have zw:=hp _ (Zdd (d:=(0,0)) (show c.toNat < ps.length by omega));unfold Qt.val;simp only;rw [if_neg h0];split
  ·exact(Zw0 zx zy zx zw).mono (by omega)
  ·exact((Zl3 2 (by omega)).mul (Zqb zy zx zy zw)).mono (by omega)
theorem mild_ok {ps:List RP} {rs:List RQ} (hp:∀p∈ps,p.lm 9223372036854775807) (hr:∀r∈rs,r.lm 9223372036854775807) (hb:mildB ps rs=true) :
 ∃(qs:List PQ) (us:List Rat),ps.map RP.av=qs.map PQ.av∧rs.map RQ.av=us.map ratQ∧(∀p∈qs,PQ.sz p 2)∧(∀r∈us,Sz r 2)∧qs.length≤10∧us.length≤10:=by
 unfold mildB at hb;simp only [Bool.and_eq_true,decide_eq_true_eq,List.all_eq_true] at hb;obtain⟨⟨⟨h1,h2⟩,h3⟩,h4⟩:=hb;refine⟨ps.map RP.q,rs.map RQ.q,?_,?_,?_,?_,by rw [List.length_map];exact h1,by rw [List.length_map];exact h2⟩
 ·rw [List.map_map];exact List.map_congr_left λx hx=>(RP.tiny_av (hp x hx) (h3 x hx)).1
 ·rw [List.map_map];exact List.map_congr_left λx hx=>(RQ.tiny_av (hr x hx).1 (hr x hx).2.1 (h4 x hx)).1
 ·intro p hp2;obtain⟨x,hx,rfl⟩:=List.mem_map.1 hp2;exact(RP.tiny_av (hp x hx) (h3 x hx)).2
 ·intro r hr2;obtain⟨x,hx,rfl⟩:=List.mem_map.1 hr2;exact(RQ.tiny_av (hr x hx).1 (hr x hx).2.1 (h4 x hx)).2
end Go.Proofs.YtjekhacnoopdpaaGreatDoor
namespace Go.Proofs.YtjekhacnoopdpaaGreatDoor
open Go Go.RowKit Go.Pg Go.Pol
attribute [-bool_to_prop] Bool.and_eq_decide Bool.or_eq_decide Bool.decide_beq_decide decide_eq_decide
attribute [local go_sem] Tryz.underlying3 Tryz.underlying4 Tryz.underlying169 Tryz.underlying41 Tryz.underlying43 Tryz.underlying45 Tryz.underlying25 Tryz.underlying47 Tryz.underlying49 Tryz.underlying22 Tryz.underlying23 sz3 by3 z3 szB zB Zbd zRat Zbf zInt Zbe zNat Zaj Zaw Zak Bool.and_self Zan Zbs zSlQ szQT byQT zQT Zby zSlT szQP zQP
def qOkAt (q:List Qt) (i:Nat):Bool:=decide ((q.getD i Qt.zero).norm=(q.getD i Qt.zero,1)) && (decide (i=0) || decide (Qt.cmp (q.getD (i - 1) Qt.zero) (q.getD i Qt.zero)≤0))
def prodB (q:List Qt):Bool:=(List.range q.length).all (qOkAt q)
def RE.zero:RE:=⟨⟨false,[],[]⟩,[]⟩
def tOkAt (l:List RE) (i:Nat):Bool:=(l.getD i RE.zero).r.ok && (!decide ((l.getD i RE.zero).r.q=0) && (prodB (l.getD i RE.zero).q && (decide (i=0) || decide (ordQ (l.getD (i - 1) RE.zero).q (l.getD i RE.zero).q < 0))))
def rgtB (l:List RE):Bool:=(List.range l.length).all (tOkAt l)
theorem range_bad {n i:Nat} {p:Nat→Bool} (h:i < n) (hp:p i=false):(List.range n).all p=false:=by
 rw [List.all_eq_false];exact⟨i,List.mem_range.2 h,by simp [hp]⟩
theorem range_good {n:Nat} {p:Nat→Bool} (h:∀i,i < n→p i=true):(List.range n).all p=true:=by
 rw [List.all_eq_true];exact λi hi=>h i (List.mem_range.1 hi)
theorem qt_atD {l:List Qt} {i:Nat} (h:i < l.length):(l.map Qt.av).getD i .u=Qt.av (l.getD i Qt.zero):=qt_at h
theorem rxProd (q:List Qt) (hl:q.length≤1000000):Pure Tryz.prog 81 [qsA q] (.v (.bool (prodB q))):=by
 have hlm:(q.map Qt.av).length=q.length:=List.length_map ..;have hg:∀j,j < q.length→(q.map Qt.av).getD j .u=Qt.av (q.getD j Qt.zero):=λj h=>qt_atD h;have hbad:∀i,i < q.length→qOkAt q i=false→prodB q=false:=λi h hp=>range_bad h hp;have hgood:(∀i,i < q.length→qOkAt q i=true)→prodB q=true:=range_good;show Pure _ _ [.sl 4 (q.map Qt.av)] _;generalize q.map Qt.av=A at *;generalize hB:prodB q=B at *;refine Zaa (tok:=0) Tryz.func81 rfl Tryz.ntmps81 Tryz.results81 Tryz.call81 (by rfl) (by simp) ?_;(focus (refine wkad w_t w_t w_t ?_;(repeat' first|exact w_t|apply w_l);all_goals intros));refine Zad (ι:=Nat) (λi e _=>i≤q.length∧(∀j,j < i→qOkAt q j=true)∧e 0=.sl 4 A∧e 3=iv i) (λi=>q.length - i) 0 (by rfl) ?_ ?_
 ·rintro i e m ⟨hi,hj,e0,e3⟩
  by_cases hlt:i < q.length
  ·have g1:=hg i hlt;have hb:=hbad i hlt;have hnx:qOkAt q i=true→∀j,j < i+1→qOkAt q j=true:=λh j hji=>by
    by_cases e:j=i
    ·rw [e];exact h
    ·exact hj j (by omega)
   clear hgood hbad hj;have c1:=Zuo (q.getD i Qt.zero).k (q.getD i Qt.zero).a (q.getD i Qt.zero).b (q.getD i Qt.zero).c;have c2:=Zpg (q.getD i Qt.zero).norm.1.k (q.getD i Qt.zero).norm.1.a (q.getD i Qt.zero).norm.1.b (q.getD i Qt.zero).norm.1.c (q.getD i Qt.zero).k (q.getD i Qt.zero).a (q.getD i Qt.zero).b (q.getD i Qt.zero).c
   cases i with
   | zero =>
     have hv:qOkAt q 0=decide ((q.getD 0 Qt.zero).norm=(q.getD 0 Qt.zero,1)):=by unfold qOkAt;simp
     rw [hv] at hb hnx;clear hv hg;generalize q.getD 0 Qt.zero=y at *;generalize hn:y.norm=nn at *;obtain⟨nn,ns⟩:=nn;obtain⟨y1,y2,y3,y4⟩:=y;obtain⟨n1,n2,n3,n4⟩:=nn;simp only at *;by_cases h1:ns=1
     ·by_cases h2:(⟨n1,n2,n3,n4⟩:Qt)=⟨y1,y2,y3,y4⟩
      ·rw [h2,qtO.refl] at c2;have hny:=hnx (by rw [h1,h2];exact decide_eq_true rfl);rw [h2] at c1;clear hb h2 hn;subst h1;(focus (refine wkad (w_4 e0 e3 hlm g1) (w_2 c1 c2) (w_1 (w_d 5 [(8,iv 0)] [] [])) ?_;(repeat' first|exact w_t|apply w_l);all_goals intros));exact⟨1,⟨by omega,hny,by exact gW e0,by exact gC⟩,by omega⟩
      ·have hz:Qt.cmp ⟨n1,n2,n3,n4⟩ ⟨y1,y2,y3,y4⟩≠0:=λh=>h2 (qtO.eqz _ _ h);have hb:=hb (by rw [h1];exact decide_eq_false λh=>h2 (congrArg Prod.fst h));subst hb;clear hnx h2 hn;subst h1;generalize Qt.cmp _ _=z at *;(focus (refine wkad (w_5 e0 e3 hlm g1 hz) (w_2 c1 c2) (w_1 (w_d 5 [(8,iv z)] [] [])) ?_;(repeat' first|exact w_t|apply w_l);all_goals intros));all_goals exact gL
     ·have hb:=hb (decide_eq_false λh=>h1 (congrArg Prod.snd h));subst hb;clear hnx hn c2;(focus (refine wkad (w_5 e0 e3 hlm g1 h1) (w_1 c1) w_t ?_;(repeat' first|exact w_t|apply w_l);all_goals intros));all_goals exact gL
   | succ i =>
     have g2:=hg i (by omega);have hv:qOkAt q (i+1)=(decide ((q.getD (i+1) Qt.zero).norm=(q.getD (i+1) Qt.zero,1)) && decide (Qt.cmp (q.getD i Qt.zero) (q.getD (i+1) Qt.zero)≤0)):=by unfold qOkAt;simp
     rw [hv] at hb hnx;have c3:=Zpg (q.getD i Qt.zero).k (q.getD i Qt.zero).a (q.getD i Qt.zero).b (q.getD i Qt.zero).c (q.getD (i+1) Qt.zero).k (q.getD (i+1) Qt.zero).a (q.getD (i+1) Qt.zero).b (q.getD (i+1) Qt.zero).c;clear hv hg;have ei:(i:Int)+1 - 1=(i:Int):=by omega
     have en:((i+1:Nat):Int) - 1=(i:Int):=by omega
     have ek:i+1 - 1=i:=rfl;generalize q.getD (i+1) Qt.zero=y at *;generalize q.getD i Qt.zero=x at *;generalize hn:y.norm=nn at *;obtain⟨nn,ns⟩:=nn;obtain⟨y1,y2,y3,y4⟩:=y;obtain⟨x1,x2,x3,x4⟩:=x;obtain⟨n1,n2,n3,n4⟩:=nn;simp only at *;by_cases h1:ns=1
     ·by_cases h2:(⟨n1,n2,n3,n4⟩:Qt)=⟨y1,y2,y3,y4⟩
      ·rw [h2,qtO.refl] at c2;by_cases h3:Qt.cmp ⟨x1,x2,x3,x4⟩ ⟨y1,y2,y3,y4⟩≤0
       ·have hny:=hnx (by rw [h1,h2,decide_eq_true rfl,decide_eq_true h3];rfl);rw [h2] at c1;clear hb h2 hn;subst h1;generalize Qt.cmp _ _=z at *;have h4:¬0 < z:=by omega
        (focus (refine wkad (w_10 e0 e3 hlm g1 g2 h3 h4 ei en ek) (w_3 c1 c2 c3) (w_1 (w_d 5 [(8,iv 0),(24,iv z)] [] [])) ?_;(repeat' first|exact w_t|apply w_l);all_goals intros));exact⟨i+1+1,⟨by omega,hny,by exact gW e0,by exact gS⟩,by omega⟩
       ·have hb:=hb (by rw [decide_eq_false h3,Bool.and_false]);subst hb;rw [h2] at c1;clear hnx h2 hn;subst h1;generalize Qt.cmp _ _=z at *;have h4:0 < z:=by omega
        (focus (refine wkad (w_9 e0 e3 hlm g1 g2 h4 ei en ek) (w_3 c1 c2 c3) (w_1 (w_d 5 [(8,iv 0),(24,iv z)] [] [])) ?_;(repeat' first|exact w_t|apply w_l);all_goals intros));all_goals exact gL
      ·have hz:Qt.cmp ⟨n1,n2,n3,n4⟩ ⟨y1,y2,y3,y4⟩≠0:=λh=>h2 (qtO.eqz _ _ h);have hb:=hb (by rw [h1,decide_eq_false λh=>h2 (congrArg Prod.fst h)];rfl);subst hb;clear hnx h2 hn c3;subst h1;generalize Qt.cmp ⟨n1,n2,n3,n4⟩ _=z at *;(focus (refine wkad (w_5 e0 e3 hlm g1 hz) (w_2 c1 c2) (w_1 (w_d 5 [(8,iv z)] [] [])) ?_;(repeat' first|exact w_t|apply w_l);all_goals intros));all_goals exact gL
     ·have hb:=hb (by rw [decide_eq_false λh=>h1 (congrArg Prod.snd h)];rfl);subst hb;clear hnx hn c2 c3;(focus (refine wkad (w_5 e0 e3 hlm g1 h1) (w_1 c1) w_t ?_;(repeat' first|exact w_t|apply w_l);all_goals intros));all_goals exact gL
  ·have hil:i=q.length:=by omega
   subst hil;have hb:=hgood hj;subst hb;clear hgood hbad hj hg;(focus (refine wkad (w_3 e0 e3 hlm) w_t w_t ?_;(repeat' first|exact w_t|apply w_l);all_goals intros));all_goals exact gL
 ·exact⟨Nat.zero_le _,λj h=>by omega,by exact gC,by exact gC⟩
theorem re_atD {l:List RE} {i:Nat} (h:i < l.length):(l.map RE.av).getD i .u=RE.av (l.getD i RE.zero):=by
 rw [List.getD_eq_getElem?_getD,List.getD_eq_getElem?_getD,List.getElem?_eq_getElem (by rw [List.length_map];exact h),List.getElem?_eq_getElem h,List.getElem_map];rfl
theorem re_memD {l:List RE} {i:Nat} (h:i < l.length):l.getD i RE.zero∈l:=by
 rw [List.getD_eq_getElem?_getD,List.getElem?_eq_getElem h];exact List.getElem_mem h
theorem tOk_r {l:List RE} {i:Nat} (h:(l.getD i RE.zero).r.ok=false):tOkAt l i=false:=by unfold tOkAt;rw [h];rfl
theorem tOk_z {l:List RE} {i:Nat} (h:(l.getD i RE.zero).r.q=0):tOkAt l i=false:=by unfold tOkAt;rw [decide_eq_true h];simp
theorem tOk_p {l:List RE} {i:Nat} (h:prodB (l.getD i RE.zero).q=false):tOkAt l i=false:=by unfold tOkAt;rw [h];simp
theorem tOk_o {l:List RE} {i:Nat} (h:¬ordQ (l.getD i RE.zero).q (l.getD (i+1) RE.zero).q < 0):tOkAt l (i+1)=false:=by
 unfold tOkAt;rw [show i+1 - 1=i from rfl,decide_eq_false h];simp
theorem tOk_y {l:List RE} {i:Nat} (h1:(l.getD i RE.zero).r.ok=true) (h2:(l.getD i RE.zero).r.q≠0) (h3:prodB (l.getD i RE.zero).q=true) (h4:i=0∨ordQ (l.getD (i - 1) RE.zero).q (l.getD i RE.zero).q < 0):tOkAt l i=true:=by
 unfold tOkAt;rw [h1,h3,decide_eq_false h2];simpa using h4
theorem rxRight (l:List RE) {J:Nat} (hl:l.length≤1000000) (hr:∀t∈l,t.r.lm J) (hq:∀t∈l,t.q.length≤1000000) (hJ:J≤100000):Pure Tryz.prog 25 [.sl 4 (l.map RE.av)] (.v (.bool (rgtB l))):=by
 have hlm:(l.map RE.av).length=l.length:=List.length_map ..;have hg:∀j,j < l.length→(l.map RE.av).getD j .u=RE.av (l.getD j RE.zero):=λj h=>re_atD h;have hr:∀j,j < l.length→(l.getD j RE.zero).r.lm J:=λj h=>hr _ (re_memD h);have hq:∀j,j < l.length→(l.getD j RE.zero).q.length≤1000000:=λj h=>hq _ (re_memD h);have hbad:∀i,i < l.length→tOkAt l i=false→rgtB l=false:=λi h hp=>range_bad h hp;have hgood:(∀i,i < l.length→tOkAt l i=true)→rgtB l=true:=range_good;generalize l.map RE.av=A at *;generalize hB:rgtB l=B at *;refine Zaa (tok:=0) Tryz.func25 rfl Tryz.ntmps25 Tryz.results25 Tryz.call25 (by rfl) (by simp) ?_
 (focus (refine wkad w_t w_t w_t ?_;(repeat' first|exact w_t|apply w_l);all_goals intros));refine Zad (ι:=Nat) (λi e _=>i≤l.length∧(∀j,j < i→tOkAt l j=true)∧e 0=.sl 4 A∧e 3=iv i) (λi=>l.length - i) 0 (by rfl) ?_ ?_
 ·rintro i e m ⟨hi,hj,e0,e3⟩
  by_cases hlt:i < l.length
  ·have g1:=hg i hlt;have hri:=hr i hlt;have hqi:=hq i hlt;have hb:=hbad i hlt;have hnx:tOkAt l i=true→∀j,j < i+1→tOkAt l j=true:=λh j hji=>by
    by_cases e:j=i
    ·rw [e];exact h
    ·exact hj j (by omega)
   clear hgood hbad hj;have g1:A.getD i .u=.agg [.v (.bool (l.getD i RE.zero).r.s),lim (l.getD i RE.zero).r.l,lim (l.getD i RE.zero).r.d,.sl 4 ((l.getD i RE.zero).q.map Qt.av)]:=g1;have crq:=Zu9 (l.getD i RE.zero).r.s (l.getD i RE.zero).r.l (l.getD i RE.zero).r.d hri.1 hri.2.1 (by have:=hri.2.2.1;omega) (by have:=hri.2.2.2;omega)
   cases hro:(l.getD i RE.zero).r.ok with
   | false =>
     have crq:Pure Tryz.prog 67 [.agg [.v (.bool (l.getD i RE.zero).r.s),lim (l.getD i RE.zero).r.l,lim (l.getD i RE.zero).r.d]] (.v (.bool (l.getD i RE.zero).r.ok)):=crq;rw [hro] at crq;have hb:=hb (tOk_r hro);subst hb;clear hnx hg hr hq hro hri hqi;generalize l.getD i RE.zero=t at *;obtain⟨⟨s,x,d⟩,q⟩:=t;simp only at *;generalize q.map Qt.av=Q at *;(focus (refine wkad (w_4 e0 e3 hlm g1) (w_1 crq) (w_1 (w_d 4 [(5,.v (.bool false))] [] [])) ?_;(repeat' first|exact w_t|apply w_l);all_goals intros));all_goals exact gL
   | true =>
     have crq:Pure Tryz.prog 67 [.agg [.v (.bool (l.getD i RE.zero).r.s),lim (l.getD i RE.zero).r.l,lim (l.getD i RE.zero).r.d]] (.v (.bool (l.getD i RE.zero).r.ok)):=crq;rw [hro] at crq;have hz:=(RQ.ok_av hri hro).2;have cz:=qSign _ hz (by omega);have hre:=RQ.ok_eq hri hro;have cz:Pure Tryz.prog 66 [.agg [.v (.bool (decide ((l.getD i RE.zero).r.q.num < 0))),lim (toL (l.getD i RE.zero).r.q.num.natAbs),lim (toL (l.getD i RE.zero).r.q.den)]] (iv (l.getD i RE.zero).r.q.num.sign):=cz;have e1:(l.getD i RE.zero).r.s=decide ((l.getD i RE.zero).r.q.num < 0):=congrArg RQ.s hre;have e2:(l.getD i RE.zero).r.l=toL (l.getD i RE.zero).r.q.num.natAbs:=congrArg RQ.l hre
     have e4:(l.getD i RE.zero).r.d=toL (l.getD i RE.zero).r.q.den:=congrArg RQ.d hre;rw [←e1,←e2,←e4] at cz;clear e1 e2 e4 hre hz;have cp:=rxProd (l.getD i RE.zero).q hqi;have cp:Pure Tryz.prog 81 [.sl 4 ((l.getD i RE.zero).q.map Qt.av)] (.v (.bool (prodB (l.getD i RE.zero).q))):=cp;by_cases hx:(l.getD i RE.zero).r.q=0
     ·have hz2:(l.getD i RE.zero).r.q.num.sign=0:=by rw [Zdq];exact hx
      rw [hz2] at cz;have hb:=hb (tOk_z hx);subst hb;clear hnx hg hr hq hro hri hqi hx hz2 cp;generalize l.getD i RE.zero=t at *;obtain⟨⟨s,x,d⟩,q⟩:=t;simp only at *;generalize q.map Qt.av=Q at *;(focus (refine wkad (w_4 e0 e3 hlm g1) (w_2 crq cz) (w_1 (w_d 4 [(5,.v (.bool true)),(13,iv 0)] [] [])) ?_;(repeat' first|exact w_t|apply w_l);all_goals intros));all_goals exact gL
     ·have hz2:¬(l.getD i RE.zero).r.q.num.sign=0:=by rw [Zdq];exact hx
      cases hpb:prodB (l.getD i RE.zero).q with
      | false =>
        rw [hpb] at cp;have hb:=hb (tOk_p hpb);subst hb;clear hnx hg hr hq hro hri hqi hx hpb;generalize (l.getD i RE.zero).r.q.num.sign=z at *;generalize l.getD i RE.zero=t at *;obtain⟨⟨s,x,d⟩,q⟩:=t;simp only at *;generalize q.map Qt.av=Q at *;(focus (refine wkad (w_5 e0 e3 hlm g1 hz2) (w_3 crq cz cp) (w_1 (w_d 4 [(5,.v (.bool true)),(13,iv z),(22,.v (.bool false))] [] [])) ?_;(repeat' first|exact w_t|apply w_l);all_goals intros));all_goals exact gL
      | true =>
        rw [hpb] at cp
        cases i with
        | zero =>
          have hnx:=hnx (tOk_y hro hx hpb (.inl rfl));clear hb hg hr hq hro hri hqi hx hpb;generalize (l.getD 0 RE.zero).r.q.num.sign=z at *;generalize l.getD 0 RE.zero=t at *;obtain⟨⟨s,x,d⟩,q⟩:=t;simp only at *;generalize q.map Qt.av=Q at *;(focus (refine wkad (w_5 e0 e3 hlm g1 hz2) (w_3 crq cz cp) (w_1 (w_d 4 [(5,.v (.bool true)),(13,iv z),(22,.v (.bool true))] [] [])) ?_;(repeat' first|exact w_t|apply w_l);all_goals intros));exact⟨1,⟨by omega,hnx,by exact gW e0,by exact gC⟩,by omega⟩
        | succ i =>
          have g2:=hg i (by omega);have g2:A.getD i .u=.agg [.v (.bool (l.getD i RE.zero).r.s),lim (l.getD i RE.zero).r.l,lim (l.getD i RE.zero).r.d,.sl 4 ((l.getD i RE.zero).q.map Qt.av)]:=g2;have co:=Zpc (l.getD i RE.zero).q (l.getD (i+1) RE.zero).q (hq i (by omega)) hqi;have co:Pure Tryz.prog 68 [.sl 4 ((l.getD i RE.zero).q.map Qt.av),.sl 4 ((l.getD (i+1) RE.zero).q.map Qt.av)] (iv (ordQ (l.getD i RE.zero).q (l.getD (i+1) RE.zero).q)):=co;have en:((i+1:Nat):Int) - 1=(i:Int):=by omega
          by_cases ho:ordQ (l.getD i RE.zero).q (l.getD (i+1) RE.zero).q < 0
          ·have hnx:=hnx (tOk_y hro hx hpb (.inr ho));clear hb hg hr hq hro hri hqi hx hpb;have ho2:¬0≤ordQ (l.getD i RE.zero).q (l.getD (i+1) RE.zero).q:=by omega
           generalize (l.getD (i+1) RE.zero).r.q.num.sign=z at *;generalize ordQ (l.getD i RE.zero).q (l.getD (i+1) RE.zero).q=w at *;generalize l.getD (i+1) RE.zero=t at *;generalize l.getD i RE.zero=u at *;obtain⟨⟨s,x,d⟩,q⟩:=t;obtain⟨⟨s',x',d'⟩,q'⟩:=u;simp only at *;generalize q.map Qt.av=Q at *;generalize q'.map Qt.av=Q' at *;(focus (refine wkad (w_9 e0 e3 hlm g1 g2 hz2 ho ho2 en) (w_4 crq cz cp co) (w_1 (w_d 4 [(5,.v (.bool true)),(13,iv z),(22,.v (.bool true)),(40,iv w)] [] [])) ?_;(repeat' first|exact w_t|apply w_l);all_goals intros));exact⟨i+1+1,⟨by omega,hnx,by exact gW e0,by exact gS⟩,by omega⟩
          ·have hb:=hb (tOk_o ho);subst hb;clear hnx hg hr hq hro hri hqi hx hpb;have ho2:0≤ordQ (l.getD i RE.zero).q (l.getD (i+1) RE.zero).q:=by omega
           generalize (l.getD (i+1) RE.zero).r.q.num.sign=z at *;generalize ordQ (l.getD i RE.zero).q (l.getD (i+1) RE.zero).q=w at *;generalize l.getD (i+1) RE.zero=t at *;generalize l.getD i RE.zero=u at *;obtain⟨⟨s,x,d⟩,q⟩:=t;obtain⟨⟨s',x',d'⟩,q'⟩:=u;simp only at *;generalize q.map Qt.av=Q at *;generalize q'.map Qt.av=Q' at *;(focus (refine wkad (w_9 e0 e3 hlm g1 g2 hz2 ho ho2 en) (w_4 crq cz cp co) (w_1 (w_d 4 [(5,.v (.bool true)),(13,iv z),(22,.v (.bool true)),(40,iv w)] [] [])) ?_;(repeat' first|exact w_t|apply w_l);all_goals intros));all_goals exact gL
  ·have hil:i=l.length:=by omega
   subst hil;have hb:=hgood hj;subst hb;clear hgood hbad hj hg hr hq;(focus (refine wkad (w_3 e0 e3 hlm) w_t w_t ?_;(repeat' first|exact w_t|apply w_l);all_goals intros));all_goals exact gL
 ·exact⟨Nat.zero_le _,λj h=>by omega,by exact gC,by exact gC⟩
section
attribute [local go_sem] Tryz.underlying3 Tryz.underlying4 Tryz.underlying169 Tryz.underlying41 Tryz.underlying43 Tryz.underlying45 Tryz.underlying25 Tryz.underlying47 Tryz.underlying49 Tryz.underlying22 Tryz.underlying23 sz3 by3 z3 szB zB Zbd zRat Zbf zInt Zbe zNat Zaj Zaw Zak Bool.and_self Zan Zbs zSlQ szQT byQT zQT Zby zSlT szQP zQP
end
attribute [local go_sem] Tryz.underlying92 Tryz.underlying27 szFr byFr zFr Zfu Zfx zSQP Tryz.underlying36 Tryz.underlying33 Tryz.underlying9 Zcr zStr
def nrmT (l:List RE):QTs:=if l.all RE.ok=true then gatM (l.map RE.t) else []
def REsm (t:RE):Bool:=decide (t.q.length≤6) && (decide (t.r.l.length≤2) && decide (t.r.d.length≤2))
section
attribute [local go_sem] Tryz.underlying3 Tryz.underlying4 Tryz.underlying169 Tryz.underlying41 Tryz.underlying43 Tryz.underlying45 Tryz.underlying25 Tryz.underlying47 Tryz.underlying49 Tryz.underlying22 Tryz.underlying23 sz3 by3 z3 szB zB Zbd zRat Zbf zInt Zbe zNat Zaj Zaw Zak Bool.and_self Zan Zbs zSlQ szQT byQT zQT Zby zSlT szQP zQP Tryz.underlying92 Tryz.underlying27 szFr byFr zFr Zfu Zfx zSQP Tryz.underlying36 Tryz.underlying33 Tryz.underlying9 Zcr zStr
end
section
variable {N n:Nat} {cs:List AV}
theorem shProd (h:Zcl Tryz.prog N n 47 cs):∃l:List Qt,cs=[qsA l]∧l.length≤N:=by
 obtain⟨bs,rfl,hl,_⟩:=Zc4 (g:=λq:Qt=>[iv q.k,iv q.a,iv q.b,iv q.c]) (Q:=λ_=>True) Tryz.underlying47 h λm x hx=>by
  obtain⟨k,a,b,c,rfl⟩:=shQuantP hx;exact⟨⟨k,a,b,c⟩,rfl,trivial⟩
 refine⟨bs,?_,hl⟩;rw [show Tryz.prog.cellsOf 25=4 from by kernel_rfl];have:(bs.map λq:Qt=>Zc2 Tryz.prog 25 [iv q.k,iv q.a,iv q.b,iv q.c])=bs.map Qt.av:=List.map_congr_left λb _=>aggQuantP _;rw [this]
theorem shQTerm (h:Zcl Tryz.prog N n 49 cs):∃t:RE,cs=[.v (.bool t.r.s),lim t.r.l,lim t.r.d,qsA t.q]∧t.r.lm N∧t.q.length≤N:=by
 obtain⟨m,rfl,hs⟩:=Zc0 Tryz.underlying49 (by kernel_rfl) h;obtain⟨x,y,rfl,h1,hs⟩:=hs.inv;obtain⟨x2,y,rfl,h2,hs⟩:=hs.inv;obtain rfl:=hs.inv0;obtain⟨r,rfl,hr⟩:=shRat h1;obtain⟨l,rfl,hl⟩:=shProd h2;exact⟨⟨r,l⟩,rfl,hr,hl⟩
theorem shTerms {T:TypeId} (hu:Tryz.prog.underlying T=some (.slice 49)) (h:Zcl Tryz.prog N n T cs):∃l:List RE,cs=[.sl 4 (l.map RE.av)]∧l.length≤N∧(∀t∈l,t.r.lm N)∧∀t∈l,t.q.length≤N:=by
 obtain⟨bs,rfl,hl,hq⟩:=Zc4 (g:=λt:RE=>[.v (.bool t.r.s),lim t.r.l,lim t.r.d,qsA t.q]) (Q:=λt=>t.r.lm N∧t.q.length≤N) hu h λm x hx=>by
  obtain⟨t,h1,h2⟩:=shQTerm hx;exact⟨t,h1,h2⟩
 refine⟨bs,?_,hl,λt ht=>(hq t ht).1,λt ht=>(hq t ht).2⟩;rw [show Tryz.prog.cellsOf 49=4 from by kernel_rfl];have:(bs.map λt:RE=>Zc2 Tryz.prog 49 [.v (.bool t.r.s),lim t.r.l,lim t.r.d,qsA t.q])=bs.map RE.av:=List.map_congr_left λb _=>Zfz Tryz.underlying49 _;rw [this]
end
def smTerm (Q:Nat) (t:RE):Bool:=decide (t.q.length≤Q) && t.r.tiny
def smallB (T Q:Nat) (l:List RE):Bool:=decide (l.length≤T) && (l.all (smTerm Q) && rgtB l)
def RE.rt (t:RE):Rat × List Qt:=(t.r.q,t.q)
theorem rt_av {Q k:Nat} {l:List RE} (hr:∀t∈l,t.r.lm k) (h:l.all (smTerm Q)=true):l.map RE.av=(l.map RE.rt).map qtA:=by
 rw [List.map_map];refine List.map_congr_left λt ht=>?_;have:=List.all_eq_true.1 h t ht;unfold smTerm at this;simp only [Bool.and_eq_true] at this;have e:=(RQ.tiny_av (hr t ht).1 (hr t ht).2.1 this.2).1;have e1:t.r.av=.agg [.v (.bool t.r.s),lim t.r.l,lim t.r.d]:=rfl;have e2:ratQ t.r.q=.agg [.v (.bool (decide (t.r.q.num < 0))),lim (toL t.r.q.num.natAbs),lim (toL t.r.q.den)]:=rfl;rw [e1,e2] at e;simp only [AV.agg.injEq,List.cons.injEq,and_true] at e;show AV.agg [.v (.bool t.r.s),lim t.r.l,lim t.r.d,qsA t.q]=.agg [.v (.bool (decide (t.r.q.num < 0))),lim (toL t.r.q.num.natAbs),lim (toL t.r.q.den),qsA t.q]
 rw [e.1,e.2.1,e.2.2]
theorem rt_qk {Q k:Nat} {l:List RE} (hr:∀t∈l,t.r.lm k) (h:l.all (smTerm Q)=true):QK (l.map RE.rt) 2 Q:=λu hu=>by
 obtain⟨t,ht,rfl⟩:=List.mem_map.1 hu;have:=List.all_eq_true.1 h t ht;unfold smTerm at this;simp only [Bool.and_eq_true,decide_eq_true_eq] at this;exact⟨(RQ.tiny_av (hr t ht).1 (hr t ht).2.1 this.2).2,this.1⟩
theorem rxSmall (l:List RE) (T Q:Nat) (hT:T≤100000) (hQ:Q≤100000) (hl:l.length≤9223372036854775807) (hr:∀t∈l,t.r.lm 9223372036854775807) (hq:∀t∈l,t.q.length≤9223372036854775807) :
 Pure Tryz.prog 11 [.sl 4 (l.map RE.av),iv T,iv Q] (.v (.bool (smallB T Q l))):=by
 have hpl:(l.map RE.av).length=l.length:=List.length_map ..;have hg:∀i (h:i < l.length),(l.map RE.av).getD i .u=.agg [.v (.bool l[i].r.s),lim l[i].r.l,lim l[i].r.d,.sl 4 (l[i].q.map Qt.av)]:=λi h=>Za0 RE.av h;have ct:∀i (h:i < l.length),Pure Tryz.prog 20 [.agg [.v (.bool l[i].r.s),lim l[i].r.l,lim l[i].r.d]] (.v (.bool l[i].r.tiny)):=λi h=>rqTiny l[i].r (hr _ (List.getElem_mem h));have cr:l.length≤T→l.all (smTerm Q)=true→Pure Tryz.prog 25 [.sl 4 (l.map RE.av)] (.v (.bool (rgtB l))):=λh1 h2=>by
  have h3:∀t∈l,t.q.length≤Q∧t.r.tiny=true:=λt ht=>by
   have:=List.all_eq_true.1 h2 t ht;unfold smTerm at this
   simpa only [Bool.and_eq_true,decide_eq_true_eq] using this
  refine rxRight l (J:=2) (by omega) (λt ht=>?_) (λt ht=>by have:=h3 t ht;omega) (by omega);have h4:=(h3 t ht).2;unfold RQ.tiny at h4;simp only [Bool.and_eq_true,decide_eq_true_eq] at h4;exact⟨(hr t ht).1,(hr t ht).2.1,h4.1.1,h4.1.2⟩
 clear hr hq;generalize l.map RE.av=L at *;by_cases hlen:l.length≤T
 ·have h1:¬(T:Int) < (l.length:Int):=by omega
  have hsm:smallB T Q l=(l.all (smTerm Q) && rgtB l):=by unfold smallB;rw [decide_eq_true hlen,Bool.true_and]
  rw [hsm];refine Zaa (tok:=0) Tryz.func11 rfl Tryz.ntmps11 Tryz.results11 Tryz.call11 (by rfl) (by simp) ?_;(focus (refine wkad (w_2 hpl h1) w_t w_t ?_;(repeat' first|exact w_t|apply w_l);all_goals intros));refine Zad (ι:=Nat) (λi e m=>i≤l.length∧(l.take i).all (smTerm Q)=true∧e 0=.sl 4 L∧e 2=iv Q∧e 7=iv i) (λi=>l.length - i) 0 (by rfl) ?_ ?_
  ·rintro i e m ⟨hi,hs,e0,e2,e7⟩
   by_cases hlt:i < l.length
   ·have hgi:=hg i hlt;have cti:=ct i hlt;have hql:(l[i].q.map Qt.av).length=l[i].q.length:=List.length_map ..;have hst:smTerm Q l[i]=true→(l.take (i+1)).all (smTerm Q)=true:=Zgj hlt hs;have hsn:smTerm Q l[i]=false→l.all (smTerm Q)=false:=λh=>List.all_eq_false.2 ⟨l[i],List.getElem_mem hlt,by rw [h];decide⟩;have hsd:smTerm Q l[i]=(decide (l[i].q.length≤Q) && l[i].r.tiny):=rfl;clear hg ct cr hs hsm;generalize l[i].q.map Qt.av=qs at *;generalize l[i].q.length=qn at *;generalize l[i].r.tiny=tn at *;generalize l[i].r.s=ts at *;generalize l[i].r.l=tl at *;generalize l[i].r.d=td at *;by_cases h6:qn≤Q
    ·have g6:¬(Q:Int) < (qn:Int):=by omega
     cases tn with
     | true =>
       have hsy:=hst (by rw [hsd,decide_eq_true h6];rfl);(focus (refine wkad (w_7 e0 e2 e7 hpl hgi hql g6) (w_1 cti) w_t ?_;(repeat' first|exact w_t|apply w_l);all_goals intros));exact⟨i+1,⟨by omega,hsy,by exact gW e0,by exact gW e2,by exact gS⟩,by omega⟩
     | false =>
       rw [hsn (by rw [hsd,Bool.and_false]),Bool.false_and];(focus (refine wkad (w_7 e0 e2 e7 hpl hgi hql g6) (w_1 cti) w_t ?_;(repeat' first|exact w_t|apply w_l);all_goals intros));all_goals exact gL
    ·have g6:(Q:Int) < (qn:Int):=by omega
     rw [hsn (by rw [hsd,decide_eq_false h6];rfl),Bool.false_and];(focus (refine wkad (w_7 e0 e2 e7 hpl hgi hql g6) w_t w_t ?_;(repeat' first|exact w_t|apply w_l);all_goals intros));all_goals exact gL
   ·have:i=l.length:=by omega
    subst this;rw [List.take_length] at hs;have cr:=cr hlen hs;rw [hs,Bool.true_and];(focus (refine wkad (w_4 e0 e2 e7 hpl) (w_1 cr) w_t ?_;(repeat' first|exact w_t|apply w_l);all_goals intros));all_goals exact gL
  ·exact⟨Nat.zero_le _,rfl,by exact gC,by exact gC,by exact gC⟩
 ·have h1:(T:Int) < (l.length:Int):=by omega
  have hsm:smallB T Q l=false:=by unfold smallB;rw [decide_eq_false hlen,Bool.false_and]
  rw [hsm];refine Zaa (tok:=0) Tryz.func11 rfl Tryz.ntmps11 Tryz.results11 Tryz.call11 (by rfl) (by simp) ?_;(focus (refine wkad (w_2 hpl h1) w_t w_t ?_;(repeat' first|exact w_t|apply w_l);all_goals intros));all_goals exact gL
def mrgQ:List Qt→List Qt→List Qt
 | a,[]=>a
 | [],y :: b=>y :: b
 | x :: a,y :: b=>if Qt.cmp x y≤0 then x :: mrgQ a (y :: b) else y :: mrgQ (x :: a) b
termination_by a b=>a.length+b.length
section
attribute [local go_sem] Tryz.underlying3 Tryz.underlying4 Tryz.underlying169 Tryz.underlying41 Tryz.underlying43 Tryz.underlying45 Tryz.underlying25 Tryz.underlying47 Tryz.underlying49 Tryz.underlying22 Tryz.underlying23 sz3 by3 z3 szB zB Zbd zRat Zbf zInt Zbe zNat Zaj Zaw Zak Bool.and_self Zan Zbs zSlQ szQT byQT zQT Zby zSlT szQP zQP
end
attribute [local go_sem] Tryz.underlying130
def hasQ (x:Int) (q:Qt):Bool:=q.pts.any λt=>decide (x=t)
def hasP (x:Int) (p:List Qt):Bool:=p.any (hasQ x)
def hasT (x:Int) (p:QTs):Bool:=p.any λt=>hasP x t.2
section
attribute [local go_sem] Tryz.underlying3 Tryz.underlying4 Tryz.underlying169 Tryz.underlying41 Tryz.underlying43 Tryz.underlying45 Tryz.underlying25 Tryz.underlying47 Tryz.underlying49 Tryz.underlying22 Tryz.underlying23 sz3 by3 z3 szB zB Zbd zRat Zbf zInt Zbe zNat Zaj Zaw Zak Bool.and_self Zan Zbs zSlQ szQT byQT zQT Zby zSlT szQP zQP Tryz.underlying92 Tryz.underlying27 szFr byFr zFr Zfu Zfx zSQP Tryz.underlying36 Tryz.underlying33 Tryz.underlying9 Zcr zStr Tryz.underlying130
end
section
attribute [local go_sem] Tryz.underlying3 Tryz.underlying4 Tryz.underlying169 Tryz.underlying41 Tryz.underlying43 Tryz.underlying45 Tryz.underlying25 Tryz.underlying47 Tryz.underlying49 Tryz.underlying22 Tryz.underlying23 sz3 by3 z3 szB zB Zbd zRat Zbf zInt Zbe zNat Zaj Zaw Zak Bool.and_self Zan Zbs zSlQ szQT byQT zQT Zby zSlT szQP zQP Tryz.underlying92 Tryz.underlying27 szFr byFr zFr Zfu Zfx zSQP Tryz.underlying36 Tryz.underlying33 Tryz.underlying9 Zcr zStr Tryz.underlying130
end
end Go.Proofs.YtjekhacnoopdpaaGreatDoor
namespace Go.Proofs.YtjekhacnoopdpaaGreatDoor
open Go Go.RowKit Go.Pg Go.Pol
theorem adj_pair {α:Type} {R:α→α→Prop} (tr:∀a b c,R a b→R b c→R a c):∀{l:List α},(∀i (h:i+1 < l.length),R l[i] l[i+1])→l.Pairwise R
 | [],_=>.nil
 | [a],_=>List.pairwise_singleton _ _
 | a :: b :: l,h=>by
   have h0:R a b:=h 0 (by simp);have ht:(b :: l).Pairwise R:=adj_pair tr λi hi=>h (i+1) (by simpa using hi);refine List.pairwise_cons.2 ⟨λc hc=>?_,ht⟩;rcases List.mem_cons.1 hc with rfl | hc
   ·exact h0
   ·exact tr _ _ _ h0 ((List.pairwise_cons.1 ht).1 c hc)
theorem cmp_tr {α:Type} {cmp:α→α→Int} (o:CO cmp) (a b c:α) (h1:cmp a b≤0) (h2:cmp b c≤0):cmp a c≤0:=by
 rcases Int.lt_or_eq_of_le h1 with h | h
 ·rcases Int.lt_or_eq_of_le h2 with k | k
  ·have:=o.tr _ _ _ h k;omega
  ·rw [←o.eqz _ _ k];exact h1
 ·rw [o.eqz _ _ h];exact h2
theorem prod_ok {q:List Qt} (h:prodB q=true):okQ q:=by
 have hall:=λi (hi:i < q.length)=>List.all_eq_true.1 h i (List.mem_range.2 hi);refine⟨adj_pair (cmp_tr qtO) λi hi=>?_,λx hx=>?_⟩
 ·have:=hall (i+1) hi;unfold qOkAt at this;simp only [Bool.and_eq_true,Bool.or_eq_true,decide_eq_true_eq,Nat.add_sub_cancel] at this;rcases this.2 with h1 | h1
  ·omega
  ·rwa [Zcz (by omega),Zcz hi] at h1
 ·obtain⟨i,hi,rfl⟩:=List.getElem_of_mem hx;have:=hall i hi;unfold qOkAt at this;simp only [Bool.and_eq_true,decide_eq_true_eq] at this;have:=this.1
  rwa [Zcz hi] at this
theorem rgt_ex {l:List RE} (h:rgtB l=true):EX (l.map RE.rt):=by
 have hall:=λi (hi:i < l.length)=>List.all_eq_true.1 h i (List.mem_range.2 hi);refine⟨λt ht=>?_,List.pairwise_map.2 (adj_pair (R:=λa b:RE=>ordQ a.q b.q < 0) (λa b c h1 h2=>Zcc.tr _ _ _ h1 h2) λi hi=>?_)⟩
 ·obtain⟨u,hu,rfl⟩:=List.mem_map.1 ht;obtain⟨i,hi,rfl⟩:=List.getElem_of_mem hu;have:=hall i hi;unfold tOkAt at this;simp only [Bool.and_eq_true,Bool.not_eq_true',decide_eq_false_iff_not] at this;rw [Zcz hi] at this;exact⟨this.2.1,prod_ok this.2.2.1⟩
 ·have:=hall (i+1) hi;unfold tOkAt at this;simp only [Bool.and_eq_true,Bool.or_eq_true,decide_eq_true_eq,Nat.add_sub_cancel] at this;rcases this.2.2.2 with h1 | h1
  ·omega
  ·rwa [Zcz (by omega),Zcz hi] at h1
theorem den_prod:∀(l:QTs),(∀t∈l,(toL t.1.den).length≤2)→∃D,D≠0∧D < 65536 ^ (2*l.length+1)∧∀t∈l,t.1.den ∣ D
 | [],_=>⟨1,by omega,by decide,λt ht=>by cases ht⟩
 | a :: l,h=>by
   obtain⟨D,h0,h1,h2⟩:=den_prod l λt ht=>h t (.tail _ ht);have h3:=Zag.1 (h a (.head _));refine⟨a.1.den*D,Nat.mul_ne_zero a.1.den_nz h0,?_,λt ht=>?_⟩
   ·have h4:=Nat.mul_lt_mul_of_lt_of_lt h3 h1;rw [←Nat.pow_add] at h4;rw [List.length_cons,show 2*(l.length+1)+1=2+(2*l.length+1) from by omega];exact h4
   ·rcases List.mem_cons.1 ht with rfl | ht
    ·exact Nat.dvd_mul_right _ _
    ·exact Nat.dvd_trans (h2 t ht) (Nat.dvd_mul_left _ _)
theorem cl_small {a:Rat} (h:(toL a.num.natAbs).length≤2):cl a≤65536 ^ 2:=by
 have h3:=Zag.1 h;refine cl_le.2 (Nat.le_trans (Nat.le_of_lt h3) (Nat.le_mul_of_pos_right _ (Nat.pos_of_ne_zero a.den_nz)))
theorem n1_small:∀(l:QTs),(∀t∈l,(toL t.1.num.natAbs).length≤2)→n1 l≤l.length*65536 ^ 2
 | [],_=>by simp [n1]
 | a :: l,h=>by
   rw [Zbk,List.length_cons,Nat.add_one_mul];have:=n1_small l λt ht=>h t (.tail _ ht);have:=cl_small (h a (.head _));omega
theorem small_xb {T Q k:Nat} {l:List RE} (hr:∀t∈l,t.r.lm k) (h:smallB T Q l=true) (hT:T≤8):XB (l.map RE.rt) 17 Q∧(l.map RE.rt).length≤T:=by
 unfold smallB at h;simp only [Bool.and_eq_true,decide_eq_true_eq] at h;have hq:=rt_qk hr h.2.1;have hl:(l.map RE.rt).length=l.length:=List.length_map ..;obtain⟨D,h0,h1,h2⟩:=den_prod (l.map RE.rt) λt ht=>(hq t ht).1.2;have h3:=n1_small (l.map RE.rt) λt ht=>(hq t ht).1.1;refine⟨⟨rgt_ex h.2.2,λt ht=>(hq t ht).2,D,n1 (l.map RE.rt),h0,Nat.lt_of_lt_of_le h1 (Nat.pow_le_pow_right (by omega) (by omega)),?_,h2,Nat.le_refl _⟩,by omega⟩;have h4:(l.map RE.rt).length*65536 ^ 2≤8*65536 ^ 2:=Nat.mul_le_mul_right _ (by omega);have h5:65536 ^ 3≤65536 ^ 17:=Nat.pow_le_pow_right (by omega) (by omega);have h6:8*65536 ^ 2 < 65536 ^ 3:=by decide
 omega
end Go.Proofs.YtjekhacnoopdpaaGreatDoor
namespace Go.Proofs.YtjekhacnoopdpaaGreatDoor
open Go Go.RowKit Go.Pg Go.Pol
attribute [-bool_to_prop] Bool.and_eq_decide Bool.or_eq_decide Bool.decide_beq_decide decide_eq_decide
attribute [local go_sem] Tryz.underlying3 Tryz.underlying4 Tryz.underlying169 Tryz.underlying41 Tryz.underlying43 Tryz.underlying45 Tryz.underlying25 Tryz.underlying47 Tryz.underlying49 Tryz.underlying22 Tryz.underlying23 sz3 by3 z3 szB zB Zbd zRat Zbf zInt Zbe zNat Zaj Zaw Zak Bool.and_self Zan Zbs zSlQ szQT byQT zQT Zby zSlT szQP zQP Tryz.underlying92 Tryz.underlying27 szFr byFr zFr Zfu Zfx zSQP Tryz.underlying36 Tryz.underlying33 Tryz.underlying9 Zcr zStr Tryz.underlying110 Tryz.underlying55 Tryz.underlying56
theorem XB.neg {q:QTs} {k n:Nat} (h:XB q k n):XB (sclT (-1) q) k n:=by
 obtain⟨a,b,D,B,c,d,e,f⟩:=h;refine⟨⟨λt ht=>?_,List.pairwise_map.2 a.2⟩,λt ht=>?_,D,B,c,d,e,λt ht=>?_,?_⟩
 ·obtain⟨u,hu,rfl⟩:=List.mem_map.1 ht;refine⟨λh=>(a.1 u hu).1 ?_,(a.1 u hu).2⟩;have h:(-1:Rat)*u.1=0:=h;rw [Rat.neg_mul,Rat.one_mul] at h;have:=congrArg (λz:Rat=>-z) h
  simpa using this
 ·obtain⟨u,hu,rfl⟩:=List.mem_map.1 ht;exact b u hu
 ·obtain⟨u,hu,rfl⟩:=List.mem_map.1 ht;have:=f.1 u hu;show((-1:Rat)*u.1).den ∣ D;have e1:((-1:Rat)*u.1)=-u.1:=by rw [Rat.neg_mul,Rat.one_mul]
  rw [e1];exact this
 ·refine Nat.le_trans (Nat.le_of_eq ?_) f.2;unfold n1 sclT;rw [List.map_map];congr 1;refine List.map_congr_left λu _=>?_;show cl ((-1:Rat)*u.1)=cl u.1;have e1:((-1:Rat)*u.1)=-u.1:=by rw [Rat.neg_mul,Rat.one_mul]
  rw [e1];unfold cl;rw [show(-u.1).num=-u.1.num from rfl,show(-u.1).den=u.1.den from rfl,Int.natAbs_neg]
def reP (p:QTs):List RE:=p.map λt=>⟨rawQ t.1,t.2⟩
theorem reP_av (p:QTs):(reP p).map RE.av=p.map qtA:=by unfold reP;rw [List.map_map];rfl
theorem sgP_ok {l:List Qt} (h:∀q∈l,q.norm=(q,1)):sgP l=1:=by
 have key:∀(l:List Qt) (s:Int),(∀q∈l,q.norm=(q,1))→l.foldl (λs q=>s*q.norm.2) s=s:=by
  intro l
  induction l with
  | nil=>intro s _;rfl
  | cons a l ih=>intro s h;rw [List.foldl_cons,h a (.head _),Int.mul_one];exact ih s λq hq=>h q (.tail _ hq)
 exact key l 1 h
theorem nsP_ok:∀{l:List Qt},(∀q∈l,q.norm=(q,1))→nsP l=l
 | [],_=>rfl
 | a :: l,h=>by
   show a.norm.1 :: nsP l=a :: l;rw [h a (.head _),nsP_ok λq hq=>h q (.tail _ hq)]
theorem putP_ok {l:List Qt} (h:okQ l):putP l=l:=by
 rw [←Zub (by rw [sgP_ok h.2];decide),nsP_ok h.2];exact Zhh qtO (Zc3 qtO.cp _) h.1 (Zbt _)
theorem reP_ok {p:QTs} (h:∀t∈p,okQ t.2):(reP p).all RE.ok=true:=by
 rw [List.all_eq_true];intro t ht;obtain⟨u,hu,rfl⟩:=List.mem_map.1 ht;show((rawQ u.1).ok && u.2.all Qt.ok)=true;rw [Zh8,Bool.true_and,List.all_eq_true];exact λq hq=>Zvy ((h u hu).2 q hq)
theorem reP_t:∀{p:QTs},(∀t∈p,okQ t.2)→(reP p).map RE.t=p
 | [],_=>rfl
 | u :: p,h=>by
   show RE.t ⟨rawQ u.1,u.2⟩ :: (reP p).map RE.t=u :: p;rw [reP_t λt ht=>h t (.tail _ ht)];show((rawQ u.1).q*(sgP u.2:Rat),putP u.2) :: p=u :: p;rw [Zq4,sgP_ok (h u (.head _)).2,putP_ok (h u (.head _)),show((1:Int):Rat)=1 from rfl,Rat.mul_one]
theorem nrm_re {p:QTs} (h:∀t∈p,okQ t.2):nrmR (reP p)=qpA (gatM p):=by rw [Zks (reP_ok h),reP_t h]
theorem reP_lm {p:QTs} {j n:Nat} (h:QK p j n):(∀t∈reP p,t.r.lm j)∧∀t∈reP p,t.q.length≤n:=by
 refine⟨λt ht=>?_,λt ht=>?_⟩<;>obtain⟨u,hu,rfl⟩:=List.mem_map.1 ht
 ·exact Zhe (h u hu).1
 ·exact(h u hu).2
theorem evl_scl (φ:List Qt→Rat) (s:Rat):∀p:QTs,evl φ (sclT s p)=s*evl φ p
 | []=>by show(0:Rat)=s*0;rw [Rat.mul_zero]
 | t :: p=>by
   show s*t.1*φ t.2+evl φ (sclT s p)=s*(t.1*φ t.2+evl φ p);rw [evl_scl φ s p];grind
theorem EX.neg {p:QTs} (h:EX p):EX (sclT (-1) p):=by
 refine⟨λt ht=>?_,List.pairwise_map.2 h.2⟩;obtain⟨u,hu,rfl⟩:=List.mem_map.1 ht;refine⟨λh0=>(h.1 u hu).1 ?_,(h.1 u hu).2⟩;have h0:(-1:Rat)*u.1=0:=h0
 grind
theorem exNrm (p:QTs) {j n:Nat} (h:QK p j n) (ho:∀t∈p,okQ t.2) (hl:p.length≤12) (hn:n≤12) (hj:j≤1000):Pure Tryz.prog 22 [qpA p] (qpA (gatM p)):=by
 have c:=Zk4 (reP p) (by show(List.map _ _).length≤_;rw [List.length_map];exact hl) (reP_lm h).1 (λt ht=>Nat.le_trans ((reP_lm h).2 t ht) hn) hj
 rwa [reP_av,nrm_re ho] at c
theorem small_av {T Q k:Nat} {l:List RE} (hr:∀t∈l,t.r.lm k) (h:smallB T Q l=true):l.map RE.av=(l.map RE.rt).map qtA:=by
 unfold smallB at h;simp only [Bool.and_eq_true,decide_eq_true_eq] at h;exact rt_av hr h.2.1
end Go.Proofs.YtjekhacnoopdpaaGreatDoor
namespace Go.Proofs.YtjekhacnoopdpaaGreatDoor
open Go Go.RowKit Go.Pg Go.Pol
def tmQ (q:Qt) (l:List Qt):Nat:=(l.filter λx=>decide (x=q)).length
def woQ (q:Qt) (l:List Qt):List Qt:=l.filter λx=>decide (x≠q)
def woL (q:Qt) (a:QTs) (k:Nat):QTs:=(a.filter λt=>decide (tmQ q t.2=k)).map λt=>(t.1,woQ q t.2)
def moQ (q:Qt) (a:QTs):Nat:=a.foldl (λn t=>max n (tmQ q t.2)) 0
theorem tm_wo (q:Qt):∀l:List Qt,tmQ q l+(woQ q l).length=l.length
 | []=>rfl
 | a :: l=>by
   have ih:=tm_wo q l;unfold tmQ woQ at *;by_cases h:a=q
   ·rw [List.filter_cons_of_pos (by simpa using h),List.filter_cons_of_neg (by simpa using h),List.length_cons,List.length_cons];omega
   ·rw [List.filter_cons_of_neg (by simpa using h),List.filter_cons_of_pos (by simpa using h),List.length_cons,List.length_cons];omega
theorem tm_le (q:Qt) (l:List Qt):tmQ q l≤l.length:=by have:=tm_wo q l;omega
theorem mo_snoc (q:Qt) (a:QTs) (t:Rat × List Qt):moQ q (a++[t])=max (moQ q a) (tmQ q t.2):=by unfold moQ;rw [List.foldl_append];rfl
theorem mo_le {q:Qt} {n:Nat} {a:QTs} (h:∀t∈a,t.2.length≤n):moQ q a≤n:=by
 have key:∀(a:QTs) (s:Nat),s≤n→(∀t∈a,t.2.length≤n)→a.foldl (λn t=>max n (tmQ q t.2)) s≤n:=by
  intro a
  induction a with
  | nil=>exact λs hs _=>hs
  | cons t a ih=>exact λs hs h=>ih _ (by show max s (tmQ q t.2)≤n;have:=tm_le q t.2;have:=h t (.head _);omega) λu hu=>h u (.tail _ hu)
 exact key a 0 (Nat.zero_le _) h
theorem wo_snoc (q:Qt) (a:QTs) (t:Rat × List Qt) (k:Nat):woL q (a++[t]) k=if tmQ q t.2=k then woL q a k++[(t.1,woQ q t.2)] else woL q a k:=by
 unfold woL;rw [List.filter_append,List.map_append];split
 ·rename_i h;rw [List.filter_cons_of_pos (by simpa using h)];rfl
 ·rename_i h;rw [List.filter_cons_of_neg (by simpa using h)];simp
theorem wo_above {q:Qt}:∀{a:QTs} {k:Nat},moQ q a < k→woL q a k=[]:=by
 intro a k h
 have key:∀(a:QTs) (s:Nat),a.foldl (λn t=>max n (tmQ q t.2)) s < k→s < k∧a.filter (λt=>decide (tmQ q t.2=k))=[]:=by
  intro a
  induction a with
  | nil=>exact λs hs=>⟨hs,rfl⟩
  | cons t a ih =>
    intro s hs;obtain⟨h1,h2⟩:=ih _ hs;have h1:max s (tmQ q t.2) < k:=h1;refine⟨by omega,?_⟩;rw [List.filter_cons_of_neg (by simp;omega)];exact h2
 unfold woL;rw [(key a 0 h).2];rfl
theorem wo_len (q:Qt) (a:QTs) (k:Nat):(woL q a k).length≤a.length:=by unfold woL;rw [List.length_map];exact List.length_filter_le _ _
theorem okQ.wo {l:List Qt} (h:okQ l) (q:Qt):okQ (woQ q l):=⟨h.1.filter _,λx hx=>h.2 x (List.mem_filter.1 hx).1⟩
theorem mem_wo {q:Qt} {a:QTs} {k:Nat} {u:Rat × List Qt} (h:u∈woL q a k):∃t∈a,u=(t.1,woQ q t.2):=by
 obtain⟨t,ht,rfl⟩:=List.mem_map.1 h;exact⟨t,(List.mem_filter.1 ht).1,rfl⟩
theorem wo_dom {a:QTs} (h:∀t∈a,okQ t.2) (q:Qt) (k:Nat):∀t∈woL q a k,okQ t.2:=λu hu=>by
 obtain⟨t,ht,rfl⟩:=mem_wo hu;exact(h t ht).wo q
theorem wo_qlen {a:QTs} {n:Nat} (h:∀t∈a,t.2.length≤n) (q:Qt) (k:Nat):∀t∈woL q a k,t.2.length≤n:=λu hu=>by
 obtain⟨t,ht,rfl⟩:=mem_wo hu;exact Nat.le_trans (by have:=tm_wo q t.2;show(woQ q t.2).length≤_;omega) (h t ht)
theorem wo_qk {a:QTs} {j n:Nat} (h:QK a j n) (q:Qt) (k:Nat):QK (woL q a k) j n:=λu hu=>by
 refine⟨?_,wo_qlen (λt ht=>(h t ht).2) q k u hu⟩;obtain⟨t,ht,rfl⟩:=mem_wo hu;exact(h t ht).1
theorem n1_wo (q:Qt) (k:Nat):∀a:QTs,n1 (woL q a k)≤n1 a
 | []=>Nat.le_refl _
 | t :: a=>by
   have ih:=n1_wo q k a;unfold woL at *;by_cases h:tmQ q t.2=k
   ·rw [List.filter_cons_of_pos (by simpa using h),List.map_cons,Zbk,Zbk];exact Nat.add_le_add_left ih _
   ·rw [List.filter_cons_of_neg (by simpa using h),Zbk];omega
abbrev paQ (q:Qt) (a:QTs) (k:Nat):QTs:=gatM (woL q a k)
theorem XB.part {a:QTs} {k n:Nat} (h:XB a k n) (q:Qt) (i:Nat):XB (paQ q a i) k n:=by
 obtain⟨a1,b,D,B,c,d,e,f⟩:=h;refine⟨Zhm Zcc (wo_dom a1.dom q i),Zmf (wo_qlen b q i),D,B,c,d,e,NB.sumG ⟨λt ht=>?_,Nat.le_trans (n1_wo q i a) f.2⟩⟩;obtain⟨u,hu,rfl⟩:=mem_wo ht;exact f.1 u hu
theorem gat_len (l:QTs):(gatM l).length≤l.length:=by
 obtain⟨j,hj⟩:∃j,QK l j ((l.map λt=>t.2.length).sum):=by
  induction l with
  | nil=>exact⟨0,λt ht=>by cases ht⟩
  | cons a l ih =>
    obtain⟨j,hj⟩:=ih;refine⟨max j (max (toL a.1.num.natAbs).length (toL a.1.den).length),λt ht=>?_⟩;rw [List.map_cons,List.sum_cons];rcases List.mem_cons.1 ht with rfl | ht
    ·exact⟨⟨by omega,by omega⟩,by omega⟩
    ·exact⟨(hj t ht).1.mono (by omega),by have:=(hj t ht).2;omega⟩
 exact(Zk2 _ l rfl hj).2
theorem pa_len (q:Qt) (a:QTs) (k:Nat):(paQ q a k).length≤a.length:=Nat.le_trans (gat_len _) (wo_len q a k)
abbrev pwX (d:QTs) (i:Nat):QTs:=pwG ordQ muQ [] d i
abbrev hnX (P:Nat→QTs) (a d:QTs) (m i:Nat):QTs:=hnG ordQ muQ [] P a d m i
abbrev rfX (P:Nat→QTs) (a d:QTs) (m i:Nat):QTs:=rfG ordQ muQ [] P a d m i
theorem xb_one:XB [((1:Rat),[])] 1 0:=xbC _ _ (by decide +kernel)
theorem xb_nil:XB [] 1 0:=xbC _ _ (by decide +kernel)
theorem XB.pw {d:QTs} {k n:Nat} (h:XB d k n):∀i,XB (pwX d i) (1+i*k) (i*n)
 | 0=>by rw [Nat.zero_mul,Nat.zero_mul];exact xb_one
 | i+1=>(XB.mul (h.pw i) h).mono (by rw [Nat.succ_mul];omega) (by rw [Nat.succ_mul];omega)
theorem pw_len {d:QTs} {L:Nat} (h:d.length≤L):∀i,(pwX d i).length≤L ^ i
 | 0=>Nat.le_refl _
 | i+1=>Nat.le_trans (Zfm _ _) (by rw [Nat.pow_succ];exact Nat.mul_le_mul (pw_len h i) h)
section
variable {P:Nat→QTs} {a d:QTs} {kp kb np nb LP L:Nat}
theorem XB.hn (hP:∀k,XB (P k) kp np) (ha:XB a kb nb) (hd:XB d kb nb) (m:Nat):∀i,XB (hnX P a d m i) (1+i*(kp+kb+2+i*kb)) (np+i*nb)
 | 0=>xb_nil.mono (by omega) (Nat.zero_le _)
 | i+1=>by
   have h1:=((XB.hn hP ha hd m i).mul ha).add ((hP (m - i)).mul (hd.pw i));refine XB.mono h1 ?_ ?_
   ·have e:(i+1)*(kp+kb+2+(i+1)*kb)=i*(kp+kb+2+i*kb)+i*kb+(kp+kb+2+(i*kb+kb)):=by grind
    rw [e];omega
   ·rw [Nat.succ_mul];exact Nat.max_le.2 ⟨by omega,by omega⟩
theorem hn_len (hP:∀k,(P k).length≤LP) (ha:a.length≤L) (hd:d.length≤L) (hL:1≤L) (m:Nat):∀i,(hnX P a d m i).length≤i*LP*L ^ i
 | 0=>Nat.zero_le _
 | i+1=>by
   refine Nat.le_trans (Zmt _ _) ?_;have h1:=Nat.le_trans (Zfm (hnX P a d m i) a) (Nat.mul_le_mul (hn_len hP ha hd hL m i) ha);have h2:=Nat.le_trans (Zfm (P (m - i)) (pwX d i)) (Nat.mul_le_mul (hP _) (pw_len hd i));have h3:LP*L ^ i≤LP*L ^ i*L:=Nat.le_mul_of_pos_right _ hL;refine Nat.le_trans (Nat.add_le_add h1 h2) ?_;have e:(i+1)*LP*L ^ (i+1)=i*LP*L ^ i*L+LP*L ^ i*L:=by rw [Nat.pow_succ];grind
   rw [e];omega
theorem XB.rf (hP:∀k,XB (P k) kp np) (ha:XB a kb nb) (hd:XB d kb nb) (m:Nat):∀i,i≤m+1→XB (rfX P a d m i) (1+i*(kp+3+m*kb)) (np+m*nb)
 | 0,_=>xb_nil.mono (by omega) (Nat.zero_le _)
 | i+1,hi=>by
   have h1:=(XB.rf hP ha hd m i (by omega)).add (((hP i).mul (ha.pw i)).mul (hd.pw (m - i)));have e1:i*kb+(m - i)*kb=m*kb:=by rw [←Nat.add_mul];congr 1;omega
   have e2:i*nb+(m - i)*nb=m*nb:=by rw [←Nat.add_mul];congr 1;omega
   refine XB.mono h1 ?_ ?_
   ·rw [Nat.succ_mul];omega
   ·exact Nat.max_le.2 ⟨by omega,by omega⟩
theorem rf_len (hP:∀k,(P k).length≤LP) (ha:a.length≤L) (hd:d.length≤L) (m:Nat):∀i,i≤m+1→(rfX P a d m i).length≤i*(LP*L ^ m)
 | 0,_=>Nat.zero_le _
 | i+1,hi=>by
   refine Nat.le_trans (Zmt _ _) ?_;have h1:=rf_len hP ha hd m i (by omega);have h2:=Nat.le_trans (Zfm (P i) (pwX a i)) (Nat.mul_le_mul (hP _) (pw_len ha i));have h3:=Nat.le_trans (Zfm (mulX (P i) (pwX a i)) (pwX d (m - i))) (Nat.mul_le_mul h2 (pw_len hd (m - i)));have e:LP*L ^ i*L ^ (m - i)=LP*L ^ m:=by rw [Nat.mul_assoc,←Nat.pow_add];congr 2;omega
   rw [e] at h3;rw [Nat.succ_mul];exact Nat.add_le_add h1 h3
end
abbrev rpN (q:Qt) (a num den:QTs):QTs:=rfX (paQ q a) num den (moQ q a) (moQ q a+1)
abbrev rpD (q:Qt) (a den:QTs):QTs:=pwX den (moQ q a)
theorem rp_horner (q:Qt) {a num den:QTs} (ha:EX a) (hn:EX num) (hd:EX den):hnX (paQ q a) num den (moQ q a) (moQ q a+1)=rpN q a num den :=
 horner rgQ (λk=>Zhm Zcc (wo_dom ha.dom q k)) hn hd _
theorem scl_one (p:QTs):sclT 1 p=p:=Zqu p
theorem mul_neg {p:QTs} (h:EX p):mulX [((-1:Rat),[])] p=sclT (-1) p :=
 Zie (D:=okQ) Zcc (Zbl rgQ ⟨λt ht=>by rw [List.mem_singleton.1 ht];exact⟨by decide +kernel,rgQ.de⟩,List.pairwise_singleton _ _⟩ h) h.neg λφ=>by
  rw [Zge Zcc,evl_scl];show(-1:Rat)*evl (λk=>φ (muQ [] k)) p+0=_;rw [Rat.add_zero];congr 1
  have key:∀p:QTs,(∀t∈p,okQ t.2)→evl (λk=>φ (muQ [] k)) p=evl φ p:=by
   intro p
   induction p with
   | nil=>intro _;rfl
   | cons t p ih =>
     intro h;show t.1*φ (muQ [] t.2)+_=t.1*φ t.2+_;rw [ih λu hu=>h u (.tail _ hu),rgQ.comm,rgQ.one _ (h t (.head _))]
  exact key p h.dom
end Go.Proofs.YtjekhacnoopdpaaGreatDoor
namespace Go.Proofs.YtjekhacnoopdpaaGreatDoor
open Go Go.RowKit Go.Pg Go.Pol
attribute [-bool_to_prop] Bool.and_eq_decide Bool.or_eq_decide Bool.decide_beq_decide decide_eq_decide
attribute [local go_sem] Tryz.underlying3 Tryz.underlying4 Tryz.underlying169 Tryz.underlying41 Tryz.underlying43 Tryz.underlying45 Tryz.underlying25 Tryz.underlying47 Tryz.underlying49 Tryz.underlying22 Tryz.underlying23 sz3 by3 z3 szB zB Zbd zRat Zbf zInt Zbe zNat Zaj Zaw Zak Bool.and_self Zan Zbs zSlQ szQT byQT zQT Zby zSlT szQP zQP Tryz.underlying92 Tryz.underlying27 szFr byFr zFr Zfu Zfx zSQP
theorem woQ_y {q x:Qt} (l:List Qt) (h:x≠q):woQ q (l++[x])=woQ q l++[x]:=by unfold woQ;rw [List.filter_append,List.filter_cons_of_pos (by simpa using h)];rfl
theorem woQ_n {q x:Qt} (l:List Qt) (h:x=q):woQ q (l++[x])=woQ q l:=by unfold woQ;rw [List.filter_append,List.filter_cons_of_neg (by simpa using h)];simp
theorem cst_ok (a:Rat):nrmR (cstE a)=qpA (if a=0 then [] else [(a,[])]):=by
 have h:=nrm_re (p:=[(a,[])]) (λt ht=>by rw [List.mem_singleton.1 ht];exact rgQ.de)
 rwa [Zid] at h
end Go.Proofs.YtjekhacnoopdpaaGreatDoor
namespace Go.Pg
open Go Go.RowKit
section
variable {P:Program} {c:Cx} {n:Nat}
theorem at_lt {l:List Oper} {o:Oper} {j:Nat} (h:j < l.length):(l++[o]).toArray[j]?=l.toArray[j]?:=by
 rw [List.getElem?_toArray,List.getElem?_toArray,List.getElem?_append_left h]
theorem at_end {l:List Oper} {o:Oper}:(l++[o]).toArray[l.length]?=some o:=by
 rw [List.getElem?_toArray,List.getElem?_append_right (Nat.le_refl _),Nat.sub_self];rfl
theorem at_gt {l:List Oper} {o:Oper} {j:Nat} (h:l.length < j):(l++[o]).toArray[j]?=none:=by
 rw [List.getElem?_toArray];exact List.getElem?_eq_none (by rw [List.length_append,List.length_cons,List.length_nil];omega)
def LastK (P:Program) (n:Nat) (o:Oper) (K:St→Prop) (st:St):Prop:=(∃c a w imm,Rel c n st a w imm)→∃st',Frz n st st'∧Zbh P 0 [o] [o] (λst1=>∃st2,Frz n st1 st2∧K st2) st'
def lastOk (n:Nat) (l:List Oper) (o:Oper):Bool :=
 Zee n o && o.guard.isNone && l.all (λx=>x.guard.isNone) && (o.after.toList.all λe=>!Region.binds .any e || decide (e.on < l.length)) &&
 ((List.range l.length).all λj=>match l.toArray[j]? with
   | some x=>x.after.toList.all λe=>!Region.binds .any e || decide (e.on < j)
   | none=>true) && (List.range l.length).all λj=>Zke (l++[o]).toArray (l.length+1) j l.length
structure LastOk (n:Nat) (l:List Oper) (o:Oper):Prop where
 fits:Zee n o=true
 g:o.guard=none
 gl:∀x∈l,x.guard=none
 dl:∀e∈o.after,Region.binds .any e=true→e.on < l.length
 dj:∀j x,l.toArray[j]?=some x→∀e∈x.after,Region.binds .any e=true→e.on < j
 r:∀j,j < l.length→Zke (l++[o]).toArray (l.length+1) j l.length=true
theorem lastOk_spec {l:List Oper} {o:Oper} (h:lastOk n l o=true):LastOk n l o:=by
 unfold lastOk at h;simp only [Bool.and_eq_true,List.all_eq_true,Bool.or_eq_true,Bool.not_eq_true',decide_eq_true_eq,Option.isNone_iff_eq_none,List.mem_range,Array.mem_toList_iff] at h;obtain⟨⟨⟨⟨⟨h1,h2⟩,h3⟩,h4⟩,h5⟩,h6⟩:=h;refine⟨h1,h2,h3,λe he hb=>(h4 e he).resolve_left (by simp [hb]),λj x hx e he hb=>?_,h6⟩
 have hj:j < l.length:=by
  rw [List.getElem?_toArray] at hx;exact(List.getElem?_eq_some_iff.1 hx).1
 have:=h5 j hj;rw [hx] at this;simp only [List.all_eq_true,Bool.or_eq_true,Bool.not_eq_true',decide_eq_true_eq,Array.mem_toList_iff] at this;exact(this e he).resolve_left (by simp [hb])
theorem wpOp_app {l:List Oper} {o:Oper} (ho:LastOk n l o) {Q:Exit→Act→World→Prop} {i:Nat} (hi:i < l.length) {K:Act→World→Prop} {a:Act} {w:World} (h:wpOp P l.toArray Q i K a w):wpOp P (l++[o]).toArray Q i K a w:=by
 unfold wpOp at h ⊢;rw [at_lt hi];have hx:l.toArray[i]?=some l[i]:=by rw [List.getElem?_toArray,List.getElem?_eq_getElem hi]
 rw [hx] at h ⊢;have hg:=ho.gl l[i] (List.getElem_mem hi);simp only [Region.wanted,hg] at h ⊢;exact h
theorem wpAny_end {ops:Array Oper} {Q:Exit→Act→World→Prop} {listed:Array Bool} {a:Act} {w:World} (h:Region.ready .any ops listed=[]) (hq:Q .normal a w):∀f,wpAny P .any ops Q f listed a w
 | 0=>⟨h,hq⟩
 | f+1=>⟨λ_=>hq,λi hi=>by rw [h] at hi;cases hi⟩
theorem getD_any {listed:Array Bool} {j:Nat} (h:j < listed.size):listed.getD j false=listed.getD j true:=by
 simp [h]
theorem ready_app {l:List Oper} {o:Oper} {listed:Array Bool} {i:Nat} (hi:i∈Region.ready .any l.toArray listed):i∈Region.ready .any (l++[o]).toArray listed:=by
 obtain⟨h0,x,hx,hd⟩:=mem_ready.1 hi
 have hil:i < l.length:=by
  rw [List.getElem?_toArray] at hx;exact(List.getElem?_eq_some_iff.1 hx).1
 exact mem_ready.2 ⟨h0,x,by rw [at_lt hil];exact hx,hd⟩
theorem ready_of {l:List Oper} {o:Oper} (ho:LastOk n l o) {listed:Array Bool} (hsz:listed.size=l.length+1):∀j,j < l.length→listed.getD j true=false→∃i,i∈Region.ready .any l.toArray listed:=by
 intro j
 induction j using Nat.strongRecOn with
 | _ j ih =>
   intro hj hb;have hx:l.toArray[j]?=some l[j]:=by rw [List.getElem?_toArray,List.getElem?_eq_getElem hj]
   by_cases hd:∀e∈l[j].after,Region.binds .any e=true→listed.getD e.on false=true
   ·exact⟨j,mem_ready.2 ⟨hb,l[j],hx,hd⟩⟩
   ·obtain⟨e,he⟩:=Classical.not_forall.1 hd;obtain⟨he,h1⟩:=Classical.not_imp.1 he;obtain⟨hbd,h1⟩:=Classical.not_imp.1 h1;have hlt:=ho.dj j l[j] hx e he hbd;refine ih e.on hlt (by omega) ?_;rw [←getD_any (by omega)];simpa using h1
theorem lastGo {l:List Oper} {o:Oper} (ho:LastOk n l o) {Q:AE→St→Prop} {f:Nat} {listed:Array Bool} {st:St} {a:Act} {w:World} {imm:Imm} (h:Rel c n st a w imm) (hsz:listed.size=l.length+1) (hL:listed.getD l.length true=false) (hall:∀j,j < l.length→listed.getD j true=true)
 (hk:LastK P n o (Q .normal) st):wpAny P .any (l++[o]).toArray (post c n Q) (f+1) listed a w:=by
 have hrdy:l.length∈Region.ready .any (l++[o]).toArray listed:=mem_ready.2 ⟨hL,o,at_end,λe he hb=>by
  have:=ho.dl e he hb;rw [getD_any (by omega)];exact hall _ this⟩
 refine⟨λh0=>(by rw [h0] at hrdy;cases hrdy),λi hi=>?_⟩;obtain⟨h0,x,hx,_⟩:=mem_ready.1 hi
 have hiL:i=l.length:=by
  rcases Nat.lt_trichotomy i l.length with h1 | h1 | h1
  ·rw [hall i h1] at h0;cases h0
  ·exact h1
  ·rw [at_gt h1] at hx;cases hx
 subst hiL;obtain⟨st',hF,hK⟩:=hk ⟨c,a,w,imm,h⟩;obtain⟨imm',hr⟩:=hF c a w imm h
 have hK:aRes P (0+o.dst.getD 0) o.dst (Zah P st' o.op) (λst1=>∃st2,Frz n st1 st2∧Q .normal st2) st':=by
  obtain⟨d,op,t,pos,af,g⟩:=o;have hg:=ho.g;simp only at hg;subst hg;exact hK
 have hdst:∀d,o.dst=some d→d < n:=by
  intro d hdd;have:=ho.fits;rw [Zee,hdd] at this
  simpa using this
 unfold wpOp;rw [at_end];simp only [Region.wanted,ho.g];refine .inl (Oper.wp_mono (λa1 w1 hg=>?_) (Zdn hr hdst hK));obtain⟨st1,imm1,⟨st2,hF2,hk2⟩,hr1⟩:=hg;obtain⟨imm2,hr2⟩:=hF2 c a1 w1 imm1 hr1;refine wpAny_end ?_ ⟨.normal,st2,imm2,rfl,hk2,hr2⟩ f;refine List.eq_nil_iff_forall_not_mem.2 λi hi=>?_;obtain⟨h0,x,hx,_⟩:=mem_ready.1 hi;rcases Nat.lt_trichotomy i l.length with h1 | h1 | h1
 ·rw [getD_set_ne true (by omega),hall i h1] at h0;cases h0
 ·subst h1;have:l.length < listed.size:=by omega
  simp [this] at h0
 ·rw [at_gt h1] at hx;cases hx
theorem aLast_sound {l:List Oper} {o:Oper} (ho:LastOk n l o) (hf:l.all (Zee n)=true) {rs:Nat→AV} {bar:List Nat} {Q:AE→St→Prop} :
 ∀(f:Nat) (σs:Mem) (listed:Array Bool) (st:St) (a:Act) (w:World) (imm:Imm),Rel c n st a w imm→Part σs st.mem→listed.size=l.length+1→listed.getD l.length true=false→Closed (l++[o]).toArray listed →
 aAny P 0 l rs bar σs f listed (LastK P n o (Q .normal)) st→wpAny P .any (l++[o]).toArray (post c n Q) (f+1) listed a w:=by
 intro f
 induction f with
 | zero =>
   intro σs listed st a w imm h hp hsz hL hc hK;exact lastGo (f:=0) ho h hsz hL (λj hj=>by
    refine Classical.byContradiction λhb=>?_;obtain⟨i,hi⟩:=ready_of ho hsz j hj (by simpa using hb);rw [hK.1] at hi;cases hi) hK.2
 | succ f ih =>
   intro σs listed st a w imm h hp hsz hL hc hK;by_cases hall:∀j,j < l.length→listed.getD j true=true
   ·refine lastGo ho h hsz hL hall (hK.1 ?_);refine List.eq_nil_iff_forall_not_mem.2 λi hi=>?_;obtain⟨h0,x,hx,_⟩:=mem_ready.1 hi
    have hil:i < l.length:=by
     rw [List.getElem?_toArray] at hx;exact(List.getElem?_eq_some_iff.1 hx).1
    rw [hall i hil] at h0;cases h0
   ·obtain⟨j,hj⟩:=Classical.not_forall.1 hall;obtain⟨hj,hb⟩:=Classical.not_imp.1 hj;have hb:listed.getD j true=false:=by simpa using hb
    refine⟨λh0=>?_,λi hi=>?_⟩
    ·exfalso;obtain⟨i,hi⟩:=ready_of ho hsz j hj hb;have:=ready_app (o:=o) hi;rw [h0] at this;cases this
    ·obtain⟨h0,x,hx,hd⟩:=mem_ready.1 hi
     have hil:i < l.length:=by
      rcases Nat.lt_trichotomy i l.length with h1 | h1 | h1
      ·exact h1
      ·exfalso;subst h1;have:=Zf5 hc (l.length+1) l.length x hx hd (ho.r j hj);rw [getD_any (by omega)] at this;rw [this] at hb;cases hb
      ·rw [at_gt h1] at hx;cases hx
     have hi':i∈Region.ready .any l.toArray listed:=mem_ready.2 ⟨h0,x,by rw [←at_lt hil];exact hx,hd⟩;refine wpOp_app ho hil (wpOp_mono (λa' w' hg=>?_) (Zjb hf h hp (hK.2 i hi')));obtain⟨st',imm',⟨hk,hs'⟩,hr⟩:=hg;exact ih _ _ st' a' w' imm' hr hs' (by simpa using hsz) (by rw [getD_set_ne true (by omega)];exact hL) (hc.set hi) hk
theorem r_drawL {id:Nat} {Q:AE→St→Prop} {st:St} {ops l:List Oper} {o:Oper} (rs:Nat→AV) (bar cut:List Nat) (hs1:ops.dropLast=l) (hs2:ops.getLast?=some o) (hm:P.follows .mixedOrders=true) (hf:l.all (Zee n)=true) (hok:lastOk n l o=true)
 (hlex:Zn8 l.toArray bar l.length 0 (Array.replicate (l.length+1) false)=true) {N:Nat} (hN:l.length=N) (h:Zbr P 0 l rs bar (cutM cut st.mem) N 0 (LastK P n o (Q .normal)) st):Za4 P 0 n (.region id ops.toArray true) Q st:=by
 have hops:l++[o]=ops:=by
  have hne:ops≠[]:=by intro h;rw [h] at hs2;cases hs2
  have h1:=List.dropLast_concat_getLast hne;rw [hs1] at h1;rw [List.getLast?_eq_some_getLast hne,Option.some.injEq] at hs2;rw [←hs2];exact h1
 subst hN;rw [←hops];intro c a w imm hr;refine wp_region_any hm ?_;have kd:Keeps w imm w.drew imm:=λad h=>⟨h,rfl⟩;have hgd:w.grownBy w.drew none:=⟨rfl,rfl,rfl,Nat.le_refl _,λ_ _ _=>rfl⟩;have hdr:Rel c n st a w.drew imm:=⟨λt=>kd.rs (hr.env t),hr.size,hr.defers,⟨⟨λk e hk=>(hr.mem.ok.ent k e hk).keep hgd (by cases e.blk<;>simp) (λ_ h=>h) (λ_ _=>rfl) (λ_ h=>.inl h),hr.mem.ok.apart,hr.mem.ok.lt,hr.mem.ok.spot⟩,hr.mem.below.drew,hr.mem.lt,hr.mem.old,hr.mem.new,hr.mem.cells⟩⟩
 have hcl:∀ops:Array Oper,Closed ops (Array.replicate (l.length+1) false):=by
  intro ops j o ho hj;exfalso;by_cases hjl:j < l.length+1<;>simp [Array.getElem?_replicate,hjl] at hj
 have h1:=Zp0 (K:=LastK P n o (Q .normal)) l.length 0 (cutM cut st.mem) _ st (hcl _) hlex h;have h2:=aLast_sound (c:=c) (Q:=Q) (lastOk_spec hok) hf l.length (cutM cut st.mem) _ st a w.drew imm hdr (λt e ht=>by unfold cutM at ht;split at ht;cases ht;exact ht) (by simp) (by simp) (hcl _) h1
 simpa using h2
theorem r_loopZ {body:Code} {st:St} {Q:AE→St→Prop} (h:Za4 P 0 n (.loop body) (λae st'=>∃st'',Frz n st' st''∧Q ae st'') st):Za4 P 0 n (.loop body) Q st:=λc a w imm hr =>
 Code.wp_mono (λe a' w' hp=>by
  obtain⟨ae,st',imm',rfl,⟨st'',hF,hq⟩,hr'⟩:=hp;obtain⟨imm2,h2⟩:=hF c a' w' imm' hr';exact⟨ae,st'',imm2,rfl,hq,h2⟩) (h c a w imm hr)
end
theorem upd_ne {α:Type} {f:Nat→α} {k n:Nat} {v:α} (h:n≠k):upd f k v n=f n:=by rw [Zac,if_neg h]
theorem upd_eq {α:Type} {f:Nat→α} {k:Nat} {v:α}:upd f k v k=v:=by rw [Zac,if_pos rfl]
section
variable {n:Nat} {e:Nat→AV} {m:Mem}
theorem ownsRow_one {w:World} {B:Nat} {ty:TypeId} {mm len:Nat} {sv:Value} {xs:List Value} (h:w.ownsRow B ty mm sv len xs):sv.oneCell'=true:=by
 rcases h.2 with h1 | ⟨g,cap,cur,h1,_⟩
 ·rw [h1.1];rfl
 ·rw [h1];rfl
theorem Frz.slotV {d k:Nat} {sv:Value} (he:e d=.own k sv):Frz n ⟨e,m⟩ ⟨upd e d (.v sv),m⟩:=by
 intro c a w imm h;refine⟨imm,λt=>?_,h.size,h.defers,h.mem⟩;have ht:=h.env t;show Rs w imm (upd e d (.v sv) t) _;rw [Zac];split
 ·subst_vars
  rw [show(St.mk e m).env t=_ from he] at ht;rw [ht.own_inv];exact .pure (.v _)
 ·exact ht
theorem own_one {d k:Nat} {sv:Value} (he:e d=.own k sv) (h:∃c a w imm,Rel c n ⟨e,m⟩ a w imm):sv.oneCell'=true:=by
 obtain⟨c,a,w,imm,h⟩:=h;have ht:=h.env d;rw [show(St.mk e m).env d=_ from he] at ht;exact ht.own_one
theorem el_ent {c:Cx} {w:World} {imm:Imm} {sv:Value} {ty:TypeId} {pub j:Nat} {es:List AV} {x y:AV} (h:EntOk c.B w imm (.row sv ty 1 es pub)) (hj:es[j]?=some x) (hy:y.one=true) (hyc:y.cells=[y]) (hxc:x.cells=[x]) (hr:∀v,Rd w imm x v→Rd w imm y v):EntOk c.B w imm (.row sv ty 1 (es.set j y) pub):=by
 obtain⟨xs,h1,h2,h3,h4,h5,h6,h7⟩:=h;have hlen:(es.set j y).length=es.length:=List.length_set ..;have hjl:j < es.length:=(List.getElem?_eq_some_iff.1 hj).1
 have hf:∀l:List AV,(∀x∈l,x.cells.length=1)→∀i:Nat,(flat l)[i]?=(l[i]?).bind λx:AV=>x.cells[0]?:=by
  intro l
  induction l with
  | nil=>intro _ i;simp [flat]
  | cons a l ih =>
    intro hl i;have ha:=hl a (.head _);obtain⟨b,hb⟩:=List.length_eq_one_iff.1 ha;have e1:flat (a :: l)=b :: flat l:=by simp [flat,hb]
    rw [e1]
    cases i with
    | zero=>simp [hb]
    | succ i=>simpa using ih (λx hx=>hl x (.tail _ hx)) i
 have hm:∀z∈es.set j y,z.cells.length=1:=λz hz=>by
  rcases List.mem_or_eq_of_mem_set hz with hz | rfl
  ·exact h2 z hz
  ·rw [hyc];rfl
 refine⟨xs,by rw [hlen];exact h1,hm,λz hz=>?_,λi a v ha hv=>?_,by rw [hlen];exact h5,h6,h7⟩
 ·rcases List.mem_or_eq_of_mem_set hz with hz | rfl
  ·exact h3 z hz
  ·cases z with
   | agg cs=>cases hy
   | _=>exact hy
 ·rw [hf _ hm] at ha;by_cases hij:i=j
  ·subst hij;rw [List.getElem?_set_self hjl] at ha;simp only [Option.bind_some,hyc,List.getElem?_cons_zero,Option.some.injEq] at ha;subst ha;refine hr v (h4 i x v ?_ hv);rw [hf _ h2,hj];simp [hxc]
  ·rw [List.getElem?_set_ne (Ne.symm hij),←hf _ h2] at ha;exact h4 i a v ha hv
theorem el_mx {c:Cx} {w:World} {imm:Imm} {K:Nat} {sv:Value} {ty:TypeId} {pub j:Nat} {es:List AV} {x y:AV} (h:Mx c m w imm) (hK:m K=some (.row sv ty 1 es pub)) (hj:es[j]?=some x) (hy:y.one=true) (hyc:y.cells=[y]) (hxc:x.cells=[x]) (hr:∀v,Rd w imm x v→Rd w imm y v):Mx c (upd m K (some (.row sv ty 1 (es.set j y) pub))) w imm:=by
 have hb:∀k e',upd m K (some (.row sv ty 1 (es.set j y) pub)) k=some e'→∃e0,m k=some e0∧e'.blk=e0.blk:=λk e' hk=>by
  rw [Zac] at hk;split at hk
  ·subst_vars;cases hk;exact⟨_,hK,rfl⟩
  ·exact⟨e',hk,rfl⟩
 refine⟨⟨λk e' hk=>?_,λk k' e1 e2 b hk hk' h1 h2=>?_,h.ok.lt,h.ok.spot⟩,h.below,h.lt,h.old,h.new,h.cells⟩
 ·rw [Zac] at hk;split at hk
  ·subst_vars;cases hk;exact el_ent (h.ok.ent _ _ hK) hj hy hyc hxc hr
  ·exact h.ok.ent _ _ hk
 ·obtain⟨e3,h3,h4⟩:=hb k e1 hk;obtain⟨e5,h5,h6⟩:=hb k' e2 hk';exact h.ok.apart k k' e3 e5 b h3 h5 (by rw [←h4];exact h1) (by rw [←h6];exact h2)
theorem Frz.elOwn {K k pub pub' mm j:Nat} {svK sv:Value} {ty ty':TypeId} {es el:List AV} (hK:m K=some (.row svK ty 1 es pub)) (hk:m k=some (.row sv ty' mm el pub')) (hj:es[j]?=some (.v sv)):Frz n ⟨e,m⟩ ⟨e,upd m K (some (.row svK ty 1 (es.set j (.own k sv)) pub))⟩:=by
 intro c a w imm h;obtain⟨xs,hx,_⟩:=h.mem.ok.ent k _ hk;refine⟨imm,h.env,h.size,h.defers,el_mx h.mem hK hj rfl rfl rfl λv hv=>?_⟩;cases hv;exact .own k sv (ownsRow_one hx)
theorem Frz.elNil {K pub j:Nat} {svK:Value} {ty:TypeId} {es:List AV} (t mm:Nat) (ty':TypeId) (hK:m K=some (.row svK ty 1 es pub)) (ht:t≠K) (hj:es[j]?=some (.v (.slice none 0 0))) :
 Frz n ⟨e,m⟩ ⟨e,upd (upd m t (some (.row (.slice none 0 0) ty' mm [] 0))) K (some (.row svK ty 1 (es.set j (.own t (.slice none 0 0))) pub))⟩:=by
 intro c a w imm h;have hm:Mx c (upd m t (some (.row (.slice none 0 0) ty' mm [] 0))) w imm :=
  (Zeg h.mem (World.grownBy.refl w none) (by simp) (λ_ _=>rfl) t (.row (.slice none 0 0) ty' mm [] 0) ⟨[],World.ownsRow_nil w c.B ty' mm,by simp,by simp,by simp [flat],by simp,λad _ h2=>by simp [Value.ownBlock] at h2,λg off h1 _=>by simp [Value.ownBlock] at h1⟩ λj e2 b _ _ _=>⟨by simp,by simp [Ent.blk,Value.ownBlock]⟩).1
 refine⟨imm,h.env,h.size,h.defers,el_mx hm (by rw [upd_ne (Ne.symm ht)];exact hK) hj rfl rfl rfl λv hv=>?_⟩;cases hv;exact .own t _ rfl
theorem Frz.elPub {K k pub pub' mm j:Nat} {svK sv:Value} {ty ty':TypeId} {es el:List AV} (hK:m K=some (.row svK ty 1 es pub)) (hk:m k=some (.row sv ty' mm el pub')) (hne:k≠K) (hj:es[j]?=some (.own k sv)) :
 Frz n ⟨e,m⟩ ⟨e,upd (upd m k (some (.row sv ty' mm el el.length))) K (some (.row svK ty 1 (es.set j (.sl mm el)) pub))⟩:=by
 intro c a w imm h;obtain⟨i,h1,h2⟩:=Zpx h.mem k;have em:mark m k=upd m k (some (.row sv ty' mm el el.length)):=by unfold mark;rw [hk];rfl
 have h1:Mx c (mark m k) w i:=h1;rw [em] at h1;refine⟨i,λt=>h2.rs (h.env t),h.size,h.defers,el_mx h1 (by rw [upd_ne (Ne.symm hne)];exact hK) hj rfl rfl rfl λv hv=>?_⟩;cases hv;exact Zqy (k:=k) (e:=ty') (pub:=el.length) h1 (by rw [upd_eq]) rfl
theorem Frz.elsPub {K pub mm len d:Nat} {svK:Value} {ty ty':TypeId} (f:Nat→Nat) (S:Nat→Value) (L:Nat→List AV) (hK:m K=some (.row svK ty 1 ((List.range len).map λj=>.own (f j) (S j)) pub)) (hf:∀j,j < len→m (f j)=some (.row (S j) ty' mm (L j) 0)∧f j≠K) (hi:∀i j,i < len→j < len→f i=f j→i=j)
 (he:e d=.own K svK):∃m',Frz n ⟨e,m⟩ ⟨upd e d (.sl 1 ((List.range len).map λj=>.sl mm (L j))),m'⟩:=by
 have key:∀i,i≤len→∃m',Frz n ⟨e,m⟩ ⟨e,m'⟩∧m' K=some (.row svK ty 1 ((List.range len).map λj=>if j < i then .sl mm (L j) else .own (f j) (S j)) pub)∧∀j,i≤j→j < len→m' (f j)=some (.row (S j) ty' mm (L j) 0):=by
  intro i
  induction i with
  | zero =>
    intro _;refine⟨m,.refl _ _,?_,λj _ hj=>(hf j hj).1⟩;rw [hK];simp
  | succ i ih =>
    intro hil;obtain⟨m',h1,h2,h3⟩:=ih (by omega);have hn:=(hf i (by omega)).2;refine⟨_,h1.trans (Frz.elPub (j:=i) h2 (h3 i (Nat.le_refl _) (by omega)) hn (by simp [List.getElem?_map,List.getElem?_range (show i < len by omega)])),?_,λj hj hjl=>?_⟩
    ·rw [upd_eq];congr 2;refine List.ext_getElem? λj=>?_;by_cases hj:j < len
     ·by_cases hij:j=i
      ·subst hij;rw [List.getElem?_set_self (by simp;omega)];simp [List.getElem?_map,List.getElem?_range hj]
      ·rw [List.getElem?_set_ne (Ne.symm hij)];simp only [List.getElem?_map,List.getElem?_range hj,Option.map_some];have:(j < i)↔(j < i+1):=by omega
       simp only [this]
     ·rw [List.getElem?_eq_none (by simp;omega),List.getElem?_eq_none (by simp;omega)]
    ·rw [upd_ne (hf j hjl).2,upd_ne (λh=>by have:=hi j i hjl (by omega) h;omega)];exact h3 j (by omega) hjl
 obtain⟨m',h1,h2,_⟩:=key len (Nat.le_refl _);have e1:((List.range len).map λj=>if j < len then AV.sl mm (L j) else .own (f j) (S j))=(List.range len).map λj=>.sl mm (L j):=List.map_congr_left λj hj=>if_pos (List.mem_range.1 hj);rw [e1] at h2;exact⟨_,h1.trans (Frz.own he h2)⟩
end
end Go.Pg
namespace Go.Proofs.YtjekhacnoopdpaaGreatDoor
open Go Go.RowKit Go.Pg Go.Pol
attribute [-bool_to_prop] Bool.and_eq_decide Bool.or_eq_decide Bool.decide_beq_decide decide_eq_decide
attribute [local go_sem] Tryz.underlying3 Tryz.underlying4 Tryz.underlying169 Tryz.underlying41 Tryz.underlying43 Tryz.underlying45 Tryz.underlying25 Tryz.underlying47 Tryz.underlying49 Tryz.underlying22 Tryz.underlying23 sz3 by3 z3 szB zB Zbd zRat Zbf zInt Zbe zNat Zaj Zaw Zak Bool.and_self Zan Zbs zSlQ szQT byQT zQT Zby zSlT szQP zQP Tryz.underlying92 Tryz.underlying27 szFr byFr zFr Zfu Zfx zSQP
theorem range_set {α:Type} (f:Nat→α) {n k:Nat} (x:α) (h:k < n):((List.range n).map f).set k x=(List.range n).map λj=>if j=k then x else f j:=by
 refine List.ext_getElem? λj=>?_;by_cases hj:j < n
 ·by_cases hjk:j=k
  ·subst hjk;rw [List.getElem?_set_self (by simp;omega)];simp [List.getElem?_map,List.getElem?_range hj]
  ·rw [List.getElem?_set_ne (Ne.symm hjk)];simp [List.getElem?_map,List.getElem?_range hj,hjk]
 ·rw [List.getElem?_eq_none (by simp;omega),List.getElem?_eq_none (by simp;omega)]
theorem range_snoc {α:Type} (f:Nat→α) (n:Nat):(List.range (n+1)).map f=(List.range n).map f++[f n]:=by rw [List.range_succ,List.map_append];rfl
structure PtM (m:Mem) (sv:Value) (S:Nat→Value) (L:Nat→List AV) (len:Nat):Prop where
 top:m 12=some (.row sv 23 1 ((List.range len).map λj=>.own (2000+j) (S j)) 0)
 el:∀j,j < len→m (2000+j)=some (.row (S j) 49 4 (L j) 0)
theorem PtM.upd {m:Mem} {sv:Value} {S:Nat→Value} {L:Nat→List AV} {len k:Nat} {x:Option Ent} (h:PtM m sv S L len) (hk:k≠12) (hk2:k < 2000):PtM (upd m k x) sv S L len :=
 ⟨by rw [upd_ne (Ne.symm hk)];exact h.top,λj hj=>by rw [upd_ne (by omega)];exact h.el j hj⟩
theorem exSplit (a:QTs) (q:Qt) {n:Nat} (hl:a.length≤100000) (hq:∀t∈a,t.2.length≤n) (hn:n≤100000):Pure Tryz.prog 58 [qpA a,q.av] (.sl 1 ((List.range (moQ q a+1)).map λk=>qpA (woL q a k))):=by
 have hpm:(a.map qtA).length=a.length:=List.length_map ..;have gp:∀i (h:i < a.length),(a.map qtA).getD i .u=qtA a[i]:=λi h=>Za0 qtA h;have hmo:∀i,moQ q (a.take i)≤n:=λi=>mo_le λt ht=>hq t (List.mem_of_mem_take ht);have hwl:∀i k,((woL q (a.take i) k).map qtA).length≤100000:=λi k=>by
  rw [List.length_map];have:=wo_len q (a.take i) k;rw [List.length_take] at this;omega
 have hfull:a.take a.length=a:=List.take_length;obtain⟨q1,q2,q3,q4⟩:=q;generalize hQ:(⟨q1,q2,q3,q4⟩:Qt)=q at *;show Pure _ _ [.sl 4 (a.map qtA),q.av] (.sl 1 ((List.range (moQ q a+1)).map λk=>.sl 4 ((woL q a k).map qtA)));generalize a.map qtA=A at *;have hqv:q.av=.agg [iv q1,iv q2,iv q3,iv q4]:=by rw [←hQ]
 rw [hqv];refine Zaa (tok:=0) Tryz.func58 rfl Tryz.ntmps58 Tryz.results58 Tryz.call58 (by rfl) (by simp) ?_;(focus (refine wkad w_t w_t w_t ?_;(repeat' first|exact w_t|apply w_l);all_goals intros));rename_i g3 s12;refine Zej (Frz.elNil (K:=12) (j:=0) 2000 4 49 (by exact gC) (by omega) (by rfl)) ?_;refine r_loopZ ?_;refine Zad (ι:=Nat) (λi e m=>i≤a.length∧(e 3=.pbox 3 g3 0∧m 3=some (.box g3 25 [iv q1,iv q2,iv q3,iv q4] false))∧(e 13=.sl 4 A∧e 14=iv a.length∧e 15=iv i)∧∃sv S,e 5=.own 12 sv∧PtM m sv S (λk=>(woL q (a.take i) k).map qtA) (moQ q (a.take i)+1)) (λi=>a.length - i) 0 (by rfl) ?_ ?_
 ·rintro i e m ⟨hi,⟨e3,m3⟩,⟨e13,e14,e15⟩,sv,S,e5,hM⟩
  by_cases hlt:i < a.length
  ·have gpi:=gp i hlt;have hql:a[i].2.length≤n:=hq _ (List.getElem_mem hlt);have hmi:=hmo i;have hsn:a.take (i+1)=a.take i++[a[i]]:=by rw [List.take_succ_eq_append_getElem hlt]
   have hm2:moQ q (a.take (i+1))=max (moQ q (a.take i)) (tmQ q a[i].2):=by rw [hsn,mo_snoc]
   have hw2:∀k,woL q (a.take (i+1)) k=if tmQ q a[i].2=k then woL q (a.take i) k++[(a[i].1,woQ q a[i].2)] else woL q (a.take i) k:=λk=>by rw [hsn,wo_snoc]
   have habv:∀k,moQ q (a.take i) < k→woL q (a.take i) k=[]:=λk h=>wo_above h;have hwl:=hwl i;clear gp hq hmo hsn;generalize woL q (a.take i)=W at *;generalize moQ q (a.take i)=mo at *;generalize a[i]=u at *;obtain⟨u1,u2⟩:=u;simp only at hql hm2 hw2;have gpi:A.getD i .u=.agg [.v (.bool (decide (u1.num < 0))),lim (toL u1.num.natAbs),lim (toL u1.den),.sl 4 (u2.map Qt.av)]:=gpi;have hqt:[(u1,woQ q u2)].map qtA=[.agg [.v (.bool (decide (u1.num < 0))),lim (toL u1.num.natAbs),lim (toL u1.den),.sl 4 ((woQ q u2).map Qt.av)]]:=rfl;have hum:(u2.map Qt.av).length=u2.length:=List.length_map ..;have gu:∀k (h:k < u2.length),(u2.map Qt.av).getD k .u=Qt.av u2[k]:=λk h=>Za0 Qt.av h
   generalize toL u1.num.natAbs=un at *;generalize toL u1.den=ud at *;generalize decide (u1.num < 0)=us at *;generalize u2.map Qt.av=UQ at *;(focus (refine wkad (w_8 e3 m3 e13 e14 e15 e5 hpm gpi) w_t w_t ?_;(repeat' first|exact w_t|apply w_l);all_goals intros));rename_i g7;refine Zej (Frz.nilOwn (d:=8) 500 4 25 (by exact gC)) ?_;refine Zad (ι:=Nat) (λk e m=>k≤u2.length∧(e 3=.pbox 3 g3 0∧m 3=some (.box g3 25 [iv q1,iv q2,iv q3,iv q4] false))∧(e 13=.sl 4 A∧e 14=iv a.length∧e 15=iv i∧e 5=.own 12 sv)∧(e 7=.pbox 7 g7 0∧m 7=some (.box g7 49 [.v (.bool us),lim un,lim ud,.sl 4 UQ] false))∧(e 20=.sl 4 UQ∧e 21=iv u2.length∧e 22=iv k)∧(∃s8,e 8=.own 500 s8∧m 500=some (.row s8 25 4 ((woQ q (u2.take k)).map Qt.av) 0))∧PtM m sv S (λk=>(W k).map qtA) (mo+1)) (λk=>u2.length - k) 0 (by rfl) ?_ ?_
   ·clear e3 m3 e13 e14 e15 e5 hM
    rintro k e m ⟨hk,⟨e3,m3⟩,⟨e13,e14,e15,e5⟩,⟨e7,m7⟩,⟨e20,e21,e22⟩,⟨s8,e8,m8⟩,hM⟩
    by_cases hkl:k < u2.length
    ·have guk:=gu k hkl
     have hwk:(woQ q (u2.take k)).length≤100000:=by
      have:=tm_wo q (u2.take k);rw [List.length_take] at this;omega
     have hwm:((woQ q (u2.take k)).map Qt.av).length≤100000:=by rw [List.length_map];exact hwk
     have hts:u2.take (k+1)=u2.take k++[u2[k]]:=by rw [List.take_succ_eq_append_getElem hkl]
     by_cases hx:u2[k]=q
     ·have hnx:(woQ q (u2.take (k+1))).map Qt.av=(woQ q (u2.take k)).map Qt.av:=by rw [hts,woQ_n _ hx]
      rw [hx,hqv] at guk;clear gu hts;generalize (woQ q (u2.take k)).map Qt.av=R at *;(focus (refine wkad (w_15 e3 m3 e13 e14 e15 e5 e7 m7 e20 e21 e22 e8 m8 hum guk) w_t w_t ?_;(repeat' first|exact w_t|apply w_l);all_goals intros));exact⟨k+1,⟨by omega,⟨by exact gW e3,by exact gW m3⟩,⟨by exact gW e13,by exact gW e14,by exact gW e15,by exact gW e5⟩,⟨by exact gW e7,by exact gW m7⟩,⟨by exact gW e20,by exact gW e21,by exact gS⟩,⟨s8,by exact gW e8,by rw [hnx];exact gW m8⟩,by(repeat' first|exact hM|refine PtM.upd ?_ (by decide) (by decide))⟩,by omega⟩
     ·have hnx:woQ q (u2.take (k+1))=woQ q (u2.take k)++[u2[k]]:=by rw [hts,woQ_y _ hx]
      have hmp:(woQ q (u2.take (k+1))).map Qt.av=(woQ q (u2.take k)).map Qt.av++[Qt.av u2[k]]:=by rw [hnx,List.map_append];rfl
      clear gu hts hnx;generalize (woQ q (u2.take k)).map Qt.av=R at *;generalize u2[k]=x at *;obtain⟨x1,x2,x3,x4⟩:=x;have hx:¬(x1=q1∧x2=q2∧x3=q3∧x4=q4):=λh=>hx (by rw [←hQ];obtain⟨rfl,rfl,rfl,rfl⟩:=h;rfl);(focus (refine wkad (w_15 e3 m3 e13 e14 e15 e5 e7 m7 e20 e21 e22 e8 m8 hum guk) w_t w_t ?_;(repeat' first|exact w_t|apply w_l);all_goals intros));all_goals exact⟨k+1,⟨by omega,⟨by exact gW e3,by exact gW m3⟩,⟨by exact gW e13,by exact gW e14,by exact gW e15,by exact gW e5⟩,⟨by exact gW e7,by exact gW m7⟩,⟨by exact gW e20,by exact gW e21,by exact gS⟩,⟨_,by exact gC,by rw [hmp];exact gC⟩,by(repeat' first|exact hM|refine PtM.upd ?_ (by decide) (by decide))⟩,by omega⟩
    ·have hku:k=u2.length:=by omega
     subst hku;rw [List.take_length] at m8;have htw:=tm_wo q u2;have hRm:((woQ q u2).map Qt.av).length=(woQ q u2).length:=List.length_map ..;have hn1:(u2.length:Int) - ((woQ q u2).length:Int)=(tmQ q u2:Int):=by omega
     have hn2:(tmQ q u2:Int)≤n:=by omega
     generalize (woQ q u2).map Qt.av=R at *;generalize (woQ q u2).length=rl at *;generalize tmQ q u2=tn at *;(focus (refine wkad (w_16 e3 m3 e13 e14 e15 e5 e7 m7 e20 e21 e22 e8 m8 hum hRm hn1) w_t w_t ?_;(repeat' first|exact w_t|apply w_l);all_goals intros));refine Zu3 (ι:=Nat) (λj e m=>(mo+1≤j∧j≤max mo tn+1)∧(e 3=.pbox 3 g3 0∧m 3=some (.box g3 25 [iv q1,iv q2,iv q3,iv q4] false))∧(e 13=.sl 4 A∧e 14=iv a.length∧e 15=iv i)∧(e 7=.pbox 7 g7 0∧m 7=some (.box g7 49 [.v (.bool us),lim un,lim ud,.sl 4 UQ] false))∧(e 8=.own 500 s8∧m 500=some (.row s8 25 4 R 0))∧e 11=iv tn∧∃sv S,e 5=.own 12 sv∧PtM m sv S (λk=>(W k).map qtA) j) (λj=>max mo tn+1 - j) (mo+1) (by rfl) ?_ ?_
     ·clear e3 m3 e13 e14 e15 e5 hM e7 m7 e8 m8 e20 e21 e22
      rintro j e m ⟨⟨hj1,hj2⟩,⟨e3,m3⟩,⟨e13,e14,e15⟩,⟨e7,m7⟩,⟨e8,m8⟩,e11,sv,S,e5,hM⟩
      have hlE:((List.range j).map λk=>AV.own (2000+k) (S k)).length=j:=by rw [List.length_map,List.length_range]
      by_cases hjt:j≤tn
      ·obtain⟨top,el⟩:=hM;have hjt':(j:Int)≤(tn:Int):=by omega
       have hW:=habv j (by omega);have n3:¬3=2000+j:=by omega
       have n7:¬7=2000+j:=by omega
       have n5:¬500=2000+j:=by omega
       have hset:∀x y:AV,(((List.range j).map λk=>AV.own (2000+k) (S k))++[x]).set j y=((List.range j).map λk=>AV.own (2000+k) (S k))++[y]:=λx y=>by
        rw [List.set_append_right _ _ (by omega),hlE,Nat.sub_self];rfl
       have hnw:(List.range (j+1)).map (λk=>AV.own (2000+k) (if k=j then .slice none 0 0 else S k))=((List.range j).map λk=>AV.own (2000+k) (S k))++[.own (2000+j) (.slice none 0 0)]:=by
        rw [range_snoc,if_pos rfl];congr 1;exact List.map_congr_left λk hk=>by rw [if_neg (by have:=List.mem_range.1 hk;omega)]
       generalize (List.range j).map (λk=>AV.own (2000+k) (S k))=E at *;(focus (refine wkad (w_14 e3 m3 e13 e14 e15 e7 m7 e8 m8 e11 e5 top hlE hjt') w_t w_t ?_;(repeat' first|exact w_t|apply w_l);all_goals intros));refine⟨j+1,_,Frz.elNil (K:=12) (j:=j) (2000+j) 4 49 (by exact gC) (by omega) (by rw [List.getElem?_append_right (by omega),hlE,Nat.sub_self];rfl),⟨⟨by omega,by omega⟩,⟨by exact gW e3,by exact gW (And.intro m3 n3)⟩,⟨by exact gW e13,by exact gW e14,by exact gW e15⟩,⟨by exact gW e7,by exact gW (And.intro m7 n7)⟩,⟨by exact gW e8,by exact gW (And.intro m8 n5)⟩,by exact gW e11,_,(λk=>if k=j then .slice none 0 0 else S k),by exact gC,⟨?_,λk hk=>?_⟩⟩,by omega⟩
       ·dsimp only;rw [upd_eq,hset,←hnw]
       ·by_cases hkj:k=j
        ·subst hkj;dsimp only;rw [upd_ne (by omega),upd_eq,if_pos rfl,hW];rfl
        ·rw [if_neg hkj];simp (disch:=omega) only [upd_ne,marks];exact el k (by omega)
      ·have hjt':¬(j:Int)≤(tn:Int):=by omega
       have hjm:j=max mo tn+1:=by omega
       have hM2:=hM.top
       (repeat' (first|(fail)|(with_reducible first|refine stp ?_|apply gx1|apply gx2|apply gx3|apply gx4|apply gx5|apply gx6|apply gx7|apply gy8|apply gz2|apply gz3)|(with_reducible refine Zao ?_;intro _)|((with_reducible refine gE ?_);(try simp (disch:=omega) only [go_sem,e3,m3,e13,e14,e15,e7,m7,e8,m8,e11,e5,hM2,hlE,hjt',decide_eq_true,decide_eq_false,if_pos,if_neg,Int.reduceAdd,Int.reduceSub,Int.reduceToNat,Int.zero_add])<;>first|rfl|omega)|with_reducible refine Zab (by decide) ?_|((with_reducible apply gy1);iterate 3 focus rfl)|((with_reducible apply gy2);iterate 3 focus rfl)|((with_reducible apply gy3);iterate 2 focus rfl)|((with_reducible apply gy4);iterate 1 focus rfl)|((with_reducible apply gy5);iterate 4 focus rfl)|((with_reducible apply gy5c);iterate 4 focus rfl)|((with_reducible apply gy6);iterate 4 focus rfl)|((with_reducible apply Za7);iterate 3 focus rfl)|((with_reducible apply Za6);iterate 1 focus rfl)|((with_reducible apply gy7);iterate 1 focus rfl)|((with_reducible apply gy9);(focus ((with_reducible refine gE ?_);(try simp (disch:=omega) only [go_sem,e3,m3,e13,e14,e15,e7,m7,e8,m8,e11,e5,hM2,hlE,hjt',decide_eq_true,decide_eq_false,if_pos,if_neg,Int.reduceAdd,Int.reduceSub,Int.reduceToNat,Int.zero_add])<;>rfl)))|((with_reducible apply gz1);(focus first|rfl|(simp (disch:=omega) only [go_sem,e3,m3,e13,e14,e15,e7,m7,e8,m8,e11,e5,hM2,hlE,hjt',decide_eq_true,decide_eq_false,if_pos,if_neg,Int.reduceAdd,Int.reduceSub,Int.reduceToNat,Int.zero_add];done)))|((with_reducible apply Zae (id:=99) (Zau []) [] []);(focus kernel_rfl);(focus rfl);(focus kernel_rfl);(focus (simp only [List.length_cons,List.length_nil,Nat.reduceAdd];rfl)))|((with_reducible first|apply Za1|apply Za3|apply Za2);all_goals (intro hc;(try simp only [bool_to_prop] at hc);try (exfalso;omega)))))
       refine Zu4 (Frz.own (d:=8) (k:=500) (sv:=s8) (ty:=25) (mm:=4) (es:=R) (pub:=0) (by exact gW e8) (by exact m8)) ?_;have hM:PtM (Go.Pg.mark m 500) sv S (λk=>(W k).map qtA) j:=hM.upd (by omega) (by omega);obtain⟨top,el⟩:=hM;have etn:=el tn (by omega)
       have hgE:((List.range j).map λk=>AV.own (2000+k) (S k)).getD tn .u=.own (2000+tn) (S tn):=by
        rw [List.getD_eq_getElem?_getD,List.getElem?_map,List.getElem?_range (by omega)];rfl
       have hwt:=hwl tn;have hset:=λx:AV=>range_set (λk=>AV.own (2000+k) (S k)) (n:=j) x (show tn < j by omega);have w7:Go.Pg.mark m 500 7=some (.box g7 49 [.v (.bool us),lim un,lim ud,.sl 4 UQ] false):=by show Go.Pg.upd m 500 _ 7=_;rw [upd_ne (by omega)];exact m7
       have w3:Go.Pg.mark m 500 3=some (.box g3 25 [iv q1,iv q2,iv q3,iv q4] false):=by show Go.Pg.upd m 500 _ 3=_;rw [upd_ne (by omega)];exact m3
       have htj:(tn:Int) < (j:Int):=by omega
       have htj2:tn < j:=by omega
       obtain⟨kn,hkn⟩:∃kn,kn=2000+tn:=⟨_,rfl⟩;rw [←hkn] at etn hgE;have b3:(3 == kn)=false:=by rw [beq_eq_false_iff_ne];omega
       have b7:(7 == kn)=false:=by rw [beq_eq_false_iff_ne];omega
       have b12:(12 == kn)=false:=by rw [beq_eq_false_iff_ne];omega
       have n3:¬3=kn:=by omega
       have n7:¬7=kn:=by omega
       have n12:¬12=kn:=by omega
       have n12':¬kn=12:=by omega
       have hWn:∀k,(woL q (a.take (i+1)) k).map qtA=if tn=k then (W k).map qtA++[.agg [.v (.bool us),lim un,lim ud,.sl 4 R]] else (W k).map qtA:=λk=>by
        rw [hw2];by_cases h:tn=k
        ·rw [if_pos h,if_pos h,List.map_append,hqt]
        ·rw [if_neg h,if_neg h]
       generalize Go.Pg.mark m 500=m1 at *;clear m3 m7 m8 hM2 hw2;generalize hLT:(W tn).map qtA=LT at *;generalize (List.range j).map (λk=>AV.own (2000+k) (S k))=E at *;refine r_drawL (Zau [(10,.sl 4 [.agg [.v (.bool us),lim un,lim ud,.sl 4 R]])]) [11,1011] [kn] (by simp only [List.dropLast];rfl) (by simp only [List.getLast?_cons_cons,List.getLast?_singleton];rfl) (by kernel_rfl) (by rfl) (by kernel_rfl) (by kernel_rfl) (by simp only [List.length_cons,List.length_nil,Nat.reduceAdd];rfl) ?_
       (repeat' (first|(fail)|(with_reducible first|refine stp ?_|apply gx1|apply gx2|apply gx3|apply gx4|apply gx5|apply gx6|apply gx7|apply gy8|apply gz2|apply gz3)|(with_reducible refine Zao ?_;intro _)|((with_reducible refine gE ?_);(try simp (disch:=omega) only [go_sem,e3,w3,e13,e14,e15,e7,w7,e11,e5,top,hlE,hgE,etn,b3,b7,b12,n12,n12',n3,n7,hwt,htj,decide_eq_true,decide_eq_false,if_pos,if_neg,Int.reduceAdd,Int.reduceSub,Int.reduceToNat,Int.zero_add])<;>first|rfl|omega)|with_reducible refine Zab (by decide) ?_|((with_reducible apply gy1);iterate 3 focus rfl)|((with_reducible apply gy2);iterate 3 focus rfl)|((with_reducible apply gy3);iterate 2 focus rfl)|((with_reducible apply gy4);iterate 1 focus rfl)|((with_reducible apply gy5);iterate 4 focus rfl)|((with_reducible apply gy5c);iterate 4 focus rfl)|((with_reducible apply gy6);iterate 4 focus rfl)|((with_reducible apply Za7);iterate 3 focus rfl)|((with_reducible apply Za6);iterate 1 focus rfl)|((with_reducible apply gy7);iterate 1 focus rfl)|((with_reducible apply gy9);(focus ((with_reducible refine gE ?_);(try simp (disch:=omega) only [go_sem,e3,w3,e13,e14,e15,e7,w7,e11,e5,top,hlE,hgE,etn,b3,b7,b12,n12,n12',n3,n7,hwt,htj,decide_eq_true,decide_eq_false,if_pos,if_neg,Int.reduceAdd,Int.reduceSub,Int.reduceToNat,Int.zero_add])<;>rfl)))|((with_reducible apply gz1);(focus first|rfl|(simp (disch:=omega) only [go_sem,e3,w3,e13,e14,e15,e7,w7,e11,e5,top,hlE,hgE,etn,b3,b7,b12,n12,n12',n3,n7,hwt,htj,decide_eq_true,decide_eq_false,if_pos,if_neg,Int.reduceAdd,Int.reduceSub,Int.reduceToNat,Int.zero_add];done)))|((with_reducible apply Zae (Zau []) [] []);(focus kernel_rfl);(focus rfl);(focus kernel_rfl);(focus (simp only [List.length_cons,List.length_nil,Nat.reduceAdd];rfl)))|((with_reducible first|apply Za1|apply Za3|apply Za2);all_goals (intro hc;(try simp only [bool_to_prop] at hc);try (exfalso;omega)))))
       rename_i svn;intro hrel;have h1:=own_one (d:=58) (k:=kn) (sv:=svn) (by exact gC) hrel;unfold Value.oneCell' at h1;refine⟨_,Frz.slotV (d:=58) (k:=kn) (by exact gC),?_⟩
       (repeat' (first|(fail)|(with_reducible first|refine stp ?_|apply gx1|apply gx2|apply gx3|apply gx4|apply gx5|apply gx6|apply gx7|apply gy8|apply gz2|apply gz3)|(with_reducible refine Zao ?_;intro _)|((with_reducible refine gE ?_);(try simp (disch:=omega) only [go_sem,h1,e3,w3,e13,e14,e15,e7,w7,e11,e5,top,hlE,n12,n12',n3,n7,htj,decide_eq_true,decide_eq_false,if_pos,if_neg,Int.reduceAdd,Int.reduceSub,Int.reduceToNat,Int.zero_add])<;>first|rfl|omega)|with_reducible refine Zab (by decide) ?_|((with_reducible apply gy1);iterate 3 focus rfl)|((with_reducible apply gy2);iterate 3 focus rfl)|((with_reducible apply gy3);iterate 2 focus rfl)|((with_reducible apply gy4);iterate 1 focus rfl)|((with_reducible apply gy5);iterate 4 focus rfl)|((with_reducible apply gy5c);iterate 4 focus rfl)|((with_reducible apply gy6);iterate 4 focus rfl)|((with_reducible apply Za7);iterate 3 focus rfl)|((with_reducible apply Za6);iterate 1 focus rfl)|((with_reducible apply gy7);iterate 1 focus rfl)|((with_reducible apply gy9);(focus ((with_reducible refine gE ?_);(try simp (disch:=omega) only [go_sem,h1,e3,w3,e13,e14,e15,e7,w7,e11,e5,top,hlE,n12,n12',n3,n7,htj,decide_eq_true,decide_eq_false,if_pos,if_neg,Int.reduceAdd,Int.reduceSub,Int.reduceToNat,Int.zero_add])<;>rfl)))|((with_reducible apply gz1);(focus first|rfl|(simp (disch:=omega) only [go_sem,h1,e3,w3,e13,e14,e15,e7,w7,e11,e5,top,hlE,n12,n12',n3,n7,htj,decide_eq_true,decide_eq_false,if_pos,if_neg,Int.reduceAdd,Int.reduceSub,Int.reduceToNat,Int.zero_add];done)))|((with_reducible apply Zae (Zau []) [] []);(focus kernel_rfl);(focus rfl);(focus kernel_rfl);(focus (simp only [List.length_cons,List.length_nil,Nat.reduceAdd];rfl)))|((with_reducible first|apply Za1|apply Za3|apply Za2);all_goals (intro hc;(try simp only [bool_to_prop] at hc);try (exfalso;omega)))))
       refine⟨_,Frz.elOwn (K:=12) (k:=kn) (j:=tn) (by exact gW n12) (by exact gW n12') (by rw [List.getElem?_set_self (by omega)]),?_⟩
       (repeat' (first|(fail)|(with_reducible first|refine stp ?_|apply gx1|apply gx2|apply gx3|apply gx4|apply gx5|apply gx6|apply gx7|apply gy8|apply gz2|apply gz3)|(with_reducible refine Zao ?_;intro _)|((with_reducible refine gE ?_);(try simp (disch:=omega) only [go_sem,e3,w3,e13,e14,e15,e7,w7,e11,e5,n12,n12',n3,n7,decide_eq_true,decide_eq_false,if_pos,if_neg,Int.reduceAdd,Int.reduceSub,Int.reduceToNat,Int.zero_add])<;>first|rfl|omega)|with_reducible refine Zab (by decide) ?_|((with_reducible apply gy1);iterate 3 focus rfl)|((with_reducible apply gy2);iterate 3 focus rfl)|((with_reducible apply gy3);iterate 2 focus rfl)|((with_reducible apply gy4);iterate 1 focus rfl)|((with_reducible apply gy5);iterate 4 focus rfl)|((with_reducible apply gy5c);iterate 4 focus rfl)|((with_reducible apply gy6);iterate 4 focus rfl)|((with_reducible apply Za7);iterate 3 focus rfl)|((with_reducible apply Za6);iterate 1 focus rfl)|((with_reducible apply gy7);iterate 1 focus rfl)|((with_reducible apply gy9);(focus ((with_reducible refine gE ?_);(try simp (disch:=omega) only [go_sem,e3,w3,e13,e14,e15,e7,w7,e11,e5,n12,n12',n3,n7,decide_eq_true,decide_eq_false,if_pos,if_neg,Int.reduceAdd,Int.reduceSub,Int.reduceToNat,Int.zero_add])<;>rfl)))|((with_reducible apply gz1);(focus first|rfl|(simp (disch:=omega) only [go_sem,e3,w3,e13,e14,e15,e7,w7,e11,e5,n12,n12',n3,n7,decide_eq_true,decide_eq_false,if_pos,if_neg,Int.reduceAdd,Int.reduceSub,Int.reduceToNat,Int.zero_add];done)))|((with_reducible apply Zae (Zau []) [] []);(focus kernel_rfl);(focus rfl);(focus kernel_rfl);(focus (simp only [List.length_cons,List.length_nil,Nat.reduceAdd];rfl)))|((with_reducible first|apply Za1|apply Za3|apply Za2);all_goals (intro hc;(try simp only [bool_to_prop] at hc);try (exfalso;omega)))))
       refine⟨i+1,⟨by omega,⟨by exact gW e3,by exact gW (And.intro w3 n3)⟩,⟨by exact gW e13,by exact gW e14,by exact gS⟩,_,(λk=>if k=tn then svn else S k),by exact gW e5,⟨?_,λk hk=>?_⟩⟩,by omega⟩
       ·dsimp only;rw [upd_eq,List.set_set,hset,hm2,←hjm];congr 2;refine List.map_congr_left λk hk=>?_;by_cases h:k=tn
        ·rw [if_pos h,if_pos h,hkn,h]
        ·rw [if_neg h,if_neg h]
       ·dsimp only;by_cases h:k=tn
        ·subst h;rw [←hkn,if_pos rfl,hWn,if_pos rfl,hLT];simp (disch:=omega) only [upd_ne,upd_eq,marks]
        ·rw [if_neg h,hWn,if_neg (λh2=>h h2.symm)];simp (disch:=omega) only [upd_ne,marks];exact el k (by omega)
     ·exact⟨⟨Nat.le_refl _,by omega⟩,⟨by exact gW e3,by exact gW m3⟩,⟨by exact gW e13,by exact gW e14,by exact gW e15⟩,⟨by exact gW e7,by exact gW m7⟩,⟨by exact gW e8,by exact gW m8⟩,by exact gC,_,_,by exact gW e5,by(repeat' first|exact hM|refine PtM.upd ?_ (by decide) (by decide))⟩
   ·exact⟨Nat.zero_le _,⟨by exact gW e3,by exact gW m3⟩,⟨by exact gW e13,by exact gW e14,by exact gW e15,by exact gW e5⟩,⟨by exact gC,by exact gC⟩,⟨by exact gC,by exact gW hum,by exact gC⟩,⟨_,by exact gC,by exact gC⟩,by(repeat' first|exact hM|refine PtM.upd ?_ (by decide) (by decide))⟩
  ·have hia:i=a.length:=by omega
   subst hia;rw [hfull] at hM;have hM2:=hM.top;(focus (refine wkad (w_8 e3 m3 e13 e14 e15 e5 hM2 hpm) w_t w_t ?_;(repeat' first|exact w_t|apply w_l);all_goals intros));refine Exists.elim (Frz.elsPub (K:=12) (d:=5) (mm:=4) (λj=>2000+j) S _ hM2 (λj hj=>⟨hM.el j hj,by omega⟩) (λi j _ _ h=>by omega) (by exact gW e5)) λm' hF=>⟨_,hF,?_⟩;(focus (refine wkad (w_8 e3 m3 e13 e14 e15 e5 hM2 hpm) w_t w_t ?_;(repeat' first|exact w_t|apply w_l);all_goals intros));all_goals exact gL
 ·refine⟨Nat.zero_le _,⟨by exact gC,by exact gC⟩,⟨by exact gC,by exact gW hpm,by exact gC⟩,s12,(λ_=>.slice none 0 0),by exact gC,⟨?_,λj hj=>?_⟩⟩
  ·rw [upd_eq];rfl
  ·have hj0:j=0:=by
    have:moQ q (a.take 0)=0:=rfl;omega
   subst hj0;rw [upd_ne (by decide),upd_eq];rfl
theorem XB.scl {p:QTs} {k n:Nat} (h:XB p k n) {s:Int} (hs:s=-1∨s=1):XB (sclT (s:Rat) p) k n:=by
 rcases hs with rfl | rfl
 ·exact h.neg
 ·show XB (sclT 1 p) k n;rw [scl_one];exact h
theorem ratOfm1:Pure Tryz.prog 57 [iv (-1)] (ratQ (-1:Rat)):=Zu0 (z:=-1) (.inl rfl)
theorem exConstm1:Pure Tryz.prog 28 [ratQ (-1:Rat)] (.sl 4 ([((-1:Rat),[])].map qtA)):=by
 have c:=Zwn (-1) sz_m1 (by omega)
 rwa [cst_ok,if_neg (by decide +kernel)] at c
theorem ratOf1':Pure Tryz.prog 57 [iv 1] (.agg [.v (.bool false),lim [1],lim [1]]):=by rw [←Zgq];exact Zu0 (z:=1) (.inr (.inr rfl))
theorem exReplace (a num den:QTs) (q:Qt) {ka kb na nb L:Nat} (ha:XB a ka na) (hu:XB num kb nb) (hd:XB den kb nb) (la:a.length≤12) (lu:num.length≤L) (ld:den.length≤L) (h1:1≤L) (hna:na≤12)
 (hq:na+(na+1)*nb≤maxQ) (hL:(na+1)*12*L ^ (na+2)≤100000000) (hk:1+(na+1)*(ka+kb+3+(na+1)*kb)+kb≤50000) (hka:ka≤500) :
 Pure Tryz.prog 13 [qpA a,q.av,.agg [qpA num,qpA den]] (if q.norm.2=0 then .agg [qpA a,qpA [((1:Rat),[])]] else .agg [qpA (rpN q.norm.1 a (sclT (q.norm.2:Rat) num) den),qpA (rpD q.norm.1 a den)]):=by
 have cn0:=Zu7 q.k q.a q.b q.c;have cn:Pure Tryz.prog 56 [q.av] (.tup [q.norm.1.av,iv q.norm.2]):=cn0;clear cn0;have hs:=Zia q;have c1:=ratOf1';have cc:=Zmp
 have o1:qpA [((1:Rat),[])]=.sl 4 [.agg [.v (.bool false),lim [1],lim [1],.sl 4 []]]:=by
  show AV.sl 4 [qtA ((1:Rat),[])]=_;rw [Zbq];rfl
 obtain⟨q1,q2,q3,q4⟩:=q;generalize hN:Qt.norm ⟨q1,q2,q3,q4⟩=nn at *;obtain⟨n,s⟩:=nn;simp only at hs cn ⊢;by_cases hs0:s=0
 ·subst hs0;rw [if_pos rfl,o1];show Pure _ _ [.sl 4 (a.map qtA),.agg [iv q1,iv q2,iv q3,iv q4],.agg [.sl 4 (num.map qtA),.sl 4 (den.map qtA)]] (.agg [.sl 4 (a.map qtA),.sl 4 [.agg [.v (.bool false),lim [1],lim [1],.sl 4 []]]]);obtain⟨n1,n2,n3,n4⟩:=n;generalize a.map qtA=A at *;generalize num.map qtA=U at *;generalize den.map qtA=D at *;refine Zaa (tok:=0) Tryz.func13 rfl Tryz.ntmps13 Tryz.results13 Tryz.call13 (by rfl) (by simp) ?_;(focus (refine wkad w_t (w_3 cn c1 cc) w_t ?_;(repeat' first|exact w_t|apply w_l);all_goals intros));all_goals exact gL
 ·rw [if_neg hs0];have hs':s=-1∨s=1:=by rcases hs with h | h | h;exact .inl h;exact absurd h hs0;exact .inr h
  have hv:=hu.scl hs';have lv:(sclT (s:Rat) num).length≤L:=by rw [Zc5];exact lu
  obtain⟨mm,hmm⟩:∃mm,mm=moQ n a:=⟨_,rfl⟩;have hm:mm≤na:=by rw [hmm];exact mo_le ha.2.1
  have e0:L ^ (na+2)=L ^ (na+1)*L:=Nat.pow_succ ..;have p1:∀i,i≤na+1→L ^ i≤L ^ (na+1):=λi hi=>Nat.pow_le_pow_right h1 hi;have p2:∀i,i≤na+1→i*nb≤(na+1)*nb:=λi hi=>Nat.mul_le_mul_right _ hi;have p3:∀i,i≤na+1→i*kb≤(na+1)*kb:=λi hi=>Nat.mul_le_mul_right _ hi;have hM:=Zl7;have b0:(na+1)*12*(L ^ (na+1)*L)≤100000000:=by rw [←e0];exact hL
  have b1:12*(L ^ (na+1)*L)≤(na+1)*12*(L ^ (na+1)*L):=Nat.mul_le_mul_right _ (by omega);have b2:L ^ (na+1)≤L ^ (na+1)*L:=Nat.le_mul_of_pos_right _ h1;have b3:L≤L ^ (na+1)*L:=Nat.le_mul_of_pos_left _ (Nat.pow_pos (by omega));have b4:(na+1)*12*L ^ (na+1)≤(na+1)*12*(L ^ (na+1)*L):=Nat.mul_le_mul_left _ b2;have b5:nb≤(na+1)*nb:=Nat.le_mul_of_pos_left _ (by omega);have hpa:∀k,XB (paQ n a k) ka na:=λk=>ha.part n k;have hpl:∀k,(paQ n a k).length≤12:=λk=>Nat.le_trans (pa_len n a k) la;have hpn:=rp_horner n (num:=sclT (s:Rat) num) ha.1 hv.1 hd.1;rw [←hpn];show Pure _ _ _ (.agg [.sl 4 ((hnX (paQ n a) (sclT (s:Rat) num) den (moQ n a) (moQ n a+1)).map qtA),.sl 4 ((pwX den (moQ n a)).map qtA)])
  rw [←hmm]
  have hlen:∀i,i≤mm→(hnX (paQ n a) (sclT (s:Rat) num) den mm i).length≤(na+1)*12*L ^ (na+1):=λi hi =>
   Nat.le_trans (hn_len hpl lv ld h1 mm i) (Nat.mul_le_mul (Nat.mul_le_mul_right _ (by omega)) (p1 i (by omega)))
  have hlp:∀i,i≤mm→(pwX den i).length≤L ^ (na+1):=λi hi=>Nat.le_trans (pw_len ld i) (p1 i (by omega))
  have hx:∀i,i≤mm→XB (hnX (paQ n a) (sclT (s:Rat) num) den mm i) (1+(na+1)*(ka+kb+2+(na+1)*kb)) (na+i*nb):=λi hi =>
   (XB.hn hpa hv hd mm i).mono (Nat.add_le_add_left (Nat.mul_le_mul (by omega) (by have:=p3 i (by omega);omega)) _) (Nat.le_refl _)
  have hkk:(na+1)*(ka+kb+2+(na+1)*kb)≤(na+1)*(ka+kb+3+(na+1)*kb):=Nat.mul_le_mul_left _ (by omega);have hkp:(na+1)*kb≤(na+1)*(ka+kb+3+(na+1)*kb):=Nat.mul_le_mul_left _ (by omega);have cX:∀i,i≤mm→Pure Tryz.prog 35 [.sl 4 ((hnX (paQ n a) (sclT (s:Rat) num) den mm i).map qtA),.sl 4 ((sclT (s:Rat) num).map qtA)] (.sl 4 ((mulX (hnX (paQ n a) (sclT (s:Rat) num) den mm i) (sclT (s:Rat) num)).map qtA)):=λi hi=>by
   have l1:=hlen i hi;have l2:(hnX (paQ n a) (sclT (s:Rat) num) den mm i).length*(sclT (s:Rat) num).length≤(na+1)*12*L ^ (na+1)*L:=Nat.mul_le_mul l1 lv;rw [Nat.mul_assoc ((na+1)*12)] at l2;have l3:=p2 i (by omega);have l4:i*nb≤na*nb:=Nat.mul_le_mul_right _ (by omega);have l5:(na+1)*nb=na*nb+nb:=Nat.succ_mul ..;exact Zwk _ _ (hx i hi) hv (by omega) (by omega) (by omega) (by omega) (by omega) (by omega)
  have cN:∀k,Pure Tryz.prog 22 [.sl 4 ((woL n a k).map qtA)] (.sl 4 ((paQ n a k).map qtA)):=λk =>
   exNrm (woL n a k) (wo_qk ha.qk n k) (wo_dom ha.1.dom n k) (by have:=wo_len n a k;omega) hna (by omega)
  have cY:∀i,i≤mm→Pure Tryz.prog 35 [.sl 4 ((paQ n a (mm - i)).map qtA),.sl 4 ((pwX den i).map qtA)] (.sl 4 ((mulX (paQ n a (mm - i)) (pwX den i)).map qtA)):=λi hi=>by
   have l1:=hlp i hi;have l0:=hpl (mm - i);have l2:(paQ n a (mm - i)).length*(pwX den i).length≤12*L ^ (na+1):=Nat.mul_le_mul l0 l1;have l3:=p2 i (by omega);have l4:=p3 i (by omega);exact Zwk _ _ (hpa _) (hd.pw i) (by omega) (by omega) (by omega) (by omega) (by omega) (by omega)
  have cA:∀i,i≤mm→Pure Tryz.prog 34 [.sl 4 ((mulX (hnX (paQ n a) (sclT (s:Rat) num) den mm i) (sclT (s:Rat) num)).map qtA),.sl 4 ((mulX (paQ n a (mm - i)) (pwX den i)).map qtA)] (.sl 4 ((hnX (paQ n a) (sclT (s:Rat) num) den mm (i+1)).map qtA)):=λi hi=>by
   have x1:=(hx i hi).mul hv;have x2:=(hpa (mm - i)).mul (hd.pw i);have l1:=Nat.le_trans (Zfm (hnX (paQ n a) (sclT (s:Rat) num) den mm i) (sclT (s:Rat) num)) (Nat.mul_le_mul (hlen i hi) lv);rw [Nat.mul_assoc ((na+1)*12)] at l1;have l2:=Nat.le_trans (Zfm (paQ n a (mm - i)) (pwX den i)) (Nat.mul_le_mul (hpl (mm - i)) (hlp i hi));have l3:=p2 i (by omega);have l4:=p3 i (by omega);have l5:i*nb≤na*nb:=Nat.mul_le_mul_right _ (by omega);have l6:(na+1)*nb=na*nb+nb:=Nat.succ_mul ..;exact exPlus _ _ (x1.mono (k:=_) (Nat.le_refl _) (show _≤na+(na+1)*nb by omega)).qk (x2.mono (k:=_) (Nat.le_refl _) (show _≤na+(na+1)*nb by omega)).qk x1.nz x2.nz (by omega) (by omega) (by omega) (by omega) (by omega)
  have cD:∀i,i < mm→Pure Tryz.prog 35 [.sl 4 ((pwX den i).map qtA),.sl 4 (den.map qtA)] (.sl 4 ((pwX den (i+1)).map qtA)):=λi hi=>by
   have l1:=hlp i (by omega);have l2:(pwX den i).length*den.length≤L ^ (na+1)*L:=Nat.mul_le_mul l1 ld;have l3:=p2 (i+1) (by omega);have l4:=p3 (i+1) (by omega);have l5:(i+1)*nb=i*nb+nb:=Nat.succ_mul ..;have l6:(i+1)*kb=i*kb+kb:=Nat.succ_mul ..;exact Zwk _ _ (hd.pw i) hd (by omega) (by omega) (by omega) (by omega) (by omega) (by omega)
  have cS0:=exSplit a n (by omega) ha.2.1 (by omega);rw [←hmm] at cS0
  have cM:Pure Tryz.prog 35 [.sl 4 ([((-1:Rat),[])].map qtA),.sl 4 (num.map qtA)] (.sl 4 ((mulX [((-1:Rat),[])] num).map qtA)):=by
   have hx1:XB [((-1:Rat),[])] 1 0:=xbC _ _ (by decide +kernel);have l1:([((-1:Rat),[])]:QTs).length*num.length≤1*L:=Nat.mul_le_mul (by simp) lu;have l2:([((-1:Rat),[])]:QTs).length≤1:=by simp
   exact Zwk _ _ hx1 hu (by omega) (by omega) (by omega) (by omega) (by omega) (by omega)
  have hVW:s=-1→(sclT (s:Rat) num).map qtA=(mulX [((-1:Rat),[])] num).map qtA:=λh=>by rw [h,mul_neg hu.1];rfl
  have hVU:s=1→(sclT (s:Rat) num).map qtA=num.map qtA:=λh=>by rw [h];show(sclT 1 num).map qtA=_;rw [scl_one]
  have cM1:=ratOfm1;have cM2:=exConstm1;have hpl2:((List.range (mm+1)).map λk=>qpA (woL n a k)).length=mm+1:=by rw [List.length_map,List.length_range]
  have hpg:∀k,k≤mm→((List.range (mm+1)).map λk=>qpA (woL n a k)).getD k .u=.sl 4 ((woL n a k).map qtA):=λk hk=>by
   rw [List.getD_eq_getElem?_getD,List.getElem?_map,List.getElem?_range (by omega)];rfl
  have d00:(pwX den 0).map qtA=[.agg [.v (.bool false),lim [1],lim [1],.sl 4 []]]:=by
   show [qtA ((1:Rat),[])]=_;rw [Zbq];rfl
  clear hx hlen hlp hkk hkp hpa hpl b0 b1 b2 b3 b4 b5 p1 p2 p3 e0 hq hL hk;have cS1:Pure Tryz.prog 58 [.sl 4 (a.map qtA),n.av] (.sl 1 ((List.range (mm+1)).map λk=>qpA (woL n a k))):=cS0;clear cS0;show Pure _ _ [.sl 4 (a.map qtA),.agg [iv q1,iv q2,iv q3,iv q4],.agg [.sl 4 (num.map qtA),.sl 4 (den.map qtA)]] _;have h00:(hnX (paQ n a) (sclT (s:Rat) num) den mm 0).map qtA=[]:=rfl;generalize hHN:(λi=>(hnX (paQ n a) (sclT (s:Rat) num) den mm i).map qtA)=HN at *;have hHN:∀i,(hnX (paQ n a) (sclT (s:Rat) num) den mm i).map qtA=HN i:=λi=>by rw [←hHN]
  generalize hXX:(λi=>(mulX (hnX (paQ n a) (sclT (s:Rat) num) den mm i) (sclT (s:Rat) num)).map qtA)=XX at *;have hXX:∀i,(mulX (hnX (paQ n a) (sclT (s:Rat) num) den mm i) (sclT (s:Rat) num)).map qtA=XX i:=λi=>by rw [←hXX]
  generalize hYY:(λi=>(mulX (paQ n a (mm - i)) (pwX den i)).map qtA)=YY at *;have hYY:∀i,(mulX (paQ n a (mm - i)) (pwX den i)).map qtA=YY i:=λi=>by rw [←hYY]
  generalize hDN:(λi=>(pwX den i).map qtA)=DN at *;have hDN:∀i,(pwX den i).map qtA=DN i:=λi=>by rw [←hDN]
  generalize hPN:(λi=>(paQ n a i).map qtA)=PN at *;have hPN:∀i,(paQ n a i).map qtA=PN i:=λi=>by rw [←hPN]
  simp only [hHN,hXX,hYY,hDN,hPN] at cX cN cY cA cD h00 d00 ⊢;clear hHN hXX hYY hDN hPN;generalize (List.range (mm+1)).map (λk=>qpA (woL n a k))=PT at *;obtain⟨n1,n2,n3,n4⟩:=n;generalize a.map qtA=A at *;have cUV:s=1→num.map qtA=(sclT (s:Rat) num).map qtA:=λh=>by rw [h];show _=(sclT 1 num).map qtA;rw [scl_one]
  generalize (sclT (s:Rat) num).map qtA=V at *;generalize (mulX [((-1:Rat),[])] num).map qtA=W at *;generalize num.map qtA=U at *;generalize den.map qtA=D at *;generalize [((-1:Rat),[])].map qtA=NG at *;have cS:Pure Tryz.prog 58 [.sl 4 A,.agg [iv n1,iv n2,iv n3,iv n4]] (.sl 1 PT):=cS1;clear cS1;have hmm1:((mm+1:Nat):Int) - 1=(mm:Int):=by omega
  clear hN hs hs0 hpn hv lv hu hd ha hmm;rcases hs' with rfl | rfl
  rotate_left
  have hV:=hVU rfl
  rotate_left
  have hV:=hVW rfl;all_goals (
   subst hV;clear hVU hVW;refine Zaa (tok:=0) Tryz.func13 rfl Tryz.ntmps13 Tryz.results13 Tryz.call13 (by rfl) (by simp) ?_;(focus (refine wkad (w_2 hmm1 hpl2) (w_7 cn cM1 cM2 cM cS c1 cc) w_t ?_;(repeat' first|exact w_t|apply w_l);all_goals intros));refine Zej (Frz.nil (d:=11) 4 (by exact gC)) ?_;refine Zad (ι:=Nat) (λi e m=>i≤mm+1∧(∃g x,e 5=.pbox 5 g 0∧m 5=some (.box g 27 [x,.sl 4 D] false))∧(∃g,e 6=.pbox 6 g 0∧m 6=some (.box g 27 [.v (.slice none 0 0),.v (.slice none 0 0)] false))∧(e 9=.sl 4 V∧e 10=.sl 1 PT)∧e 11=.sl 4 (HN i)∧e 12=.sl 4 (DN (min i mm))∧e 13=.v (.int .i64 ((mm:Int) - (i:Int)))) (λi=>mm+1 - i) 0 (by rfl) ?_ ?_
   ·rintro i e m ⟨hi,⟨g5,x5,e5,m5⟩,⟨g6,e6,m6⟩,⟨e9,e10⟩,e11,e12,e13⟩
    by_cases hlt:i≤mm
    ·obtain⟨k,hk⟩:∃k,mm=i+k:=⟨mm - i,by omega⟩;have h13:(mm:Int) - (i:Int)=(k:Int):=by omega
     have hmin:min i mm=i:=by omega
     have x1:=cX i hlt;have y1:=cY i hlt;have a1:=cA i hlt;have k1:=cN k;have hg:=hpg k (by omega);have hk3:k < PT.length:=by omega
     have h13':(k:Int) - 1=(mm:Int) - ((i+1:Nat):Int):=by omega
     rw [h13] at e13;rw [hmin] at e12;rw [show mm - i=k by omega] at y1;have cDi:=cD i;clear cX cY cA cN cD hpg cn cS c1 cc cM cM1 cM2 h00 d00;generalize (woL _ a k).map qtA=WK at *;by_cases hk0:k=0
     ·have hmin':min (i+1) mm=i:=by omega
      have hk0':¬(k:Int) > 0:=by omega
      (focus (refine wkad (w_12 e5 m5 e6 m6 e9 e10 e11 e12 e13 hpl2 hg hk0') (w_4 k1 x1 y1 a1) (w_1 (w_d 13 [(2,.sl 4 (XX i)),(7,.sl 4 (PN k)),(9,.sl 4 (YY i)),(10,.sl 4 (HN (i+1)))] [] [])) ?_;(repeat' first|exact w_t|apply w_l);all_goals intros));exact⟨i+1,⟨by omega,⟨g5,x5,by exact gW e5,by exact gW m5⟩,⟨g6,by exact gW e6,by exact gW m6⟩,⟨by exact gW e9,by exact gW e10⟩,by exact gC,by rw [hmin'];exact gW e12,by rw [←h13'];exact gC⟩,by omega⟩
     ·have hmin':min (i+1) mm=i+1:=by omega
      have hk0':(k:Int) > 0:=by omega
      have d1:=cDi (by omega);(focus (refine wkad (w_12 e5 m5 e6 m6 e9 e10 e11 e12 e13 hpl2 hg hk0') (w_5 k1 x1 y1 a1 d1) (w_1 (w_d 13 [(2,.sl 4 (XX i)),(7,.sl 4 (PN k)),(9,.sl 4 (YY i)),(10,.sl 4 (HN (i+1)))] [] [])) ?_;(repeat' first|exact w_t|apply w_l);all_goals intros));exact⟨i+1,⟨by omega,⟨g5,x5,by exact gW e5,by exact gW m5⟩,⟨g6,by exact gW e6,by exact gW m6⟩,⟨by exact gW e9,by exact gW e10⟩,by exact gC,by rw [hmin'];exact gC,by rw [←h13'];exact gC⟩,by omega⟩
    ·have him:i=mm+1:=by omega
     have h13:(mm:Int) - (i:Int)=-1:=by omega
     have hmin:min i mm=mm:=by omega
     rw [h13] at e13;rw [hmin] at e12;subst him;clear cX cY cA cN cD hpg cn cS c1 cc cM cM1 cM2 h00 d00 h13 hmin;generalize HN (mm+1)=H at *;generalize DN mm=E at *;(focus (refine wkad (w_9 e5 m5 e6 m6 e9 e10 e11 e12 e13) w_t w_t ?_;(repeat' first|exact w_t|apply w_l);all_goals intros));all_goals (all_goals (try simp (disch:=omega) only [go_sem,e6,m6,decide_eq_true,decide_eq_false,if_pos,if_neg,Int.reduceAdd,Int.reduceSub,Int.reduceToNat,Int.zero_add]));(all_goals first|done|rfl|(congr 2;first|done|omega|(rw [Bool.eq_iff_iff];simp only [bool_to_prop,Bool.false_eq_true,iff_true,true_iff,iff_false,false_iff];omega))|skip)
   ·exact⟨Nat.zero_le _,⟨_,_,by exact gC,by exact gC⟩,⟨_,by exact gC,by exact gC⟩,⟨by exact gC,by exact gC⟩,by rw [h00];exact gC,by rw [Nat.zero_min,d00];exact gC,by rw [show(mm:Int) - ((0:Nat):Int)=(mm:Int) by omega];exact gC⟩)
attribute [local go_sem] Tryz.underlying36 Tryz.underlying33 Tryz.underlying9 Zcr zStr Tryz.underlying110 Tryz.underlying55 Tryz.underlying56
abbrev cQ (a:Rat):List AV:=[.v (.bool (decide (a.num < 0))),lim (toL a.num.natAbs),lim (toL a.den)]
def pV (ps:List PQ) (rs:List Rat) (t:Rat × List Qt):Nat→Rat
 | 0=>t.1
 | i+1=>pV ps rs t i*Qt.val (t.2.getD i Qt.zero) ps rs
def eV (ps:List PQ) (rs:List Rat) (l:QTs):Nat→Rat
 | 0=>0
 | i+1=>eV ps rs l i+pV ps rs (l.getD i (0,[])) (l.getD i (0,[])).2.length
def chQ (n m:Int):List Qt→Int
 | []=>0
 | q :: l=>if Qt.chk q n m=0 then chQ n m l else Qt.chk q n m
def chE (n m:Int):QTs→Int
 | []=>0
 | t :: l=>if chQ n m t.2=0 then chE n m l else chQ n m t.2
theorem chQ_all {n m:Int}:∀{p:List Qt},(∀j (h:j < p.length),Qt.chk p[j] n m=0)→chQ n m p=0
 | [],_=>rfl
 | q :: l,h=>by
   have h0:Qt.chk q n m=0:=h 0 (by simp);unfold chQ;rw [if_pos h0];exact chQ_all λj hj=>h (j+1) (by simpa using hj)
theorem chQ_at {n m:Int}:∀{p:List Qt} {i:Nat} (hi:i < p.length),(∀j (h:j < p.length),j < i→Qt.chk p[j] n m=0)→Qt.chk p[i] n m≠0→chQ n m p=Qt.chk p[i] n m
 | q :: l,0,_,_,h2=>by
   have h2:Qt.chk q n m≠0:=h2;unfold chQ;rw [if_neg h2];rfl
 | q :: l,i+1,hi,h,h2=>by
   have h0:Qt.chk q n m=0:=h 0 (by simp) (by omega);unfold chQ;rw [if_pos h0];exact chQ_at (by simpa using hi) (λj hj hji=>h (j+1) (by simpa using hj) (by omega)) h2
theorem chE_all {n m:Int}:∀{l:QTs},(∀j (h:j < l.length),chQ n m l[j].2=0)→chE n m l=0
 | [],_=>rfl
 | q :: l,h=>by
   have h0:chQ n m q.2=0:=h 0 (by simp);unfold chE;rw [if_pos h0];exact chE_all λj hj=>h (j+1) (by simpa using hj)
theorem chE_at {n m:Int}:∀{l:QTs} {i:Nat} (hi:i < l.length),(∀j (h:j < l.length),j < i→chQ n m l[j].2=0)→chQ n m l[i].2≠0→chE n m l=chQ n m l[i].2
 | q :: l,0,_,_,h2=>by
   have h2:chQ n m q.2≠0:=h2;unfold chE;rw [if_neg h2];rfl
 | q :: l,i+1,hi,h,h2=>by
   have h0:chQ n m q.2=0:=h 0 (by simp) (by omega);unfold chE;rw [if_pos h0];exact chE_at (by simpa using hi) (λj hj hji=>h (j+1) (by simpa using hj) (by omega)) h2
theorem pV_sz {ps:List PQ} {rs:List Rat} {t:Rat × List Qt} {k j:Nat} (ht:Sz t.1 k) (hp:∀p∈ps,PQ.sz p j) (hq:∀r∈rs,Sz r j) (hj:1≤j):∀i,i≤t.2.length→(∀a (h:a < t.2.length),a < i→Qt.chk t.2[a] ps.length rs.length=0)→Sz (pV ps rs t i) (k+i*(8*j+6))
 | 0,_,_=>by unfold pV;exact ht.mono (by omega)
 | i+1,hi,h=>by
   have h1:=pV_sz ht hp hq hj i (by omega) λa ha hai=>h a ha (by omega);have e:t.2.getD i Qt.zero=t.2[i]:=Zcz (by omega);have h2:=val_sz hp hq hj (h i (by omega) (by omega));have h2:Sz (Qt.val t.2[i] ps rs) (8*j+6):=h2;unfold pV;rw [e];refine(h1.mul h2).mono ?_;rw [Nat.add_one_mul i (8*j+6)];generalize i*(8*j+6)=z;omega
theorem chQ_zero {n m:Int}:∀{p:List Qt},chQ n m p=0→∀j (h:j < p.length),Qt.chk p[j] n m=0
 | [],_=>λj hj=>by simp at hj
 | q :: l,h=>by
   unfold chQ at h;by_cases h0:Qt.chk q n m=0
   ·rw [if_pos h0] at h;intro j hj
    cases j with
    | zero=>exact h0
    | succ j=>exact chQ_zero h j (by simpa using hj)
   ·rw [if_neg h0] at h;exact absurd h h0
theorem eV_sz {ps:List PQ} {rs:List Rat} {l:QTs} {K j nQ:Nat} (h:∀t∈l,t.2.length≤nQ∧Sz t.1 K) (hp:∀p∈ps,PQ.sz p j) (hq:∀r∈rs,Sz r j) (hj:1≤j):∀i,i≤l.length→(∀a (h:a < l.length),a < i→chQ ps.length rs.length l[a].2=0)→Sz (eV ps rs l i) (1+i*(K+nQ*(8*j+6)+1))
 | 0,_,_=>by unfold eV;exact(Zl3 0 (by omega)).mono (by omega)
 | i+1,hi,hc=>by
   have h1:=eV_sz h hp hq hj i (by omega) λa ha hai=>hc a ha (by omega);have e:l.getD i (0,[])=l[i]:=Zcz (by omega);have hm:=h l[i] (List.getElem_mem (by omega));have hz:=chQ_zero (hc i (by omega) (by omega));have h2:=pV_sz (t:=l[i]) hm.2 hp hq hj l[i].2.length (Nat.le_refl _) λa ha _=>hz a ha;have h3:l[i].2.length*(8*j+6)≤nQ*(8*j+6):=Nat.mul_le_mul_right _ hm.1;unfold eV;rw [e];refine(h1.add h2).mono ?_;rw [Nat.add_one_mul i (K+nQ*(8*j+6)+1)];generalize i*(K+nQ*(8*j+6)+1)=z;omega
abbrev cQ0:List AV:=[.v (.bool false),.v (.slice none 0 0),.v (.slice none 0 0)]
theorem exValueG (l:QTs) (ps:List PQ) (rs:List Rat) {K j nQ nT:Nat} (hl:l.length≤nT) (hT:nT≤100000) (h:∀t∈l,t.2.length≤nQ∧Sz t.1 K) (hQ:nQ≤100000) (hB:nT*(K+nQ*(8*j+6)+1)≤900000) (hpl:ps.length≤1000) (hrl:rs.length≤1000) (hp:∀p∈ps,PQ.sz p j) (hq:∀r∈rs,Sz r j) (hj:1≤j) (hj2:j≤10) :
 Pure Tryz.prog 31 [.sl 4 (l.map qtA),.sl 6 (ps.map PQ.av),.sl 3 (rs.map ratQ)] (if chE ps.length rs.length l=0 then .tup [ratQ (eV ps rs l l.length),iv 0] else .tup [Zmw,iv (chE ps.length rs.length l)]):=by
 have hlm:(l.map qtA).length=l.length:=List.length_map ..;have hg:∀i (h:i < l.length),(l.map qtA).getD i .u=.agg [.v (.bool (decide (l[i].1.num < 0))),lim (toL l[i].1.num.natAbs),lim (toL l[i].1.den),.sl 4 (l[i].2.map Qt.av)]:=λi h=>Za0 qtA h;have c0:Pure Tryz.prog 57 [iv 0] (.agg (cQ (0:Rat))):=Znh 0 (by omega);have cv:∀q:Qt,Pure Tryz.prog 39 [.agg [iv q.k,iv q.a,iv q.b,iv q.c],.sl 6 (ps.map PQ.av),.sl 3 (rs.map ratQ)] (if Qt.chk q ps.length rs.length=0 then .tup [ratQ (Qt.val q ps rs),iv 0] else .tup [Zmw,iv (Qt.chk q ps.length rs.length)]):=λq=>quValue q.k q.a q.b q.c ps rs (by omega) (by omega) hp hq (by omega)
 have zV:∀q:Qt,Qt.chk q ps.length rs.length=0→Sz (Qt.val q ps rs) (8*j+6):=λq hc=>val_sz hp hq hj hc;have zP:∀a (ha:a < l.length) i,i≤l[a].2.length→(∀b (h:b < l[a].2.length),b < i→Qt.chk l[a].2[b] ps.length rs.length=0)→Sz (pV ps rs l[a] i) 900000:=λa ha i hi hc=>by
  have hm:=h l[a] (List.getElem_mem ha);have h3:i*(8*j+6)≤nQ*(8*j+6):=Nat.mul_le_mul_right _ (by omega);have h4:K+nQ*(8*j+6)+1≤nT*(K+nQ*(8*j+6)+1):=Nat.le_mul_of_pos_left _ (by omega);exact(pV_sz hm.2 hp hq hj i hi hc).mono (by omega)
 have zE:∀i,i≤l.length→(∀a (h:a < l.length),a < i→chQ ps.length rs.length l[a].2=0)→Sz (eV ps rs l i) 900001:=λi hi hc=>by
  have h3:i*(K+nQ*(8*j+6)+1)≤nT*(K+nQ*(8*j+6)+1):=Nat.mul_le_mul_right _ (by omega);exact(eV_sz h hp hq hj i hi hc).mono (by omega)
 have ql:∀a (ha:a < l.length),l[a].2.length≤nQ:=λa ha=>(h l[a] (List.getElem_mem ha)).1;clear h hp hq;generalize l.map qtA=L at *;generalize ps.map PQ.av=A at *;generalize rs.map ratQ=B at *;generalize hR:(if chE ps.length rs.length l=0 then AV.tup [ratQ (eV ps rs l l.length),iv 0] else .tup [Zmw,iv (chE ps.length rs.length l)])=R at *;generalize (ps.length:Int)=n at *;generalize (rs.length:Int)=mm at *;refine Zaa (tok:=0) Tryz.func31 rfl Tryz.ntmps31 Tryz.results31 Tryz.call31 (by rfl) (by simp) ?_;(focus (refine wkad (w_1 hlm) (w_1 c0) w_t ?_;(repeat' first|exact w_t|apply w_l);all_goals intros))
 refine Zad (ι:=Nat) (λi e m=>i≤l.length∧(e 1=.sl 6 A∧e 2=.sl 3 B∧e 17=.sl 4 L∧e 18=iv l.length∧e 19=iv i)∧(∃g,e 6=.pbox 6 g 0∧m 6=some (.box g 45 (cQ0) false))∧(∃g,e 8=.pbox 8 g 0∧m 8=some (.box g 45 (cQ (eV ps rs l i)) false))∧∀a (h:a < l.length),a < i→chQ n mm l[a].2=0) (λi=>l.length - i) 0 (by rfl) ?_ ?_
 ·rintro i e m ⟨hi,⟨e1,e2,e17,e18,e19⟩,⟨g6,e6,m6⟩,⟨g8,e8,m8⟩,hc⟩
  by_cases hlt:i < l.length
  ·have hgi:=hg i hlt;have hqm:(l[i].2.map Qt.av).length=l[i].2.length:=List.length_map ..;have hqe:∀b (h:b < l[i].2.length),(l[i].2.map Qt.av).getD b .u=.agg [iv l[i].2[b].k,iv l[i].2[b].a,iv l[i].2[b].b,iv l[i].2[b].c]:=λb h=>Za0 Qt.av h;have hzi:=zE i hi hc
   have hnx:eV ps rs l (i+1)=eV ps rs l i+pV ps rs l[i] l[i].2.length:=by
    have e:l.getD i (0,[])=l[i]:=Zcz hlt;show eV ps rs l i+pV ps rs (l.getD i (0,[])) (l.getD i (0,[])).2.length=_;rw [e]
   have hp0:cQ l[i].1=cQ (pV ps rs l[i] 0):=rfl;have hqli:=ql i hlt;generalize hqs:l[i].2.map Qt.av=qs at *;(focus (refine wkad (w_12 e1 e2 e17 e18 e19 hlm hgi hqm e6 m6 e8 m8) w_t w_t ?_;(repeat' first|exact w_t|apply w_l);all_goals intros));refine Zad (ι:=Nat) (λb e m=>b≤l[i].2.length∧(e 1=.sl 6 A∧e 2=.sl 3 B∧e 17=.sl 4 L∧e 18=iv l.length∧e 19=iv i∧e 26=.sl 4 qs∧e 27=iv l[i].2.length∧e 28=iv b)∧(∃g,e 6=.pbox 6 g 0∧m 6=some (.box g 45 (cQ0) false))∧(∃g,e 8=.pbox 8 g 0∧m 8=some (.box g 45 (cQ (eV ps rs l i)) false))∧(∃g,e 11=.pbox 11 g 0∧m 11=some (.box g 45 (cQ (pV ps rs l[i] b)) false))∧∀a (h:a < l[i].2.length),a < b→Qt.chk l[i].2[a] n mm=0) (λb=>l[i].2.length - b) 0 (by rfl) ?_ ?_
   ·rintro b e m ⟨hb,⟨e1,e2,e17,e18,e19,e26,e27,e28⟩,⟨g6,e6,m6⟩,⟨g8,e8,m8⟩,⟨ga,ea,ma⟩,hcb⟩
    have hzp:=zP i hlt b hb hcb;by_cases hbl:b < l[i].2.length
    ·have hqb:=hqe b hbl;have cvb:=cv l[i].2[b];by_cases hch:Qt.chk l[i].2[b] n mm=0
     ·rw [if_pos hch] at cvb;have hzv:=zV _ hch;have cm:=Zip (pV ps rs l[i] b) (Qt.val l[i].2[b] ps rs) hzp hzv (by omega) (by omega)
      have hpn:pV ps rs l[i] (b+1)=pV ps rs l[i] b*Qt.val l[i].2[b] ps rs:=by
       have e:l[i].2.getD b Qt.zero=l[i].2[b]:=Zcz hbl;show pV ps rs l[i] b*Qt.val (l[i].2.getD b Qt.zero) ps rs=_;rw [e]
      rw [←hpn] at cm;have hc2:∀a (h:a < l[i].2.length),a < b+1→Qt.chk l[i].2[a] n mm=0:=λa h ha=>by
       rcases Nat.lt_or_ge a b with h1 | h1
       ·exact hcb a h h1
       ·have:a=b:=by omega
        subst this;exact hch
      have cm:Pure Tryz.prog _ [.agg (cQ (pV ps rs l[i] b)),.agg (cQ (Qt.val l[i].2[b] ps rs))] (.agg (cQ (pV ps rs l[i] (b+1)))):=cm;have cvb:Pure Tryz.prog _ _ (.tup [.agg (cQ (Qt.val l[i].2[b] ps rs)),iv 0]):=cvb;clear hcb hch hzv hzp hpn zV zP zE cv hqe hnx hp0;(focus (refine wkad (w_16 e1 e2 e17 e18 e19 e26 e27 e28 hqm hqb e6 m6 e8 m8 ea ma) (w_2 cvb cm) w_t ?_;(repeat' first|exact w_t|apply w_l);all_goals intros));exact⟨b+1,⟨by omega,⟨by exact gW e1,by exact gW e2,by exact gW e17,by exact gW e18,by exact gW e19,by exact gW e26,by exact gW e27,by exact gS⟩,⟨_,by exact gW e6,by exact gW m6⟩,⟨_,by exact gW e8,by exact gW m8⟩,⟨_,by exact gW ea,by exact gC⟩,hc2⟩,by omega⟩
     ·rw [if_neg hch] at cvb;have ha:=chQ_at hbl hcb hch;have hb2:=chE_at hlt hc (by rw [ha];exact hch);rw [hb2,ha,if_neg hch] at hR;rw [←hR];generalize Qt.chk l[i].2[b] n mm=ch at *;clear zV zP zE cv hqe hnx hp0;(focus (refine wkad (w_16 e1 e2 e17 e18 e19 e26 e27 e28 hqm hqb e6 m6 e8 m8 ea ma) (w_1 cvb) w_t ?_;(repeat' first|exact w_t|apply w_l);all_goals intros));all_goals (all_goals (try simp (disch:=omega) only [go_sem,e6,m6,decide_eq_true,decide_eq_false,if_pos,if_neg,Int.reduceAdd,Int.reduceSub,Int.reduceToNat,Int.zero_add]));(all_goals first|done|rfl|(congr 2;first|done|omega|(rw [Bool.eq_iff_iff];simp only [bool_to_prop,Bool.false_eq_true,iff_true,true_iff,iff_false,false_iff];omega))|skip)
    ·have:b=l[i].2.length:=by omega
     subst this;have hch:chQ n mm l[i].2=0:=chQ_all λa h=>hcb a h h;have hc2:∀a (h:a < l.length),a < i+1→chQ n mm l[a].2=0:=λa h ha=>by
      rcases Nat.lt_or_ge a i with h1 | h1
      ·exact hc a h h1
      ·have:a=i:=by omega
       subst this;exact hch
     have ca:=Zni (eV ps rs l i) (pV ps rs l[i] l[i].2.length) hzi hzp (by omega) (by omega);rw [←hnx] at ca;have ca:Pure Tryz.prog _ [.agg (cQ (eV ps rs l i)),.agg (cQ (pV ps rs l[i] l[i].2.length))] (.agg (cQ (eV ps rs l (i+1)))):=ca;clear zV zP zE cv hqe hnx hp0;(focus (refine wkad (w_17 e1 e2 e17 e18 e19 e26 e27 e28 hlm hgi hqm e6 m6 e8 m8 ea ma) (w_1 ca) w_t ?_;(repeat' first|exact w_t|apply w_l);all_goals intros));exact⟨i+1,⟨by omega,⟨by exact gW e1,by exact gW e2,by exact gW e17,by exact gW e18,by exact gS⟩,⟨_,by exact gW e6,by exact gW m6⟩,⟨_,by exact gW e8,by exact gC⟩,hc2⟩,by omega⟩
   ·exact⟨Nat.zero_le _,⟨by exact gW e1,by exact gW e2,by exact gW e17,by exact gW e18,by exact gW e19,by exact gC,by exact gW hqm,by exact gC⟩,⟨_,by exact gW e6,by exact gW m6⟩,⟨_,by exact gW e8,by exact gW m8⟩,⟨_,by exact gC,by rw [←hp0];exact gC⟩,λa h ha=>by omega⟩
  ·have:i=l.length:=by omega
   subst this;rw [if_pos (chE_all λa h=>hc a h h)] at hR;have hR:AV.tup [.agg (cQ (eV ps rs l l.length)),iv 0]=R:=hR;rw [←hR];(focus (refine wkad (w_10 e1 e2 e17 e18 e19 hlm e6 m6 e8 m8) w_t w_t ?_;(repeat' first|exact w_t|apply w_l);all_goals intros));all_goals (all_goals (try simp (disch:=omega) only [go_sem,e6,m6,decide_eq_true,decide_eq_false,if_pos,if_neg,Int.reduceAdd,Int.reduceSub,Int.reduceToNat,Int.zero_add]));(all_goals first|done|rfl|(congr 2;first|done|omega|(rw [Bool.eq_iff_iff];simp only [bool_to_prop,Bool.false_eq_true,iff_true,true_iff,iff_false,false_iff];omega))|skip)
 ·exact⟨Nat.zero_le _,⟨by exact gC,by exact gC,by exact gC,by exact gW hlm,by exact gC⟩,⟨_,by exact gC,by exact gC⟩,⟨_,by exact gC,by exact gC⟩,λa h ha=>by omega⟩
theorem chE_zero {n m:Int}:∀{p:QTs},chE n m p=0→∀j (h:j < p.length),chQ n m p[j].2=0
 | [],_=>λj hj=>by simp at hj
 | q :: l,h=>by
   unfold chE at h;by_cases h0:chQ n m q.2=0
   ·rw [if_pos h0] at h;intro j hj
    cases j with
    | zero=>exact h0
    | succ j=>exact chE_zero h j (by simpa using hj)
   ·rw [if_neg h0] at h;exact absurd h h0
end Go.Proofs.YtjekhacnoopdpaaGreatDoor
namespace Go.Proofs.YtjekhacnoopdpaaGreatDoor
open Go Go.RowKit Go.Pg
attribute [-bool_to_prop] Bool.and_eq_decide Bool.or_eq_decide Bool.decide_beq_decide decide_eq_decide
attribute [local go_sem] Tryz.underlying3 Tryz.underlying2 Tryz.underlying153 Tryz.underlying169 Tryz.underlying4 Tryz.underlying36 Tryz.underlying25 Tryz.underlying47 Tryz.underlying45 Tryz.underlying41 Tryz.underlying43 Tryz.underlying110 Tryz.underlying56 Tryz.underlying55 sz3 by3 z3 szL byL zL Zaj Zaw Zhl zErr Zbd zRat Zbe zNat Zbf zInt szB zB szPt byPt zPt Zak Bool.and_self
theorem cross_swap (A B C:PQ):Zgf A B A C=- Zgf B A B C:=by unfold Zgf;grind
theorem cross_turn (A B C:PQ):Zgf A B A C=Zgf B C B A:=by unfold Zgf;grind
theorem dot_swap (A B C:PQ):dotP B A B C=dotP B C B A:=by unfold dotP;grind
theorem norm_facts {k a b c:Int} {ps:List PQ} {rs:List Rat} (h:Qt.chk ⟨k,a,b,c⟩ ps.length rs.length=0) (hl:ps.length≤40) :
 (Qt.norm ⟨k,a,b,c⟩=(Qt.zero,0)∧Qt.val ⟨k,a,b,c⟩ ps rs=0) ∨
 (∃(k1 a1 b1 c1 s:Int),Qt.norm ⟨k,a,b,c⟩=(⟨k1,a1,b1,c1⟩,s)∧(s=1∨s=-1)∧Qt.norm ⟨k1,a1,b1,c1⟩=(⟨k1,a1,b1,c1⟩,1)∧Qt.chk ⟨k1,a1,b1,c1⟩ ps.length rs.length=0∧Qt.val ⟨k,a,b,c⟩ ps rs=Qt.val ⟨k1,a1,b1,c1⟩ ps rs*(s:Rat)):=by
 have hh:=Zqc h
 have hok:Qt.ok ⟨k,a,b,c⟩=true:=by
  unfold Qt.chk at h;split at h
  ·assumption
  ·omega
 rcases hh with⟨rfl,h1,h2,h3⟩ | ⟨h0,h1,h2,h3,h4⟩
 ·have hn:Qt.norm ⟨3,a,b,c⟩=(⟨3,a,b,c⟩,1):=by
   unfold Qt.norm;rw [if_pos hok];rfl
  refine .inr ⟨3,a,b,c,1,hn,.inl rfl,hn,h,?_⟩;rw [show((1:Int):Rat)=1 from rfl,Rat.mul_one]
 ·have okN:∀k x y z:Int,(k=1∨k=2)→(0≤x∧x < ps.length)→(0≤y∧y < ps.length)→(0≤z∧z < ps.length)→Qt.ok ⟨k,x,y,z⟩=true:=by
   intro k x y z hk hx hy hz;unfold Qt.ok;rw [decide_eq_true_eq];simp only;omega
  have chN:∀k x y z:Int,(k=1∨k=2)→(0≤x∧x < ps.length)→(0≤y∧y < ps.length)→(0≤z∧z < ps.length)→Qt.chk ⟨k,x,y,z⟩ ps.length rs.length=0:=by
   intro k x y z hk hx hy hz;unfold Qt.chk;rw [if_pos (okN k x y z hk hx hy hz)];simp only;rw [if_neg (by omega),if_neg (by omega)]
  rcases h1 with rfl | rfl
  ·have v1:∀x y z:Int,Qt.val ⟨1,x,y,z⟩ ps rs=Zgf (ps.getD x.toNat (0,0)) (ps.getD y.toNat (0,0)) (ps.getD x.toNat (0,0)) (ps.getD z.toNat (0,0)):=λx y z=>by unfold Qt.val;rfl
   have nN:∀x y z:Int,(0≤x∧x < ps.length)→(0≤y∧y < ps.length)→(0≤z∧z < ps.length)→Qt.norm ⟨1,x,y,z⟩=Zju x y z:=by
    intro x y z hx hy hz;unfold Qt.norm;rw [if_pos (okN 1 x y z (.inl rfl) hx hy hz)];rfl
   have nS:∀x y z:Int,x < y→y < z→Zju x y z=(⟨1,x,y,z⟩,1):=by
    intro x y z hxy hyz;unfold Zju;rw [if_neg (by omega),if_pos hxy,if_pos hyz]
   rw [nN a b c h2 h3 h4,v1];have one:∀x:Rat,x=x*((1:Int):Rat):=λx=>by rw [show((1:Int):Rat)=1 from rfl,Rat.mul_one]
   have neg:∀x:Rat,-x=x*((-1:Int):Rat):=λx=>by rw [show((-1:Int):Rat)=-1 from rfl];grind
   by_cases he:a=b∨b=c∨a=c
   ·refine .inl ⟨by unfold Zju;rw [if_pos he],?_⟩;rcases he with rfl | rfl | rfl
    ·unfold Zgf;grind
    ·unfold Zgf;grind
    ·unfold Zgf;grind
   ·have fin:∀(x y z:Int) (s:Int),Zju a b c=(⟨1,x,y,z⟩,s)→x < y→y < z→(0≤x∧x < ps.length)→(0≤y∧y < ps.length)→(0≤z∧z < ps.length)→(s=1∨s=-1) →
     Zgf (ps.getD a.toNat (0,0)) (ps.getD b.toNat (0,0)) (ps.getD a.toNat (0,0)) (ps.getD c.toNat (0,0))=Qt.val ⟨1,x,y,z⟩ ps rs*(s:Rat) →
     ∃(k1 a1 b1 c1 s:Int),Zju a b c=(⟨k1,a1,b1,c1⟩,s)∧(s=1∨s=-1)∧Qt.norm ⟨k1,a1,b1,c1⟩=(⟨k1,a1,b1,c1⟩,1)∧Qt.chk ⟨k1,a1,b1,c1⟩ ps.length rs.length=0∧Zgf (ps.getD a.toNat (0,0)) (ps.getD b.toNat (0,0)) (ps.getD a.toNat (0,0)) (ps.getD c.toNat (0,0))=Qt.val ⟨k1,a1,b1,c1⟩ ps rs*(s:Rat) :=
     λx y z s e hxy hyz hx hy hz hs hv=>⟨1,x,y,z,s,e,hs,by rw [nN x y z hx hy hz,nS x y z hxy hyz],chN 1 x y z (.inl rfl) hx hy hz,hv⟩
    right;by_cases h5:a < b
    ·by_cases h6:b < c
     ·exact fin a b c 1 (by unfold Zju;rw [if_neg he,if_pos h5,if_pos h6]) h5 h6 h2 h3 h4 (.inl rfl) (by rw [v1];exact one _)
     ·by_cases h7:a < c
      ·exact fin a c b (-1) (by unfold Zju;rw [if_neg he,if_pos h5,if_neg h6,if_pos h7]) h7 (by omega) h2 h4 h3 (.inr rfl) (by rw [v1,←neg,cross_turn,cross_swap,cross_turn (ps.getD a.toNat (0,0))])
      ·exact fin c a b 1 (by unfold Zju;rw [if_neg he,if_pos h5,if_neg h6,if_neg h7]) (by omega) h5 h4 h2 h3 (.inl rfl) (by rw [v1,←one,cross_turn,cross_turn])
    ·by_cases h6:a < c
     ·exact fin b a c (-1) (by unfold Zju;rw [if_neg he,if_neg h5,if_pos h6]) (by omega) h6 h3 h2 h4 (.inr rfl) (by rw [v1,←neg];exact cross_swap _ _ _)
     ·by_cases h7:b < c
      ·exact fin b c a 1 (by unfold Zju;rw [if_neg he,if_neg h5,if_neg h6,if_pos h7]) h7 (by omega) h3 h4 h2 (.inl rfl) (by rw [v1,←one];exact cross_turn _ _ _)
      ·exact fin c b a (-1) (by unfold Zju;rw [if_neg he,if_neg h5,if_neg h6,if_neg h7]) (by omega) (by omega) h4 h3 h2 (.inr rfl) (by rw [v1,←neg];unfold Zgf;grind)
  ·have v2:∀x y z:Int,Qt.val ⟨2,x,y,z⟩ ps rs=2*dotP (ps.getD y.toNat (0,0)) (ps.getD x.toNat (0,0)) (ps.getD y.toNat (0,0)) (ps.getD z.toNat (0,0)):=λx y z=>by unfold Qt.val;rfl
   have nN:∀x y z:Int,(0≤x∧x < ps.length)→(0≤y∧y < ps.length)→(0≤z∧z < ps.length)→Qt.norm ⟨2,x,y,z⟩=Zjt x y z:=by
    intro x y z hx hy hz;unfold Qt.norm;rw [if_pos (okN 2 x y z (.inr rfl) hx hy hz)];rfl
   have one:∀x:Rat,x=x*((1:Int):Rat):=λx=>by rw [show((1:Int):Rat)=1 from rfl,Rat.mul_one]
   rw [nN a b c h2 h3 h4,v2];by_cases he:a=b∨b=c
   ·refine .inl ⟨by unfold Zjt;rw [if_pos he],?_⟩;rcases he with rfl | rfl
    ·unfold dotP;grind
    ·unfold dotP;grind
   ·right;by_cases h5:a=c∧b < a
    ·obtain⟨rfl,h6⟩:=h5;refine⟨2,b,a,b,1,by unfold Zjt;rw [if_neg he,if_pos ⟨rfl,h6⟩],.inl rfl,?_,chN 2 b a b (.inr rfl) h3 h2 h3,?_⟩
     ·rw [nN b a b h3 h2 h3];unfold Zjt;rw [if_neg (by omega),if_neg (by omega),if_neg (by omega)]
     ·rw [v2,←one];unfold dotP;grind
    ·by_cases h6:c < a
     ·refine⟨2,c,b,a,1,by unfold Zjt;rw [if_neg he,if_neg h5,if_pos h6],.inl rfl,?_,chN 2 c b a (.inr rfl) h4 h3 h2,?_⟩
      ·rw [nN c b a h4 h3 h2];unfold Zjt;rw [if_neg (by omega),if_neg (by omega),if_neg (by omega)]
      ·rw [v2,←one,dot_swap]
     ·refine⟨2,a,b,c,1,by unfold Zjt;rw [if_neg he,if_neg h5,if_neg h6],.inl rfl,?_,chN 2 a b c (.inr rfl) h2 h3 h4,?_⟩
      ·rw [nN a b c h2 h3 h4];unfold Zjt;rw [if_neg he,if_neg h5,if_neg h6]
      ·rw [v2,←one]
def sumV (ps:List PQ) (l:List Qt):Rat:=l.foldl (λs q=>s+Qt.val q ps []) 0
end Go.Proofs.YtjekhacnoopdpaaGreatDoor
namespace Go.Proofs.YtjekhacnoopdpaaGreatDoor
open Go Go.RowKit Go.Pg Go.Pol
section
variable {ps:List PQ} {rs:List Rat}
def vlQ (ps:List PQ) (rs:List Rat):List Qt→Rat
 | []=>1
 | q :: l=>Qt.val q ps rs*vlQ ps rs l
theorem vl_app (a b:List Qt):vlQ ps rs (a++b)=vlQ ps rs a*vlQ ps rs b:=by
 induction a with
 | nil=>show vlQ ps rs b=1*_;rw [Rat.one_mul]
 | cons q a ih=>show _*vlQ ps rs (a++b)=_*vlQ ps rs a*_;rw [ih,Rat.mul_assoc]
theorem vl_perm {a b:List Qt} (h:a.Perm b):vlQ ps rs a=vlQ ps rs b:=by
 induction h with
 | nil=>rfl
 | cons q _ ih=>show _*_=_*_;rw [ih]
 | swap q r l=>show Qt.val _ ps rs*(Qt.val _ ps rs*_)=Qt.val _ ps rs*(Qt.val _ ps rs*_);grind
 | trans _ _ h1 h2=>exact h1.trans h2
theorem vl_mu (a b:List Qt):vlQ ps rs (muQ a b)=vlQ ps rs a*vlQ ps rs b:=by rw [vl_perm (Zbt _),vl_app]
theorem pV_take {t:Rat × List Qt}:∀i,i≤t.2.length→pV ps rs t i=t.1*vlQ ps rs (t.2.take i)
 | 0,_=>by show t.1=t.1*1;rw [Rat.mul_one]
 | i+1,h=>by
   have hi:i < t.2.length:=h;show pV ps rs t i*Qt.val (t.2.getD i Qt.zero) ps rs=_;rw [pV_take i (by omega),Zcz hi,List.take_succ_eq_append_getElem hi,vl_app];show _=t.1*(vlQ ps rs (t.2.take i)*(Qt.val t.2[i] ps rs*1))
   grind
theorem eV_take {l:QTs}:∀i,i≤l.length→eV ps rs l i=evl (vlQ ps rs) (l.take i)
 | 0,_=>rfl
 | i+1,h=>by
   have hi:i < l.length:=h;show eV ps rs l i+pV ps rs (l.getD i (0,[])) (l.getD i (0,[])).2.length=_;rw [eV_take i (by omega),Zcz hi,List.take_succ_eq_append_getElem hi,Zws,pV_take _ (Nat.le_refl _),List.take_length];show _=evl (vlQ ps rs) (l.take i)+(l[i].1*vlQ ps rs l[i].2+0);rw [Rat.add_zero]
theorem eV_all (l:QTs):eV ps rs l l.length=evl (vlQ ps rs) l:=by rw [eV_take _ (Nat.le_refl _),List.take_length]
theorem evl_cmul {κ:Type} (a:Rat) (f:κ→Rat) (l:List (Rat × κ)):evl (λk=>a*f k) l=a*evl f l:=by
 induction l with
 | nil=>show(0:Rat)=a*0;rw [Rat.mul_zero]
 | cons t l ih=>simp only [evl];rw [ih];grind
theorem ev_mul (p q:QTs):evl (vlQ ps rs) (mulX p q)=evl (vlQ ps rs) p*evl (vlQ ps rs) q:=by
 rw [Zge Zcc];simp only [vl_mu,evl_cmul];rw [Rat.mul_comm,←evl_cmul];congr 1
 funext k
 rw [Rat.mul_comm]
def pwr (x:Rat):Nat→Rat
 | 0=>1
 | n+1=>pwr x n*x
theorem pwr_add (x:Rat) (m:Nat):∀n,pwr x (m+n)=pwr x m*pwr x n
 | 0=>by show pwr x m=pwr x m*1;rw [Rat.mul_one]
 | n+1=>by show pwr x (m+n)*x=pwr x m*(pwr x n*x);rw [pwr_add x m n,Rat.mul_assoc]
theorem pwr_mul (x y:Rat):∀n,pwr (x*y) n=pwr x n*pwr y n
 | 0=>by show(1:Rat)=1*1;rw [Rat.mul_one]
 | n+1=>by show pwr (x*y) n*(x*y)=pwr x n*x*(pwr y n*y);rw [pwr_mul x y n];grind
theorem pwr_ne {x:Rat} (h:x≠0):∀n,pwr x n≠0
 | 0=>by show(1:Rat)≠0;decide
 | n+1=>by
   intro h0;have h0:pwr x n*x=0:=h0;rcases Rat.mul_eq_zero.1 h0 with h1 | h1
   ·exact pwr_ne h n h1
   ·exact h h1
theorem ev_pw (d:QTs):∀i,evl (vlQ ps rs) (pwX d i)=pwr (evl (vlQ ps rs) d) i
 | 0=>by show(1:Rat)*1+0=1;rw [Rat.mul_one,Rat.add_zero]
 | i+1=>by
   show evl (vlQ ps rs) (mulX (pwX d i) d)=pwr _ i*_;rw [ev_mul,ev_pw d i]
def swX (W:Nat→Rat) (x:Rat):Nat→Rat
 | 0=>0
 | i+1=>swX W x i+W i*pwr x i
theorem ev_rf (P:Nat→QTs) (a d:QTs) (m:Nat) {x:Rat} (hx:evl (vlQ ps rs) a=x*evl (vlQ ps rs) d):∀i,i≤m+1→evl (vlQ ps rs) (rfX P a d m i)=pwr (evl (vlQ ps rs) d) m*swX (λk=>evl (vlQ ps rs) (P k)) x i
 | 0,_=>by show(0:Rat)=_*0;rw [Rat.mul_zero]
 | i+1,h=>by
   show evl (vlQ ps rs) (adG ordQ (rfX P a d m i) (mulX (mulX (P i) (pwX a i)) (pwX d (m - i))))=_*(swX _ x i+evl (vlQ ps rs) (P i)*pwr x i);rw [Zp9 Zcc,ev_rf P a d m hx i (by omega),ev_mul,ev_mul,ev_pw,ev_pw,hx,pwr_mul];have e:=pwr_add (evl (vlQ ps rs) d) i (m - i);rw [show i+(m - i)=m by omega] at e;rw [e];grind
theorem sw_one (W:Nat→Rat) (x y:Rat) (c:Nat):∀i,swX (λk=>if c=k then y+W k else W k) x i=swX W x i+if c < i then y*pwr x c else 0
 | 0=>by show(0:Rat)=0+_;rw [if_neg (by omega),Rat.add_zero]
 | i+1=>by
   show swX _ x i+(if c=i then y+W i else W i)*pwr x i=swX W x i+W i*pwr x i+_;rw [sw_one W x y c i];by_cases h:c=i
   ·subst h;rw [if_pos rfl,if_neg (by omega),if_pos (by omega)];grind
   ·by_cases h2:c < i
    ·rw [if_neg h,if_pos h2,if_pos (by omega)];grind
    ·rw [if_neg h,if_neg h2,if_neg (by omega)];rw [Rat.add_zero,Rat.add_zero]
theorem vl_wo (q:Qt):∀l:List Qt,vlQ ps rs l=vlQ ps rs (woQ q l)*pwr (Qt.val q ps rs) (tmQ q l)
 | []=>by show(1:Rat)=1*1;rw [Rat.mul_one]
 | a :: l=>by
   have ih:=vl_wo q l;show Qt.val a ps rs*vlQ ps rs l=_;unfold woQ tmQ at *;by_cases h:a=q
   ·rw [List.filter_cons_of_neg (by simpa using h),List.filter_cons_of_pos (by simpa using h),List.length_cons,h];show _=_*(pwr _ _*_);rw [ih];grind
   ·rw [List.filter_cons_of_pos (by simpa using h),List.filter_cons_of_neg (by simpa using h)];show _=Qt.val a ps rs*_*_;rw [ih];grind
theorem wo_cons (q:Qt) (t:Rat × List Qt) (a:QTs) (k:Nat):woL q (t :: a) k=if tmQ q t.2=k then (t.1,woQ q t.2) :: woL q a k else woL q a k:=by
 unfold woL;split
 ·rename_i h;rw [List.filter_cons_of_pos (by simpa using h)];rfl
 ·rename_i h;rw [List.filter_cons_of_neg (by simpa using h)]
theorem sw_parts (q:Qt) {M:Nat}:∀a:QTs,(∀t∈a,tmQ q t.2≤M)→swX (λk=>evl (vlQ ps rs) (woL q a k)) (Qt.val q ps rs) (M+1)=evl (vlQ ps rs) a
 | [],_=>by
   have key:∀i,swX (λk=>evl (vlQ ps rs) (woL q [] k)) (Qt.val q ps rs) i=0:=by
    intro i
    induction i with
    | zero=>rfl
    | succ i ih=>show swX _ _ i+(0:Rat)*_=0;rw [ih,Rat.zero_mul,Rat.add_zero]
   exact key _
 | t :: a,h=>by
   have ih:=sw_parts q a λu hu=>h u (.tail _ hu)
   have e:(λk=>evl (vlQ ps rs) (woL q (t :: a) k))=λk=>if tmQ q t.2=k then t.1*vlQ ps rs (woQ q t.2)+evl (vlQ ps rs) (woL q a k) else evl (vlQ ps rs) (woL q a k):=by
    funext k
    rw [wo_cons];split
    ·rfl
    ·rfl
   rw [e,sw_one (λk=>evl (vlQ ps rs) (woL q a k)),ih,if_pos (Nat.lt_succ_of_le (h t (.head _)))];show _=t.1*vlQ ps rs t.2+evl (vlQ ps rs) a;rw [vl_wo q t.2];grind
theorem tm_mo {q:Qt} {a:QTs}:∀t∈a,tmQ q t.2≤moQ q a:=by
 have key:∀(a:QTs) (s:Nat),s≤a.foldl (λn t=>max n (tmQ q t.2)) s∧∀t∈a,tmQ q t.2≤a.foldl (λn t=>max n (tmQ q t.2)) s:=by
  intro a
  induction a with
  | nil=>exact λs=>⟨Nat.le_refl _,λt ht=>by cases ht⟩
  | cons u a ih =>
    intro s;obtain⟨h1,h2⟩:=ih (max s (tmQ q u.2));refine⟨Nat.le_trans (Nat.le_max_left _ _) h1,λt ht=>?_⟩;rcases List.mem_cons.1 ht with rfl | ht
    ·exact Nat.le_trans (Nat.le_max_right _ _) h1
    ·exact h2 t ht
 exact(key a 0).2
theorem ev_rep (q:Qt) (a num den:QTs) (hx:evl (vlQ ps rs) num=Qt.val q ps rs*evl (vlQ ps rs) den):evl (vlQ ps rs) (rpN q a num den)=evl (vlQ ps rs) a*evl (vlQ ps rs) (rpD q a den):=by
 rw [ev_rf (paQ q a) num den (moQ q a) hx _ (Nat.le_refl _),ev_pw]
 have e:(λk=>evl (vlQ ps rs) (paQ q a k))=λk=>evl (vlQ ps rs) (woL q a k):=by
  funext k
  exact Zry Zcc _ _
 rw [e,sw_parts q a λt ht=>tm_mo t ht,Rat.mul_comm]
end
def alQ (C:Qt→Prop) (l:QTs):Prop:=∀t∈l,∀q∈t.2,C q
section
variable {C:Qt→Prop}
theorem alQ.join {p q:QTs} (hp:alQ C p) (hq:alQ C q):alQ C (Zb4 p q):=λt ht=>by
 obtain⟨s,hs,e⟩:=Zl6 ht;rw [e];rcases List.mem_append.1 hs with h | h
 ·exact hp s h
 ·exact hq s h
theorem alQ.gat {l:QTs} (h:alQ C l):alQ C (gatM l):=by
 rw [←mul_fin];intro t ht;exact Zxn (P:=λx=>∀q∈x,C q) l [] (λt ht=>by cases ht) h t (List.mem_filter.1 ((Zbt _).mem_iff.1 ht)).1
theorem alQ.mul {p q:QTs} (hp:alQ C p) (hq:alQ C q):alQ C (mulX p q):=alQ.gat λu hu=>by
 obtain⟨s,hs,t,ht,rfl⟩:=Zhq hu;intro x hx;rcases List.mem_append.1 ((Zbt _).mem_iff.1 hx) with h | h
 ·exact hp s hs x h
 ·exact hq t ht x h
theorem alQ.pw {d:QTs} (h:alQ C d):∀i,alQ C (pwX d i)
 | 0=>λt ht x hx=>by
   rw [List.mem_singleton.1 ht] at hx;cases hx
 | i+1=>(h.pw i).mul h
theorem alQ.part {a:QTs} (h:alQ C a) (q:Qt) (k:Nat):alQ C (paQ q a k):=alQ.gat λu hu x hx=>by
 obtain⟨t,ht,rfl⟩:=mem_wo hu;exact h t ht x (List.mem_filter.1 hx).1
theorem alQ.scl {p:QTs} (h:alQ C p) (s:Rat):alQ C (sclT s p):=λu hu=>by
 obtain⟨t,ht,rfl⟩:=List.mem_map.1 hu;exact h t ht
theorem alQ.rf {P:Nat→QTs} {a d:QTs} (hP:∀k,alQ C (P k)) (ha:alQ C a) (hd:alQ C d) (m:Nat):∀i,alQ C (rfX P a d m i)
 | 0=>λt ht=>by cases ht
 | i+1=>(alQ.rf hP ha hd m i).join (((hP i).mul (ha.pw i)).mul (hd.pw (m - i)))
end
theorem chE_of {n m:Int} {l:QTs} (h:alQ (λq=>Qt.chk q n m=0) l):chE n m l=0:=chE_all λj hj=>chQ_all λi hi=>h _ (List.getElem_mem hj) _ (List.getElem_mem hi)
theorem chE_al {n m:Int} {l:QTs} (h:chE n m l=0):alQ (λq=>Qt.chk q n m=0) l:=λt ht q hq=>by
 obtain⟨j,hj,rfl⟩:=List.getElem_of_mem ht;obtain⟨i,hi,rfl⟩:=List.getElem_of_mem hq;exact chQ_zero (chE_zero h j hj) i hi
def cstT (u:Rat):QTs:=if u=0 then [] else [(u,[])]
theorem cstT_xb {u:Rat} {k:Nat} (h:Sz u k):XB (cstT u) (k+1) 0:=by
 have hd:=Zag.1 h.2;have hn:=Zag.1 h.1;have hk:65536 ^ k < 65536 ^ (k+1):=Nat.pow_lt_pow_right (by omega) (by omega);unfold cstT;split
 ·exact xb_nil.mono (by omega) (Nat.le_refl _)
 ·rename_i h0;refine⟨⟨λt ht=>by rw [List.mem_singleton.1 ht];exact⟨h0,rgQ.de⟩,List.pairwise_singleton _ _⟩,λt ht=>by rw [List.mem_singleton.1 ht];exact Nat.le_refl _,u.den,u.num.natAbs,u.den_nz,by omega,by omega,λt ht=>by rw [List.mem_singleton.1 ht];exact Nat.dvd_refl _,?_⟩;rw [Zbk];exact cl_le.2 (Nat.le_mul_of_pos_right _ (Nat.pos_of_ne_zero u.den_nz))
theorem cstT_len (u:Rat):(cstT u).length≤1:=by unfold cstT;split<;>simp
theorem cstT_ev {ps:List PQ} {rs:List Rat} (u:Rat):evl (vlQ ps rs) (cstT u)=u:=by
 unfold cstT;split
 ·rename_i h;rw [h];rfl
 ·show u*1+0=u;rw [Rat.mul_one,Rat.add_zero]
theorem cstT_al {C:Qt→Prop} (u:Rat):alQ C (cstT u):=by
 unfold cstT;split
 ·exact λt ht=>by cases ht
 ·exact λt ht x hx=>by rw [List.mem_singleton.1 ht] at hx;cases hx
end Go.Proofs.YtjekhacnoopdpaaGreatDoor
namespace Go.Proofs.YtjekhacnoopdpaaGreatDoor
open Go Go.RowKit Go.Pg Go.Pol
attribute [-bool_to_prop] Bool.and_eq_decide Bool.or_eq_decide Bool.decide_beq_decide decide_eq_decide
attribute [local go_sem] Tryz.underlying3 Tryz.underlying4 Tryz.underlying169 Tryz.underlying41 Tryz.underlying43 Tryz.underlying45 Tryz.underlying25 Tryz.underlying47 Tryz.underlying49 Tryz.underlying22 Tryz.underlying23 sz3 by3 z3 szB zB Zbd zRat Zbf zInt Zbe zNat Zaj Zaw Zak Bool.and_self Zan Zbs zSlQ szQT byQT zQT Zby zSlT szQP zQP Tryz.underlying92 Tryz.underlying27 szFr byFr zFr Zfu Zfx zSQP Tryz.underlying36 Tryz.underlying33 Tryz.underlying9 Zcr zStr Tryz.underlying110 Tryz.underlying55 Tryz.underlying56
theorem repVal (p b:QTs) (q:Qt) (ps:List PQ) (rs:List Rat) (hp:XB p 17 2) (hb:XB b 17 2) (lp:p.length≤4) (lb:b.length≤4) (lps:ps.length≤10) (lrs:rs.length≤1000) (sp:∀x∈ps,PQ.sz x 2) (sr:∀x∈rs,Sz x 2)
 (ep:chE ps.length rs.length p=0) (eb:chE ps.length rs.length b=0) (hq:Qt.chk q ps.length rs.length=0) (hw:evl (vlQ ps rs) b≠0) :
 ∃(CU NM N1 D1:List AV) (d:Rat),d≠0∧Sz d 500000∧Pure Tryz.prog 28 [ratQ (Qt.val q ps rs)] (.sl 4 CU)∧Pure Tryz.prog 35 [.sl 4 CU,.sl 4 (b.map qtA)] (.sl 4 NM)∧Pure Tryz.prog 13 [.sl 4 (p.map qtA),q.av,.agg [.sl 4 NM,.sl 4 (b.map qtA)]] (.agg [.sl 4 N1,.sl 4 D1]) ∧
  Pure Tryz.prog 31 [.sl 4 N1,.sl 6 (ps.map PQ.av),.sl 3 (rs.map ratQ)] (.tup [ratQ (evl (vlQ ps rs) p*d),iv 0])∧Pure Tryz.prog 31 [.sl 4 D1,.sl 6 (ps.map PQ.av),.sl 3 (rs.map ratQ)] (.tup [ratQ d,iv 0])∧Sz (evl (vlQ ps rs) p*d) 900001:=by
 have hM:=Zp1;have zu:Sz (Qt.val q ps rs) 22:=by obtain⟨k,a,b,c⟩:=q;exact val_sz sp sr (by omega) hq
 have c1:=Zwn (Qt.val q ps rs) zu (by omega);rw [cst_ok] at c1;have c1:Pure Tryz.prog 28 [ratQ (Qt.val q ps rs)] (.sl 4 ((cstT (Qt.val q ps rs)).map qtA)):=c1;have xc:=cstT_xb zu;have lc:=cstT_len (Qt.val q ps rs);have xn:=xc.mul hb;have l1:(cstT (Qt.val q ps rs)).length*b.length≤1*4:=Nat.mul_le_mul lc lb;have ln:(mulX (cstT (Qt.val q ps rs)) b).length≤4:=Nat.le_trans (Zfm _ _) (by omega);have c2:=Zwk _ _ xc hb (by omega) (by omega) (by omega) (by omega) (by omega) (by omega);have c3:=exReplace p (mulX (cstT (Qt.val q ps rs)) b) b q (L:=4) hp (xn.mono (Nat.le_refl _) (by omega)) (hb.mono (show 17≤22+1+17 by omega) (Nat.le_refl _)) (by omega) ln lb (by decide) (by decide) (by omega) (by decide) (by decide) (by decide)
 have ap:=chE_al ep;have ab:=chE_al eb;have an:alQ (λq=>Qt.chk q ps.length rs.length=0) (mulX (cstT (Qt.val q ps rs)) b):=(cstT_al _).mul ab;have vn:evl (vlQ ps rs) (mulX (cstT (Qt.val q ps rs)) b)=Qt.val q ps rs*evl (vlQ ps rs) b:=by rw [ev_mul,cstT_ev]
 have szE:∀(l:QTs) {K Q T:Nat},l.length≤T→(∀t∈l,t.2.length≤Q∧Sz t.1 K)→T*(K+Q*(8*2+6)+1)≤500000 - 1→alQ (λq=>Qt.chk q ps.length rs.length=0) l→Sz (evl (vlQ ps rs) l) 500000:=λl K Q T h1 h2 h3 h4=>by
  have h5:=eV_sz h2 sp sr (by omega) l.length (Nat.le_refl _) λa ha _=>chE_zero (chE_of h4) a ha;rw [eV_all] at h5;have h6:l.length*(K+Q*(8*2+6)+1)≤T*(K+Q*(8*2+6)+1):=Nat.mul_le_mul_right _ h1;exact h5.mono (by omega)
 have val:∀(l:QTs) {K Q T:Nat},l.length≤T→T≤1000→(∀t∈l,t.2.length≤Q∧Sz t.1 K)→Q≤1000→T*(K+Q*(8*2+6)+1)≤500000 - 1→alQ (λq=>Qt.chk q ps.length rs.length=0) l→Pure Tryz.prog 31 [.sl 4 (l.map qtA),.sl 6 (ps.map PQ.av),.sl 3 (rs.map ratQ)] (.tup [ratQ (evl (vlQ ps rs) l),iv 0]):=λl K Q T h1 h1' h2 h2' h3 h4=>by
  have c:=exValueG l ps rs h1 (by omega) h2 (by omega) (by omega) (by omega) lrs sp sr (by omega) (by omega);rw [if_pos (chE_of h4),eV_all] at c;exact c
 have hpk:∀t∈p,t.2.length≤2∧Sz t.1 34:=λt ht=>⟨(hp.qk t ht).2,(hp.qk t ht).1⟩;by_cases hs0:q.norm.2=0
 ·rw [if_pos hs0] at c3;have v1:=val p lp (by omega) hpk (by omega) (by omega) ap;have v2:=val [((1:Rat),[])] (K:=1) (Q:=0) (T:=1) (by simp) (by omega) (λt ht=>by rw [List.mem_singleton.1 ht];exact⟨Nat.le_refl _,Zim⟩) (by omega) (by omega) (λt ht x hx=>by rw [List.mem_singleton.1 ht] at hx;cases hx);have e1:evl (vlQ ps rs) [((1:Rat),[])]=1:=by show(1:Rat)*1+0=1;rw [Rat.mul_one,Rat.add_zero]
  rw [e1] at v2;have z1:=szE p lp hpk (by omega) ap;have e2:evl (vlQ ps rs) p*1=evl (vlQ ps rs) p:=Rat.mul_one _;refine⟨_,_,_,_,1,by decide,Zim.mono (by omega),c1,c2,c3,?_,v2,?_⟩
  ·rw [e2];exact v1
  ·rw [e2];exact z1.mono (by omega)
 ·rw [if_neg hs0] at c3;have hs:q.norm.2=-1∨q.norm.2=1:=by rcases Zia q with h1 | h1 | h1;exact .inl h1;exact absurd h1 hs0;exact .inr h1
  have hnv:Qt.val q ps rs=Qt.val q.norm.1 ps rs*(q.norm.2:Rat):=by
   obtain⟨k,a,b,c⟩:=q;rcases norm_facts hq (by omega) with⟨hn,hv⟩ | ⟨k1,a1,b1,e1,s,hn,hs',hn2,h2,hv⟩
   ·rw [hn] at hs0;exact absurd rfl hs0
   ·rw [hn,hv]
  have hss:(q.norm.2:Rat)*(q.norm.2:Rat)=1:=by rcases hs with h | h<;>rw [h]<;>decide +kernel
  have hx:evl (vlQ ps rs) (sclT (q.norm.2:Rat) (mulX (cstT (Qt.val q ps rs)) b))=Qt.val q.norm.1 ps rs*evl (vlQ ps rs) b:=by
   rw [evl_scl,vn,hnv];have:(q.norm.2:Rat)*(Qt.val q.norm.1 ps rs*(q.norm.2:Rat)*evl (vlQ ps rs) b)=(q.norm.2:Rat)*(q.norm.2:Rat)*(Qt.val q.norm.1 ps rs*evl (vlQ ps rs) b):=by grind
   rw [this,hss,Rat.one_mul]
  have hr:=ev_rep (ps:=ps) (rs:=rs) q.norm.1 p _ b hx;have xv:=XB.scl (xn.mono (Nat.le_refl _) (show 0+2≤2 by omega)) hs;have lv:(sclT (q.norm.2:Rat) (mulX (cstT (Qt.val q ps rs)) b)).length≤4:=by rw [Zc5];exact ln
  have hm:moQ q.norm.1 p≤2:=mo_le hp.2.1;have hb2:XB b (22+1+17) 2:=hb.mono (by omega) (Nat.le_refl _);have x1:=XB.rf (λk=>hp.part q.norm.1 k) xv hb2 (moQ q.norm.1 p) (moQ q.norm.1 p+1) (Nat.le_refl _);have x2:=hb.pw (moQ q.norm.1 p);have l1:=rf_len (P:=paQ q.norm.1 p) (λk=>Nat.le_trans (pa_len q.norm.1 p k) lp) lv lb (moQ q.norm.1 p) (moQ q.norm.1 p+1) (Nat.le_refl _);have l2:=pw_len lb (moQ q.norm.1 p);have e1:4 ^ moQ q.norm.1 p≤4 ^ 2:=Nat.pow_le_pow_right (by decide) hm;have e2:(4:Nat) ^ 2=16:=by decide
  have e3:(moQ q.norm.1 p+1)*(4*4 ^ moQ q.norm.1 p)≤3*(4*16):=Nat.mul_le_mul (by omega) (Nat.mul_le_mul_left _ (by omega));have e4:moQ q.norm.1 p*(22+1+17)≤2*(22+1+17):=Nat.mul_le_mul_right _ hm;have e5:(moQ q.norm.1 p+1)*(17+3+moQ q.norm.1 p*(22+1+17))≤3*(17+3+80):=Nat.mul_le_mul (by omega) (by omega);have e6:moQ q.norm.1 p*2≤4:=by omega
  have e7:moQ q.norm.1 p*17≤34:=by omega
  have k1:∀t∈rpN q.norm.1 p (sclT (q.norm.2:Rat) (mulX (cstT (Qt.val q ps rs)) b)) b,t.2.length≤6∧Sz t.1 602:=λt ht=>⟨Nat.le_trans (x1.qk t ht).2 (by omega),(x1.qk t ht).1.mono (by omega)⟩;have k2:∀t∈rpD q.norm.1 p b,t.2.length≤4∧Sz t.1 70:=λt ht=>⟨Nat.le_trans (x2.qk t ht).2 (by omega),(x2.qk t ht).1.mono (by omega)⟩;have a1:alQ (λq=>Qt.chk q ps.length rs.length=0) (rpN q.norm.1 p (sclT (q.norm.2:Rat) (mulX (cstT (Qt.val q ps rs)) b)) b):=alQ.rf (λk=>ap.part q.norm.1 k) (an.scl _) ab _ _;have a2:alQ (λq=>Qt.chk q ps.length rs.length=0) (rpD q.norm.1 p b):=ab.pw _;have f1:(rpN q.norm.1 p (sclT (q.norm.2:Rat) (mulX (cstT (Qt.val q ps rs)) b)) b).length≤192:=Nat.le_trans l1 (by omega)
  have f2:(rpD q.norm.1 p b).length≤16:=Nat.le_trans l2 (by omega);have v1:=val _ f1 (by omega) k1 (by omega) (by omega) a1;have v2:=val _ f2 (by omega) k2 (by omega) (by omega) a2;have z1:=szE _ f1 k1 (by omega) a1;have z2:=szE _ f2 k2 (by omega) a2;rw [hr] at v1 z1;refine⟨_,_,_,_,_,?_,z2,c1,c2,c3,v1,v2,z1.mono (by omega)⟩;rw [ev_pw];exact pwr_ne hw _
theorem lawEMeans (l1 l2:List RE) (q:Qt) (ps:List RP) (rs:List RQ) (hl1:l1.length≤9223372036854775807) (hr1:∀t∈l1,t.r.lm 9223372036854775807) (hq1:∀t∈l1,t.q.length≤9223372036854775807)
 (hl2:l2.length≤9223372036854775807) (hr2:∀t∈l2,t.r.lm 9223372036854775807) (hq2:∀t∈l2,t.q.length≤9223372036854775807)
 (hp:∀p∈ps,p.lm 9223372036854775807) (hrr:∀r∈rs,r.lm 9223372036854775807) (hpl:ps.length≤9223372036854775807) (hrl:rs.length≤9223372036854775807) :
 Pure Tryz.prog 7 [.sl 4 (l1.map RE.av),.sl 4 (l2.map RE.av),q.av,.sl 6 (ps.map RP.av),.sl 3 (rs.map RQ.av)] (.v (.bool true)):=by
 have ck:=Zxf;have cs1:Pure Tryz.prog 11 [.sl 4 (l1.map RE.av),iv 4,iv 2] (.v (.bool (smallB 4 2 l1))):=rxSmall l1 4 2 (by omega) (by omega) hl1 hr1 hq1;have cs2:Pure Tryz.prog 11 [.sl 4 (l2.map RE.av),iv 4,iv 2] (.v (.bool (smallB 4 2 l2))):=rxSmall l2 4 2 (by omega) (by omega) hl2 hr2 hq2;have cm:=rqMild ps rs hp hrr hpl hrl;obtain⟨q1,q2,q3,q4⟩:=q;by_cases hb:smallB 4 2 l1=true∧smallB 4 2 l2=true∧mildB ps rs=true
 ·obtain⟨hb1,hb2,hb3⟩:=hb;rw [hb1] at cs1;rw [hb2] at cs2;rw [hb3] at cm;obtain⟨qs,us,e1,e2,sp,sr,lp,lr⟩:=mild_ok hp hrr hb3;rw [e1,e2] at cm ⊢;obtain⟨x1,n1⟩:=small_xb hr1 hb1 (by omega);obtain⟨x2,n2⟩:=small_xb hr2 hb2 (by omega);rw [small_av hr1 hb1] at cs1 ⊢;rw [small_av hr2 hb2] at cs2 ⊢;generalize l1.map RE.rt=p at *;generalize l2.map RE.rt=b at *;clear hb1 hb2 hb3 hl1 hr1 hq1 hl2 hr2 hq2 hp hrr hpl hrl e1 e2;have hM:=Zp1;have kp:∀t∈p,t.2.length≤2∧Sz t.1 34:=λt ht=>⟨(x1.qk t ht).2,(x1.qk t ht).1⟩;have kb:∀t∈b,t.2.length≤2∧Sz t.1 34:=λt ht=>⟨(x2.qk t ht).2,(x2.qk t ht).1⟩;have v1:=exValueG p qs us n1 (by omega) kp (by omega) (by omega) (by omega) (by omega) sp sr (by omega) (by omega)
  have v2:=exValueG b qs us n2 (by omega) kb (by omega) (by omega) (by omega) (by omega) sp sr (by omega) (by omega);by_cases h1:chE qs.length us.length p=0
  ·rw [if_pos h1,eV_all] at v1;by_cases h2:chE qs.length us.length b=0
   ·rw [if_pos h2,eV_all] at v2;have a1:=chE_al h1;have a2:=chE_al h2;have xa:=x1.add x2;have xm:=x1.mul x2;have la:(Zb4 p b).length≤8:=Nat.le_trans (Zmt p b) (by omega);have hlm:p.length*b.length≤4*4:=Nat.mul_le_mul n1 n2;have lm:(mulX p b).length≤16:=Nat.le_trans (Zfm p b) (by omega);have c1:=exPlus p b x1.qk x2.qk x1.nz x2.nz (by omega) (by omega) (by omega) (by omega) (by omega);have c2:=Zwk p b x1 x2 (by omega) (by omega) (by omega) (by omega) (by omega) (by omega);have ka:∀t∈Zb4 p b,t.2.length≤2∧Sz t.1 70:=λt ht=>⟨Nat.le_trans (xa.qk t ht).2 (by omega),(xa.qk t ht).1.mono (by omega)⟩
    have km:∀t∈mulX p b,t.2.length≤4∧Sz t.1 68:=λt ht=>⟨Nat.le_trans (xm.qk t ht).2 (by omega),(xm.qk t ht).1.mono (by omega)⟩;have v3:=exValueG (Zb4 p b) qs us la (by omega) ka (by omega) (by omega) (by omega) (by omega) sp sr (by omega) (by omega);rw [if_pos (chE_of (a1.join a2)),eV_all,Zp9 Zcc] at v3;have v4:=exValueG (mulX p b) qs us lm (by omega) km (by omega) (by omega) (by omega) (by omega) sp sr (by omega) (by omega);rw [if_pos (chE_of (a1.mul a2)),eV_all,ev_mul] at v4
    have zv:Sz (evl (vlQ qs us) p) 400:=by
     have h5:=eV_sz kp sp sr (by omega) p.length (Nat.le_refl _) λa ha _=>chE_zero h1 a ha;rw [eV_all] at h5;have h6:p.length*(34+2*(8*2+6)+1)≤4*(34+2*(8*2+6)+1):=Nat.mul_le_mul_right _ n1;exact h5.mono (by omega)
    have zw:Sz (evl (vlQ qs us) b) 400:=by
     have h5:=eV_sz kb sp sr (by omega) b.length (Nat.le_refl _) λa ha _=>chE_zero h2 a ha;rw [eV_all] at h5;have h6:b.length*(34+2*(8*2+6)+1)≤4*(34+2*(8*2+6)+1):=Nat.mul_le_mul_right _ n2;exact h5.mono (by omega)
    have f1:=Zni _ _ zv zw (by omega) (by omega);have f2:=ratEqual _ _ (zv.add zw) (zv.add zw) (by omega) (by omega);have f3:=Zip _ _ zv zw (by omega) (by omega);have f4:=ratEqual _ _ (zv.mul zw) (zv.mul zw) (by omega) (by omega);rw [decide_eq_true rfl] at f2 f4;have g1:=quValue q1 q2 q3 q4 qs us (by omega) (by omega) sp sr (by omega);have c1:Pure Tryz.prog 34 [.sl 4 (p.map qtA),.sl 4 (b.map qtA)] (.sl 4 ((Zb4 p b).map qtA)):=c1;have c2:Pure Tryz.prog 35 [.sl 4 (p.map qtA),.sl 4 (b.map qtA)] (.sl 4 ((mulX p b).map qtA)):=c2;by_cases h3:Qt.chk ⟨q1,q2,q3,q4⟩ qs.length us.length=0
    ·rw [if_pos h3] at g1;have g2:=Zed _ zw (by omega);by_cases hw:evl (vlQ qs us) b=0
     ·have hs:(evl (vlQ qs us) b).num.sign=0:=by rw [hw];rfl
      rw [hs] at g2;clear a1 a2 xa xm la hlm lm ka km zv zw kp kb h1 h2 h3 hw hs x1 x2 n1 n2 sp sr hM;generalize evl (vlQ qs us) p=v at *;generalize evl (vlQ qs us) b=w at *;generalize hz:ratQ (v+w)=x at *;obtain⟨xb,xn,xd,rfl⟩:∃bz lz dz,x=AV.agg [.v (.bool bz),lim lz,lim dz]:=⟨_,_,_,hz.symm⟩;clear hz;generalize hz:ratQ (v*w)=y at *;obtain⟨yb,yn,yd,rfl⟩:∃bz lz dz,y=AV.agg [.v (.bool bz),lim lz,lim dz]:=⟨_,_,_,hz.symm⟩;clear hz;generalize hz:ratQ (v)=vv at *;obtain⟨vvb,vvn,vvd,rfl⟩:∃bz lz dz,vv=AV.agg [.v (.bool bz),lim lz,lim dz]:=⟨_,_,_,hz.symm⟩;clear hz;generalize hz:ratQ (w)=ww at *;obtain⟨wwb,wwn,wwd,rfl⟩:∃bz lz dz,ww=AV.agg [.v (.bool bz),lim lz,lim dz]:=⟨_,_,_,hz.symm⟩
      clear hz;generalize hz:ratQ (Qt.val ⟨q1,q2,q3,q4⟩ qs us)=uu at *;obtain⟨uub,uun,uud,rfl⟩:∃bz lz dz,uu=AV.agg [.v (.bool bz),lim lz,lim dz]:=⟨_,_,_,hz.symm⟩;clear hz;generalize (Zb4 p b).map qtA=J at *;generalize (mulX p b).map qtA=M at *;generalize p.map qtA=A at *;generalize b.map qtA=B at *;generalize qs.map PQ.av=PA at *;generalize us.map ratQ=RA at *;refine Zaa (tok:=0) Tryz.func7 rfl Tryz.ntmps7 Tryz.results7 Tryz.call7 (by rfl) (by simp) ?_
      (repeat' (first|(with_reducible first|refine stp ?_|apply gx1|apply gx2|apply gx3|apply gx4|apply gx5|apply gx6|apply gx7|apply gy8|apply gz2|apply gz3|refine gw0 (cs1) ?_ ?_|refine gw3 (cs1) ?_ ?_ ?_|refine gw0 (cs2) ?_ ?_|refine gw3 (cs2) ?_ ?_ ?_|refine gw0 (cm) ?_ ?_|refine gw3 (cm) ?_ ?_ ?_|refine gw0 (v1) ?_ ?_|refine gw3 (v1) ?_ ?_ ?_|refine gw0 (v2) ?_ ?_|refine gw3 (v2) ?_ ?_ ?_|refine gw0 (c1) ?_ ?_|refine gw3 (c1) ?_ ?_ ?_|refine gw0 (v3) ?_ ?_|refine gw3 (v3) ?_ ?_ ?_|refine gw0 (c2) ?_ ?_|refine gw3 (c2) ?_ ?_ ?_|refine gw0 (v4) ?_ ?_|refine gw3 (v4) ?_ ?_ ?_|refine gw0 (f1) ?_ ?_|refine gw3 (f1) ?_ ?_ ?_|refine gw0 (f2) ?_ ?_|refine gw3 (f2) ?_ ?_ ?_|refine gw0 (f3) ?_ ?_|refine gw3 (f3) ?_ ?_ ?_|refine gw0 (f4) ?_ ?_|refine gw3 (f4) ?_ ?_ ?_|refine gw0 (g1) ?_ ?_|refine gw3 (g1) ?_ ?_ ?_|refine gw0 (g2) ?_ ?_|refine gw3 (g2) ?_ ?_ ?_|refine gw0 (ck) ?_ ?_|refine gw3 (ck) ?_ ?_ ?_)|(with_reducible refine Zao ?_;intro _)|((with_reducible refine gE ?_);(try simp (disch:=omega) only [go_sem,decide_eq_true,decide_eq_false,if_pos,if_neg,Int.reduceAdd,Int.reduceSub,Int.reduceToNat,Int.zero_add])<;>first|rfl|omega)|with_reducible refine Zab (by decide) ?_|((with_reducible apply gy1);iterate 3 focus rfl)|((with_reducible apply gy2);iterate 3 focus rfl)|((with_reducible apply gy3);iterate 2 focus rfl)|((with_reducible apply gy4);iterate 1 focus rfl)|((with_reducible apply gy5);iterate 4 focus rfl)|((with_reducible apply gy5c);iterate 4 focus rfl)|((with_reducible apply gy6);iterate 4 focus rfl)|((with_reducible apply Za7);iterate 3 focus rfl)|((with_reducible apply Za6);iterate 1 focus rfl)|((with_reducible apply gy7);iterate 1 focus rfl)|((with_reducible apply gy9);(focus ((with_reducible refine gE ?_);(try simp (disch:=omega) only [go_sem,decide_eq_true,decide_eq_false,if_pos,if_neg,Int.reduceAdd,Int.reduceSub,Int.reduceToNat,Int.zero_add])<;>rfl)))|((with_reducible apply gz1);(focus first|rfl|(simp (disch:=omega) only [go_sem,decide_eq_true,decide_eq_false,if_pos,if_neg,Int.reduceAdd,Int.reduceSub,Int.reduceToNat,Int.zero_add];done)))|((with_reducible apply Zae (id:=9) (Zau [(10,.agg [.v (.bool xb),lim xn,lim xd]),(11,.v (.bool true)),(18,.agg [.v (.bool yb),lim yn,lim yd]),(19,.v (.bool true))]) [] []);(focus kernel_rfl);(focus rfl);(focus kernel_rfl);(focus (simp only [List.length_cons,List.length_nil,Nat.reduceAdd];rfl)))|((with_reducible first|apply Za1|apply Za3|apply Za2);all_goals (intro hc;(try simp only [bool_to_prop] at hc);try (exfalso;omega)))))
      all_goals exact gL
     ·have hs:¬(evl (vlQ qs us) b).num.sign=0:=by rw [Zdq];exact hw
      obtain⟨CU,NM,N1,D1,d,hd0,zd,d1,d2,d3,d4,d5,zn⟩:=repVal p b ⟨q1,q2,q3,q4⟩ qs us x1 x2 n1 n2 lp (by omega) sp sr h1 h2 h3 hw;have g3:=Zed d zd (by omega);have hs2:¬d.num.sign=0:=by rw [Zdq];exact hd0
      have f5:=Zip _ d zv zd (by omega) (by omega);have f6:=ratEqual _ _ zn zn (by omega) (by omega);rw [decide_eq_true rfl] at f6;clear a1 a2 xa xm la hlm lm ka km zv zw kp kb h1 h2 h3 hw x1 x2 n1 n2 sp sr hM zd zn hd0;generalize (evl (vlQ qs us) b).num.sign=sw at *;generalize d.num.sign=sd at *;generalize evl (vlQ qs us) p=v at *;generalize evl (vlQ qs us) b=w at *;generalize hz:ratQ (v+w)=x at *;obtain⟨xb,xn,xd,rfl⟩:∃bz lz dz,x=AV.agg [.v (.bool bz),lim lz,lim dz]:=⟨_,_,_,hz.symm⟩;clear hz;generalize hz:ratQ (v*w)=y at *;obtain⟨yb,yn,yd,rfl⟩:∃bz lz dz,y=AV.agg [.v (.bool bz),lim lz,lim dz]:=⟨_,_,_,hz.symm⟩
      clear hz;generalize hz:ratQ (v*d)=nn at *;obtain⟨nnb,nnn,nnd,rfl⟩:∃bz lz dz,nn=AV.agg [.v (.bool bz),lim lz,lim dz]:=⟨_,_,_,hz.symm⟩;clear hz;generalize hz:ratQ (v)=vv at *;obtain⟨vvb,vvn,vvd,rfl⟩:∃bz lz dz,vv=AV.agg [.v (.bool bz),lim lz,lim dz]:=⟨_,_,_,hz.symm⟩;clear hz;generalize hz:ratQ (w)=ww at *;obtain⟨wwb,wwn,wwd,rfl⟩:∃bz lz dz,ww=AV.agg [.v (.bool bz),lim lz,lim dz]:=⟨_,_,_,hz.symm⟩;clear hz;generalize hz:ratQ (Qt.val ⟨q1,q2,q3,q4⟩ qs us)=uu at *;obtain⟨uub,uun,uud,rfl⟩:∃bz lz dz,uu=AV.agg [.v (.bool bz),lim lz,lim dz]:=⟨_,_,_,hz.symm⟩;clear hz;generalize hz:ratQ (d)=dd at *;obtain⟨ddb,ddn,ddd,rfl⟩:∃bz lz dz,dd=AV.agg [.v (.bool bz),lim lz,lim dz]:=⟨_,_,_,hz.symm⟩
      clear hz;generalize (Zb4 p b).map qtA=J at *;generalize (mulX p b).map qtA=M at *;generalize p.map qtA=A at *;generalize b.map qtA=B at *;generalize qs.map PQ.av=PA at *;generalize us.map ratQ=RA at *;refine Zaa (tok:=0) Tryz.func7 rfl Tryz.ntmps7 Tryz.results7 Tryz.call7 (by rfl) (by simp) ?_
      (repeat' (first|(with_reducible first|refine stp ?_|apply gx1|apply gx2|apply gx3|apply gx4|apply gx5|apply gx6|apply gx7|apply gy8|apply gz2|apply gz3|refine gw0 (cs1) ?_ ?_|refine gw3 (cs1) ?_ ?_ ?_|refine gw0 (cs2) ?_ ?_|refine gw3 (cs2) ?_ ?_ ?_|refine gw0 (cm) ?_ ?_|refine gw3 (cm) ?_ ?_ ?_|refine gw0 (v1) ?_ ?_|refine gw3 (v1) ?_ ?_ ?_|refine gw0 (v2) ?_ ?_|refine gw3 (v2) ?_ ?_ ?_|refine gw0 (c1) ?_ ?_|refine gw3 (c1) ?_ ?_ ?_|refine gw0 (v3) ?_ ?_|refine gw3 (v3) ?_ ?_ ?_|refine gw0 (c2) ?_ ?_|refine gw3 (c2) ?_ ?_ ?_|refine gw0 (v4) ?_ ?_|refine gw3 (v4) ?_ ?_ ?_|refine gw0 (f1) ?_ ?_|refine gw3 (f1) ?_ ?_ ?_|refine gw0 (f2) ?_ ?_|refine gw3 (f2) ?_ ?_ ?_|refine gw0 (f3) ?_ ?_|refine gw3 (f3) ?_ ?_ ?_|refine gw0 (f4) ?_ ?_|refine gw3 (f4) ?_ ?_ ?_|refine gw0 (g1) ?_ ?_|refine gw3 (g1) ?_ ?_ ?_|refine gw0 (g2) ?_ ?_|refine gw3 (g2) ?_ ?_ ?_|refine gw0 (ck) ?_ ?_|refine gw3 (ck) ?_ ?_ ?_|refine gw0 (d1) ?_ ?_|refine gw3 (d1) ?_ ?_ ?_|refine gw0 (d2) ?_ ?_|refine gw3 (d2) ?_ ?_ ?_|refine gw0 (d3) ?_ ?_|refine gw3 (d3) ?_ ?_ ?_|refine gw0 (d4) ?_ ?_|refine gw3 (d4) ?_ ?_ ?_|refine gw0 (d5) ?_ ?_|refine gw3 (d5) ?_ ?_ ?_|refine gw0 (g3) ?_ ?_|refine gw3 (g3) ?_ ?_ ?_|refine gw0 (f5) ?_ ?_|refine gw3 (f5) ?_ ?_ ?_|refine gw0 (f6) ?_ ?_|refine gw3 (f6) ?_ ?_ ?_)|(with_reducible refine Zao ?_;intro _)|((with_reducible refine gE ?_);(try simp (disch:=omega) only [go_sem,hs,hs2,decide_eq_true,decide_eq_false,if_pos,if_neg,Int.reduceAdd,Int.reduceSub,Int.reduceToNat,Int.zero_add])<;>first|rfl|omega)|with_reducible refine Zab (by decide) ?_|((with_reducible apply gy1);iterate 3 focus rfl)|((with_reducible apply gy2);iterate 3 focus rfl)|((with_reducible apply gy3);iterate 2 focus rfl)|((with_reducible apply gy4);iterate 1 focus rfl)|((with_reducible apply gy5);iterate 4 focus rfl)|((with_reducible apply gy5c);iterate 4 focus rfl)|((with_reducible apply gy6);iterate 4 focus rfl)|((with_reducible apply Za7);iterate 3 focus rfl)|((with_reducible apply Za6);iterate 1 focus rfl)|((with_reducible apply gy7);iterate 1 focus rfl)|((with_reducible apply gy9);(focus ((with_reducible refine gE ?_);(try simp (disch:=omega) only [go_sem,hs,hs2,decide_eq_true,decide_eq_false,if_pos,if_neg,Int.reduceAdd,Int.reduceSub,Int.reduceToNat,Int.zero_add])<;>rfl)))|((with_reducible apply gz1);(focus first|rfl|(simp (disch:=omega) only [go_sem,hs,hs2,decide_eq_true,decide_eq_false,if_pos,if_neg,Int.reduceAdd,Int.reduceSub,Int.reduceToNat,Int.zero_add];done)))|((with_reducible apply Zae (id:=9) (Zau [(10,.agg [.v (.bool xb),lim xn,lim xd]),(11,.v (.bool true)),(18,.agg [.v (.bool yb),lim yn,lim yd]),(19,.v (.bool true))]) [] []);(focus kernel_rfl);(focus rfl);(focus kernel_rfl);(focus (simp only [List.length_cons,List.length_nil,Nat.reduceAdd];rfl)))|((with_reducible apply Zae (id:=14) (Zau [(3,.sl 4 CU),(5,.sl 4 NM),(8,.agg [.sl 4 N1,.sl 4 D1])]) [] []);(focus kernel_rfl);(focus rfl);(focus kernel_rfl);(focus (simp only [List.length_cons,List.length_nil,Nat.reduceAdd];rfl)))|((with_reducible apply Zae (id:=17) (Zau [(8,iv sd),(15,.agg [.v (.bool nnb),lim nnn,lim nnd]),(16,.v (.bool true)),(19,.v (.bool true))]) [] []);(focus kernel_rfl);(focus rfl);(focus kernel_rfl);(focus (simp only [List.length_cons,List.length_nil,Nat.reduceAdd];rfl)))|((with_reducible first|apply Za1|apply Za3|apply Za2);all_goals (intro hc;(try simp only [bool_to_prop] at hc);try (exfalso;omega)))))
      all_goals exact gL
    ·rw [if_neg h3] at g1;clear a1 a2 xa xm la hlm lm ka km zv zw kp kb h1 h2 x1 x2 n1 n2 sp sr hM;generalize Qt.chk ⟨q1,q2,q3,q4⟩ qs.length us.length=ec at *;generalize evl (vlQ qs us) p=v at *;generalize evl (vlQ qs us) b=w at *;generalize hz:ratQ (v+w)=x at *;obtain⟨xb,xn,xd,rfl⟩:∃bz lz dz,x=AV.agg [.v (.bool bz),lim lz,lim dz]:=⟨_,_,_,hz.symm⟩;clear hz;generalize hz:ratQ (v*w)=y at *;obtain⟨yb,yn,yd,rfl⟩:∃bz lz dz,y=AV.agg [.v (.bool bz),lim lz,lim dz]:=⟨_,_,_,hz.symm⟩;clear hz;generalize hz:ratQ (v)=vv at *;obtain⟨vvb,vvn,vvd,rfl⟩:∃bz lz dz,vv=AV.agg [.v (.bool bz),lim lz,lim dz]:=⟨_,_,_,hz.symm⟩
     clear hz;generalize hz:ratQ (w)=ww at *;obtain⟨wwb,wwn,wwd,rfl⟩:∃bz lz dz,ww=AV.agg [.v (.bool bz),lim lz,lim dz]:=⟨_,_,_,hz.symm⟩;clear hz;generalize (Zb4 p b).map qtA=J at *;generalize (mulX p b).map qtA=M at *;generalize p.map qtA=A at *;generalize b.map qtA=B at *;generalize qs.map PQ.av=PA at *;generalize us.map ratQ=RA at *;refine Zaa (tok:=0) Tryz.func7 rfl Tryz.ntmps7 Tryz.results7 Tryz.call7 (by rfl) (by simp) ?_
     (repeat' (first|(with_reducible first|refine stp ?_|apply gx1|apply gx2|apply gx3|apply gx4|apply gx5|apply gx6|apply gx7|apply gy8|apply gz2|apply gz3|refine gw0 (cs1) ?_ ?_|refine gw3 (cs1) ?_ ?_ ?_|refine gw0 (cs2) ?_ ?_|refine gw3 (cs2) ?_ ?_ ?_|refine gw0 (cm) ?_ ?_|refine gw3 (cm) ?_ ?_ ?_|refine gw0 (v1) ?_ ?_|refine gw3 (v1) ?_ ?_ ?_|refine gw0 (v2) ?_ ?_|refine gw3 (v2) ?_ ?_ ?_|refine gw0 (c1) ?_ ?_|refine gw3 (c1) ?_ ?_ ?_|refine gw0 (v3) ?_ ?_|refine gw3 (v3) ?_ ?_ ?_|refine gw0 (c2) ?_ ?_|refine gw3 (c2) ?_ ?_ ?_|refine gw0 (v4) ?_ ?_|refine gw3 (v4) ?_ ?_ ?_|refine gw0 (f1) ?_ ?_|refine gw3 (f1) ?_ ?_ ?_|refine gw0 (f2) ?_ ?_|refine gw3 (f2) ?_ ?_ ?_|refine gw0 (f3) ?_ ?_|refine gw3 (f3) ?_ ?_ ?_|refine gw0 (f4) ?_ ?_|refine gw3 (f4) ?_ ?_ ?_|refine gw0 (g1) ?_ ?_|refine gw3 (g1) ?_ ?_ ?_|refine gw0 (ck) ?_ ?_|refine gw3 (ck) ?_ ?_ ?_)|(with_reducible refine Zao ?_;intro _)|((with_reducible refine gE ?_);(try simp (disch:=omega) only [go_sem,h3,decide_eq_true,decide_eq_false,if_pos,if_neg,Int.reduceAdd,Int.reduceSub,Int.reduceToNat,Int.zero_add])<;>first|rfl|omega)|with_reducible refine Zab (by decide) ?_|((with_reducible apply gy1);iterate 3 focus rfl)|((with_reducible apply gy2);iterate 3 focus rfl)|((with_reducible apply gy3);iterate 2 focus rfl)|((with_reducible apply gy4);iterate 1 focus rfl)|((with_reducible apply gy5);iterate 4 focus rfl)|((with_reducible apply gy5c);iterate 4 focus rfl)|((with_reducible apply gy6);iterate 4 focus rfl)|((with_reducible apply Za7);iterate 3 focus rfl)|((with_reducible apply Za6);iterate 1 focus rfl)|((with_reducible apply gy7);iterate 1 focus rfl)|((with_reducible apply gy9);(focus ((with_reducible refine gE ?_);(try simp (disch:=omega) only [go_sem,h3,decide_eq_true,decide_eq_false,if_pos,if_neg,Int.reduceAdd,Int.reduceSub,Int.reduceToNat,Int.zero_add])<;>rfl)))|((with_reducible apply gz1);(focus first|rfl|(simp (disch:=omega) only [go_sem,h3,decide_eq_true,decide_eq_false,if_pos,if_neg,Int.reduceAdd,Int.reduceSub,Int.reduceToNat,Int.zero_add];done)))|((with_reducible apply Zae (id:=9) (Zau [(10,.agg [.v (.bool xb),lim xn,lim xd]),(11,.v (.bool true)),(18,.agg [.v (.bool yb),lim yn,lim yd]),(19,.v (.bool true))]) [] []);(focus kernel_rfl);(focus rfl);(focus kernel_rfl);(focus (simp only [List.length_cons,List.length_nil,Nat.reduceAdd];rfl)))|((with_reducible first|apply Za1|apply Za3|apply Za2);all_goals (intro hc;(try simp only [bool_to_prop] at hc);try (exfalso;omega)))))
     all_goals exact gL
   ·rw [if_neg h2] at v2;clear kp kb h1 x1 x2 n1 n2 sp sr hM;generalize chE qs.length us.length b=ec at *;generalize hz:ratQ (evl (vlQ qs us) p)=vv at *;obtain⟨vvb,vvn,vvd,rfl⟩:∃bz lz dz,vv=AV.agg [.v (.bool bz),lim lz,lim dz]:=⟨_,_,_,hz.symm⟩;clear hz;refine Zaa (tok:=0) Tryz.func7 rfl Tryz.ntmps7 Tryz.results7 Tryz.call7 (by rfl) (by simp) ?_;(focus (refine wkad (w_1 h2) (w_6 cs1 cs2 cm v1 v2 ck) w_t ?_;(repeat' first|exact w_t|apply w_l);all_goals intros));all_goals exact gL
  ·rw [if_neg h1] at v1;by_cases h2:chE qs.length us.length b=0
   ·rw [if_pos h2,eV_all] at v2;clear kp kb h2 x1 x2 n1 n2 sp sr hM;generalize chE qs.length us.length p=ec at *;generalize hz:ratQ (evl (vlQ qs us) b)=ww at *;obtain⟨wwb,wwn,wwd,rfl⟩:∃bz lz dz,ww=AV.agg [.v (.bool bz),lim lz,lim dz]:=⟨_,_,_,hz.symm⟩;clear hz;refine Zaa (tok:=0) Tryz.func7 rfl Tryz.ntmps7 Tryz.results7 Tryz.call7 (by rfl) (by simp) ?_;(focus (refine wkad (w_1 h1) (w_6 cs1 cs2 cm v1 v2 ck) w_t ?_;(repeat' first|exact w_t|apply w_l);all_goals intros));all_goals exact gL
   ·rw [if_neg h2] at v2;clear kp kb x1 x2 n1 n2 sp sr hM;generalize chE qs.length us.length p=ec at *;generalize chE qs.length us.length b=fc at *;refine Zaa (tok:=0) Tryz.func7 rfl Tryz.ntmps7 Tryz.results7 Tryz.call7 (by rfl) (by simp) ?_;(focus (refine wkad (w_2 h1 h2) (w_6 cs1 cs2 cm v1 v2 ck) w_t ?_;(repeat' first|exact w_t|apply w_l);all_goals intros));all_goals exact gL
 ·have h3:smallB 4 2 l1=false∨smallB 4 2 l2=false∨mildB ps rs=false:=by
   cases h1:smallB 4 2 l1<;>cases h2:smallB 4 2 l2<;>cases h3:mildB ps rs<;>simp_all
  generalize l1.map RE.av=A at *;generalize l2.map RE.av=B at *;generalize smallB 4 2 l1=s1 at *;generalize smallB 4 2 l2=s2 at *;generalize mildB ps rs=s3 at *;clear hb
  cases s1 with
  | false =>
    refine Zaa (tok:=0) Tryz.func7 rfl Tryz.ntmps7 Tryz.results7 Tryz.call7 (by rfl) (by simp) ?_;(focus (refine wkad w_t (w_2 cs1 ck) w_t ?_;(repeat' first|exact w_t|apply w_l);all_goals intros));all_goals exact gL
  | true =>
    cases s2 with
    | false =>
      refine Zaa (tok:=0) Tryz.func7 rfl Tryz.ntmps7 Tryz.results7 Tryz.call7 (by rfl) (by simp) ?_;(focus (refine wkad w_t (w_3 cs1 cs2 ck) w_t ?_;(repeat' first|exact w_t|apply w_l);all_goals intros));all_goals exact gL
    | true =>
      cases s3 with
      | false =>
        refine Zaa (tok:=0) Tryz.func7 rfl Tryz.ntmps7 Tryz.results7 Tryz.call7 (by rfl) (by simp) ?_;(focus (refine wkad w_t (w_4 cs1 cs2 cm ck) w_t ?_;(repeat' first|exact w_t|apply w_l);all_goals intros));all_goals exact gL
      | true=>exact absurd h3 (by simp)
theorem saidEMeans (xs:List AV) (h:ShapeL Tryz.prog maxLen 9 [23,23,25,55,56] xs):Pure Tryz.prog 7 xs (.v (.bool true)):=by
 obtain⟨x,bs,rfl,h1,h⟩:=h.inv;obtain⟨y,bs,rfl,h2,h⟩:=h.inv;obtain⟨z,bs,rfl,h3,h⟩:=h.inv;obtain⟨w,bs,rfl,h4,h⟩:=h.inv;obtain⟨v,bs,rfl,h5,h⟩:=h.inv;obtain rfl:=h.inv0;obtain⟨l1,rfl,a1,a2,a3⟩:=shTerms Tryz.underlying23 h1;obtain⟨l2,rfl,b1,b2,b3⟩:=shTerms Tryz.underlying23 h2;obtain⟨k,a,b,c,rfl⟩:=shQuantP h3;obtain⟨ps,rfl,hpl,hp⟩:=shPoints h4;obtain⟨rs,rfl,hrl,hrr⟩:=shRats h5;rw [aggQuantP,Zfy (by kernel_rfl),Zfy (by kernel_rfl),Zfy (by kernel_rfl),Zfy (by kernel_rfl)];have e:maxLen=9223372036854775807:=by decide
 rw [e] at a1 a2 a3 b1 b2 b3 hpl hp hrl hrr;exact lawEMeans l1 l2 ⟨k,a,b,c⟩ ps rs a1 a2 a3 b1 b2 b3 hp hrr hpl hrl
end Go.Proofs.YtjekhacnoopdpaaGreatDoor
