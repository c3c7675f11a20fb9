/- Contracts of the functions that the law reaches, and the rules by which they are walked. They say what a call hands back for every input within the bounds that each names; no other condition. -/
import Derived.Test.YtjekhacnoopdpaaGreatDoorBq5
set_option linter.unusedSimpArgs false
set_option linter.unusedVariables false
set_option maxRecDepth 20000
set_option maxHeartbeats 16000000
namespace Go.Proofs.YtjekhacnoopdpaaGreatDoor
open Go Go.RowKit Go.Pg
attribute [-bool_to_prop] Bool.and_eq_decide Bool.or_eq_decide Bool.decide_beq_decide decide_eq_decide
section
variable {N n:Nat} {cs:List AV}
theorem Zq3 (h:Zcg Tryz.prog N n 25 cs):∃k a b c:Int,cs=[iv k,iv a,iv b,iv c]:=by
 obtain⟨m,rfl,hs⟩:=Zdt Tryz.underlying25 (by kernel_rfl) h;obtain⟨x,y,rfl,h1,hs⟩:=hs.inv;obtain⟨x2,y,rfl,h2,hs⟩:=hs.inv;obtain⟨x3,y,rfl,h3,hs⟩:=hs.inv;obtain⟨x4,y,rfl,h4,hs⟩:=hs.inv;obtain rfl:=hs.inv0;obtain⟨k,rfl,_⟩:=Ze7 Tryz.underlying3 h1;obtain⟨a,rfl,_⟩:=Ze7 Tryz.underlying3 h2;obtain⟨b,rfl,_⟩:=Ze7 Tryz.underlying3 h3;obtain⟨c,rfl,_⟩:=Ze7 Tryz.underlying3 h4;exact⟨k,a,b,c,rfl⟩
theorem Zo7 (cs:List AV):Zc2 Tryz.prog 25 cs=.agg cs:=Zfw Tryz.underlying25 cs
theorem shPoints (h:Zcg Tryz.prog N n 55 cs):∃ps:List RP,cs=[.sl 6 (ps.map RP.av)]∧ps.length≤N∧∀p∈ps,p.lm N:=by
 obtain⟨bs,rfl,hl,hq⟩:=Zcu (g:=λp:RP=>[.v (.bool p.x.s),lim p.x.l,lim p.x.d,.v (.bool p.y.s),lim p.y.l,lim p.y.d]) (Q:=λp=>p.lm N) Tryz.underlying55 h λm x hx=>by
  obtain⟨p,rfl,hp⟩:=shPoint hx;exact⟨p,rfl,hp⟩
 refine⟨bs,?_,hl,hq⟩;rw [show Tryz.prog.cellsOf 110=6 from by kernel_rfl];have:(bs.map λb:RP=>Zc2 Tryz.prog 110 [.v (.bool b.x.s),lim b.x.l,lim b.x.d,.v (.bool b.y.s),lim b.y.l,lim b.y.d])=bs.map RP.av:=List.map_congr_left λb _=>Zfw Tryz.underlying110 _;rw [this]
theorem shRats (h:Zcg Tryz.prog N n 56 cs):∃rs:List RQ,cs=[.sl 3 (rs.map RQ.av)]∧rs.length≤N∧∀r∈rs,r.lm N:=by
 obtain⟨bs,rfl,hl,hq⟩:=Zcu (g:=λp:RQ=>[.v (.bool p.s),lim p.l,lim p.d]) (Q:=λp=>p.lm N) Tryz.underlying56 h λm x hx=>by
  obtain⟨p,rfl,hp⟩:=Zuh hx;exact⟨p,rfl,hp⟩
 refine⟨bs,?_,hl,hq⟩;rw [show Tryz.prog.cellsOf 45=3 from by kernel_rfl];have:(bs.map λb:RQ=>Zc2 Tryz.prog 45 [.v (.bool b.s),lim b.l,lim b.d])=bs.map RQ.av:=List.map_congr_left λb _=>Zfw Tryz.underlying45 _;rw [this]
end
attribute [local go_sem] Tryz.underlying3 Tryz.underlying2 Tryz.underlying169 Tryz.underlying4 Tryz.underlying36 Tryz.underlying25 Tryz.underlying47 Tryz.underlying45 Tryz.underlying41 Tryz.underlying43 Tryz.underlying110 Tryz.underlying56 Tryz.underlying55 sz3 by3 z3 szL byL zL Zal Zaz Zhm zErr Zbf zRat Zbn zNat Zbo zInt szB zB szPt byPt zPt Zam Bool.and_self
def RQ.tiny (r:RQ):Bool:=decide (r.l.length≤2) && decide (r.d.length≤2) && r.ok
theorem RQ.tiny_av {r:RQ} (h1:Lm r.l) (h2:Lm r.d) (h:r.tiny=true):r.av=ratQ r.q∧Sz r.q 2:=by
 unfold RQ.tiny at h;simp only [Bool.and_eq_true,decide_eq_true_eq] at h;exact RQ.ok_av ⟨h1,h2,h.1.1,h.1.2⟩ h.2
def RP.tiny (p:RP):Bool:=p.x.tiny && p.y.tiny
def RP.q (p:RP):PQ:=(p.x.q,p.y.q)
theorem RP.tiny_av {p:RP} {k:Nat} (hl:p.lm k) (h:p.tiny=true):p.av=p.q.av∧p.q.sz 2:=by
 unfold RP.tiny at h;simp only [Bool.and_eq_true] at h;obtain⟨ex,sx⟩:=RQ.tiny_av hl.1.1 hl.1.2.1 h.1;obtain⟨ey,sy⟩:=RQ.tiny_av hl.2.1 hl.2.2.1 h.2;refine⟨?_,sx,sy⟩;show AV.agg (p.x.av.cells++p.y.av.cells)=AV.agg ((ratQ p.x.q).cells++(ratQ p.y.q).cells);rw [ex,ey]
theorem Znt (r:RQ) (h:r.lm 9223372036854775807):Pure Tryz.prog 20 [.agg [.v (.bool r.s),lim r.l,lim r.d]] (.v (.bool r.tiny)):=by
 obtain⟨s,l,d⟩:=r;obtain⟨h1,h2,h3,h4⟩:=h;unfold RQ.tiny;simp only at *;by_cases hl:l.length≤2
 ·by_cases hd:d.length≤2
  ·have c:=Zu7 s l d h1 h2 (by omega) (by omega);generalize RQ.ok ⟨s,l,d⟩=v at *;rw [decide_eq_true hl,decide_eq_true hd];refine Zaa (tok:=0) Tryz.func20 rfl Tryz.ntmps20 Tryz.results20 Tryz.call20 (by rfl) (by simp) ?_;(focus (refine wkld (w_1 @Zbw) (w_1 c) (w_1 @Bool.true_and) w_t ?_;(repeat' first|exact w_t|apply w_l);all_goals intros))
  ·rw [decide_eq_true hl,decide_eq_false hd];refine Zaa (tok:=0) Tryz.func20 rfl Tryz.ntmps20 Tryz.results20 Tryz.call20 (by rfl) (by simp) ?_;(focus (refine wkld (w_1 @Zbw) w_t (w_2 @Bool.true_and @Bool.false_and) w_t ?_;(repeat' first|exact w_t|apply w_l);all_goals intros))
 ·rw [decide_eq_false hl];refine Zaa (tok:=0) Tryz.func20 rfl Tryz.ntmps20 Tryz.results20 Tryz.call20 (by rfl) (by simp) ?_;(focus (refine wkld (w_1 @Zbw) w_t (w_1 @Bool.false_and) w_t ?_;(repeat' first|exact w_t|apply w_l);all_goals intros))
def Zvz (ps:List RP) (rs:List RQ):Bool:=decide (ps.length≤10) && decide (rs.length≤10) && ps.all RP.tiny && rs.all RQ.tiny
theorem Zw8 {α:Type} {l:List α} {p:α→Bool} {k:Nat} (h:k < l.length) (hp:p l[k]=false):l.all p=false:=by
 rw [List.all_eq_false];exact⟨l[k],List.getElem_mem h,by rw [hp];simp⟩
theorem Zo6 {α:Type} {l:List α} {p:α→Bool} {k:Nat} (h:k < l.length) (h1:(l.take k).all p=true) (hp:p l[k]=true):(l.take (k+1)).all p=true:=by
 rw [List.take_succ_eq_append_getElem h,List.all_append,h1];simp [hp]
theorem rqMild (ps:List RP) (rs:List RQ) (hp:∀p∈ps,p.lm 9223372036854775807) (hr:∀r∈rs,r.lm 9223372036854775807) (hpl:ps.length≤9223372036854775807) (hrl:rs.length≤9223372036854775807) :
 Pure Tryz.prog 30 [.sl 6 (ps.map RP.av),.sl 3 (rs.map RQ.av)] (.v (.bool (Zvz ps rs))):=by
 unfold Zvz;by_cases h1:ps.length≤10
 ·by_cases h2:rs.length≤10
  ·rw [decide_eq_true h1,decide_eq_true h2,Bool.true_and,Bool.true_and];refine Zaa (tok:=0) Tryz.func30 rfl Tryz.ntmps30 Tryz.results30 Tryz.call30 (by rfl) (by simp) ?_;(focus (refine wkad (w_1 @Zc0) w_t w_t ?_;(repeat' first|exact w_t|apply w_l);all_goals intros));refine Zad (ι:=Nat) (λi e m=>i≤ps.length∧e 0=.sl 6 (ps.map RP.av)∧e 1=.sl 3 (rs.map RQ.av)∧e 5=iv i∧(ps.take i).all RP.tiny=true) (λi=>ps.length - i) 0 (by rfl) ?_ ?_
   ·rintro i e m ⟨hi,e0,e1,e5,ht⟩
    by_cases hlt:i < ps.length
    ·have hg:=Zar RP.av hlt;have hsn:=λh=>Zo6 (p:=RP.tiny) hlt ht h;have hat:=λh=>Zw8 (p:=RP.tiny) hlt h;have hm:=hp _ (List.getElem_mem hlt);generalize ps[i]=p at *;have c1:=Znt p.x hm.1;have c2:=Znt p.y hm.2;unfold RP.tiny at hsn hat;obtain⟨px,py⟩:=p;simp only at *;generalize px.tiny=v1 at *;generalize py.tiny=v2 at *;cases v1
     ·rw [show ps.all RP.tiny=false from hat rfl];(focus (refine wkld (w_5 e0 e1 e5 hg @Zc0) (w_2 c1 c2) (w_1 @Bool.false_and) w_t ?_;(repeat' first|exact w_t|apply w_l);all_goals intros))
     ·cases v2
      ·rw [show ps.all RP.tiny=false from hat rfl];(focus (refine wkld (w_5 e0 e1 e5 hg @Zc0) (w_2 c1 c2) (w_1 @Bool.false_and) w_t ?_;(repeat' first|exact w_t|apply w_l);all_goals intros))
      ·(focus (refine wkad (w_5 e0 e1 e5 hg @Zc0) (w_2 c1 c2) w_t ?_;(repeat' first|exact w_t|apply w_l);all_goals intros));exact⟨i+1,⟨by omega,by exact gW e0,by exact gW e1,by exact gS,hsn rfl⟩,by omega⟩
    ·have hi2:i=ps.length:=by omega
     subst hi2;rw [List.take_length] at ht;rw [ht,Bool.true_and];(focus (refine wkad (w_4 e0 e1 e5 @Zc0) w_t w_t ?_;(repeat' first|exact w_t|apply w_l);all_goals intros));refine Zad (ι:=Nat) (λi e m=>i≤rs.length∧e 1=.sl 3 (rs.map RQ.av)∧e 6=iv i∧(rs.take i).all RQ.tiny=true) (λi=>rs.length - i) 0 (by rfl) ?_ ?_
     ·rintro i e m ⟨hi,e1,e6,ht⟩
      by_cases hlt:i < rs.length
      ·have hg:=Zar RQ.av hlt;have hsn:=λh=>Zo6 (p:=RQ.tiny) hlt ht h;have hat:=λh=>Zw8 (p:=RQ.tiny) hlt h;have hm:=hr _ (List.getElem_mem hlt);generalize rs[i]=r at *;have c1:=Znt r hm;generalize r.tiny=v1 at *;cases v1
       ·rw [hat rfl];(focus (refine wkld (w_4 e1 e6 hg @Zc0) (w_1 c1) w_t w_t ?_;(repeat' first|exact w_t|apply w_l);all_goals intros))
       ·(focus (refine wkad (w_4 e1 e6 hg @Zc0) (w_1 c1) w_t ?_;(repeat' first|exact w_t|apply w_l);all_goals intros));exact⟨i+1,⟨by omega,by exact gW e1,by exact gS,hsn rfl⟩,by omega⟩
      ·have hi2:i=rs.length:=by omega
       subst hi2;rw [List.take_length] at ht;rw [ht];(focus (refine wkld (w_3 e1 e6 @Zc0) w_t w_t w_t ?_;(repeat' first|exact w_t|apply w_l);all_goals intros))
     ·exact⟨by omega,by exact gW e1,by exact gC,by simp⟩
   ·exact⟨by omega,by exact gC,by exact gC,by exact gC,by simp⟩
  ·rw [decide_eq_true h1,decide_eq_false h2];refine Zaa (tok:=0) Tryz.func30 rfl Tryz.ntmps30 Tryz.results30 Tryz.call30 (by rfl) (by simp) ?_;(focus (refine wkld (w_1 @Zc0) w_t (w_2 @Bool.false_and @Bool.true_and) w_t ?_;(repeat' first|exact w_t|apply w_l);all_goals intros))
 ·rw [decide_eq_false h1];refine Zaa (tok:=0) Tryz.func30 rfl Tryz.ntmps30 Tryz.results30 Tryz.call30 (by rfl) (by simp) ?_;(focus (refine wkld (w_1 @Zc0) w_t (w_1 @Bool.false_and) w_t ?_;(repeat' first|exact w_t|apply w_l);all_goals intros))
theorem rqValue (k a b c:Int) (ps:List PQ) (rs:List Rat) {j:Nat} (hl:ps.length≤1000000000) (hr:rs.length≤1000000000) (hp:∀p∈ps,p.sz j) (hq:∀r∈rs,Sz r j) (hj:j≤10000) :
 Pure Tryz.prog 82 [Qt.av ⟨k,a,b,c⟩,.sl 6 (ps.map PQ.av),.sl 3 (rs.map ratQ)] (if Qt.chk ⟨k,a,b,c⟩ ps.length rs.length=0 then .tup [ratQ (Qt.val ⟨k,a,b,c⟩ ps rs),iv 0] else .tup [Znc,iv (Qt.chk ⟨k,a,b,c⟩ ps.length rs.length)]):=by
 have cc:=Zus k a b c ps.length rs.length;have ok:=@Zqi k a b c ps.length rs.length;generalize Qt.chk ⟨k,a,b,c⟩ ps.length rs.length=v at *;by_cases hv:v=0
 ·subst hv;rw [if_pos rfl];rcases ok rfl with⟨rfl,h1,h2,h3⟩ | ⟨h0,h1,h2,h3,h4⟩
  ·obtain⟨x,rfl⟩:∃n:Nat,a=n:=⟨a.toNat,by omega⟩;have hx:=Zdg (f:=ratQ) (l:=rs) (d:=0) (j:=x) (by omega);rw [show Qt.val ⟨3,x,b,c⟩ ps rs=rs.getD x 0 from by unfold Qt.val;rfl];generalize rs.getD x 0=q at *;refine Zaa (tok:=0) Tryz.func82 rfl Tryz.ntmps82 Tryz.results82 Tryz.call82 (by rfl) (by simp) ?_;(focus (refine wkld (w_2 @Zc0 hx) (w_1 cc) w_t w_t ?_;(repeat' first|exact w_t|apply w_l);all_goals intros))
  ·obtain⟨x,rfl⟩:∃n:Nat,a=n:=⟨a.toNat,by omega⟩;obtain⟨y,rfl⟩:∃n:Nat,b=n:=⟨b.toNat,by omega⟩;obtain⟨w,rfl⟩:∃n:Nat,c=n:=⟨c.toNat,by omega⟩;have hx:=Zdg (f:=PQ.av) (l:=ps) (d:=(0,0)) (j:=x) (by omega);have hy:=Zdg (f:=PQ.av) (l:=ps) (d:=(0,0)) (j:=y) (by omega);have hw:=Zdg (f:=PQ.av) (l:=ps) (d:=(0,0)) (j:=w) (by omega);have zx:=hp _ (Zdf (d:=(0,0)) (show x < ps.length by omega));have zy:=hp _ (Zdf (d:=(0,0)) (show y < ps.length by omega));have zw:=hp _ (Zdf (d:=(0,0)) (show w < ps.length by omega));rw [show Qt.val ⟨k,x,y,w⟩ ps rs=if k=1 then Zgb (ps.getD x (0,0)) (ps.getD y (0,0)) (ps.getD x (0,0)) (ps.getD w (0,0)) else 2*dotP (ps.getD y (0,0)) (ps.getD x (0,0)) (ps.getD y (0,0)) (ps.getD w (0,0)) from by
    unfold Qt.val;simp only [Int.toNat_natCast];rw [if_neg h0]]
   generalize ps.getD x (0,0)=X at *;generalize ps.getD y (0,0)=Y at *;generalize ps.getD w (0,0)=W at *;have k1:=Zu3 X Y X W zx zy zx zw (by omega);have k2:=r13DotP Y X Y W zy zx zy zw (by omega);have k3:Pure Tryz.prog 53 [iv 2] (ratQ 2):=qOf 2 (by omega);have k4:=qMul 2 (dotP Y X Y W) (Zjz 2 (by omega)) (Zqh zy zx zy zw) (by omega) (by omega);have e2:((2:Nat):Rat)=2:=rfl;generalize Zgb X Y X W=u at *;generalize 2*dotP Y X Y W=z at *;generalize dotP Y X Y W=v at *;generalize (2:Rat)=tw at *;obtain⟨X1,X2⟩:=X;obtain⟨Y1,Y2⟩:=Y;obtain⟨W1,W2⟩:=W;rcases h1 with rfl | rfl
   ·rw [if_pos rfl];refine Zaa (tok:=0) Tryz.func82 rfl Tryz.ntmps82 Tryz.results82 Tryz.call82 (by rfl) (by simp) ?_;(focus (refine wkld (w_4 @Zc0 hx hy hw) (w_2 cc k1) w_t (w_1 (w_d 8 [(20,ratQ u)] [] [6])) ?_;(repeat' first|exact w_t|apply w_l);all_goals intros))
   ·rw [if_neg (by omega)];refine Zaa (tok:=0) Tryz.func82 rfl Tryz.ntmps82 Tryz.results82 Tryz.call82 (by rfl) (by simp) ?_;(focus (refine wkld (w_4 @Zc0 hx hy hw) (w_4 cc k2 k3 k4) w_t (w_1 (w_d 9 [(0,ratQ tw),(21,ratQ v),(22,ratQ z)] [] [6])) ?_;(repeat' first|exact w_t|apply w_l);all_goals intros))
 ·rw [if_neg hv];refine Zaa (tok:=0) Tryz.func82 rfl Tryz.ntmps82 Tryz.results82 Tryz.call82 (by rfl) (by simp) ?_;(focus (refine wkld (w_1 @Zc0) (w_1 cc) w_t w_t ?_;(repeat' first|exact w_t|apply w_l);all_goals intros))
theorem Ztt {k a b c:Int} {ps:List PQ} {rs:List Rat} {j:Nat} (hp:∀p∈ps,PQ.sz p j) (hq:∀r∈rs,Sz r j) (hj:1≤j) (h:Qt.chk ⟨k,a,b,c⟩ ps.length rs.length=0):Sz (Qt.val ⟨k,a,b,c⟩ ps rs) (8*j+6):=by
 rcases Zqi h with⟨rfl,h1,h2,h3⟩ | ⟨h0,h1,h2,h3,h4⟩
 ·rw [show Qt.val ⟨3,a,b,c⟩ ps rs=rs.getD a.toNat 0 from by unfold Qt.val;rfl];exact(hq _ (Zdf (by omega))).mono (by omega)
 ·have zx:=hp _ (Zdf (d:=(0,0)) (show a.toNat < ps.length by omega));have zy:=hp _ (Zdf (d:=(0,0)) (show b.toNat < ps.length by omega));have zw:=hp _ (Zdf (d:=(0,0)) (show c.toNat < ps.length by omega));unfold Qt.val;simp only;rw [if_neg h0];split
  ·exact(Zwv zx zy zx zw).mono (by omega)
  ·exact((Zjz 2 (by omega)).mul (Zqh zy zx zy zw)).mono (by omega)
theorem mild_ok {ps:List RP} {rs:List RQ} (hp:∀p∈ps,p.lm 9223372036854775807) (hr:∀r∈rs,r.lm 9223372036854775807) (hb:Zvz ps rs=true) :
 ∃(qs:List PQ) (us:List Rat),ps.map RP.av=qs.map PQ.av∧rs.map RQ.av=us.map ratQ∧(∀p∈qs,PQ.sz p 2)∧(∀r∈us,Sz r 2)∧qs.length≤10∧us.length≤10:=by
 unfold Zvz at hb;simp only [Bool.and_eq_true,decide_eq_true_eq,List.all_eq_true] at hb;obtain⟨⟨⟨h1,h2⟩,h3⟩,h4⟩:=hb;refine⟨ps.map RP.q,rs.map RQ.q,?_,?_,?_,?_,by rw [List.length_map];exact h1,by rw [List.length_map];exact h2⟩
 ·rw [List.map_map];exact List.map_congr_left λx hx=>(RP.tiny_av (hp x hx) (h3 x hx)).1
 ·rw [List.map_map];exact List.map_congr_left λx hx=>(RQ.tiny_av (hr x hx).1 (hr x hx).2.1 (h4 x hx)).1
 ·intro p hp2;obtain⟨x,hx,rfl⟩:=List.mem_map.1 hp2;exact(RP.tiny_av (hp x hx) (h3 x hx)).2
 ·intro r hr2;obtain⟨x,hx,rfl⟩:=List.mem_map.1 hr2;exact(RQ.tiny_av (hr x hx).1 (hr x hx).2.1 (h4 x hx)).2
end Go.Proofs.YtjekhacnoopdpaaGreatDoor
namespace Go.Proofs.YtjekhacnoopdpaaGreatDoor
open Go Go.RowKit Go.Pg Go.Pol
attribute [-bool_to_prop] Bool.and_eq_decide Bool.or_eq_decide Bool.decide_beq_decide decide_eq_decide
attribute [local go_sem] Tryz.underlying3 Tryz.underlying4 Tryz.underlying169 Tryz.underlying41 Tryz.underlying43 Tryz.underlying45 Tryz.underlying25 Tryz.underlying47 Tryz.underlying49 Tryz.underlying22 Tryz.underlying23 sz3 by3 z3 szB zB Zbf zRat Zbo zInt Zbn zNat Zal Zaz Zam Bool.and_self Zax Zb3 zSlQ szQT byQT zQT Zb6 zSlT szQP zQP
def Zd1 (q:List Qt) (i:Nat):Bool:=decide ((q.getD i Qt.zero).norm=(q.getD i Qt.zero,1)) && (decide (i=0) || decide (Qt.cmp (q.getD (i - 1) Qt.zero) (q.getD i Qt.zero)≤0))
def Zhv (q:List Qt):Bool:=(List.range q.length).all (Zd1 q)
def RE.zero:RE:=⟨⟨false,[],[]⟩,[]⟩
def Zdx (l:List RE) (i:Nat):Bool:=(l.getD i RE.zero).r.ok && (!decide ((l.getD i RE.zero).r.q=0) && (Zhv (l.getD i RE.zero).q && (decide (i=0) || decide (ordQ (l.getD (i - 1) RE.zero).q (l.getD i RE.zero).q < 0))))
def rgtB (l:List RE):Bool:=(List.range l.length).all (Zdx l)
theorem Zhr {n i:Nat} {p:Nat→Bool} (h:i < n) (hp:p i=false):(List.range n).all p=false:=by
 rw [List.all_eq_false];exact⟨i,List.mem_range.2 h,by simp [hp]⟩
theorem Zee {n:Nat} {p:Nat→Bool} (h:∀i,i < n→p i=true):(List.range n).all p=true:=by
 rw [List.all_eq_true];exact λi hi=>h i (List.mem_range.1 hi)
theorem qt_atD {l:List Qt} {i:Nat} (h:i < l.length):(l.map Qt.av).getD i .u=Qt.av (l.getD i Qt.zero):=qt_at h
theorem rxProd (q:List Qt) (hl:q.length≤1000000):Pure Tryz.prog 81 [qsA q] (.v (.bool (Zhv q))):=by
 have hlm:(q.map Qt.av).length=q.length:=List.length_map ..;have hg:∀j,j < q.length→(q.map Qt.av).getD j .u=Qt.av (q.getD j Qt.zero):=λj h=>qt_atD h;have hbad:∀i,i < q.length→Zd1 q i=false→Zhv q=false:=λi h hp=>Zhr h hp;have hgood:(∀i,i < q.length→Zd1 q i=true)→Zhv q=true:=Zee;show Pure _ _ [.sl 4 (q.map Qt.av)] _;generalize q.map Qt.av=A at *;generalize hB:Zhv q=B at *;refine Zaa (tok:=0) Tryz.func81 rfl Tryz.ntmps81 Tryz.results81 Tryz.call81 (by rfl) (by simp) ?_;(focus (refine wkad w_t w_t w_t ?_;(repeat' first|exact w_t|apply w_l);all_goals intros));refine Zad (ι:=Nat) (λi e _=>i≤q.length∧(∀j,j < i→Zd1 q j=true)∧e 0=.sl 4 A∧e 3=iv i) (λi=>q.length - i) 0 (by rfl) ?_ ?_
 ·rintro i e m ⟨hi,hj,e0,e3⟩
  by_cases hlt:i < q.length
  ·have g1:=hg i hlt;have hb:=hbad i hlt;have hnx:Zd1 q i=true→∀j,j < i+1→Zd1 q j=true:=λh j hji=>by
    by_cases e:j=i
    ·rw [e];exact h
    ·exact hj j (by omega)
   clear hgood hbad hj;have c1:=rqNorm (q.getD i Qt.zero).k (q.getD i Qt.zero).a (q.getD i Qt.zero).b (q.getD i Qt.zero).c;have c2:=Zur (q.getD i Qt.zero).norm.1.k (q.getD i Qt.zero).norm.1.a (q.getD i Qt.zero).norm.1.b (q.getD i Qt.zero).norm.1.c (q.getD i Qt.zero).k (q.getD i Qt.zero).a (q.getD i Qt.zero).b (q.getD i Qt.zero).c
   cases i with
   | zero =>
     have hv:Zd1 q 0=decide ((q.getD 0 Qt.zero).norm=(q.getD 0 Qt.zero,1)):=by unfold Zd1;simp
     rw [hv] at hb hnx;clear hv hg;generalize q.getD 0 Qt.zero=y at *;generalize hn:y.norm=nn at *;obtain⟨nn,ns⟩:=nn;obtain⟨y1,y2,y3,y4⟩:=y;obtain⟨n1,n2,n3,n4⟩:=nn;simp only at *;by_cases h1:ns=1
     ·by_cases h2:(⟨n1,n2,n3,n4⟩:Qt)=⟨y1,y2,y3,y4⟩
      ·rw [h2,qtO.refl] at c2;have hny:=hnx (by rw [h1,h2];exact decide_eq_true rfl);rw [h2] at c1;clear hb h2 hn;subst h1;(focus (refine wkad (w_4 e0 e3 hlm g1) (w_2 c1 c2) (w_1 (w_d 5 [(8,iv 0)] [] [])) ?_;(repeat' first|exact w_t|apply w_l);all_goals intros));exact⟨1,⟨by omega,hny,by exact gW e0,by exact gC⟩,by omega⟩
      ·have hz:Qt.cmp ⟨n1,n2,n3,n4⟩ ⟨y1,y2,y3,y4⟩≠0:=λh=>h2 (qtO.eqz _ _ h);have hb:=hb (by rw [h1];exact decide_eq_false λh=>h2 (congrArg Prod.fst h));subst hb;clear hnx h2 hn;subst h1;generalize Qt.cmp _ _=z at *;(focus (refine wkad (w_5 e0 e3 hlm g1 hz) (w_2 c1 c2) (w_1 (w_d 5 [(8,iv z)] [] [])) ?_;(repeat' first|exact w_t|apply w_l);all_goals intros));all_goals exact gL
     ·have hb:=hb (decide_eq_false λh=>h1 (congrArg Prod.snd h));subst hb;clear hnx hn c2;(focus (refine wkad (w_5 e0 e3 hlm g1 h1) (w_1 c1) w_t ?_;(repeat' first|exact w_t|apply w_l);all_goals intros));all_goals exact gL
   | succ i =>
     have g2:=hg i (by omega);have hv:Zd1 q (i+1)=(decide ((q.getD (i+1) Qt.zero).norm=(q.getD (i+1) Qt.zero,1)) && decide (Qt.cmp (q.getD i Qt.zero) (q.getD (i+1) Qt.zero)≤0)):=by unfold Zd1;simp
     rw [hv] at hb hnx;have c3:=Zur (q.getD i Qt.zero).k (q.getD i Qt.zero).a (q.getD i Qt.zero).b (q.getD i Qt.zero).c (q.getD (i+1) Qt.zero).k (q.getD (i+1) Qt.zero).a (q.getD (i+1) Qt.zero).b (q.getD (i+1) Qt.zero).c;clear hv hg;have ei:(i:Int)+1 - 1=(i:Int):=by omega
     have en:((i+1:Nat):Int) - 1=(i:Int):=by omega
     have ek:i+1 - 1=i:=rfl;generalize q.getD (i+1) Qt.zero=y at *;generalize q.getD i Qt.zero=x at *;generalize hn:y.norm=nn at *;obtain⟨nn,ns⟩:=nn;obtain⟨y1,y2,y3,y4⟩:=y;obtain⟨x1,x2,x3,x4⟩:=x;obtain⟨n1,n2,n3,n4⟩:=nn;simp only at *;by_cases h1:ns=1
     ·by_cases h2:(⟨n1,n2,n3,n4⟩:Qt)=⟨y1,y2,y3,y4⟩
      ·rw [h2,qtO.refl] at c2;by_cases h3:Qt.cmp ⟨x1,x2,x3,x4⟩ ⟨y1,y2,y3,y4⟩≤0
       ·have hny:=hnx (by rw [h1,h2,decide_eq_true rfl,decide_eq_true h3];rfl);rw [h2] at c1;clear hb h2 hn;subst h1;generalize Qt.cmp _ _=z at *;have h4:¬0 < z:=by omega
        (focus (refine wkad (w_10 e0 e3 hlm g1 g2 h3 h4 ei en ek) (w_3 c1 c2 c3) (w_1 (w_d 5 [(8,iv 0),(24,iv z)] [] [])) ?_;(repeat' first|exact w_t|apply w_l);all_goals intros));exact⟨i+1+1,⟨by omega,hny,by exact gW e0,by exact gS⟩,by omega⟩
       ·have hb:=hb (by rw [decide_eq_false h3,Bool.and_false]);subst hb;rw [h2] at c1;clear hnx h2 hn;subst h1;generalize Qt.cmp _ _=z at *;have h4:0 < z:=by omega
        (focus (refine wkad (w_9 e0 e3 hlm g1 g2 h4 ei en ek) (w_3 c1 c2 c3) (w_1 (w_d 5 [(8,iv 0),(24,iv z)] [] [])) ?_;(repeat' first|exact w_t|apply w_l);all_goals intros));all_goals exact gL
      ·have hz:Qt.cmp ⟨n1,n2,n3,n4⟩ ⟨y1,y2,y3,y4⟩≠0:=λh=>h2 (qtO.eqz _ _ h);have hb:=hb (by rw [h1,decide_eq_false λh=>h2 (congrArg Prod.fst h)];rfl);subst hb;clear hnx h2 hn c3;subst h1;generalize Qt.cmp ⟨n1,n2,n3,n4⟩ _=z at *;(focus (refine wkad (w_5 e0 e3 hlm g1 hz) (w_2 c1 c2) (w_1 (w_d 5 [(8,iv z)] [] [])) ?_;(repeat' first|exact w_t|apply w_l);all_goals intros));all_goals exact gL
     ·have hb:=hb (by rw [decide_eq_false λh=>h1 (congrArg Prod.snd h)];rfl);subst hb;clear hnx hn c2 c3;(focus (refine wkad (w_5 e0 e3 hlm g1 h1) (w_1 c1) w_t ?_;(repeat' first|exact w_t|apply w_l);all_goals intros));all_goals exact gL
  ·have hil:i=q.length:=by omega
   subst hil;have hb:=hgood hj;subst hb;clear hgood hbad hj hg;(focus (refine wkad (w_3 e0 e3 hlm) w_t w_t ?_;(repeat' first|exact w_t|apply w_l);all_goals intros));all_goals exact gL
 ·exact⟨Nat.zero_le _,λj h=>by omega,by exact gC,by exact gC⟩
theorem re_atD {l:List RE} {i:Nat} (h:i < l.length):(l.map RE.av).getD i .u=RE.av (l.getD i RE.zero):=by
 rw [List.getD_eq_getElem?_getD,List.getD_eq_getElem?_getD,List.getElem?_eq_getElem (by rw [List.length_map];exact h),List.getElem?_eq_getElem h,List.getElem_map];rfl
theorem Zl9 {l:List RE} {i:Nat} (h:i < l.length):l.getD i RE.zero∈l:=by
 rw [List.getD_eq_getElem?_getD,List.getElem?_eq_getElem h];exact List.getElem_mem h
theorem tOk_r {l:List RE} {i:Nat} (h:(l.getD i RE.zero).r.ok=false):Zdx l i=false:=by unfold Zdx;rw [h];rfl
theorem tOk_z {l:List RE} {i:Nat} (h:(l.getD i RE.zero).r.q=0):Zdx l i=false:=by unfold Zdx;rw [decide_eq_true h];simp
theorem tOk_p {l:List RE} {i:Nat} (h:Zhv (l.getD i RE.zero).q=false):Zdx l i=false:=by unfold Zdx;rw [h];simp
theorem tOk_o {l:List RE} {i:Nat} (h:¬ordQ (l.getD i RE.zero).q (l.getD (i+1) RE.zero).q < 0):Zdx l (i+1)=false:=by
 unfold Zdx;rw [show i+1 - 1=i from rfl,decide_eq_false h];simp
theorem Zt6 {l:List RE} {i:Nat} (h1:(l.getD i RE.zero).r.ok=true) (h2:(l.getD i RE.zero).r.q≠0) (h3:Zhv (l.getD i RE.zero).q=true) (h4:i=0∨ordQ (l.getD (i - 1) RE.zero).q (l.getD i RE.zero).q < 0):Zdx l i=true:=by
 unfold Zdx;rw [h1,h3,decide_eq_false h2];simpa using h4
theorem Zul (l:List RE) {J:Nat} (hl:l.length≤1000000) (hr:∀t∈l,t.r.lm J) (hq:∀t∈l,t.q.length≤1000000) (hJ:J≤100000):Pure Tryz.prog 25 [.sl 4 (l.map RE.av)] (.v (.bool (rgtB l))):=by
 have hlm:(l.map RE.av).length=l.length:=List.length_map ..;have hg:∀j,j < l.length→(l.map RE.av).getD j .u=RE.av (l.getD j RE.zero):=λj h=>re_atD h;have hr:∀j,j < l.length→(l.getD j RE.zero).r.lm J:=λj h=>hr _ (Zl9 h);have hq:∀j,j < l.length→(l.getD j RE.zero).q.length≤1000000:=λj h=>hq _ (Zl9 h);have hbad:∀i,i < l.length→Zdx l i=false→rgtB l=false:=λi h hp=>Zhr h hp;have hgood:(∀i,i < l.length→Zdx l i=true)→rgtB l=true:=Zee;generalize l.map RE.av=A at *;generalize hB:rgtB l=B at *;refine Zaa (tok:=0) Tryz.func25 rfl Tryz.ntmps25 Tryz.results25 Tryz.call25 (by rfl) (by simp) ?_
 (focus (refine wkad w_t w_t w_t ?_;(repeat' first|exact w_t|apply w_l);all_goals intros));refine Zad (ι:=Nat) (λi e _=>i≤l.length∧(∀j,j < i→Zdx l j=true)∧e 0=.sl 4 A∧e 3=iv i) (λi=>l.length - i) 0 (by rfl) ?_ ?_
 ·rintro i e m ⟨hi,hj,e0,e3⟩
  by_cases hlt:i < l.length
  ·have g1:=hg i hlt;have hri:=hr i hlt;have hqi:=hq i hlt;have hb:=hbad i hlt;have hnx:Zdx l i=true→∀j,j < i+1→Zdx l j=true:=λh j hji=>by
    by_cases e:j=i
    ·rw [e];exact h
    ·exact hj j (by omega)
   clear hgood hbad hj;have g1:A.getD i .u=.agg [.v (.bool (l.getD i RE.zero).r.s),lim (l.getD i RE.zero).r.l,lim (l.getD i RE.zero).r.d,.sl 4 ((l.getD i RE.zero).q.map Qt.av)]:=g1;have crq:=Zu7 (l.getD i RE.zero).r.s (l.getD i RE.zero).r.l (l.getD i RE.zero).r.d hri.1 hri.2.1 (by have:=hri.2.2.1;omega) (by have:=hri.2.2.2;omega)
   cases hro:(l.getD i RE.zero).r.ok with
   | false =>
     have crq:Pure Tryz.prog 67 [.agg [.v (.bool (l.getD i RE.zero).r.s),lim (l.getD i RE.zero).r.l,lim (l.getD i RE.zero).r.d]] (.v (.bool (l.getD i RE.zero).r.ok)):=crq;rw [hro] at crq;have hb:=hb (tOk_r hro);subst hb;clear hnx hg hr hq hro hri hqi;generalize l.getD i RE.zero=t at *;obtain⟨⟨s,x,d⟩,q⟩:=t;simp only at *;generalize q.map Qt.av=Q at *;(focus (refine wkad (w_4 e0 e3 hlm g1) (w_1 crq) (w_1 (w_d 4 [(5,.v (.bool false))] [] [])) ?_;(repeat' first|exact w_t|apply w_l);all_goals intros));all_goals exact gL
   | true =>
     have crq:Pure Tryz.prog 67 [.agg [.v (.bool (l.getD i RE.zero).r.s),lim (l.getD i RE.zero).r.l,lim (l.getD i RE.zero).r.d]] (.v (.bool (l.getD i RE.zero).r.ok)):=crq;rw [hro] at crq;have hz:=(RQ.ok_av hri hro).2;have cz:=Zu6 _ hz (by omega);have hre:=RQ.ok_eq hri hro;have cz:Pure Tryz.prog 66 [.agg [.v (.bool (decide ((l.getD i RE.zero).r.q.num < 0))),lim (toL (l.getD i RE.zero).r.q.num.natAbs),lim (toL (l.getD i RE.zero).r.q.den)]] (iv (l.getD i RE.zero).r.q.num.sign):=cz;have e1:(l.getD i RE.zero).r.s=decide ((l.getD i RE.zero).r.q.num < 0):=congrArg RQ.s hre;have e2:(l.getD i RE.zero).r.l=toL (l.getD i RE.zero).r.q.num.natAbs:=congrArg RQ.l hre
     have e4:(l.getD i RE.zero).r.d=toL (l.getD i RE.zero).r.q.den:=congrArg RQ.d hre;rw [←e1,←e2,←e4] at cz;clear e1 e2 e4 hre hz;have cp:=rxProd (l.getD i RE.zero).q hqi;have cp:Pure Tryz.prog 81 [.sl 4 ((l.getD i RE.zero).q.map Qt.av)] (.v (.bool (Zhv (l.getD i RE.zero).q))):=cp;by_cases hx:(l.getD i RE.zero).r.q=0
     ·have hz2:(l.getD i RE.zero).r.q.num.sign=0:=by rw [Zc8];exact hx
      rw [hz2] at cz;have hb:=hb (tOk_z hx);subst hb;clear hnx hg hr hq hro hri hqi hx hz2 cp;generalize l.getD i RE.zero=t at *;obtain⟨⟨s,x,d⟩,q⟩:=t;simp only at *;generalize q.map Qt.av=Q at *;(focus (refine wkad (w_4 e0 e3 hlm g1) (w_2 crq cz) (w_1 (w_d 4 [(5,.v (.bool true)),(13,iv 0)] [] [])) ?_;(repeat' first|exact w_t|apply w_l);all_goals intros));all_goals exact gL
     ·have hz2:¬(l.getD i RE.zero).r.q.num.sign=0:=by rw [Zc8];exact hx
      cases hpb:Zhv (l.getD i RE.zero).q with
      | false =>
        rw [hpb] at cp;have hb:=hb (tOk_p hpb);subst hb;clear hnx hg hr hq hro hri hqi hx hpb;generalize (l.getD i RE.zero).r.q.num.sign=z at *;generalize l.getD i RE.zero=t at *;obtain⟨⟨s,x,d⟩,q⟩:=t;simp only at *;generalize q.map Qt.av=Q at *;(focus (refine wkad (w_5 e0 e3 hlm g1 hz2) (w_3 crq cz cp) (w_1 (w_d 4 [(5,.v (.bool true)),(13,iv z),(22,.v (.bool false))] [] [])) ?_;(repeat' first|exact w_t|apply w_l);all_goals intros));all_goals exact gL
      | true =>
        rw [hpb] at cp
        cases i with
        | zero =>
          have hnx:=hnx (Zt6 hro hx hpb (.inl rfl));clear hb hg hr hq hro hri hqi hx hpb;generalize (l.getD 0 RE.zero).r.q.num.sign=z at *;generalize l.getD 0 RE.zero=t at *;obtain⟨⟨s,x,d⟩,q⟩:=t;simp only at *;generalize q.map Qt.av=Q at *;(focus (refine wkad (w_5 e0 e3 hlm g1 hz2) (w_3 crq cz cp) (w_1 (w_d 4 [(5,.v (.bool true)),(13,iv z),(22,.v (.bool true))] [] [])) ?_;(repeat' first|exact w_t|apply w_l);all_goals intros));exact⟨1,⟨by omega,hnx,by exact gW e0,by exact gC⟩,by omega⟩
        | succ i =>
          have g2:=hg i (by omega);have g2:A.getD i .u=.agg [.v (.bool (l.getD i RE.zero).r.s),lim (l.getD i RE.zero).r.l,lim (l.getD i RE.zero).r.d,.sl 4 ((l.getD i RE.zero).q.map Qt.av)]:=g2;have co:=Zl2 (l.getD i RE.zero).q (l.getD (i+1) RE.zero).q (hq i (by omega)) hqi;have co:Pure Tryz.prog 68 [.sl 4 ((l.getD i RE.zero).q.map Qt.av),.sl 4 ((l.getD (i+1) RE.zero).q.map Qt.av)] (iv (ordQ (l.getD i RE.zero).q (l.getD (i+1) RE.zero).q)):=co;have en:((i+1:Nat):Int) - 1=(i:Int):=by omega
          by_cases ho:ordQ (l.getD i RE.zero).q (l.getD (i+1) RE.zero).q < 0
          ·have hnx:=hnx (Zt6 hro hx hpb (.inr ho));clear hb hg hr hq hro hri hqi hx hpb;have ho2:¬0≤ordQ (l.getD i RE.zero).q (l.getD (i+1) RE.zero).q:=by omega
           generalize (l.getD (i+1) RE.zero).r.q.num.sign=z at *;generalize ordQ (l.getD i RE.zero).q (l.getD (i+1) RE.zero).q=w at *;generalize l.getD (i+1) RE.zero=t at *;generalize l.getD i RE.zero=u at *;obtain⟨⟨s,x,d⟩,q⟩:=t;obtain⟨⟨s',x',d'⟩,q'⟩:=u;simp only at *;generalize q.map Qt.av=Q at *;generalize q'.map Qt.av=Q' at *;(focus (refine wkad (w_9 e0 e3 hlm g1 g2 hz2 ho ho2 en) (w_4 crq cz cp co) (w_1 (w_d 4 [(5,.v (.bool true)),(13,iv z),(22,.v (.bool true)),(40,iv w)] [] [])) ?_;(repeat' first|exact w_t|apply w_l);all_goals intros));exact⟨i+1+1,⟨by omega,hnx,by exact gW e0,by exact gS⟩,by omega⟩
          ·have hb:=hb (tOk_o ho);subst hb;clear hnx hg hr hq hro hri hqi hx hpb;have ho2:0≤ordQ (l.getD i RE.zero).q (l.getD (i+1) RE.zero).q:=by omega
           generalize (l.getD (i+1) RE.zero).r.q.num.sign=z at *;generalize ordQ (l.getD i RE.zero).q (l.getD (i+1) RE.zero).q=w at *;generalize l.getD (i+1) RE.zero=t at *;generalize l.getD i RE.zero=u at *;obtain⟨⟨s,x,d⟩,q⟩:=t;obtain⟨⟨s',x',d'⟩,q'⟩:=u;simp only at *;generalize q.map Qt.av=Q at *;generalize q'.map Qt.av=Q' at *;(focus (refine wkad (w_9 e0 e3 hlm g1 g2 hz2 ho ho2 en) (w_4 crq cz cp co) (w_1 (w_d 4 [(5,.v (.bool true)),(13,iv z),(22,.v (.bool true)),(40,iv w)] [] [])) ?_;(repeat' first|exact w_t|apply w_l);all_goals intros));all_goals exact gL
  ·have hil:i=l.length:=by omega
   subst hil;have hb:=hgood hj;subst hb;clear hgood hbad hj hg hr hq;(focus (refine wkad (w_3 e0 e3 hlm) w_t w_t ?_;(repeat' first|exact w_t|apply w_l);all_goals intros));all_goals exact gL
 ·exact⟨Nat.zero_le _,λj h=>by omega,by exact gC,by exact gC⟩
section
attribute [local go_sem] Tryz.underlying3 Tryz.underlying4 Tryz.underlying169 Tryz.underlying41 Tryz.underlying43 Tryz.underlying45 Tryz.underlying25 Tryz.underlying47 Tryz.underlying49 Tryz.underlying22 Tryz.underlying23 sz3 by3 z3 szB zB Zbf zRat Zbo zInt Zbn zNat Zal Zaz Zam Bool.and_self Zax Zb3 zSlQ szQT byQT zQT Zb6 zSlT szQP zQP
end
attribute [local go_sem] Tryz.underlying92 Tryz.underlying27 szFr byFr zFr Zib Zii zSQP Tryz.underlying36 Tryz.underlying33 Tryz.underlying9 Zcx zStr
def nrmT (l:List RE):QTs:=if l.all RE.ok=true then gatM (l.map RE.t) else []
def REsm (t:RE):Bool:=decide (t.q.length≤6) && (decide (t.r.l.length≤2) && decide (t.r.d.length≤2))
section
variable {N n:Nat} {cs:List AV}
theorem shProd (h:Zcg Tryz.prog N n 47 cs):∃l:List Qt,cs=[qsA l]∧l.length≤N:=by
 obtain⟨bs,rfl,hl,_⟩:=Zcu (g:=λq:Qt=>[iv q.k,iv q.a,iv q.b,iv q.c]) (Q:=λ_=>True) Tryz.underlying47 h λm x hx=>by
  obtain⟨k,a,b,c,rfl⟩:=Zq3 hx;exact⟨⟨k,a,b,c⟩,rfl,trivial⟩
 refine⟨bs,?_,hl⟩;rw [show Tryz.prog.cellsOf 25=4 from by kernel_rfl];have:(bs.map λq:Qt=>Zc2 Tryz.prog 25 [iv q.k,iv q.a,iv q.b,iv q.c])=bs.map Qt.av:=List.map_congr_left λb _=>Zo7 _;rw [this]
theorem shQTerm (h:Zcg Tryz.prog N n 49 cs):∃t:RE,cs=[.v (.bool t.r.s),lim t.r.l,lim t.r.d,qsA t.q]∧t.r.lm N∧t.q.length≤N:=by
 obtain⟨m,rfl,hs⟩:=Zdt Tryz.underlying49 (by kernel_rfl) h;obtain⟨x,y,rfl,h1,hs⟩:=hs.inv;obtain⟨x2,y,rfl,h2,hs⟩:=hs.inv;obtain rfl:=hs.inv0;obtain⟨r,rfl,hr⟩:=Zuh h1;obtain⟨l,rfl,hl⟩:=shProd h2;exact⟨⟨r,l⟩,rfl,hr,hl⟩
theorem Zf1 {T:TypeId} (hu:Tryz.prog.underlying T=some (.slice 49)) (h:Zcg Tryz.prog N n T cs):∃l:List RE,cs=[.sl 4 (l.map RE.av)]∧l.length≤N∧(∀t∈l,t.r.lm N)∧∀t∈l,t.q.length≤N:=by
 obtain⟨bs,rfl,hl,hq⟩:=Zcu (g:=λt:RE=>[.v (.bool t.r.s),lim t.r.l,lim t.r.d,qsA t.q]) (Q:=λt=>t.r.lm N∧t.q.length≤N) hu h λm x hx=>by
  obtain⟨t,h1,h2⟩:=shQTerm hx;exact⟨t,h1,h2⟩
 refine⟨bs,?_,hl,λt ht=>(hq t ht).1,λt ht=>(hq t ht).2⟩;rw [show Tryz.prog.cellsOf 49=4 from by kernel_rfl];have:(bs.map λt:RE=>Zc2 Tryz.prog 49 [.v (.bool t.r.s),lim t.r.l,lim t.r.d,qsA t.q])=bs.map RE.av:=List.map_congr_left λb _=>Zfw Tryz.underlying49 _;rw [this]
end
def Zer (Q:Nat) (t:RE):Bool:=decide (t.q.length≤Q) && t.r.tiny
def Zbp (T Q:Nat) (l:List RE):Bool:=decide (l.length≤T) && (l.all (Zer Q) && rgtB l)
def RE.rt (t:RE):Rat × List Qt:=(t.r.q,t.q)
theorem Zun {Q k:Nat} {l:List RE} (hr:∀t∈l,t.r.lm k) (h:l.all (Zer Q)=true):l.map RE.av=(l.map RE.rt).map qtA:=by
 rw [List.map_map];refine List.map_congr_left λt ht=>?_;have:=List.all_eq_true.1 h t ht;unfold Zer at this;simp only [Bool.and_eq_true] at this;have e:=(RQ.tiny_av (hr t ht).1 (hr t ht).2.1 this.2).1;have e1:t.r.av=.agg [.v (.bool t.r.s),lim t.r.l,lim t.r.d]:=rfl;have e2:ratQ t.r.q=.agg [.v (.bool (decide (t.r.q.num < 0))),lim (toL t.r.q.num.natAbs),lim (toL t.r.q.den)]:=rfl;rw [e1,e2] at e;simp only [AV.agg.injEq,List.cons.injEq,and_true] at e;show AV.agg [.v (.bool t.r.s),lim t.r.l,lim t.r.d,qsA t.q]=.agg [.v (.bool (decide (t.r.q.num < 0))),lim (toL t.r.q.num.natAbs),lim (toL t.r.q.den),qsA t.q]
 rw [e.1,e.2.1,e.2.2]
theorem rt_qk {Q k:Nat} {l:List RE} (hr:∀t∈l,t.r.lm k) (h:l.all (Zer Q)=true):QK (l.map RE.rt) 2 Q:=λu hu=>by
 obtain⟨t,ht,rfl⟩:=List.mem_map.1 hu;have:=List.all_eq_true.1 h t ht;unfold Zer at this;simp only [Bool.and_eq_true,decide_eq_true_eq] at this;exact⟨(RQ.tiny_av (hr t ht).1 (hr t ht).2.1 this.2).2,this.1⟩
theorem Zl1 (l:List RE) (T Q:Nat) (hT:T≤100000) (hQ:Q≤100000) (hl:l.length≤9223372036854775807) (hr:∀t∈l,t.r.lm 9223372036854775807) (hq:∀t∈l,t.q.length≤9223372036854775807) :
 Pure Tryz.prog 11 [.sl 4 (l.map RE.av),iv T,iv Q] (.v (.bool (Zbp T Q l))):=by
 have hpl:(l.map RE.av).length=l.length:=List.length_map ..;have hg:∀i (h:i < l.length),(l.map RE.av).getD i .u=.agg [.v (.bool l[i].r.s),lim l[i].r.l,lim l[i].r.d,.sl 4 (l[i].q.map Qt.av)]:=λi h=>Zar RE.av h;have ct:∀i (h:i < l.length),Pure Tryz.prog 20 [.agg [.v (.bool l[i].r.s),lim l[i].r.l,lim l[i].r.d]] (.v (.bool l[i].r.tiny)):=λi h=>Znt l[i].r (hr _ (List.getElem_mem h));have cr:l.length≤T→l.all (Zer Q)=true→Pure Tryz.prog 25 [.sl 4 (l.map RE.av)] (.v (.bool (rgtB l))):=λh1 h2=>by
  have h3:∀t∈l,t.q.length≤Q∧t.r.tiny=true:=λt ht=>by
   have:=List.all_eq_true.1 h2 t ht;unfold Zer at this
   simpa only [Bool.and_eq_true,decide_eq_true_eq] using this
  refine Zul l (J:=2) (by omega) (λt ht=>?_) (λt ht=>by have:=h3 t ht;omega) (by omega);have h4:=(h3 t ht).2;unfold RQ.tiny at h4;simp only [Bool.and_eq_true,decide_eq_true_eq] at h4;exact⟨(hr t ht).1,(hr t ht).2.1,h4.1.1,h4.1.2⟩
 clear hr hq;generalize l.map RE.av=L at *;by_cases hlen:l.length≤T
 ·have h1:¬(T:Int) < (l.length:Int):=by omega
  have hsm:Zbp T Q l=(l.all (Zer Q) && rgtB l):=by unfold Zbp;rw [decide_eq_true hlen,Bool.true_and]
  rw [hsm];refine Zaa (tok:=0) Tryz.func11 rfl Tryz.ntmps11 Tryz.results11 Tryz.call11 (by rfl) (by simp) ?_;(focus (refine wkad (w_2 hpl h1) w_t w_t ?_;(repeat' first|exact w_t|apply w_l);all_goals intros));refine Zad (ι:=Nat) (λi e m=>i≤l.length∧(l.take i).all (Zer Q)=true∧e 0=.sl 4 L∧e 2=iv Q∧e 7=iv i) (λi=>l.length - i) 0 (by rfl) ?_ ?_
  ·rintro i e m ⟨hi,hs,e0,e2,e7⟩
   by_cases hlt:i < l.length
   ·have hgi:=hg i hlt;have cti:=ct i hlt;have hql:(l[i].q.map Qt.av).length=l[i].q.length:=List.length_map ..;have hst:Zer Q l[i]=true→(l.take (i+1)).all (Zer Q)=true:=Zfh hlt hs;have hsn:Zer Q l[i]=false→l.all (Zer Q)=false:=λh=>List.all_eq_false.2 ⟨l[i],List.getElem_mem hlt,by rw [h];decide⟩;have hsd:Zer Q l[i]=(decide (l[i].q.length≤Q) && l[i].r.tiny):=rfl;clear hg ct cr hs hsm;generalize l[i].q.map Qt.av=qs at *;generalize l[i].q.length=qn at *;generalize l[i].r.tiny=tn at *;generalize l[i].r.s=ts at *;generalize l[i].r.l=tl at *;generalize l[i].r.d=td at *;by_cases h6:qn≤Q
    ·have g6:¬(Q:Int) < (qn:Int):=by omega
     cases tn with
     | true =>
       have hsy:=hst (by rw [hsd,decide_eq_true h6];rfl);(focus (refine wkad (w_7 e0 e2 e7 hpl hgi hql g6) (w_1 cti) w_t ?_;(repeat' first|exact w_t|apply w_l);all_goals intros));exact⟨i+1,⟨by omega,hsy,by exact gW e0,by exact gW e2,by exact gS⟩,by omega⟩
     | false =>
       rw [hsn (by rw [hsd,Bool.and_false]),Bool.false_and];(focus (refine wkad (w_7 e0 e2 e7 hpl hgi hql g6) (w_1 cti) w_t ?_;(repeat' first|exact w_t|apply w_l);all_goals intros));all_goals exact gL
    ·have g6:(Q:Int) < (qn:Int):=by omega
     rw [hsn (by rw [hsd,decide_eq_false h6];rfl),Bool.false_and];(focus (refine wkad (w_7 e0 e2 e7 hpl hgi hql g6) w_t w_t ?_;(repeat' first|exact w_t|apply w_l);all_goals intros));all_goals exact gL
   ·have:i=l.length:=by omega
    subst this;rw [List.take_length] at hs;have cr:=cr hlen hs;rw [hs,Bool.true_and];(focus (refine wkad (w_4 e0 e2 e7 hpl) (w_1 cr) w_t ?_;(repeat' first|exact w_t|apply w_l);all_goals intros));all_goals exact gL
  ·exact⟨Nat.zero_le _,rfl,by exact gC,by exact gC,by exact gC⟩
 ·have h1:(T:Int) < (l.length:Int):=by omega
  have hsm:Zbp T Q l=false:=by unfold Zbp;rw [decide_eq_false hlen,Bool.false_and]
  rw [hsm];refine Zaa (tok:=0) Tryz.func11 rfl Tryz.ntmps11 Tryz.results11 Tryz.call11 (by rfl) (by simp) ?_;(focus (refine wkad (w_2 hpl h1) w_t w_t ?_;(repeat' first|exact w_t|apply w_l);all_goals intros));all_goals exact gL
theorem Zml (l:List RE) (hl:l.length≤9223372036854775807) (hr:∀t∈l,t.r.lm 9223372036854775807) (hq:∀t∈l,t.q.length≤9223372036854775807) :
 Pure Tryz.prog 16 [.sl 4 (l.map RE.av)] (.v (.bool (Zbp 8 3 l))):=by
 have c:Pure Tryz.prog 11 [.sl 4 (l.map RE.av),iv 8,iv 3] (.v (.bool (Zbp 8 3 l))):=Zl1 l 8 3 (by omega) (by omega) hl hr hq;generalize Zbp 8 3 l=b at *;generalize l.map RE.av=L at *;refine Zaa (tok:=0) Tryz.func16 rfl Tryz.ntmps16 Tryz.results16 Tryz.call16 (by rfl) (by simp) ?_;(focus (refine wkad w_t (w_1 c) w_t ?_;(repeat' first|exact w_t|apply w_l);all_goals intros));all_goals exact gL
attribute [local go_sem] Tryz.underlying110 Tryz.underlying55 Tryz.underlying56
abbrev cQ (a:Rat):List AV:=[.v (.bool (decide (a.num < 0))),lim (toL a.num.natAbs),lim (toL a.den)]
def pV (ps:List PQ) (rs:List Rat) (t:Rat × List Qt):Nat→Rat
 | 0=>t.1
 | i+1=>pV ps rs t i*Qt.val (t.2.getD i Qt.zero) ps rs
def eV (ps:List PQ) (rs:List Rat) (l:QTs):Nat→Rat
 | 0=>0
 | i+1=>eV ps rs l i+pV ps rs (l.getD i (0,[])) (l.getD i (0,[])).2.length
def chQ (n m:Int):List Qt→Int
 | []=>0
 | q :: l=>if Qt.chk q n m=0 then chQ n m l else Qt.chk q n m
def chE (n m:Int):QTs→Int
 | []=>0
 | t :: l=>if chQ n m t.2=0 then chE n m l else chQ n m t.2
theorem Zqm {n m:Int}:∀{p:List Qt},(∀j (h:j < p.length),Qt.chk p[j] n m=0)→chQ n m p=0
 | [],_=>rfl
 | q :: l,h=>by
   have h0:Qt.chk q n m=0:=h 0 (by simp);unfold chQ;rw [if_pos h0];exact Zqm λj hj=>h (j+1) (by simpa using hj)
theorem Zww {n m:Int}:∀{p:List Qt} {i:Nat} (hi:i < p.length),(∀j (h:j < p.length),j < i→Qt.chk p[j] n m=0)→Qt.chk p[i] n m≠0→chQ n m p=Qt.chk p[i] n m
 | q :: l,0,_,_,h2=>by
   have h2:Qt.chk q n m≠0:=h2;unfold chQ;rw [if_neg h2];rfl
 | q :: l,i+1,hi,h,h2=>by
   have h0:Qt.chk q n m=0:=h 0 (by simp) (by omega);unfold chQ;rw [if_pos h0];exact Zww (by simpa using hi) (λj hj hji=>h (j+1) (by simpa using hj) (by omega)) h2
theorem Zqn {n m:Int}:∀{l:QTs},(∀j (h:j < l.length),chQ n m l[j].2=0)→chE n m l=0
 | [],_=>rfl
 | q :: l,h=>by
   have h0:chQ n m q.2=0:=h 0 (by simp);unfold chE;rw [if_pos h0];exact Zqn λj hj=>h (j+1) (by simpa using hj)
theorem Zwx {n m:Int}:∀{l:QTs} {i:Nat} (hi:i < l.length),(∀j (h:j < l.length),j < i→chQ n m l[j].2=0)→chQ n m l[i].2≠0→chE n m l=chQ n m l[i].2
 | q :: l,0,_,_,h2=>by
   have h2:chQ n m q.2≠0:=h2;unfold chE;rw [if_neg h2];rfl
 | q :: l,i+1,hi,h,h2=>by
   have h0:chQ n m q.2=0:=h 0 (by simp) (by omega);unfold chE;rw [if_pos h0];exact Zwx (by simpa using hi) (λj hj hji=>h (j+1) (by simpa using hj) (by omega)) h2
theorem pV_sz {ps:List PQ} {rs:List Rat} {t:Rat × List Qt} {k j:Nat} (ht:Sz t.1 k) (hp:∀p∈ps,PQ.sz p j) (hq:∀r∈rs,Sz r j) (hj:1≤j):∀i,i≤t.2.length→(∀a (h:a < t.2.length),a < i→Qt.chk t.2[a] ps.length rs.length=0)→Sz (pV ps rs t i) (k+i*(8*j+6))
 | 0,_,_=>by unfold pV;exact ht.mono (by omega)
 | i+1,hi,h=>by
   have h1:=pV_sz ht hp hq hj i (by omega) λa ha hai=>h a ha (by omega);have e:t.2.getD i Qt.zero=t.2[i]:=Zb4 (by omega);have h2:=Ztt hp hq hj (h i (by omega) (by omega));have h2:Sz (Qt.val t.2[i] ps rs) (8*j+6):=h2;unfold pV;rw [e];refine(h1.mul h2).mono ?_;rw [Nat.add_one_mul i (8*j+6)];generalize i*(8*j+6)=z;omega
theorem Zsf {n m:Int}:∀{p:List Qt},chQ n m p=0→∀j (h:j < p.length),Qt.chk p[j] n m=0
 | [],_=>λj hj=>by simp at hj
 | q :: l,h=>by
   unfold chQ at h;by_cases h0:Qt.chk q n m=0
   ·rw [if_pos h0] at h;intro j hj
    cases j with
    | zero=>exact h0
    | succ j=>exact Zsf h j (by simpa using hj)
   ·rw [if_neg h0] at h;exact absurd h h0
theorem eV_sz {ps:List PQ} {rs:List Rat} {l:QTs} {K j:Nat} (h:∀t∈l,t.2.length≤100∧Sz t.1 K) (hp:∀p∈ps,PQ.sz p j) (hq:∀r∈rs,Sz r j) (hj:1≤j):∀i,i≤l.length→(∀a (h:a < l.length),a < i→chQ ps.length rs.length l[a].2=0)→Sz (eV ps rs l i) (1+i*(K+100*(8*j+6)+1))
 | 0,_,_=>by unfold eV;exact(Zjz 0 (by omega)).mono (by omega)
 | i+1,hi,hc=>by
   have h1:=eV_sz h hp hq hj i (by omega) λa ha hai=>hc a ha (by omega);have e:l.getD i (0,[])=l[i]:=Zb4 (by omega);have hm:=h l[i] (List.getElem_mem (by omega));have hz:=Zsf (hc i (by omega) (by omega));have h2:=pV_sz (t:=l[i]) hm.2 hp hq hj l[i].2.length (Nat.le_refl _) λa ha _=>hz a ha;have h3:l[i].2.length*(8*j+6)≤100*(8*j+6):=Nat.mul_le_mul_right _ hm.1;unfold eV;rw [e];refine(h1.add h2).mono ?_;rw [Nat.add_one_mul i (K+100*(8*j+6)+1)];generalize i*(K+100*(8*j+6)+1)=z;omega
abbrev cQ0:List AV:=[.v (.bool false),.v (.slice none 0 0),.v (.slice none 0 0)]
theorem exValue (l:QTs) (ps:List PQ) (rs:List Rat) {K j:Nat} (hl:l.length≤100) (h:∀t∈l,t.2.length≤100∧Sz t.1 K) (hK:K≤1000) (hpl:ps.length≤1000) (hrl:rs.length≤1000) (hp:∀p∈ps,PQ.sz p j) (hq:∀r∈rs,Sz r j) (hj:1≤j) (hj2:j≤10) :
 Pure Tryz.prog 31 [.sl 4 (l.map qtA),.sl 6 (ps.map PQ.av),.sl 3 (rs.map ratQ)] (if chE ps.length rs.length l=0 then .tup [ratQ (eV ps rs l l.length),iv 0] else .tup [Znc,iv (chE ps.length rs.length l)]):=by
 have hlm:(l.map qtA).length=l.length:=List.length_map ..;have hg:∀i (h:i < l.length),(l.map qtA).getD i .u=.agg [.v (.bool (decide (l[i].1.num < 0))),lim (toL l[i].1.num.natAbs),lim (toL l[i].1.den),.sl 4 (l[i].2.map Qt.av)]:=λi h=>Zar qtA h;have c0:Pure Tryz.prog 57 [iv 0] (.agg (cQ (0:Rat))):=Znz 0 (by omega);have cv:∀q:Qt,Pure Tryz.prog 39 [.agg [iv q.k,iv q.a,iv q.b,iv q.c],.sl 6 (ps.map PQ.av),.sl 3 (rs.map ratQ)] (if Qt.chk q ps.length rs.length=0 then .tup [ratQ (Qt.val q ps rs),iv 0] else .tup [Znc,iv (Qt.chk q ps.length rs.length)]):=λq=>quValue q.k q.a q.b q.c ps rs (by omega) (by omega) hp hq (by omega)
 have zV:∀q:Qt,Qt.chk q ps.length rs.length=0→Sz (Qt.val q ps rs) (8*j+6):=λq hc=>Ztt hp hq hj hc;have zP:∀a (ha:a < l.length) i,i≤l[a].2.length→(∀b (h:b < l[a].2.length),b < i→Qt.chk l[a].2[b] ps.length rs.length=0)→Sz (pV ps rs l[a] i) 100000:=λa ha i hi hc=>by
  have hm:=h l[a] (List.getElem_mem ha);have h3:i*(8*j+6)≤100*(8*j+6):=Nat.mul_le_mul_right _ (by omega);exact(pV_sz hm.2 hp hq hj i hi hc).mono (by omega)
 have zE:∀i,i≤l.length→(∀a (h:a < l.length),a < i→chQ ps.length rs.length l[a].2=0)→Sz (eV ps rs l i) 1100000:=λi hi hc=>by
  have h3:i*(K+100*(8*j+6)+1)≤100*(K+100*(8*j+6)+1):=Nat.mul_le_mul_right _ (by omega);exact(eV_sz h hp hq hj i hi hc).mono (by omega)
 have ql:∀a (ha:a < l.length),l[a].2.length≤100:=λa ha=>(h l[a] (List.getElem_mem ha)).1;clear h hp hq;generalize l.map qtA=L at *;generalize ps.map PQ.av=A at *;generalize rs.map ratQ=B at *;generalize hR:(if chE ps.length rs.length l=0 then AV.tup [ratQ (eV ps rs l l.length),iv 0] else .tup [Znc,iv (chE ps.length rs.length l)])=R at *;generalize (ps.length:Int)=n at *;generalize (rs.length:Int)=mm at *;refine Zaa (tok:=0) Tryz.func31 rfl Tryz.ntmps31 Tryz.results31 Tryz.call31 (by rfl) (by simp) ?_;(focus (refine wkad (w_1 hlm) (w_1 c0) w_t ?_;(repeat' first|exact w_t|apply w_l);all_goals intros))
 refine Zad (ι:=Nat) (λi e m=>i≤l.length∧(e 1=.sl 6 A∧e 2=.sl 3 B∧e 17=.sl 4 L∧e 18=iv l.length∧e 19=iv i)∧(∃g,e 6=.pbox 6 g 0∧m 6=some (.box g 45 (cQ0) false))∧(∃g,e 8=.pbox 8 g 0∧m 8=some (.box g 45 (cQ (eV ps rs l i)) false))∧∀a (h:a < l.length),a < i→chQ n mm l[a].2=0) (λi=>l.length - i) 0 (by rfl) ?_ ?_
 ·rintro i e m ⟨hi,⟨e1,e2,e17,e18,e19⟩,⟨g6,e6,m6⟩,⟨g8,e8,m8⟩,hc⟩
  by_cases hlt:i < l.length
  ·have hgi:=hg i hlt;have hqm:(l[i].2.map Qt.av).length=l[i].2.length:=List.length_map ..;have hqe:∀b (h:b < l[i].2.length),(l[i].2.map Qt.av).getD b .u=.agg [iv l[i].2[b].k,iv l[i].2[b].a,iv l[i].2[b].b,iv l[i].2[b].c]:=λb h=>Zar Qt.av h;have hzi:=zE i hi hc
   have hnx:eV ps rs l (i+1)=eV ps rs l i+pV ps rs l[i] l[i].2.length:=by
    have e:l.getD i (0,[])=l[i]:=Zb4 hlt;show eV ps rs l i+pV ps rs (l.getD i (0,[])) (l.getD i (0,[])).2.length=_;rw [e]
   have hp0:cQ l[i].1=cQ (pV ps rs l[i] 0):=rfl;have hqli:=ql i hlt;generalize hqs:l[i].2.map Qt.av=qs at *;(focus (refine wkad (w_12 e1 e2 e17 e18 e19 hlm hgi hqm e6 m6 e8 m8) w_t w_t ?_;(repeat' first|exact w_t|apply w_l);all_goals intros));refine Zad (ι:=Nat) (λb e m=>b≤l[i].2.length∧(e 1=.sl 6 A∧e 2=.sl 3 B∧e 17=.sl 4 L∧e 18=iv l.length∧e 19=iv i∧e 26=.sl 4 qs∧e 27=iv l[i].2.length∧e 28=iv b)∧(∃g,e 6=.pbox 6 g 0∧m 6=some (.box g 45 (cQ0) false))∧(∃g,e 8=.pbox 8 g 0∧m 8=some (.box g 45 (cQ (eV ps rs l i)) false))∧(∃g,e 11=.pbox 11 g 0∧m 11=some (.box g 45 (cQ (pV ps rs l[i] b)) false))∧∀a (h:a < l[i].2.length),a < b→Qt.chk l[i].2[a] n mm=0) (λb=>l[i].2.length - b) 0 (by rfl) ?_ ?_
   ·rintro b e m ⟨hb,⟨e1,e2,e17,e18,e19,e26,e27,e28⟩,⟨g6,e6,m6⟩,⟨g8,e8,m8⟩,⟨ga,ea,ma⟩,hcb⟩
    have hzp:=zP i hlt b hb hcb;by_cases hbl:b < l[i].2.length
    ·have hqb:=hqe b hbl;have cvb:=cv l[i].2[b];by_cases hch:Qt.chk l[i].2[b] n mm=0
     ·rw [if_pos hch] at cvb;have hzv:=zV _ hch;have cm:=Zis (pV ps rs l[i] b) (Qt.val l[i].2[b] ps rs) hzp hzv (by omega) (by omega)
      have hpn:pV ps rs l[i] (b+1)=pV ps rs l[i] b*Qt.val l[i].2[b] ps rs:=by
       have e:l[i].2.getD b Qt.zero=l[i].2[b]:=Zb4 hbl;show pV ps rs l[i] b*Qt.val (l[i].2.getD b Qt.zero) ps rs=_;rw [e]
      rw [←hpn] at cm;have hc2:∀a (h:a < l[i].2.length),a < b+1→Qt.chk l[i].2[a] n mm=0:=λa h ha=>by
       rcases Nat.lt_or_ge a b with h1 | h1
       ·exact hcb a h h1
       ·have:a=b:=by omega
        subst this;exact hch
      have cm:Pure Tryz.prog _ [.agg (cQ (pV ps rs l[i] b)),.agg (cQ (Qt.val l[i].2[b] ps rs))] (.agg (cQ (pV ps rs l[i] (b+1)))):=cm;have cvb:Pure Tryz.prog _ _ (.tup [.agg (cQ (Qt.val l[i].2[b] ps rs)),iv 0]):=cvb;clear hcb hch hzv hzp hpn zV zP zE cv hqe hnx hp0;(focus (refine wkad (w_16 e1 e2 e17 e18 e19 e26 e27 e28 hqm hqb e6 m6 e8 m8 ea ma) (w_2 cvb cm) w_t ?_;(repeat' first|exact w_t|apply w_l);all_goals intros));exact⟨b+1,⟨by omega,⟨by exact gW e1,by exact gW e2,by exact gW e17,by exact gW e18,by exact gW e19,by exact gW e26,by exact gW e27,by exact gS⟩,⟨_,by exact gW e6,by exact gW m6⟩,⟨_,by exact gW e8,by exact gW m8⟩,⟨_,by exact gW ea,by exact gC⟩,hc2⟩,by omega⟩
     ·rw [if_neg hch] at cvb;have ha:=Zww hbl hcb hch;have hb2:=Zwx hlt hc (by rw [ha];exact hch);rw [hb2,ha,if_neg hch] at hR;rw [←hR];generalize Qt.chk l[i].2[b] n mm=ch at *;clear zV zP zE cv hqe hnx hp0;(focus (refine wkad (w_16 e1 e2 e17 e18 e19 e26 e27 e28 hqm hqb e6 m6 e8 m8 ea ma) (w_1 cvb) w_t ?_;(repeat' first|exact w_t|apply w_l);all_goals intros));all_goals (all_goals (try simp (disch:=omega) only [go_sem,e6,m6,decide_eq_true,decide_eq_false,if_pos,if_neg,Int.reduceAdd,Int.reduceSub,Int.reduceToNat,Int.zero_add]));(all_goals first|done|rfl|(congr 2;first|done|omega|(rw [Bool.eq_iff_iff];simp only [bool_to_prop,Bool.false_eq_true,iff_true,true_iff,iff_false,false_iff];omega))|skip)
    ·have:b=l[i].2.length:=by omega
     subst this;have hch:chQ n mm l[i].2=0:=Zqm λa h=>hcb a h h;have hc2:∀a (h:a < l.length),a < i+1→chQ n mm l[a].2=0:=λa h ha=>by
      rcases Nat.lt_or_ge a i with h1 | h1
      ·exact hc a h h1
      ·have:a=i:=by omega
       subst this;exact hch
     have ca:=Zn0 (eV ps rs l i) (pV ps rs l[i] l[i].2.length) hzi hzp (by omega) (by omega);rw [←hnx] at ca;have ca:Pure Tryz.prog _ [.agg (cQ (eV ps rs l i)),.agg (cQ (pV ps rs l[i] l[i].2.length))] (.agg (cQ (eV ps rs l (i+1)))):=ca;clear zV zP zE cv hqe hnx hp0;(focus (refine wkad (w_17 e1 e2 e17 e18 e19 e26 e27 e28 hlm hgi hqm e6 m6 e8 m8 ea ma) (w_1 ca) w_t ?_;(repeat' first|exact w_t|apply w_l);all_goals intros));exact⟨i+1,⟨by omega,⟨by exact gW e1,by exact gW e2,by exact gW e17,by exact gW e18,by exact gS⟩,⟨_,by exact gW e6,by exact gW m6⟩,⟨_,by exact gW e8,by exact gC⟩,hc2⟩,by omega⟩
   ·exact⟨Nat.zero_le _,⟨by exact gW e1,by exact gW e2,by exact gW e17,by exact gW e18,by exact gW e19,by exact gC,by exact gW hqm,by exact gC⟩,⟨_,by exact gW e6,by exact gW m6⟩,⟨_,by exact gW e8,by exact gW m8⟩,⟨_,by exact gC,by rw [←hp0];exact gC⟩,λa h ha=>by omega⟩
  ·have:i=l.length:=by omega
   subst this;rw [if_pos (Zqn λa h=>hc a h h)] at hR;have hR:AV.tup [.agg (cQ (eV ps rs l l.length)),iv 0]=R:=hR;rw [←hR];(focus (refine wkad (w_10 e1 e2 e17 e18 e19 hlm e6 m6 e8 m8) w_t w_t ?_;(repeat' first|exact w_t|apply w_l);all_goals intros));all_goals (all_goals (try simp (disch:=omega) only [go_sem,e6,m6,decide_eq_true,decide_eq_false,if_pos,if_neg,Int.reduceAdd,Int.reduceSub,Int.reduceToNat,Int.zero_add]));(all_goals first|done|rfl|(congr 2;first|done|omega|(rw [Bool.eq_iff_iff];simp only [bool_to_prop,Bool.false_eq_true,iff_true,true_iff,iff_false,false_iff];omega))|skip)
 ·exact⟨Nat.zero_le _,⟨by exact gC,by exact gC,by exact gC,by exact gW hlm,by exact gC⟩,⟨_,by exact gC,by exact gC⟩,⟨_,by exact gC,by exact gC⟩,λa h ha=>by omega⟩
theorem rxValue (l:QTs) (ps:List PQ) (rs:List Rat) {K j:Nat} (hl:l.length≤100) (h:∀t∈l,t.2.length≤100∧Sz t.1 K) (hK:K≤1000) (hpl:ps.length≤1000) (hrl:rs.length≤1000) (hp:∀p∈ps,PQ.sz p j) (hq:∀r∈rs,Sz r j) (hj:1≤j) (hj2:j≤10) :
 Pure Tryz.prog 32 [.sl 4 (l.map qtA),.sl 6 (ps.map PQ.av),.sl 3 (rs.map ratQ)] (if chE ps.length rs.length l=0 then .tup [ratQ (eV ps rs l l.length),iv 0] else .tup [Znc,iv (chE ps.length rs.length l)]):=by
 have hlm:(l.map qtA).length=l.length:=List.length_map ..;have hg:∀i (h:i < l.length),(l.map qtA).getD i .u=.agg [.v (.bool (decide (l[i].1.num < 0))),lim (toL l[i].1.num.natAbs),lim (toL l[i].1.den),.sl 4 (l[i].2.map Qt.av)]:=λi h=>Zar qtA h;have c0:Pure Tryz.prog 53 [iv 0] (.agg (cQ (0:Rat))):=qOf 0 (by omega);have cv:∀q:Qt,Pure Tryz.prog 82 [.agg [iv q.k,iv q.a,iv q.b,iv q.c],.sl 6 (ps.map PQ.av),.sl 3 (rs.map ratQ)] (if Qt.chk q ps.length rs.length=0 then .tup [ratQ (Qt.val q ps rs),iv 0] else .tup [Znc,iv (Qt.chk q ps.length rs.length)]):=λq=>rqValue q.k q.a q.b q.c ps rs (by omega) (by omega) hp hq (by omega)
 have zV:∀q:Qt,Qt.chk q ps.length rs.length=0→Sz (Qt.val q ps rs) (8*j+6):=λq hc=>Ztt hp hq hj hc;have zP:∀a (ha:a < l.length) i,i≤l[a].2.length→(∀b (h:b < l[a].2.length),b < i→Qt.chk l[a].2[b] ps.length rs.length=0)→Sz (pV ps rs l[a] i) 100000:=λa ha i hi hc=>by
  have hm:=h l[a] (List.getElem_mem ha);have h3:i*(8*j+6)≤100*(8*j+6):=Nat.mul_le_mul_right _ (by omega);exact(pV_sz hm.2 hp hq hj i hi hc).mono (by omega)
 have zE:∀i,i≤l.length→(∀a (h:a < l.length),a < i→chQ ps.length rs.length l[a].2=0)→Sz (eV ps rs l i) 1100000:=λi hi hc=>by
  have h3:i*(K+100*(8*j+6)+1)≤100*(K+100*(8*j+6)+1):=Nat.mul_le_mul_right _ (by omega);exact(eV_sz h hp hq hj i hi hc).mono (by omega)
 have ql:∀a (ha:a < l.length),l[a].2.length≤100:=λa ha=>(h l[a] (List.getElem_mem ha)).1;clear h hp hq;generalize l.map qtA=L at *;generalize ps.map PQ.av=A at *;generalize rs.map ratQ=B at *;generalize hR:(if chE ps.length rs.length l=0 then AV.tup [ratQ (eV ps rs l l.length),iv 0] else .tup [Znc,iv (chE ps.length rs.length l)])=R at *;generalize (ps.length:Int)=n at *;generalize (rs.length:Int)=mm at *;refine Zaa (tok:=0) Tryz.func32 rfl Tryz.ntmps32 Tryz.results32 Tryz.call32 (by rfl) (by simp) ?_;(focus (refine wkad (w_1 hlm) (w_1 c0) w_t ?_;(repeat' first|exact w_t|apply w_l);all_goals intros))
 refine Zad (ι:=Nat) (λi e m=>i≤l.length∧(e 0=.sl 4 L∧e 1=.sl 6 A∧e 2=.sl 3 B∧e 9=iv i)∧(∃g,e 6=.pbox 6 g 0∧m 6=some (.box g 45 (cQ0) false))∧(∃g,e 8=.pbox 8 g 0∧m 8=some (.box g 45 (cQ (eV ps rs l i)) false))∧∀a (h:a < l.length),a < i→chQ n mm l[a].2=0) (λi=>l.length - i) 0 (by rfl) ?_ ?_
 ·rintro i e m ⟨hi,⟨e0,e1,e2,e9⟩,⟨g6,e6,m6⟩,⟨g8,e8,m8⟩,hc⟩
  by_cases hlt:i < l.length
  ·have hgi:=hg i hlt;have hqm:(l[i].2.map Qt.av).length=l[i].2.length:=List.length_map ..;have hqe:∀b (h:b < l[i].2.length),(l[i].2.map Qt.av).getD b .u=.agg [iv l[i].2[b].k,iv l[i].2[b].a,iv l[i].2[b].b,iv l[i].2[b].c]:=λb h=>Zar Qt.av h;have hzi:=zE i hi hc
   have hnx:eV ps rs l (i+1)=eV ps rs l i+pV ps rs l[i] l[i].2.length:=by
    have e:l.getD i (0,[])=l[i]:=Zb4 hlt;show eV ps rs l i+pV ps rs (l.getD i (0,[])) (l.getD i (0,[])).2.length=_;rw [e]
   have hp0:cQ l[i].1=cQ (pV ps rs l[i] 0):=rfl;have hqli:=ql i hlt;generalize hqs:l[i].2.map Qt.av=qs at *;(focus (refine wkad (w_11 e0 e1 e2 e9 hlm hgi hqm e6 m6 e8 m8) w_t w_t ?_;(repeat' first|exact w_t|apply w_l);all_goals intros));refine Zad (ι:=Nat) (λb e m=>b≤l[i].2.length∧(e 0=.sl 4 L∧e 1=.sl 6 A∧e 2=.sl 3 B∧e 9=iv i∧e 11=iv b)∧(∃g,e 6=.pbox 6 g 0∧m 6=some (.box g 45 (cQ0) false))∧(∃g,e 8=.pbox 8 g 0∧m 8=some (.box g 45 (cQ (eV ps rs l i)) false))∧(∃g,e 10=.pbox 10 g 0∧m 10=some (.box g 45 (cQ (pV ps rs l[i] b)) false))∧∀a (h:a < l[i].2.length),a < b→Qt.chk l[i].2[a] n mm=0) (λb=>l[i].2.length - b) 0 (by rfl) ?_ ?_
   ·rintro b e m ⟨hb,⟨e0,e1,e2,e9,e11⟩,⟨g6,e6,m6⟩,⟨g8,e8,m8⟩,⟨ga,ea,ma⟩,hcb⟩
    have hzp:=zP i hlt b hb hcb;by_cases hbl:b < l[i].2.length
    ·have hqb:=hqe b hbl;have cvb:=cv l[i].2[b];by_cases hch:Qt.chk l[i].2[b] n mm=0
     ·rw [if_pos hch] at cvb;have hzv:=zV _ hch;have cm:=qMul (pV ps rs l[i] b) (Qt.val l[i].2[b] ps rs) hzp hzv (by omega) (by omega)
      have hpn:pV ps rs l[i] (b+1)=pV ps rs l[i] b*Qt.val l[i].2[b] ps rs:=by
       have e:l[i].2.getD b Qt.zero=l[i].2[b]:=Zb4 hbl;show pV ps rs l[i] b*Qt.val (l[i].2.getD b Qt.zero) ps rs=_;rw [e]
      rw [←hpn] at cm;have hc2:∀a (h:a < l[i].2.length),a < b+1→Qt.chk l[i].2[a] n mm=0:=λa h ha=>by
       rcases Nat.lt_or_ge a b with h1 | h1
       ·exact hcb a h h1
       ·have:a=b:=by omega
        subst this;exact hch
      have cm:Pure Tryz.prog _ [.agg (cQ (pV ps rs l[i] b)),.agg (cQ (Qt.val l[i].2[b] ps rs))] (.agg (cQ (pV ps rs l[i] (b+1)))):=cm;have cvb:Pure Tryz.prog _ _ (.tup [.agg (cQ (Qt.val l[i].2[b] ps rs)),iv 0]):=cvb;clear hcb hch hzv hzp hpn zV zP zE cv hqe hnx hp0;(focus (refine wkad (w_15 e0 e1 e2 e9 e11 hlm hgi hqm hqb e6 m6 e8 m8 ea ma) (w_2 cvb cm) w_t ?_;(repeat' first|exact w_t|apply w_l);all_goals intros));exact⟨b+1,⟨by omega,⟨by exact gW e0,by exact gW e1,by exact gW e2,by exact gW e9,by exact gS⟩,⟨_,by exact gW e6,by exact gW m6⟩,⟨_,by exact gW e8,by exact gW m8⟩,⟨_,by exact gW ea,by exact gC⟩,hc2⟩,by omega⟩
     ·rw [if_neg hch] at cvb;have ha:=Zww hbl hcb hch;have hb2:=Zwx hlt hc (by rw [ha];exact hch);rw [hb2,ha,if_neg hch] at hR;rw [←hR];generalize Qt.chk l[i].2[b] n mm=ch at *;clear zV zP zE cv hqe hnx hp0;(focus (refine wkad (w_15 e0 e1 e2 e9 e11 hlm hgi hqm hqb e6 m6 e8 m8 ea ma) (w_1 cvb) w_t ?_;(repeat' first|exact w_t|apply w_l);all_goals intros));all_goals (all_goals (try simp (disch:=omega) only [go_sem,e6,m6,decide_eq_true,decide_eq_false,if_pos,if_neg,Int.reduceAdd,Int.reduceSub,Int.reduceToNat,Int.zero_add]));(all_goals first|done|rfl|(congr 2;first|done|omega|(rw [Bool.eq_iff_iff];simp only [bool_to_prop,Bool.false_eq_true,iff_true,true_iff,iff_false,false_iff];omega))|skip)
    ·have:b=l[i].2.length:=by omega
     subst this;have hch:chQ n mm l[i].2=0:=Zqm λa h=>hcb a h h;have hc2:∀a (h:a < l.length),a < i+1→chQ n mm l[a].2=0:=λa h ha=>by
      rcases Nat.lt_or_ge a i with h1 | h1
      ·exact hc a h h1
      ·have:a=i:=by omega
       subst this;exact hch
     have ca:=qAdd (eV ps rs l i) (pV ps rs l[i] l[i].2.length) hzi hzp (by omega) (by omega);rw [←hnx] at ca;have ca:Pure Tryz.prog _ [.agg (cQ (eV ps rs l i)),.agg (cQ (pV ps rs l[i] l[i].2.length))] (.agg (cQ (eV ps rs l (i+1)))):=ca;clear zV zP zE cv hqe hnx hp0;(focus (refine wkad (w_14 e0 e1 e2 e9 e11 hlm hgi hqm e6 m6 e8 m8 ea ma) (w_1 ca) w_t ?_;(repeat' first|exact w_t|apply w_l);all_goals intros));exact⟨i+1,⟨by omega,⟨by exact gW e0,by exact gW e1,by exact gW e2,by exact gS⟩,⟨_,by exact gW e6,by exact gW m6⟩,⟨_,by exact gW e8,by exact gC⟩,hc2⟩,by omega⟩
   ·exact⟨Nat.zero_le _,⟨by exact gW e0,by exact gW e1,by exact gW e2,by exact gW e9,by exact gC⟩,⟨_,by exact gW e6,by exact gW m6⟩,⟨_,by exact gW e8,by exact gW m8⟩,⟨_,by exact gC,by rw [←hp0];exact gC⟩,λa h ha=>by omega⟩
  ·have:i=l.length:=by omega
   subst this;rw [if_pos (Zqn λa h=>hc a h h)] at hR;have hR:AV.tup [.agg (cQ (eV ps rs l l.length)),iv 0]=R:=hR;rw [←hR];(focus (refine wkad (w_9 e0 e1 e2 e9 hlm e6 m6 e8 m8) w_t w_t ?_;(repeat' first|exact w_t|apply w_l);all_goals intros));all_goals (all_goals (try simp (disch:=omega) only [go_sem,e6,m6,decide_eq_true,decide_eq_false,if_pos,if_neg,Int.reduceAdd,Int.reduceSub,Int.reduceToNat,Int.zero_add]));(all_goals first|done|rfl|(congr 2;first|done|omega|(rw [Bool.eq_iff_iff];simp only [bool_to_prop,Bool.false_eq_true,iff_true,true_iff,iff_false,false_iff];omega))|skip)
 ·exact⟨Nat.zero_le _,⟨by exact gC,by exact gC,by exact gC,by exact gC⟩,⟨_,by exact gC,by exact gC⟩,⟨_,by exact gC,by exact gC⟩,λa h ha=>by omega⟩
theorem Zsg {n m:Int}:∀{p:QTs},chE n m p=0→∀j (h:j < p.length),chQ n m p[j].2=0
 | [],_=>λj hj=>by simp at hj
 | q :: l,h=>by
   unfold chE at h;by_cases h0:chQ n m q.2=0
   ·rw [if_pos h0] at h;intro j hj
    cases j with
    | zero=>exact h0
    | succ j=>exact Zsg h j (by simpa using hj)
   ·rw [if_neg h0] at h;exact absurd h h0
theorem Zte (l:List RE) (ps:List RP) (rs:List RQ) (hl:l.length≤9223372036854775807) (hr:∀t∈l,t.r.lm 9223372036854775807) (hq:∀t∈l,t.q.length≤9223372036854775807)
 (hp:∀p∈ps,p.lm 9223372036854775807) (hrr:∀r∈rs,r.lm 9223372036854775807) (hpl:ps.length≤9223372036854775807) (hrl:rs.length≤9223372036854775807) :
 Pure Tryz.prog 6 [.sl 4 (l.map RE.av),.sl 6 (ps.map RP.av),.sl 3 (rs.map RQ.av)] (.v (.bool true)):=by
 have ck:=Zkp;have cs:=Zml l hl hr hq;have cm:=rqMild ps rs hp hrr hpl hrl
 cases hb:Zbp 8 3 l with
 | false =>
   rw [hb] at cs;generalize l.map RE.av=L at *;refine Zaa (tok:=0) Tryz.func6 rfl Tryz.ntmps6 Tryz.results6 Tryz.call6 (by rfl) (by simp) ?_;(focus (refine wkad w_t (w_2 cs ck) w_t ?_;(repeat' first|exact w_t|apply w_l);all_goals intros));all_goals exact gL
 | true =>
   rw [hb] at cs
   cases hb2:Zvz ps rs with
   | false =>
     rw [hb2] at cm;generalize l.map RE.av=L at *;refine Zaa (tok:=0) Tryz.func6 rfl Tryz.ntmps6 Tryz.results6 Tryz.call6 (by rfl) (by simp) ?_;(focus (refine wkad w_t (w_3 cs cm ck) w_t ?_;(repeat' first|exact w_t|apply w_l);all_goals intros));all_goals exact gL
   | true =>
     rw [hb2] at cm;obtain⟨qs,us,ep,er,sp,sr,lp,lr⟩:=mild_ok hp hrr hb2;rw [ep,er] at cm ⊢;unfold Zbp at hb;simp only [Bool.and_eq_true,decide_eq_true_eq] at hb;have hqk:=rt_qk hr hb.2.1;have hll:(l.map RE.rt).length=l.length:=List.length_map ..;have hh:∀t∈l.map RE.rt,t.2.length≤100∧Sz t.1 2:=λt ht=>⟨by have:=(hqk t ht).2;omega,(hqk t ht).1⟩;have c1:=exValue (l.map RE.rt) qs us (by omega) hh (by omega) (by omega) (by omega) sp sr (by omega) (by omega);have c2:=rxValue (l.map RE.rt) qs us (by omega) hh (by omega) (by omega) (by omega) sp sr (by omega) (by omega);rw [←Zun hr hb.2.1] at c1 c2
     rcases Decidable.em (chE qs.length us.length (l.map RE.rt)=0) with h | h
     ·rw [if_pos h] at c1 c2
      have z:Sz (eV qs us (l.map RE.rt) (l.map RE.rt).length) 1000000:=by
       have h1:=eV_sz hh sp sr (by omega) (l.map RE.rt).length (Nat.le_refl _) λa ha _=>Zsg h a ha;have h4:(l.map RE.rt).length*(2+100*(8*2+6)+1)≤8*(2+100*(8*2+6)+1):=Nat.mul_le_mul_right _ (by omega);exact h1.mono (by omega)
      have ce:=Zn2 _ _ z z (by omega) (by omega);rw [decide_eq_true rfl] at ce;clear z hh hqk hll h;generalize eV qs us (l.map RE.rt) (l.map RE.rt).length=v at *;generalize l.map RE.av=L at *;refine Zaa (tok:=0) Tryz.func6 rfl Tryz.ntmps6 Tryz.results6 Tryz.call6 (by rfl) (by simp) ?_;(focus (refine wkad w_t (w_6 cs cm ck c1 c2 ce) w_t ?_;(repeat' first|exact w_t|apply w_l);all_goals intros));all_goals exact gL
     ·rw [if_neg h] at c1 c2;generalize chE qs.length us.length (l.map RE.rt)=e at *;generalize l.map RE.av=L at *;refine Zaa (tok:=0) Tryz.func6 rfl Tryz.ntmps6 Tryz.results6 Tryz.call6 (by rfl) (by simp) ?_;(focus (refine wkad w_t (w_5 cs cm ck c1 c2) w_t ?_;(repeat' first|exact w_t|apply w_l);all_goals intros));all_goals exact gL
theorem saidEValues (xs:List AV) (h:ShapeL Tryz.prog maxLen 9 [23,55,56] xs):Pure Tryz.prog 6 xs (.v (.bool true)):=by
 obtain⟨x,bs,rfl,h1,h⟩:=h.inv;obtain⟨y,bs,rfl,h2,h⟩:=h.inv;obtain⟨z,bs,rfl,h3,h⟩:=h.inv;obtain rfl:=h.inv0;obtain⟨l,rfl,hl,hr,hq⟩:=Zf1 Tryz.underlying23 h1;obtain⟨ps,rfl,hpl,hp⟩:=shPoints h2;obtain⟨rs,rfl,hrl,hrr⟩:=shRats h3;rw [Zb5 (by kernel_rfl),Zb5 (by kernel_rfl),Zb5 (by kernel_rfl)];have e:maxLen=9223372036854775807:=by decide
 rw [e] at hl hr hq hpl hp hrl hrr;exact Zte l ps rs hl hr hq hp hrr hpl hrl
end Go.Proofs.YtjekhacnoopdpaaGreatDoor
